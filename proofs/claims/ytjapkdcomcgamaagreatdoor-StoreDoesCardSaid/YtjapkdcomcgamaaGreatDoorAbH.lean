/- An abstract machine for the walks (part 8): operations that turn memory. -/
import Derived.Test.YtjapkdcomcgamaaGreatDoorAbG
import Derived.Great.BuildSlice
set_option linter.all false
namespace Go.Ab
open Go Go.Sep
variable [Facts]

inductive LR where
  | ok (d : D) (st : St)
  | need (p : Prop) (r : LR)
  | no
def LR.holds : LR → (D → St → Prop) → Prop
  | .ok d st, K => K d st
  | .need p r, K => p ∧ r.holds K
  | .no, _ => False

def normC : C → C
  | .p (.val (.bool b)) => .p (.bool b)
  | c => c
theorem normC_sound {S : Frz} {bs : List Value} (c : C) (v : Value) (h : MC S bs c v) : MC S bs (normC c) v := by
  unfold normC
  split
  · cases h; exact .bool _
  · exact h
def cellsN : Option D → Option (List C)
  | some (.v (.one c)) => some [normC c]
  | some (.v (.agg cs)) => some (cs.map normC)
  | _ => none

def rowsIn : List C → List Nat
  | [] => []
  | .row k :: cs => k :: rowsIn cs
  | .sub _ k _ _ :: cs => k :: rowsIn cs
  | _ :: cs => rowsIn cs
def freezeAll (I : Alg) : List Nat → St → St
  | [], st => st
  | k :: ks, st => freezeAll I ks (st.freeze I k)
def rowsOf (o : Option D) : List Nat := match cellsN o with | some cs => rowsIn cs | none => []

def storeL (I : Alg) (T : Tab) (st : St) (t : Nat) (x v : Operand) : LR :=
  match T t, oneC (st.eval x) with
  | some e, some (.ptr k off) => match cellsN (st.eval v), nth st.hp k with
    | some ds, some (.obj ty cs) => (match Nat.beq ds.length e.size, Nat.ble (off + ds.length) cs.length with
      | true, true => .ok .bad { st with hp := setN st.hp k (.obj ty (lay cs off ds)) }
      | _, _ => .no)
    | _, _ => .no
  | some e, some (.ept u k i off) =>
    let st1 := freezeAll I (rowsOf (st.eval v)) st
    match cellsN (st1.eval v), nth st1.hp k with
    | some ds, some (.row u' E l) => (match pureAll (enc I u' (I.get l (dflt u') i)) (lay ((enc I u' (I.get l (dflt u') i)).map C.p) off ds), Nat.beq ds.length e.size, Nat.ble (off + ds.length) u.size, Nat.beq u.size u'.size with
      | some ps, true, true, true => (match dec I u' ps with
        | some y => (match decNeed I u' ps with
          | some p => .need p (.need (I.inb i (I.len l)) (.ok .bad { st1 with hp := setN st1.hp k (.row u' E (I.set l i y)) }))
          | none => .need (I.inb i (I.len l)) (.ok .bad { st1 with hp := setN st1.hp k (.row u' E (I.set l i y)) }))
        | none => .no)
      | _, _, _, _ => .no)
    | _, _ => .no
  | _, _ => .no

def pushL (st : St) (o : HO) (c : C) : LR := .ok (.v (.one c)) { st with hp := st.hp ++ [o] }
def allocL (T : Tab) (st : St) (t : Nat) : LR :=
  match T t with
  | some e => (match e.zero with | some z => pushL st (.obj t (z.map zc)) (.ptr st.hp.length 0) | none => .no)
  | none => .no
/-- Zeros, so many. -/
def zeroB : List P → Nat → Bool
  | [], 0 => true
  | .int .u8 (.ofNat 0) :: r, n + 1 => zeroB r n
  | _, _ => false
/-- An array of bytes, as a row. -/
def arrL (I : Alg) (T : Tab) (st : St) (t : Nat) : LR :=
  match T t with
  | some e => (match e.ty, e.zero with
    | .array n _, some z => (match zeroB z n, Nat.ble n 1000000 with | true, true => pushL st (.row .byte t (I.rep (Int.ofNat n) (I.i2b 0))) (.ept .byte st.hp.length 0 0) | _, _ => .no)
    | _, _ => .no)
  | none => .no
def boxL (st : St) (t : Nat) (x : Operand) : LR :=
  match cellsN (st.eval x) with
  | some cs => pushL st (.obj t cs) (.ptr st.hp.length 0)
  | none => .no
def bytesL (T : Tab) (st : St) (s d : Nat) (x : Operand) : LR :=
  match T s, T d, oneC (st.eval x) with
  | some ⟨.str, _, _, _, _⟩, some ⟨.slice e, _, _, _, some .byte⟩, some (.p (.str l)) => (match T e with
    | some ⟨.int .u8, _, _, _, _⟩ => pushL st (.row .byte e l) (.row st.hp.length)
    | _ => .no)
  | _, _, _ => .no
/-- A row of one's own converted to its own type (a constant). -/
def selfL (I : Alg) (T : Tab) (st : St) (s d : Nat) (x : Operand) : LR :=
  match Nat.beq s d, T s, oneC (st.eval x) with
  | true, some ⟨.slice e, _, _, _, _⟩, some (.row k) => (match T e, nth st.hp k with
    | some ⟨.int .u8, _, _, _, _⟩, some (.row _ _ l) => .need (I.inb 0 (I.len l)) (.ok (.v (.one (.row k))) st)
    | _, _ => .no)
  | _, _, _ => .no
def isStrT (T : Tab) (s : Nat) : Bool := match T s with | some ⟨.str, _, _, _, _⟩ => true | _ => false

/-- Lists of one type are lists of that type. -/
def castL : (u u' : U) → List u'.den → Option (List u.den)
  | .byte, .byte, l => some l
  | .int, .int, l => some l
  | .str, .str, l => some l
  | .fld, .fld, l => some l
  | .bytes, .bytes, l => some l
  | .hd, .hd, l => some l
  | .prt, .prt, l => some l
  | .evt, .evt, l => some l
  | .upl, .upl, l => some l
  | .ent, .ent, l => some l
  | .stp, .stp, l => some l
  | .ask, .ask, l => some l
  | .cal, .cal, l => some l
  | .tri, .tri, l => some l
  | .lst, .lst, l => some l
  | .sst, .sst, l => some l
  | .upls, .upls, l => some l
  | .strs, .strs, l => some l
  | .rpl, .rpl, l => some l
  | .med, .med, l => some l
  | _, _, _ => none
theorem castL_eq {u u' : U} {l : List u'.den} {m : List u.den} (h : castL u u' l = some m) : ∃ e : u' = u, e ▸ l = m := by
  cases u <;> cases u' <;> first | (cases h; exact ⟨rfl, rfl⟩) | cases h

/-- What a source of an append reads as. -/
def srcOf (I : Alg) (hp : List HO) (u : U) (c : C) : Option (List u.den) :=
  match c with
  | .nilS => some []
  | .p (.str l) => castL u .byte l
  | c => match cont I hp c with
    | some ⟨u', l⟩ => castL u u' l
    | none => none
/-- How many elements an append may come to. -/
def fewL (I : Alg) (bytes : Nat) (n : Int) (r : LR) : LR := match Nat.ble bytes 1 with | true => .need (I.few n 140737488355328) r | false => .need (I.few n 100000000) r
def appendL (I : Alg) (T : Tab) (st : St) (t ut : Nat) (s x : Operand) : LR :=
  match T t, T ut, oneC (st.eval s), oneC (st.eval x) with
  | some ⟨.slice E, _, _, _, some u⟩, some ue, some cs, some cx => (match ue.ty with
    | .int _ => .no
    | .other => .no
    | _ => match T E, srcOf I st.hp u cx with
      | some ee, some m => (match Nat.ble ee.bytes 1000000, ee.zero with
        | true, some _ => (match cs with
          | .nilS => fewL I ee.bytes (I.len m) (.ok (.v (.one (.row st.hp.length))) { st with hp := st.hp ++ [.row u E m] })
          | .row k => (match nth st.hp k with
            | some (.row u' E' l') => (match Nat.beq E E', castL u u' l' with
              | true, some l => fewL I ee.bytes (I.add (I.len l) (I.len m)) (.ok (.v (.one (.row st.hp.length))) { st with hp := setN st.hp k .gone ++ [.row u E (I.app l m)] })
              | _, _ => .no)
            | _ => .no)
          | _ => .no)
        | _, _ => .no)
      | _, _ => .no)
  | _, _, _, _ => .no

/-- The elements of a literal. -/
def elems (I : Alg) (z : List P) (u : U) : List (Option D) → Option (List u.den × List Prop)
  | [] => some ([], [])
  | d :: ds => match cellsN d with
    | some cs => (match pureAll z cs with
      | some ps => (match dec I u ps, elems I z u ds with
        | some x, some (l, ns) => (match decNeed I u ps with | some p => some (x :: l, p :: ns) | none => some (x :: l, ns))
        | _, _ => none)
      | none => none)
    | none => none
def inOrder : Nat → List Nat → Bool
  | _, [] => true
  | n, k :: ks => match Nat.beq n k with | true => inOrder (n + 1) ks | false => false
def needsL : List Prop → LR → LR
  | [], r => r
  | p :: ps, r => .need p (needsL ps r)
def buildSliceL (I : Alg) (T : Tab) (st : St) (t n : Nat) (parts : Array (Nat × Operand)) : LR :=
  let st1 := freezeAll I (parts.toList.flatMap fun p => rowsOf (st.eval p.2)) st
  match T t with
  | some e => (match e.ty, e.u with
    | .slice E, some u => (match T E with
      | none => .no
      | some ee => match ee.zero with
        | none => .no
        | some z => match inOrder 0 (parts.toList.map (·.1)), Nat.beq n parts.toList.length, Nat.ble n 1000, elems I z u (parts.toList.map fun p => st1.eval p.2) with
          | true, true, true, some (l, ns) => needsL ns (pushL st1 (.row u E l) (.row st1.hp.length))
          | _, _, _, _ => .no)
    | _, _ => .no)
  | none => .no
def makeL (I : Alg) (T : Tab) (st : St) (t : Nat) (x y : Operand) : LR :=
  match T t, intC (st.eval x), intC (st.eval y) with
  | some e, some n, some m => (match e.ty, e.u with
    | .slice E, some u => (match T E with
      | some ee => (match ee.zero, Nat.beq ee.size 1, Nat.ble ee.bytes 1000 with
        | some z, true, true => (match dec I u z, decNeed I u z with
          | some d, none => .need (I.same n m) (.need (I.nng n) (.need (I.few n 1000000) (pushL st (.row u E (I.rep n d)) (.row st.hp.length))))
          | some d, some p => .need p (.need (I.same n m) (.need (I.nng n) (.need (I.few n 1000000) (pushL st (.row u E (I.rep n d)) (.row st.hp.length)))))
          | _, _ => .no)
        | _, _, _ => .no)
      | none => .no)
    | _, _ => .no)
  | _, _, _ => .no

/-- append of so many zeros to nothing. -/
def appendZL (I : Alg) (T : Tab) (st : St) (t ut : Nat) (s x : Operand) : LR :=
  match T t, T ut, oneC (st.eval s), intC (st.eval x) with
  | some ⟨.slice E, _, _, _, some u⟩, some ⟨.int _, _, _, _, _⟩, some .nilS, some n => (match T E with
    | some ee => (match Nat.ble ee.bytes 1000, ee.zero with
      | true, some z => (match dec I u z, decNeed I u z with
        | some d, none => .need (I.nng n) (.need (I.few n 1000000) (pushL st (.row u E (I.rep n d)) (.row st.hp.length)))
        | some d, some p => .need p (.need (I.nng n) (.need (I.few n 1000000) (pushL st (.row u E (I.rep n d)) (.row st.hp.length))))
        | _, _ => .no)
      | _, _ => .no)
    | none => .no)
  | _, _, _, _ => .no
def isIntT (T : Tab) (s : Nat) : Bool := match T s with | some ⟨.int _, _, _, _, _⟩ => true | _ => false
/-- Elements made zero. -/
def clearL (I : Alg) (T : Tab) (st : St) (t : Nat) (x : Operand) : LR :=
  match T t, oneC (st.eval x) with
  | some ⟨.slice E, _, _, _, _⟩, some (.sub u k lo hi) => (match T E, nth st.hp k with
    | some ee, some (.row u' E' l) => (match ee.zero, Nat.beq u.size u'.size, Nat.beq ee.size u'.size with
      | some z, true, true => (match dec I u' z, decNeed I u' z with
        | some d, none => .need (I.cutb lo hi (I.len l)) (.ok (.tup []) { st with hp := setN st.hp k (.row u' E' (I.app (I.cut l 0 lo) (I.app (I.rep (I.sub hi lo) d) (I.cut l hi (I.len l))))) })
        | _, _ => .no)
      | _, _, _ => .no)
    | _, _ => .no)
  | _, _ => .no
/-- An operation that turns memory; the slot is not yet written. -/
def lop (I : Alg) (T : Tab) (st : St) : Op → LR
  | .store t x v => storeL I T st t x v
  | .alloc t => allocL T st t
  | .box t x => boxL st t x
  | .buildSlice t n parts => buildSliceL I T st t n parts
  | .makeSlice t x y => makeL I T st t x y
  | .convert s d x => (match isStrT T s with | true => bytesL T st s d x | false => selfL I T st s d x)
  | .call c => match c.callee, c.args.toList, c.argTypes.toList with
    | .builtin .append, [s, x], [t, u] => (match isIntT T u with | true => appendZL I T st t u s x | false => appendL I T st t u s x)
    | .builtin .clear, [x], [t] => clearL I T st t x
    | _, _, _ => .no
  | _ => .no

section
variable {Pr : Program} {T : Tab} {X : Ctx} {st : St} {a : Act} {w : World} {S : Frz} {K : List CO}

/-- The operation comes to this value (or to none) and this world. -/
def Does (Pr : Program) (a : Act) (w : World) (o : Oper) (v : Value) (w' : World) : Prop :=
  (execOp a.eval o).run Pr w = .ok (.value v) w' ∨ ((execOp a.eval o).run Pr w = .ok .skip w' ∧ v = undef)
/-- What a turning operation owes. -/
def LSound (Pr : Program) (X : Ctx) (S : Frz) (K : List CO) (a : Act) (w : World) (o : Oper) (r : LR) : Prop :=
  ∀ Q : D → St → Prop, r.holds Q → ∃ v w' S' K' d st', Does Pr a w o v w' ∧ S.le S' ∧ Ext (K.map CO.base) (K'.map CO.base) ∧ Heap X st'.hp S' K' w' ∧ Env S' (K'.map CO.base) st' a ∧ MD S' (K'.map CO.base) d v ∧ Q d st'

variable {dst : Option Tmp} {ty : TypeId} {pos : String} {af : Array Edge} {gd : Option (Nat × Bool)}

theorem lno {o : Oper} : LSound Pr X S K a w o .no := fun _ hq => hq.elim
theorem lneed {o : Oper} {p : Prop} {r : LR} (h : p → LSound Pr X S K a w o r) : LSound Pr X S K a w o (.need p r) := fun Q hq => h hq.1 Q hq.2
theorem Heap.sit (hT : T.fits Pr) (hH : Heap X st.hp S K w) (hE : Env S (K.map CO.base) st a) : Sit Pr T S K X.fr st a w := ⟨hT, hH.2.2.1, hH.2.2.2, hE⟩

/-- A new object, whatever: the world turned, the old ones stand. -/
theorem push_sound (hH : Heap X st.hp S K w) (hE : Env S (K.map CO.base) st a) {o : Oper} {v : Value} {w' : World} {ho : HO} {co : CO} {c : C} (hd : Does Pr a w o v w')
    (hw : ∀ L, At w L → At w' (co.chunk :: L)) (hr : Rel S ((K ++ [co]).map CO.base) ho co) (hm : MC S ((K ++ [co]).map CO.base) c v) : LSound Pr X S K a w o (pushL st ho c) := by
  intro Q hq
  have he : Ext (K.map CO.base) ((K ++ [co]).map CO.base) := by rw [List.map_append]; exact Ext.append _ _
  refine ⟨v, w', S, K ++ [co], .v (.one c), { st with hp := st.hp ++ [ho] }, hd, Frz.le.refl S, he, ⟨hH.1, fun k v h => he k v (hH.2.1 k v h), ?_, ?_⟩, ⟨hE.size, hE.defers.mono (Frz.le.refl S) he, fun t d h => (hE.slots t d h).mono (Frz.le.refl S) he⟩, hm, hq⟩
  · exact (hH.2.2.1.mono (Frz.le.refl S) he).push hr
  · exact At.more (hw _ hH.2.2.2)

theorem cellsN_sound {bs : List Value} {d : Option D} {cs : List C} {x : Value} (h : cellsN d = some cs) (hm : ∀ d', d = some d' → MD S bs d' x) : ∃ vs : List Value, x.cells = vs.toArray ∧ MCs S bs cs vs := by
  unfold cellsN at h
  split at h
  · rename_i c
    cases h
    have h0 := hm _ rfl
    have h1 := MC.one (S := S) (bs := bs) h0
    refine ⟨[x], ?_, normC_sound _ _ h0, trivial⟩
    cases x <;> first | rfl | (simp [Value.oneCell'] at h1)
  · cases h
    obtain ⟨vs, hvs, rfl⟩ := hm _ rfl
    exact ⟨vs, rfl, hvs.map normC_sound⟩
  · cases h

theorem base_last (K : List CO) (c : CO) : ((K ++ [c]).map CO.base)[K.length]? = some c.base := by simp

theorem alloc_sound (hT : T.fits Pr) (hH : Heap X st.hp S K w) (hE : Env S (K.map CO.base) st a) {t : Nat} : LSound Pr X S K a w ⟨dst, .alloc t, ty, pos, af, gd⟩ (allocL T st t) := by
  unfold allocL
  split
  · rename_i e he
    split
    · rename_i z hz
      obtain ⟨i, zv, hi, hzv, hzf, hzl⟩ := TE.zero' (Tab.get hT he) hz
      refine push_sound (v := .pointer (some ⟨w.heap.size, 0, none⟩)) (w' := w.alloc (.cells zv.cells t)) (co := .obj w.heap.size t zv.cells.toList) hH hE (.inl ?_) (fun L hL => ?_) ?_ ?_
      · simp [execOp, Instr.alloc, newVar, newRow, zeroValue, typeInfo, hi, hzv]
      · have := hL.allocObj zv.cells.toList t
        simpa [CO.chunk] using this
      · exact .obj (zc_sound hzf)
      · rw [hH.2.2.1.1]
        exact ⟨_, base_last _ _, rfl⟩
    · exact lno
  · exact lno

theorem row_elems_byte {S : Frz} (l : Str) : (bvs l).length = l.length * U.byte.size ∧ ∀ (i : Nat) (x : U.byte.den) (j : Nat) (p : P) (v : Value), l[i]? = some x → (enc alg .byte x)[j]? = some p → (bvs l)[i * U.byte.size + j]? = some v → MP S p v := by
  refine ⟨by simp [U.size], fun i x j p v hi hj hv => ?_⟩
  cases j with
  | zero =>
    simp only [enc, List.getElem?_cons_zero, Option.some.injEq] at hj
    subst hj
    simp only [U.size, Nat.mul_one, Nat.add_zero] at hv
    rw [bvs_getElem?, hi] at hv
    cases hv
    exact .int _ _
  | succ j => simp [enc] at hj

theorem zeroB_fits : ∀ {z : List P} {n : Nat} {vs : List Value}, zeroB z n = true → zeroFits vs z = true → vs = bvs (List.replicate n 0)
  | [], n, vs, h1, h2 => by
    cases n with
    | zero => cases vs with
      | nil => rfl
      | cons v vs => unfold zeroFits at h2; split at h2 <;> simp_all
    | succ n => cases h1
  | p :: z, n, vs, h1, h2 => by
    unfold zeroB at h1
    split at h1
    · rename_i e; cases e
    · rename_i r n' e
      cases e
      unfold zeroFits at h2
      split at h2
      · rename_i e2; cases e2
      · rename_i k vs' k' ps e2
        cases e2
        simp only [Bool.and_eq_true] at h2
        rw [kindB_eq h2.1, zeroB_fits h1 h2.2]
        rfl
      all_goals first | (rename_i e2; cases e2; done) | (cases h2; done) | (rename_i e2; injection e2 with e3 e4; cases e3)
    · cases h1
theorem arr_sound (hT : T.fits Pr) (hH : Heap X st.hp S K w) (hE : Env S (K.map CO.base) st a) {t : Nat} : LSound Pr X S K a w ⟨dst, .alloc t, ty, pos, af, gd⟩ (arrL alg T st t) := by
  unfold arrL
  split
  · rename_i e he
    split
    · rename_i n el z hety hz
      split
      · rename_i hb1 hb2
        have hb2 := Nat.le_of_ble_eq_true hb2
        obtain ⟨i, zv, hi, hzv, hzf, hzl⟩ := TE.zero' (Tab.get hT he) hz
        have hvs := zeroB_fits hb1 hzf
        obtain ⟨h1, h2⟩ := row_elems_byte (S := S) (List.replicate n 0)
        have hrep : alg.rep (Int.ofNat n) (alg.i2b 0) = List.replicate n (0 : UInt8) := rfl
        rw [hrep]
        have hcs : zv.cells.size = n * 1 := by rw [← Array.length_toList, hvs]; simp
        refine push_sound (v := .pointer (some ⟨w.heap.size, 0, none⟩)) (w' := w.alloc (.cells zv.cells t)) (co := .row t 1 (some ⟨w.heap.size, 0, none⟩) (List.replicate n (0 : UInt8)).length n (bvs (List.replicate n 0))) hH hE (.inl ?_) (fun L hL => ?_) ?_ ?_
        · simp [execOp, Instr.alloc, newVar, newRow, zeroValue, typeInfo, hi, hzv]
        · have := hL.allocRow t 1 n zv.cells (0, 0) hcs (by simp only [maxLen]; omega) (free_zero _)
          rw [hvs] at this
          simpa [CO.chunk] using this
        · exact .row (u := .byte) h1 h2
        · rw [hH.2.2.1.1]
          exact ⟨_, _, _, base_last _ _, Int.le_refl _, by simp [adr, blk, ofs]⟩
      · exact lno
    · exact lno
  · exact lno

theorem Heap.eval (hT : T.fits Pr) (hH : Heap X st.hp S K w) (hE : Env S (K.map CO.base) st a) (x : Operand) : ∀ d, st.eval x = some d → MD S (K.map CO.base) d (a.eval x) := fun _ hd => (hH.sit hT hE).eval hd

theorem box_sound (hT : T.fits Pr) (hH : Heap X st.hp S K w) (hE : Env S (K.map CO.base) st a) {t : Nat} {x : Operand} : LSound Pr X S K a w ⟨dst, .box t x, ty, pos, af, gd⟩ (boxL st t x) := by
  unfold boxL
  split
  · rename_i cs hcs
    obtain ⟨vs, hvc, hm⟩ := cellsN_sound hcs (hH.eval hT hE x)
    have he : Ext (K.map CO.base) ((K ++ [CO.obj w.heap.size t vs]).map CO.base) := by rw [List.map_append]; exact Ext.append _ _
    refine push_sound (v := .pointer (some ⟨w.heap.size, 0, none⟩)) (w' := w.alloc (.cells vs.toArray t)) (co := .obj w.heap.size t vs) hH hE (.inl ?_) (fun L hL => ?_) (.obj (hm.mono (Frz.le.refl S) he)) ?_
    · simp [execOp, Instr.box, newVar, newRow, hvc]
    · simpa [CO.chunk] using hL.allocObj vs t
    · rw [hH.2.2.1.1]
      exact ⟨_, base_last _ _, rfl⟩
  · exact lno

theorem bytes_sound (hT : T.fits Pr) (hH : Heap X st.hp S K w) (hE : Env S (K.map CO.base) st a) {s d : Nat} {x : Operand} : LSound Pr X S K a w ⟨dst, .convert s d x, ty, pos, af, gd⟩ (bytesL T st s d x) := by
  unfold bytesL
  split
  · rename_i s1 s2 s3 s4 e d1 d2 d3 l hs hd hc
    split
    · rename_i e1 e2 e3 e4 he
      have hm := (hH.sit hT hE).one hc
      obtain ⟨ds, is, hus, -, htys, -⟩ := TE.und (Tab.get hT hs)
      obtain ⟨dd, id, hud, -, htyd, -⟩ := TE.und (Tab.get hT hd)
      obtain ⟨de, ie, hue, -, htye, -⟩ := TE.und (Tab.get hT he)
      have := fits_slice htyd
      subst this
      have := fits_int htye
      subst this
      generalize hx : a.eval x = xv at hm
      cases hm with
      | str _ hl =>
        have hge := grownCap_ge w l.length 0 e
        obtain ⟨h1, h2⟩ := row_elems_byte (S := S) l
        refine push_sound (v := .slice (some ⟨w.heap.size, 0, none⟩) l.length (grownCap w l.length 0 e)) (w' := Lib.bytesWorld w e (Sep.S l)) (co := .row e 1 (some ⟨w.heap.size, 0, none⟩) l.length (grownCap w l.length 0 e) (bvs l)) hH hE (.inl ?_) (fun L hL => ?_) ?_ ?_
        · have := Lib.run_convert_string_bytes w s d e (Sep.S l) hus hud hue
          simp only [S_size] at this
          simp only [execOp, hx, Sem.run_bind, this, Result.andThen_ok, Sem.run_pure]
        · refine hL.new (A' := fun k => k = w.heap.size) ⟨fun k => ⟨fun h => by rw [h]; rfl, fun h => by cases h; rfl⟩, by simp, .inr ⟨w.heap.size, _, _, _, rfl, Lib.bytesWorld_at_new w e (Sep.S l), ?_, hge, grownCap_le_maxLen w l.length 0 e hl, ?_, ?_⟩⟩ (fun k h => by omega) ⟨rfl, rfl, rfl, by rw [Lib.bytesWorld_size]; omega, fun k hk => Lib.bytesWorld_at_old w e (Sep.S l) k hk⟩
          · exact .inr (Nat.le_refl _)
          · simp [Lib.bytesCells]; omega
          · rw [Nat.mul_one, Lib.bytesCells, Array.toList_append, List.take_left' (by simp)]
            simp [bvs, bv]
        · exact .row (u := .byte) h1 h2
        · rw [hH.2.2.1.1]
          exact ⟨base_last _ _, _, _, _, rfl⟩
    · exact lno
  · exact lno

theorem layV_eq : ∀ (vs us : List Value) (o : Nat), o + vs.length ≤ us.length → layV us o vs = us.take o ++ vs ++ us.drop (o + vs.length)
  | [], us, o, _ => by simp [layV]
  | v :: vs, us, o, h => by
    simp only [layV]
    rw [layV_eq vs (us.set o v) (o + 1) (by simp at h ⊢; omega)]
    exact list_seg_step us o v vs (by simp at h; omega)

/-- A store of cells into a block of which we know all. -/
theorem run_storeFree {t : Nat} {g off : Nat} {cur : Array Value} {E : Nat} {fz : Nat × Nat} {v : Value} {vs : List Value} (hv : v.cells = vs.toArray) (h1 : ∀ x ∈ vs, x.oneCell' = true) (hs : (Pr.info? t).map (·.size) = some vs.length)
    (hg : w.heap[g]? = some (.cells cur E fz)) (hfz : Free fz cur.size) (hl : off + vs.length ≤ cur.size) :
    (Instr.storeAt t (.pointer (some ⟨g, off, none⟩)) v).run Pr w = .ok () (w.setRow g (layV cur.toList off vs).toArray) := by
  obtain ⟨inf, hi, hz⟩ : ∃ inf, Pr.info? t = some inf ∧ inf.size = vs.length := by
    cases h : Pr.info? t with
    | none => simp [h] at hs
    | some inf => exact ⟨inf, rfl, by simpa [h] using hs⟩
  have hst := run_storeCells_free Pr g off E fz vs 0 cur w hg hfz (by omega) h1
  rw [layV_eq vs cur.toList off (by simpa using hl)]
  simp only [Nat.add_zero] at hst
  simp [Instr.storeAt, Instr.sureAddr, storeVar, sizeOf, typeInfo, hi, hz, hv, hst]

theorem layV_mid : ∀ (us p m r : List Value) (off : Nat), off + us.length ≤ m.length → layV (p ++ m ++ r) (p.length + off) us = p ++ layV m off us ++ r
  | [], p, m, r, off, _ => rfl
  | u :: us, p, m, r, off, h => by
    have h1 : off < m.length := by simp at h; omega
    have e : (p ++ m ++ r).set (p.length + off) u = p ++ m.set off u ++ r := by
      rw [List.append_assoc, List.set_append_right _ _ (by omega), Nat.add_sub_cancel_left, List.set_append_left _ _ h1, List.append_assoc]
    simp only [layV]
    rw [e, Nat.add_assoc]
    exact layV_mid us p _ r (off + 1) (by simp at h ⊢; omega)

theorem MCs.lay {bs : List Value} {ds cs : List C} {vs us : List Value} (o : Nat) (h1 : MCs S bs ds vs) (h2 : MCs S bs cs us) : MCs S bs (lay cs o ds) (layV us o vs) := lay_sound o h1 h2

theorem layV_length : ∀ (ds cs : List Value) (o : Nat), (layV cs o ds).length = cs.length
  | [], cs, o => rfl
  | d :: ds, cs, o => by simp only [layV]; rw [layV_length ds]; simp

theorem freezeAll_sound (hH : Heap X st.hp S K w) (hE : Env S (K.map CO.base) st a) (ks : List Nat) :
    ∃ S' K', S.le S' ∧ K'.map CO.base = K.map CO.base ∧ Heap X (freezeAll alg ks st).hp S' K' w ∧ Env S' (K'.map CO.base) (freezeAll alg ks st) a := by
  induction ks generalizing st S K with
  | nil => exact ⟨S, K, Frz.le.refl S, rfl, hH, hE⟩
  | cons k ks ih =>
    obtain ⟨S1, K1, h1, h2, h3, h4⟩ := freeze_sound hH hE k
    obtain ⟨S2, K2, h5, h6, h7, h8⟩ := ih h3 h4
    exact ⟨S2, K2, h1.trans h5, h6.trans h2, h7, h8⟩

/-- Element i of a row turns. -/
theorem row_set {u : U} {l : List u.den} {vs : List Value} (hlen : vs.length = l.length * u.size)
    (hx : ∀ (i : Nat) (x : u.den) (j : Nat) (p : P) (v : Value), l[i]? = some x → (enc alg u x)[j]? = some p → vs[i * u.size + j]? = some v → MP S p v) {i : Nat} (hi : i < l.length) {y : u.den} {us : List Value} (hm : MPs S (enc alg u y) us) :
    (vs.take (i * u.size) ++ us ++ vs.drop (i * u.size + u.size)).length = (l.set i y).length * u.size ∧
    ∀ (i' : Nat) (x : u.den) (j : Nat) (p : P) (v : Value), (l.set i y)[i']? = some x → (enc alg u x)[j]? = some p → (vs.take (i * u.size) ++ us ++ vs.drop (i * u.size + u.size))[i' * u.size + j]? = some v → MP S p v := by
  have hul : us.length = u.size := by rw [hm.length, enc_length]
  have hle : i * u.size + u.size ≤ vs.length := by rw [hlen, ← Nat.succ_mul]; exact Nat.mul_le_mul_right _ hi
  refine ⟨by simp only [List.length_append, List.length_take, List.length_drop, List.length_set, hul]; rw [← hlen]; omega, fun i' x j p v h1 h2 h3 => ?_⟩
  have hj : j < u.size := by have := (List.getElem?_eq_some_iff.1 h2).1; rw [enc_length] at this; exact this
  rw [List.getElem?_set] at h1
  rcases Nat.lt_trichotomy i' i with hlt | heq | hgt
  · rw [if_neg (by omega)] at h1
    have h4 : i' * u.size + j < i * u.size := by
      have : i' * u.size + u.size ≤ i * u.size := by rw [← Nat.succ_mul]; exact Nat.mul_le_mul_right _ hlt
      omega
    rw [List.append_assoc, List.getElem?_append_left (by simp; omega), List.getElem?_take, if_pos h4] at h3
    exact hx i' x j p v h1 h2 h3
  · subst heq
    rw [if_pos rfl, if_pos hi] at h1
    cases h1
    rw [List.append_assoc, List.getElem?_append_right (by simp; omega), List.getElem?_append_left (by simp; omega)] at h3
    have e1 : i' * u.size + j - (vs.take (i' * u.size)).length = j := by rw [List.length_take]; omega
    rw [e1] at h3
    obtain ⟨v', h5, h6⟩ := hm.get h2
    rw [h5] at h3; cases h3; exact h6
  · rw [if_neg (by omega)] at h1
    have h4 : i * u.size + u.size ≤ i' * u.size := by rw [← Nat.succ_mul]; exact Nat.mul_le_mul_right _ hgt
    rw [List.getElem?_append_right (by simp; omega)] at h3
    rw [List.getElem?_drop] at h3
    refine hx i' x j p v h1 h2 ?_
    rw [← h3]
    congr 1
    simp only [List.length_append, List.length_take, hul]
    omega

theorem store_sound (hT : T.fits Pr) (hH : Heap X st.hp S K w) (hE : Env S (K.map CO.base) st a) {t : Nat} {x y : Operand} : LSound Pr X S K a w ⟨dst, .store t x y, ty, pos, af, gd⟩ (storeL alg T st t x y) := by
  intro Q hq
  unfold storeL at hq
  split at hq
  · rename_i e k off he hc
    have hf := Tab.get hT he
    split at hq
    · rename_i ds ty' cs hds ho
      split at hq
      · rename_i hb1 hb2
        have hb1 := Nat.eq_of_beq_eq_true hb1
        have hb2 := Nat.le_of_ble_eq_true hb2
        rw [nth_eq] at ho
        have hsit := hH.sit hT hE
        obtain ⟨b, vs, L, hk, hm, hat⟩ := hsit.obj ho
        have hpt := hsit.one hc
        obtain ⟨us, hvc, hum⟩ := cellsN_sound hds (hH.eval hT hE y)
        generalize hx : a.eval x = xv at hpt
        obtain ⟨b', hb', rfl⟩ := hpt
        rw [base_get hk] at hb'
        simp only [CO.base, Option.some.injEq, Value.pointer.injEq, Addr.mk.injEq, and_true] at hb'
        subst hb'
        have hl1 := hm.length
        have hl2 := hum.length
        have hrun := run_storeFree (Pr := Pr) (t := t) (off := off) hvc hum.one (by rw [TE.size' hf, hl2, hb1]) hat.obj (free_zero _) (by simp; omega)
        have hbs : (K.set k (.obj b ty' (layV vs off us))).map CO.base = K.map CO.base := bases_set hk rfl
        refine ⟨undef, w.setRow b (layV vs off us).toArray, S, K.set k (.obj b ty' (layV vs off us)), .bad, { st with hp := setN st.hp k (.obj ty' (lay cs off ds)) }, .inr ⟨?_, rfl⟩, Frz.le.refl S, by rw [hbs]; exact Ext.refl _, ⟨hH.1, by rw [hbs]; exact hH.2.1, ?_, ?_⟩, ?_, trivial, hq⟩
        · simp only [execOp, hx, Sem.run_bind, hrun, Result.andThen_ok, Sem.run_pure]
        · rw [hbs]
          simp only
          rw [setN_eq]
          exact hH.2.2.1.set k (.obj (MCs.lay off hum hm))
        · refine At.turn hH.2.2.2 hk _ fun L hL => ?_
          refine hL.step fun A hA => ⟨A, ⟨hA.1, ?_⟩, fun _ h => .inl h, (keeps_setRow w b _).mono fun k hk e => hk.2 ((hA.1 k).2 e)⟩
          exact setRow_heap w b _ _ ty' (0, 0) hA.2
        · rw [hbs]; exact ⟨hE.size, hE.defers, hE.slots⟩
      · exact hq.elim
    · exact hq.elim
  · rename_i e u k i off he hc
    have hf := Tab.get hT he
    obtain ⟨S1, K1, hle1, hbs1, hH1, hE1⟩ := freezeAll_sound hH hE (rowsOf (st.eval y))
    simp only at hq
    generalize hst1 : freezeAll alg (rowsOf (st.eval y)) st = st1 at hq hH1 hE1
    split at hq
    · rename_i ds u' E l hds ho
      split at hq
      · rename_i ps hps hb1 hb2 hb3
        have hb1 := Nat.eq_of_beq_eq_true hb1
        have hb2 := Nat.le_of_ble_eq_true hb2
        have hb3 := Nat.eq_of_beq_eq_true hb3
        split at hq
        · rename_i z hz
          have fin : (∀ p, decNeed alg u' ps = some p → p) → alg.inb i (alg.len l) → Q .bad { st1 with hp := setN st1.hp k (.row u' E (alg.set l i z)) } →
              ∃ v w' S' K' d st', Does Pr a w ⟨dst, .store t x y, ty, pos, af, gd⟩ v w' ∧ S.le S' ∧ Ext (K.map CO.base) (K'.map CO.base) ∧ Heap X st'.hp S' K' w' ∧ Env S' (K'.map CO.base) st' a ∧ MD S' (K'.map CO.base) d v ∧ Q d st' := by
            intro hneed hinb hQ
            have hpt := (hH.sit hT hE).one hc
            rw [← hbs1] at hpt
            rw [nth_eq] at ho
            obtain ⟨ao, cap, vs, hk, hlen, hxs, hrd⟩ := (hH1.sit hT hE1).row ho
            obtain ⟨us, hvc, hum⟩ := cellsN_sound hds (hH1.eval hT hE1 y)
            generalize hx : a.eval x = xv at hpt
            obtain ⟨ao', n', cap', hb', hi0, rfl⟩ := hpt
            rw [base_get hk] at hb'
            simp only [CO.base, Option.some.injEq, Value.slice.injEq] at hb'
            obtain ⟨rfl, rfl, rfl⟩ := hb'
            have hl2 := hum.length
            obtain ⟨hold, hold2⟩ := elem_cells hlen hxs hinb
            have hnew := MCs.lay (bs := K1.map CO.base) off hum (hold.mcs)
            have hnp := pureAll_sound hps hnew
            have henc := dec_enc hz hneed
            rw [← henc] at hnp
            rw [alg_inb, alg_len] at hinb
            have hilt : i.toNat < l.length := by omega
            obtain ⟨hr1, hr2⟩ := row_set hlen hxs hilt hnp
            -- the block
            obtain ⟨L, hat⟩ := (hH1.sit hT hE1).chunk hk
            obtain ⟨A, hA⟩ := hat.head
            obtain ⟨hF, hA2, ⟨hv, hn0⟩ | ⟨g, cap2, cur, fz, hv, hg, hfree, hnc, hcm, hcs, ht⟩⟩ := hA
            · omega
            cases hv
            have hle : i.toNat * u'.size + u'.size ≤ l.length * u'.size := by rw [← Nat.succ_mul]; exact Nat.mul_le_mul_right _ hilt
            have hle2 := Nat.mul_le_mul_right u'.size hnc
            rw [hb3] at hb2 hx
            have hrun := run_storeFree (Pr := Pr) (w := w) (t := t) (off := i.toNat * u'.size + off) hvc hum.one (by rw [TE.size' hf, hl2, hb1]) hg hfree (by omega)
            obtain ⟨p, m, r, hpm, hp, hml⟩ : ∃ p m r, cur.toList = p ++ m ++ r ∧ p.length = i.toNat * u'.size ∧ m.length = u'.size :=
              ⟨cur.toList.take (i.toNat * u'.size), (cur.toList.drop (i.toNat * u'.size)).take u'.size, (cur.toList.drop (i.toNat * u'.size)).drop u'.size, by rw [List.append_assoc, List.take_append_drop, List.take_append_drop], by simp; omega, by simp; omega⟩
            have e1 : layV cur.toList (i.toNat * u'.size + off) us = p ++ layV m off us ++ r := by
              rw [hpm, ← hp]; exact layV_mid us p m r off (by omega)
            have hvs : vs = p ++ m ++ r.take (l.length * u'.size - (p ++ m).length) := by
              rw [← ht, hpm, List.take_append, List.take_of_length_le (by simp; omega)]
            have e2 : (vs.drop (i.toNat * u'.size)).take u'.size = m := by
              rw [hvs, ← hp, List.append_assoc, List.drop_left, ← hml, List.take_left]
            have e3 : vs.take (i.toNat * u'.size) = p := by rw [hvs, ← hp, List.append_assoc, List.take_left]
            have e4 : vs.drop (i.toNat * u'.size + u'.size) = r.take (l.length * u'.size - (p ++ m).length) := by
              rw [hvs, show i.toNat * u'.size + u'.size = (p ++ m).length by simp; omega, List.drop_left]
            rw [e1] at hrun
            rw [e2] at hr1 hr2
            rw [e3, e4] at hr1 hr2
            have hml2 : (layV m off us).length = m.length := layV_length _ _ _
            have e5 : (p ++ layV m off us ++ r).take (l.length * u'.size) = p ++ layV m off us ++ r.take (l.length * u'.size - (p ++ m).length) := by
              rw [List.take_append, List.take_of_length_le (by simp; omega)]
              simp [hml2]
            have hcl : (p ++ layV m off us ++ r).length = cur.size := by
              have : cur.toList.length = cur.size := by simp
              rw [← this, hpm]; simp [hml2]
            have hsl : (alg.set l i z).length = l.length := by rw [alg_set]; simp
            have hbs : (K1.set k (.row E u'.size (some ⟨g, 0, none⟩) (alg.set l i z).length cap (p ++ layV m off us ++ r.take (l.length * u'.size - (p ++ m).length)))).map CO.base = K1.map CO.base := bases_set hk (by simp only [CO.base, hsl])
            refine ⟨undef, w.setRow g (p ++ layV m off us ++ r).toArray, S1, K1.set k (.row E u'.size (some ⟨g, 0, none⟩) (alg.set l i z).length cap (p ++ layV m off us ++ r.take (l.length * u'.size - (p ++ m).length))), .bad, { st1 with hp := setN st1.hp k (.row u' E (alg.set l i z)) }, .inr ⟨?_, rfl⟩, hle1, by rw [hbs, hbs1]; exact Ext.refl _, ⟨hH1.1, by rw [hbs]; exact hH1.2.1, ?_, ?_⟩, ?_, trivial, hQ⟩
            · have e6 : adr (some (⟨g, 0, none⟩ : Addr)) (i.toNat * u'.size + off) = ⟨g, i.toNat * u'.size + off, none⟩ := by simp [adr, blk, ofs]
              rw [e6] at hx
              simp only [execOp, hx, Sem.run_bind, hrun, Result.andThen_ok, Sem.run_pure]
            · rw [hbs]
              simp only
              rw [setN_eq]
              exact hH1.2.2.1.set k (.row hr1 hr2)
            · refine At.turn hH1.2.2.2 hk _ fun L hL => ?_
              refine hL.step fun A hA => ⟨A, ⟨?_, hr1, .inr ⟨g, cap, (p ++ layV m off us ++ r).toArray, fz, rfl, setRow_heap w g cur _ E fz hg, ?_, by rw [hsl]; exact hnc, hcm, ?_, ?_⟩⟩, fun _ h => .inl h, (keeps_setRow w g _).mono fun k hk e => hk.2 ((hA.1 k).2 (by simp [Value.ownBlock, e]))⟩
              · intro k; rw [hA.1 k]; simp [Value.ownBlock]
              · simpa only [List.size_toArray, hcl] using hfree
              · simpa only [List.size_toArray, hcl] using hcs
              · rw [hsl]; exact e5
            · rw [hbs]; exact ⟨hE1.size, hE1.defers, hE1.slots⟩
          split at hq
          · rename_i p hp
            exact fin (fun p' hp' => by rw [hp] at hp'; cases hp'; exact hq.1) hq.2.1 hq.2.2
          · rename_i hp
            exact fin (fun p' hp' => by rw [hp] at hp'; cases hp') hq.1 hq.2
        · exact hq.elim
      · exact hq.elim
    · exact hq.elim
  · exact hq.elim

/-- Cells that are elements. -/
def Elts (S : Frz) (u : U) (l : List u.den) (vs : List Value) : Prop :=
  vs.length = l.length * u.size ∧ ∀ (i : Nat) (x : u.den) (j : Nat) (p : P) (v : Value), l[i]? = some x → (enc alg u x)[j]? = some p → vs[i * u.size + j]? = some v → MP S p v
theorem Elts.nil (S : Frz) (u : U) : Elts S u [] [] := ⟨by simp, fun i x j p v h => by simp at h⟩
theorem Elts.mono {S S' : Frz} (hle : S.le S') {u : U} {l : List u.den} {vs : List Value} (h : Elts S u l vs) : Elts S' u l vs := ⟨h.1, fun i x j p v a b c => (h.2 i x j p v a b c).mono hle⟩
theorem Elts.append {S : Frz} {u : U} {l m : List u.den} {vs us : List Value} (h : Elts S u l vs) (k : Elts S u m us) : Elts S u (l ++ m) (vs ++ us) := by
  refine ⟨by rw [List.length_append, List.length_append, h.1, k.1, Nat.add_mul], fun i x j p v h1 h2 h3 => ?_⟩
  have hj : j < u.size := by have := (List.getElem?_eq_some_iff.1 h2).1; rw [enc_length] at this; exact this
  rcases Nat.lt_or_ge i l.length with hi | hi
  · rw [List.getElem?_append_left hi] at h1
    have h4 : i * u.size + u.size ≤ vs.length := by rw [h.1, ← Nat.succ_mul]; exact Nat.mul_le_mul_right _ hi
    rw [List.getElem?_append_left (by omega)] at h3
    exact h.2 i x j p v h1 h2 h3
  · rw [List.getElem?_append_right hi] at h1
    have h4 : l.length * u.size ≤ i * u.size := Nat.mul_le_mul_right _ hi
    rw [List.getElem?_append_right (by rw [h.1]; omega)] at h3
    refine k.2 (i - l.length) x j p v h1 h2 ?_
    rw [← h3]
    congr 1
    rw [h.1, Nat.sub_mul]
    omega
theorem Elts.one {S : Frz} {u : U} {x : u.den} {vs : List Value} (h : MPs S (enc alg u x) vs) : Elts S u [x] vs := by
  have hl := h.length
  rw [enc_length] at hl
  refine ⟨by simp [hl], fun i y j p v h1 h2 h3 => ?_⟩
  cases i with
  | zero =>
    simp at h1; subst h1
    simp only [Nat.zero_mul, Nat.zero_add] at h3
    obtain ⟨v', h4, h5⟩ := h.get h2
    rw [h4] at h3; cases h3; exact h5
  | succ i => simp at h1
theorem Elts.oneCell {S : Frz} {u : U} {l : List u.den} {vs : List Value} (h : Elts S u l vs) : ∀ v ∈ vs, v.oneCell' = true := by
  intro v hv
  obtain ⟨m, hm⟩ := List.getElem?_of_mem hv
  have hlt := (List.getElem?_eq_some_iff.1 hm).1
  have h0 := u_pos u
  have hd : m / u.size < l.length := by rw [h.1] at hlt; exact Nat.div_lt_of_lt_mul (by rw [Nat.mul_comm]; exact hlt)
  have hmod := Nat.mod_lt m h0
  have hj : m % u.size < (enc alg u l[m / u.size]).length := by rw [enc_length]; exact hmod
  refine (h.2 (m / u.size) _ (m % u.size) _ v (List.getElem?_eq_getElem hd) (List.getElem?_eq_getElem hj) ?_).one
  rw [← hm]
  congr 1
  rw [Nat.mul_comm]; exact Nat.div_add_mod m u.size

theorem srcOf_sound (hT : T.fits Pr) (hH : Heap X st.hp S K w) (hE : Env S (K.map CO.base) st a) {u : U} {c : C} {m : List u.den} {v : Value} (h : srcOf alg st.hp u c = some m) (hm : MC S (K.map CO.base) c v) :
    ∃ us, Src Pr w u.size v m.length us ∧ Elts S u m us := by
  unfold srcOf at h
  split at h
  · cases h; cases hm
    exact ⟨[], ⟨by simp, fun w' => rfl, fun w' _ => by simp [Builtin.firstCells]⟩, Elts.nil S u⟩
  · rename_i l
    obtain ⟨e, he⟩ := castL_eq h
    subst e; subst he
    cases hm
    refine ⟨bvs l, ?_, row_elems_byte l⟩
    exact src_S l
  · split at h
    · rename_i u' l hc
      obtain ⟨e, he⟩ := castL_eq h
      subst e; subst he
      obtain ⟨ao, cap, vs, rfl, hnc, hlen, hrd, hx⟩ := (hH.sit hT hE).cont hm hc
      exact ⟨vs, hrd.src, hlen, hx⟩
    · cases h

theorem chunk_front {k : Nat} {c : CO} {fr : List Chunk} (hc : K[k]? = some c) (H : At w (frzC S :: (CO.chunkL K ++ fr))) : ∃ p r, K = p ++ c :: r ∧ (∀ d, K.set k d = p ++ d :: r) ∧ At w (c.chunk :: frzC S :: ((CO.chunkL p ++ CO.chunkL r) ++ fr)) := by
  obtain ⟨p, r, h1, _, h3⟩ := set_split hc
  refine ⟨p, r, h1, h3, ?_⟩
  rw [h1, chunkL_append] at H
  exact H.perm (perm_front _ _ _ _ _)

theorem perm_front2 (c a : Chunk) (l fr : List Chunk) : (c :: a :: (l ++ fr)).Perm (a :: (l ++ c :: fr)) :=
  (List.Perm.swap _ _ _).trans (List.perm_middle.symm.cons a)

def FewB (bytes : Nat) (n : Int) : Prop := (bytes ≤ 1 ∧ n ≤ 140737488355328) ∨ n ≤ 100000000
theorem FewB.max {b : Nat} {n : Int} (h : FewB b n) : n ≤ 140737488355328 := by rcases h with h | h <;> omega
theorem lfew {o : Oper} {b : Nat} {n : Int} {r : LR} (h : FewB b n → LSound Pr X S K a w o r) : LSound Pr X S K a w o (fewL alg b n r) := by
  unfold fewL
  split
  · rename_i hb
    exact lneed fun h0 => h (.inl ⟨Nat.le_of_ble_eq_true hb, by rw [alg_few] at h0; exact h0⟩)
  · exact lneed fun h0 => h (.inr (by rw [alg_few] at h0; exact h0))
theorem append_core (hT : T.fits Pr) {t ut E : Nat} {s x : Operand} {u : U} {l m : List u.den} {us vs : List Value} {z : Option (List P)} {n1 n2 : Nat} {ue ee : TE}
    (hte : T t = some ⟨.slice E, n1, n2, z, some u⟩) (hue : T ut = some ue) (hni : ∀ k, ue.ty ≠ .int k) (hno : ue.ty ≠ .other) (hee : T E = some ee) (hby : ee.bytes ≤ 1000000) {zz : List P} (hez : ee.zero = some zz)
    {sv xv : Value} (hs : a.eval s = sv) (hx : a.eval x = xv) {L : List Chunk} (H : At w (rowC E u.size sv l.length vs :: L)) (hsrc : Src Pr w u.size xv m.length us) (hm : Elts S u m us) (hfew : FewB ee.bytes ((l.length : Int) + (m.length : Int))) :
    ∃ ao cap w', Does Pr a w ⟨dst, .call { callee := .builtin .append, args := #[s, x], argTypes := #[t, ut] }, ty, pos, af, gd⟩ (.slice ao (l ++ m).length cap) w' ∧ At w' (rowC E u.size (.slice ao (l ++ m).length cap) (l ++ m).length (vs ++ us) :: L) := by
  obtain ⟨dt, it, hut, -, htyt, -⟩ := TE.und (Tab.get hT hte)
  have := fits_slice htyt
  subst this
  obtain ⟨du, iu, huu, -, htyu, -⟩ := TE.und (Tab.get hT hue)
  have hfe := Tab.get hT hee
  obtain ⟨de, ie, hde, hie, _, hsz, hbytes⟩ := TE.und hfe
  obtain ⟨ie', zv, hie', hzv, hzf, hzl⟩ := TE.zero' hfe hez
  rw [hie] at hie'; cases hie'
  obtain ⟨el, ee', hel, hee', hes, _⟩ := TE.elem (Tab.get hT hte) rfl
  cases hel
  rw [hee] at hee'; cases hee'
  have hzs : zv.cells.size = u.size := by
    have := (zero_sound (S := S) hzf).length
    rw [hzl, hes] at this
    simpa using this
  have hud : ∀ k, du ≠ .int k := by
    intro k e
    subst e
    cases hty : ue.ty <;> rw [hty] at htyu <;> simp [Ty.fits] at htyu
    · exact hni _ hty
    · exact hno hty
  have hlm : (l ++ m).length = l.length + m.length := List.length_append
  have hb0 : ee.bytes = ie.bytes := by omega
  rw [hb0] at hfew hby
  have hmax := hfew.max
  have hmul : (l.length + m.length) * ie.bytes ≤ 140737488355328 := by
    rcases hfew with ⟨h1, h2⟩ | h2
    · have := Nat.mul_le_mul (show l.length + m.length ≤ 140737488355328 by omega) h1; omega
    · have := Nat.mul_le_mul (show l.length + m.length ≤ 100000000 by omega) hby; omega
  obtain ⟨v', w', hr, hA⟩ := run_append t ut ty E ie zv u.size ie.bytes hut huu hud hie hzv (by omega) rfl hzs sv l.length vs H xv m.length us hsrc hm.oneCell (by unfold maxLen; omega) (by omega)
  obtain ⟨ao, cap, hv⟩ := hA.rowShape
  subst hv
  rw [hlm]
  refine ⟨ao, cap, w', .inl ?_, hA⟩
  simp only [execOp, resolve, invoke, builtin, Sem.run_bind, Sem.run_pure, Result.andThen_ok, List.map_toArray, List.map_cons, List.map_nil, hs, hx, hr]

theorem append_core2 (hT : T.fits Pr) {t ut E : Nat} {s x : Operand} {u : U} {l m : List u.den} {us vs : List Value} {z : Option (List P)} {n1 n2 : Nat} {ue ee : TE}
    (hte : T t = some ⟨.slice E, n1, n2, z, some u⟩) (hue : T ut = some ue) (hni : ∀ k, ue.ty ≠ .int k) (hno : ue.ty ≠ .other) (hee : T E = some ee) (hby : ee.bytes ≤ 1000000) {zz : List P} (hez : ee.zero = some zz)
    {sv xv : Value} (hs : a.eval s = sv) (hx : a.eval x = xv) {L : List Chunk} (H : At w (rowC E u.size sv l.length vs :: L)) (hsrc : Src Pr w u.size xv m.length us) (hm : Elts S u m us) (hfew : FewB ee.bytes ((l.length : Int) + (m.length : Int))) :
    ∃ ao cap w', Does Pr a w ⟨dst, .call { callee := .builtin .append, args := #[s, x], argTypes := #[t, ut] }, ty, pos, af, gd⟩ (.slice ao (l ++ m).length cap) w' ∧ (At w' (rowC E u.size (.slice ao (l ++ m).length cap) (l ++ m).length (vs ++ us) :: rowC E u.size sv l.length vs :: L) ∨ (At w' (rowC E u.size (.slice ao (l ++ m).length cap) (l ++ m).length (vs ++ us) :: L) ∧ ∃ g cap0, sv = .slice (some g) l.length cap0 ∧ ao = some g ∧ cap0 = cap)) := by
  obtain ⟨dt, it, hut, -, htyt, -⟩ := TE.und (Tab.get hT hte)
  have := fits_slice htyt
  subst this
  obtain ⟨du, iu, huu, -, htyu, -⟩ := TE.und (Tab.get hT hue)
  have hfe := Tab.get hT hee
  obtain ⟨de, ie, hde, hie, _, hsz, hbytes⟩ := TE.und hfe
  obtain ⟨ie', zv, hie', hzv, hzf, hzl⟩ := TE.zero' hfe hez
  rw [hie] at hie'; cases hie'
  obtain ⟨el, ee', hel, hee', hes, _⟩ := TE.elem (Tab.get hT hte) rfl
  cases hel
  rw [hee] at hee'; cases hee'
  have hzs : zv.cells.size = u.size := by
    have := (zero_sound (S := S) hzf).length
    rw [hzl, hes] at this
    simpa using this
  have hud : ∀ k, du ≠ .int k := by
    intro k e
    subst e
    cases hty : ue.ty <;> rw [hty] at htyu <;> simp [Ty.fits] at htyu
    · exact hni _ hty
    · exact hno hty
  have hlm : (l ++ m).length = l.length + m.length := List.length_append
  have hb0 : ee.bytes = ie.bytes := by omega
  rw [hb0] at hfew hby
  have hmax := hfew.max
  have hmul : (l.length + m.length) * ie.bytes ≤ 140737488355328 := by
    rcases hfew with ⟨h1, h2⟩ | h2
    · have := Nat.mul_le_mul (show l.length + m.length ≤ 140737488355328 by omega) h1; omega
    · have := Nat.mul_le_mul (show l.length + m.length ≤ 100000000 by omega) hby; omega
  obtain ⟨v', w', hr, hA⟩ := run_append2 t ut ty E ie zv u.size ie.bytes hut huu hud hie hzv (by omega) rfl hzs sv l.length vs H xv m.length us hsrc hm.oneCell (by unfold maxLen; omega) (by omega)
  obtain ⟨ao, cap, hv⟩ : ∃ ao cap, v' = .slice ao (l.length + m.length) cap := by
    rcases hA with hA | ⟨hA, _⟩ <;> exact hA.rowShape
  subst hv
  rw [hlm]
  have hor : At w' (rowC E u.size (.slice ao (l.length + m.length) cap) (l.length + m.length) (vs ++ us) :: rowC E u.size sv l.length vs :: L) ∨ (At w' (rowC E u.size (.slice ao (l.length + m.length) cap) (l.length + m.length) (vs ++ us) :: L) ∧ ∃ g cap0, sv = .slice (some g) l.length cap0 ∧ ao = some g ∧ cap0 = cap) := by
    rcases hA with hA | ⟨hA, g, c0, e1, e2⟩
    · exact .inl hA
    · exact .inr ⟨hA, g, c0, e1, by cases e2; exact ⟨rfl, rfl⟩⟩
  refine ⟨ao, cap, w', .inl ?_, hor⟩

  simp only [execOp, resolve, invoke, builtin, Sem.run_bind, Sem.run_pure, Result.andThen_ok, List.map_toArray, List.map_cons, List.map_nil, hs, hx, hr]

theorem append_sound (hT : T.fits Pr) (hH : Heap X st.hp S K w) (hE : Env S (K.map CO.base) st a) {t ut : Nat} {s x : Operand} :
    LSound Pr X S K a w ⟨dst, .call { callee := .builtin .append, args := #[s, x], argTypes := #[t, ut] }, ty, pos, af, gd⟩ (appendL alg T st t ut s x) := by
  unfold appendL
  split
  · rename_i E n1 n2 z u ue cs cx hte hue hcs hcx
    split
    · exact lno
    · exact lno
    · rename_i hni hno
      split
      · rename_i ee m hee hm
        split
        · rename_i zz hby hez
          have hby := Nat.le_of_ble_eq_true hby
          have hms := (hH.sit hT hE).one hcs
          have hmx := (hH.sit hT hE).one hcx
          generalize hxv : a.eval x = xv at hmx
          generalize hsv : a.eval s = sv at hms
          obtain ⟨us, hsrc, helt⟩ := srcOf_sound hT hH hE hm hmx
          split
          · cases hms
            refine lfew fun h0 => ?_
            rw [alg_len] at h0
            have H0 := hH.2.2.2.nilRow E u.size
            obtain ⟨ao, cap, w', hd, hA⟩ := append_core (dst := dst) (ty := ty) (pos := pos) (af := af) (gd := gd) (S := S) (l := ([] : List u.den)) (vs := []) hT hte hue (fun k h => hni k h) (fun h => hno h) hee hby hez hsv hxv H0 hsrc helt (by simpa using h0)
            simp only [List.nil_append] at hd hA
            intro Q hq
            have he : Ext (K.map CO.base) ((K ++ [CO.row E u.size ao m.length cap us]).map CO.base) := by rw [List.map_append]; exact Ext.append _ _
            refine ⟨_, w', S, K ++ [CO.row E u.size ao m.length cap us], .v (.one (.row st.hp.length)), { st with hp := st.hp ++ [.row u E m] }, hd, Frz.le.refl S, he, ⟨hH.1, fun k v h => he k v (hH.2.1 k v h), ?_, ?_⟩, ⟨hE.size, hE.defers.mono (Frz.le.refl S) he, fun t d h => (hE.slots t d h).mono (Frz.le.refl S) he⟩, ?_, hq⟩
            · exact (hH.2.2.1.mono (Frz.le.refl S) he).push (.row helt.1 helt.2)
            · exact At.more hA
            · show MC S _ (.row st.hp.length) _
              rw [hH.2.2.1.1]
              exact ⟨base_last _ _, _, _, _, rfl⟩
          · rename_i k
            split
            · rename_i u' E' l' ho
              split
              · rename_i l hb hcast
                have hb := Nat.eq_of_beq_eq_true hb
                subst hb
                obtain ⟨e, he⟩ := castL_eq hcast
                subst e; subst he
                refine lfew fun h0 => ?_
                rw [alg_add, alg_len, alg_len] at h0
                rw [nth_eq] at ho
                obtain ⟨ao0, cap0, vs, hk, hlen, hxs, hrd⟩ := (hH.sit hT hE).row ho
                have hv := hms.1
                rw [base_get hk] at hv
                cases hv
                obtain ⟨p, r, hp1, hp2, hfront⟩ := chunk_front hk hH.2.2.2
                obtain ⟨ao, cap, w', hd, hA⟩ := append_core (dst := dst) (ty := ty) (pos := pos) (af := af) (gd := gd) (S := S) hT hte hue (fun k h => hni k h) (fun h => hno h) hee hby hez hsv hxv hfront hsrc helt h0
                have hall := Elts.append ⟨hlen, hxs⟩ helt
                intro Q hq
                have hbs : (K.set k (.gone (.slice ao0 l'.length cap0))).map CO.base = K.map CO.base := bases_set hk rfl
                have he : Ext (K.map CO.base) ((K.set k (.gone (.slice ao0 l'.length cap0)) ++ [CO.row E u'.size ao (l' ++ m).length cap (vs ++ us)]).map CO.base) := by rw [List.map_append, hbs]; exact Ext.append _ _
                refine ⟨_, w', S, K.set k (.gone (.slice ao0 l'.length cap0)) ++ [CO.row E u'.size ao (l' ++ m).length cap (vs ++ us)], .v (.one (.row st.hp.length)), { st with hp := setN st.hp k .gone ++ [.row u' E (l' ++ m)] }, hd, Frz.le.refl S, he, ⟨hH.1, fun k v h => he k v (hH.2.1 k v h), ?_, ?_⟩, ⟨hE.size, hE.defers.mono (Frz.le.refl S) he, fun t d h => (hE.slots t d h).mono (Frz.le.refl S) he⟩, ?_, hq⟩
                · simp only
                  rw [setN_eq]
                  exact ((hH.2.2.1.set k .gone).mono (Frz.le.refl S) he).push (.row hall.1 hall.2)
                · refine At.more ?_
                  rw [hp2, chunkL_append]
                  have h5 := hA.swap
                  have h6 : At w' (frzC S :: ((CO.chunkL p ++ CO.chunk (CO.gone (.slice ao0 l'.length cap0)) :: CO.chunkL r) ++ (CO.row E u'.size ao (l' ++ m).length cap (vs ++ us)).chunk :: X.fr)) := by
                    refine (At.void ?_).perm (perm_front _ _ _ _ _).symm
                    refine hA.perm ?_
                    exact perm_front2 _ _ _ _
                  refine h6.perm ?_
                  exact (perm_front2 _ _ _ _).symm
                · show MC S _ (.row st.hp.length) _
                  have : st.hp.length = (K.set k (.gone (.slice ao0 l'.length cap0))).length := by rw [hH.2.2.1.1]; simp
                  rw [this]
                  exact ⟨base_last _ _, _, _, _, rfl⟩
              · exact lno
            · exact lno
          · exact lno
        · exact lno
      · exact lno
  · exact lno

theorem needsL_sound {o : Oper} : ∀ {ns : List Prop} {r : LR}, ((∀ p ∈ ns, p) → LSound Pr X S K a w o r) → LSound Pr X S K a w o (needsL ns r)
  | [], _, h => h fun p hp => by cases hp
  | p :: ps, _, h => fun Q hq => needsL_sound (ns := ps) (fun hps => h fun q hq' => by cases hq' with | head => exact hq.1 | tail _ hm => exact hps q hm) Q hq.2

theorem elems_length {z : List P} {u : U} : ∀ {ds : List (Option D)} {l : List u.den} {ns : List Prop}, elems alg z u ds = some (l, ns) → l.length = ds.length
  | [], l, ns, h => by cases h; rfl
  | d :: ds, l, ns, h => by
    simp only [elems] at h
    split at h
    · split at h
      · split at h
        · rename_i x l' ns' h1 h2
          split at h <;> (cases h; simp [elems_length h2])
        · cases h
      · cases h
    · cases h

theorem fill_elts {bs : List Value} {z : List P} {u : U} {ev : Operand → Option D} {av : Operand → Value} (hev : ∀ x d, ev x = some d → MD S bs d (av x)) : ∀ {parts : List (Nat × Operand)} {k : Nat} {l : List u.den} {ns : List Prop} {cells : List Value},
    inOrder k (parts.map (·.1)) = true → elems alg z u (parts.map fun p => ev p.2) = some (l, ns) → (∀ p ∈ ns, p) → k * u.size + l.length * u.size ≤ cells.length →
    ∃ us, Elts S u l us ∧ Instr.fill (fun i => some (i * u.size, u.size)) cells.toArray (parts.map fun (i, x) => (i, av x)) = some (cells.take (k * u.size) ++ us ++ cells.drop (k * u.size + l.length * u.size)).toArray
  | [], k, l, ns, cells, _, he, _, _ => by
    cases he
    exact ⟨[], Elts.nil S u, by simp [Instr.fill]⟩
  | (i, x) :: parts, k, l, ns, cells, ho, he, hn, hle => by
    simp only [List.map_cons, inOrder] at ho
    split at ho
    · rename_i hik
      have hik := Nat.eq_of_beq_eq_true hik
      subst hik
      simp only [List.map_cons, elems] at he
      split at he
      · rename_i cs hcs
        split at he
        · rename_i ps hps
          split at he
          · rename_i y l' ns' hy hrec
            obtain ⟨vs, hvc, hvm⟩ := cellsN_sound hcs (fun d hd => hev x d hd)
            have hpm := pureAll_sound hps hvm
            have key : (∀ p, decNeed alg u ps = some p → p) → (∀ p ∈ ns', p) → l = y :: l' → ∃ us, Elts S u l us ∧ Instr.fill (fun i => some (i * u.size, u.size)) cells.toArray (((k, x) :: parts).map fun (i, x) => (i, av x)) = some (cells.take (k * u.size) ++ us ++ cells.drop (k * u.size + l.length * u.size)).toArray := by
              intro hneed hns hl
              subst hl
              have henc := dec_enc hy hneed
              rw [← henc] at hpm
              have hvl : vs.length = u.size := by rw [hpm.length, enc_length]
              have hle' : k * u.size + (u.size + l'.length * u.size) ≤ cells.length := by simpa [Nat.add_mul, Nat.add_comm, Nat.add_left_comm] using hle
              have hsz : (layV cells (k * u.size) vs).length = cells.length := layV_length _ _ _
              obtain ⟨us, h1, h2⟩ := fill_elts hev (k := k + 1) (cells := layV cells (k * u.size) vs) ho hrec hns (by rw [hsz, Nat.succ_mul]; omega)
              refine ⟨vs ++ us, (Elts.one hpm).append h1, ?_⟩
              have hfold := fold_lay vs cells.toArray (k * u.size) 0
              simp only [Nat.add_zero] at hfold
              simp only [List.map_cons, Instr.fill, hvc]
              rw [if_neg (by simp; omega)]
              have e0 : (Array.foldl (fun cs x => match x with | (c, j) => cs.setIfInBounds (k * u.size + j) c) cells.toArray vs.toArray.zipIdx) = (layV cells (k * u.size) vs).toArray := by
                rw [← hfold]; simp
              rw [e0, h2]
              congr 2
              rw [layV_eq vs cells _ (by omega), hvl]
              have e1 : (List.take (k * u.size) cells ++ vs).length = (k + 1) * u.size := by rw [List.length_append, List.length_take, hvl, Nat.succ_mul]; omega
              rw [show (k + 1) * u.size = (List.take (k * u.size) cells ++ vs).length from e1.symm, List.take_left]
              rw [List.append_assoc (List.take (k * u.size) cells) vs us]
              congr 1
              rw [List.drop_append, List.drop_eq_nil_of_le (by omega), List.nil_append, List.drop_drop]
              congr 1
              simp only [List.length_cons, Nat.succ_mul, List.length_append, List.length_take, hvl]
              omega
            split at he
            · rename_i p hp
              cases he
              exact key (fun p' hp' => by rw [hp] at hp'; cases hp'; exact hn _ (List.mem_cons_self ..)) (fun p' hp' => hn _ (List.mem_cons_of_mem _ hp')) rfl
            · rename_i hp
              cases he
              exact key (fun p' hp' => by rw [hp] at hp'; cases hp') hn rfl
          · cases he
        · cases he
      · cases he
    · cases ho

theorem run_buildSlice0 {P : Program} {w : World} {T E : TypeId} (ht : P.underlying T = some (.slice E)) {i : TypeInfo} (hi : P.info? E = some i) :
    (Instr.buildSlice T 0 #[]).run P w = .ok (.slice (some ⟨w.heap.size, 0, none⟩) 0 0) (w.alloc (.cells #[] E)) := by
  simp [Instr.buildSlice, run_underlying ht, sizeOf, typeInfo, hi, newRow, Instr.fill]
  congr 2
  apply Array.ext'
  simp
theorem buildSlice_sound (hT : T.fits Pr) (hH : Heap X st.hp S K w) (hE : Env S (K.map CO.base) st a) {t n : Nat} {parts : Array (Nat × Operand)} :
    LSound Pr X S K a w ⟨dst, .buildSlice t n parts, ty, pos, af, gd⟩ (buildSliceL alg T st t n parts) := by
  intro Q hq
  unfold buildSliceL at hq
  obtain ⟨S1, K1, hle1, hbs1, hH1, hE1⟩ := freezeAll_sound hH hE (parts.toList.flatMap fun p => rowsOf (st.eval p.2))
  simp only at hq
  generalize freezeAll alg (parts.toList.flatMap fun p => rowsOf (st.eval p.2)) st = st1 at hq hH1 hE1
  split at hq
  · rename_i e he
    split at hq
    · rename_i E u hety hu
      split at hq
      · exact hq.elim
      · rename_i ee hee
        split at hq
        · exact hq.elim
        · rename_i zz hez
          split at hq
          case h_2 => exact hq.elim
          rename_i l ns ho hn hn2 hel
          have hn := Nat.eq_of_beq_eq_true hn
          have hn2 := Nat.le_of_ble_eq_true hn2
          have hf := Tab.get hT he
          obtain ⟨ds, it, hut, hit, htyt, -⟩ := TE.und hf
          rw [hety] at htyt
          have := fits_slice htyt
          subst this
          obtain ⟨el, ee', hel', hee', hes, _⟩ := TE.elem hf hu
          rw [hety] at hel'; cases hel'
          rw [hee] at hee'; cases hee'
          obtain ⟨_, ie, _, hie, _, hsz, _⟩ := TE.und (Tab.get hT hee)
          obtain ⟨ie', zv, hie', hzv, hzf, hzl⟩ := TE.zero' (Tab.get hT hee) hez
          rw [hie] at hie'; cases hie'
          have hll := elems_length hel
          simp only [List.length_map] at hll
          have hsound : LSound Pr X S1 K1 a w ⟨dst, .buildSlice t n parts, ty, pos, af, gd⟩ (needsL ns (pushL st1 (.row u E l) (.row st1.hp.length))) := by
            refine needsL_sound fun hns => ?_
            obtain ⟨us, h1, h2⟩ := fill_elts (S := S1) (bs := K1.map CO.base) (av := a.eval) (fun x d hd => hH1.eval hT hE1 x d hd) (cells := ((Array.range (n * u.size)).map (zv.cells[· % zv.cells.size]!)).toList) ho hel hns (by simp; rw [hll, ← hn]; omega)
            have hu12 : u.size ≤ 12 := by cases u <;> decide
            have hrun : (Instr.buildSlice t n (parts.map fun (i, x) => (i, a.eval x))).run Pr w = .ok (.slice (some ⟨w.heap.size, 0, none⟩) n n) (w.alloc (.cells us.toArray E)) := by
              rcases Nat.eq_zero_or_pos n with h0 | h0
              · have hp0 : parts = #[] := by apply Array.ext'; exact List.eq_nil_of_length_eq_zero (by omega)
                have hu0 : us = [] := List.eq_nil_of_length_eq_zero (by rw [h1.1, hll, ← hn, h0, Nat.zero_mul])
                rw [hp0, hu0, h0]
                simpa using run_buildSlice0 hut hie
              have hq := run_buildSlice (P := Pr) w t E n (parts.map fun (i, x) => (i, a.eval x)) us.toArray ie zv hut hie hzv (by rw [hsz, hes]; have := Nat.mul_le_mul hn2 hu12; omega) (by rw [hsz, hes]; have := Nat.mul_pos h0 (u_pos u); omega) (by
                rw [hsz, hes]
                simp only [Nat.zero_mul, List.take_zero, List.nil_append, Nat.zero_add] at h2
                rw [show us.toArray = (us ++ List.drop (l.length * u.size) (Array.map (fun x => zv.cells[x % zv.cells.size]!) (Array.range (n * u.size))).toList).toArray by
                  rw [List.drop_eq_nil_of_le (by simp; rw [hll, ← hn]; omega), List.append_nil]]
                rw [← h2, Array.toArray_toList]
                simp)
              exact hq
            · have hln : l.length = n := by omega
              have hal := h1.1
              rw [hln] at hal
              refine push_sound (v := .slice (some ⟨w.heap.size, 0, none⟩) n n) (w' := w.alloc (.cells us.toArray E)) (co := .row E u.size (some ⟨w.heap.size, 0, none⟩) n n us) hH1 hE1 (.inl ?_) (fun L hL => ?_) ?_ ?_
              · simp only [execOp, Sem.run_bind, hrun, Result.andThen_ok, Sem.run_pure]
              · have := hL.allocRow E u.size n us.toArray (0, 0) (by simpa using hal) (by unfold maxLen; omega) (free_zero _)
                simpa [CO.chunk] using this
              · rw [← hln]; exact .row h1.1 h1.2
              · rw [hH1.2.2.1.1]
                exact ⟨base_last _ _, _, _, _, rfl⟩
          obtain ⟨v, w', S2, K2, d, st2, hd, hle2, hex, hH2, hE2, hm, hQ⟩ := hsound Q hq
          exact ⟨v, w', S2, K2, d, st2, hd, hle1.trans hle2, by rw [← hbs1]; exact hex, hH2, hE2, hm, hQ⟩
    · exact hq.elim
  · exact hq.elim

theorem make_sound (hT : T.fits Pr) (hH : Heap X st.hp S K w) (hE : Env S (K.map CO.base) st a) {t : Nat} {x y : Operand} : LSound Pr X S K a w ⟨dst, .makeSlice t x y, ty, pos, af, gd⟩ (makeL alg T st t x y) := by
  unfold makeL
  split
  · rename_i e n m he hn hm
    split
    · rename_i E u hety hu
      split
      · rename_i ee hee
        split
        · rename_i z hez hs1 hby
          have hs1 := Nat.eq_of_beq_eq_true hs1
          have hby := Nat.le_of_ble_eq_true hby
          obtain ⟨k1, hx⟩ := (hH.sit hT hE).int hn
          obtain ⟨k2, hy⟩ := (hH.sit hT hE).int hm
          have hf := Tab.get hT he
          obtain ⟨ds, it, hut, hit, htyt, -⟩ := TE.und hf
          rw [hety] at htyt
          have := fits_slice htyt
          subst this
          obtain ⟨el, ee', hel', hee', hes, _⟩ := TE.elem hf hu
          rw [hety] at hel'; cases hel'
          rw [hee] at hee'; cases hee'
          obtain ⟨_, ie, _, hie, _, hsz, hbytes⟩ := TE.und (Tab.get hT hee)
          obtain ⟨ie', zv, hie', hzv, hzf, hzl⟩ := TE.zero' (Tab.get hT hee) hez
          rw [hie] at hie'; cases hie'
          have key : ∀ d : u.den, dec alg u z = some d → (∀ p, decNeed alg u z = some p → p) → LSound Pr X S K a w ⟨dst, .makeSlice t x y, ty, pos, af, gd⟩ (.need (alg.same n m) (.need (alg.nng n) (.need (alg.few n 1000000) (pushL st (.row u E (alg.rep n d)) (.row st.hp.length))))) := by
            intro d hd hneed
            refine lneed fun hnm => lneed fun h0 => lneed fun hfew => ?_
            rw [alg_same] at hnm
            subst hnm
            rw [alg_nng] at h0
            rw [alg_few] at hfew
            have henc := dec_enc hd hneed
            have hms := zero_sound (S := S) hzf
            have hlz := hms.length
            rw [hzl, hs1] at hlz
            obtain ⟨zc, hzc⟩ : ∃ zc, zv.cells.toList = [zc] := by
              cases hq : zv.cells.toList with
              | nil => rw [hq] at hlz; cases hlz
              | cons q r => cases r with
                | nil => exact ⟨q, rfl⟩
                | cons _ _ => rw [hq] at hlz; simp at hlz
            have hzc1 : zv.cells = #[zc] := by apply Array.ext'; simpa using hzc
            have h1c : MPs S (enc alg u d) [zc] := by rw [henc, ← hzc]; exact hms
            have hu1 : u.size = 1 := by omega
            obtain ⟨nn, hnn⟩ : ∃ nn : Nat, n = nn := ⟨n.toNat, by omega⟩
            subst hnn
            have hbd : (ie.bytes : Int) * nn ≤ 1000 * 1000000 := Int.mul_le_mul (by omega) hfew (by omega) (by omega)
            have hr := run_make (P := Pr) w t E ie zv hut hie hzv k1 k2 nn nn (by omega) (Int.le_refl _) (by omega) (by omega)
            rw [show ie.size = 1 by omega, Nat.mul_one, hzc1] at hr
            simp only [Int.toNat_natCast] at hr
            have hrep : (madeCells #[zc] nn) = (List.replicate nn zc).toArray := by rw [← madeCells_one]
            rw [hrep] at hr
            have hel : Elts S u (List.replicate nn d) (List.replicate nn zc) := by
              refine ⟨by simp [hu1], fun i x j p v h2 h3 h4 => ?_⟩
              have hx := List.eq_of_mem_replicate (List.mem_of_getElem? h2)
              have hv := List.eq_of_mem_replicate (List.mem_of_getElem? h4)
              subst hx; subst hv
              obtain ⟨v', h5, h6⟩ := h1c.get h3
              have : j = 0 := by have := (List.getElem?_eq_some_iff.1 h3).1; rw [enc_length] at this; omega
              subst this
              cases h5; exact h6
            refine push_sound (v := .slice (some ⟨w.heap.size, 0, none⟩) nn nn) (w' := w.alloc (.cells (List.replicate nn zc).toArray E)) (co := .row E u.size (some ⟨w.heap.size, 0, none⟩) nn nn (List.replicate nn zc)) hH hE (.inl ?_) (fun L hL => ?_) ?_ ?_
            · simp only [execOp, hx, hy, Sem.run_bind, hr, Result.andThen_ok, Sem.run_pure]
            · have := hL.allocRow E u.size nn (List.replicate nn zc).toArray (0, 0) (by simp [hu1]) (by unfold maxLen; omega) (free_zero _)
              simpa [CO.chunk] using this
            · have := hel
              rw [alg_rep, Int.toNat_natCast]
              have hln : (List.replicate nn d).length = nn := by simp
              have hR := Rel.row (S := S) (bs := ((K ++ [CO.row E u.size (some ⟨w.heap.size, 0, none⟩) nn nn (List.replicate nn zc)]).map CO.base)) (E := E) (ao := some ⟨w.heap.size, 0, none⟩) (cap := nn) hel.1 hel.2
              rw [hln] at hR; exact hR
            · rw [hH.2.2.1.1]
              exact ⟨base_last _ _, _, _, _, rfl⟩
          split
          · rename_i d h1 h2; exact key d h1 fun p hp => by rw [h2] at hp; cases hp
          · rename_i d p h1 h2; exact lneed fun h3 => key d h1 fun p' hp => by rw [h2] at hp; cases hp; exact h3
          · exact lno
        · exact lno
      · exact lno
    · exact lno
  · exact lno

theorem self_sound (hT : T.fits Pr) (hH : Heap X st.hp S K w) (hE : Env S (K.map CO.base) st a) {s d : Nat} {x : Operand} : LSound Pr X S K a w ⟨dst, .convert s d x, ty, pos, af, gd⟩ (selfL alg T st s d x) := by
  unfold selfL
  split
  · rename_i e e1 e2 e3 e4 k hsd hs hc
    have := Nat.eq_of_beq_eq_true hsd
    subst this
    split
    · rename_i f1 f2 f3 f4 u E l he ho
      refine lneed fun hnb => ?_
      intro Q hQ
      have hm := (hH.sit hT hE).one hc
      obtain ⟨ds, is, hus, -, htys, -⟩ := TE.und (Tab.get hT hs)
      obtain ⟨de, ie, hue, -, htye, -⟩ := TE.und (Tab.get hT he)
      have := fits_slice htys
      subst this
      have := fits_int htye
      subst this
      generalize hx : a.eval x = xv at hm
      rw [nth_eq] at ho
      have hm2 := hm
      obtain ⟨hbk, ao0, n0, cap0, rfl⟩ := hm2
      obtain ⟨ao, cap, vs, hK, hlen, hxs, hrd⟩ := (hH.sit hT hE).row ho
      have hb := base_get hK
      rw [hb] at hbk
      simp only [CO.base, Option.some.injEq, Value.slice.injEq] at hbk
      obtain ⟨rfl, rfl, rfl⟩ := hbk
      obtain ⟨p, r, hp1, hp2, H⟩ := chunk_front hK hH.2.2.2
      have hpos : 0 < l.length := by
        simp only [alg_inb, alg_len] at hnb; omega
      obtain ⟨g, cur, rfl, ⟨fz, hg⟩, hat⟩ := At.mark hpos H
      have hrun := run_convert_self Pr w s e g l.length cap cur E fz hus hue hg
      have hat2 : At (w.freeze ⟨g, cur.size, none⟩ 1) (frzC S :: (CO.chunkL K ++ X.fr)) := by
        rw [hp1, chunkL_append]
        exact hat.perm (perm_front _ _ _ _ _).symm
      refine ⟨.slice (some ⟨g, 0, none⟩) l.length cap, _, S, K, .v (.one (.row k)), st, .inl ?_, Frz.le.refl S, Ext.refl _, ⟨hH.1, hH.2.1, hH.2.2.1, hat2⟩, hE, hm, hQ⟩
      simp only [execOp, hx, Sem.run_bind, hrun, Result.andThen_ok, Sem.run_pure]
    · exact lno
  · exact lno

/-- Each turning operation. -/
theorem take_mid {α : Type} (A Z : List α) (a N : Nat) (h : a + Z.length ≤ N) (hN : N ≤ A.length) : (A.take a ++ Z ++ A.drop (a + Z.length)).take N = (A.take N).take a ++ Z ++ (A.take N).drop (a + Z.length) := by
  have h1 : (A.take a ++ Z).length = a + Z.length := by rw [List.length_append, List.length_take]; omega
  rw [List.take_append, List.take_of_length_le (by omega), h1, List.take_take, Nat.min_eq_left (by omega), List.drop_take]
theorem Elts.take {S : Frz} {u : U} {l : List u.den} {vs : List Value} (h : Elts S u l vs) (n : Nat) : Elts S u (l.take n) (vs.take (n * u.size)) := by
  refine ⟨by rw [List.length_take, List.length_take, h.1, ← Nat.mul_min_mul_right], fun i x j p v h1 h2 h3 => ?_⟩
  rw [List.getElem?_take] at h1 h3
  split at h1
  · split at h3
    · exact h.2 i x j p v h1 h2 h3
    · cases h3
  · cases h1
theorem Elts.drop {S : Frz} {u : U} {l : List u.den} {vs : List Value} (h : Elts S u l vs) (n : Nat) : Elts S u (l.drop n) (vs.drop (n * u.size)) := by
  refine ⟨by rw [List.length_drop, List.length_drop, h.1, Nat.sub_mul], fun i x j p v h1 h2 h3 => ?_⟩
  rw [List.getElem?_drop] at h1 h3
  exact h.2 (n + i) x j p v h1 h2 (by rw [Nat.add_mul, Nat.add_assoc]; exact h3)
theorem zeroCells_elts {S : Frz} {u : U} {d : u.den} {zs : Array Value} (h : MPs S (enc alg u d) zs.toList) (n : Nat) : Elts S u (List.replicate n d) (Builtin.zeroCells zs n).toList := by
  have hl := h.length
  rw [enc_length, Array.length_toList] at hl
  have hp := u_pos u
  refine ⟨by rw [Array.length_toList, size_zeroCells, List.length_replicate, hl], fun i x j p v h1 h2 h3 => ?_⟩
  have hx := List.eq_of_mem_replicate (List.mem_of_getElem? h1)
  subst hx
  have hj : j < u.size := by have := (List.getElem?_eq_some_iff.1 h2).1; rw [enc_length] at this; exact this
  obtain ⟨v', h4, h5⟩ := h.get h2
  have hi := (List.getElem?_eq_some_iff.1 h1).1
  rw [List.length_replicate] at hi
  have hlt : i * u.size + j < n * zs.size := by
    rw [hl]
    have := Nat.mul_le_mul_right u.size (show i + 1 ≤ n from hi)
    rw [Nat.succ_mul] at this
    omega
  have hv : zs[(i * u.size + j) % zs.size]! = v' := by
    rw [hl, show (i * u.size + j) % u.size = j by rw [Nat.mul_comm, Nat.mul_add_mod, Nat.mod_eq_of_lt hj]]
    rw [Array.getElem?_toList] at h4
    simp [getElem!_def, h4]
  have h6 : (Builtin.zeroCells zs n).toList[i * u.size + j]? = some zs[(i * u.size + j) % zs.size]! := by
    unfold Builtin.zeroCells
    rw [Array.getElem?_toList, Array.getElem?_map, Array.getElem?_range, if_pos hlt]
    rfl
  rw [h6, hv] at h3
  cases h3
  exact h5

theorem appendZ_sound (hT : T.fits Pr) (hH : Heap X st.hp S K w) (hE : Env S (K.map CO.base) st a) {t ut : Nat} {s x : Operand} :
    LSound Pr X S K a w ⟨dst, .call { callee := .builtin .append, args := #[s, x], argTypes := #[t, ut] }, ty, pos, af, gd⟩ (appendZL alg T st t ut s x) := by
  unfold appendZL
  split
  · rename_i E n1 n2 z u kk m1 m2 m3 m4 n hte hue hcs hcx
    split
    · rename_i ee hee
      split
      · rename_i zz hby hez
        have hby := Nat.le_of_ble_eq_true hby
        have key : ∀ d : u.den, dec alg u zz = some d → (∀ p, decNeed alg u zz = some p → p) → LSound Pr X S K a w ⟨dst, .call { callee := .builtin .append, args := #[s, x], argTypes := #[t, ut] }, ty, pos, af, gd⟩ (.need (alg.nng n) (.need (alg.few n 1000000) (pushL st (.row u E (alg.rep n d)) (.row st.hp.length)))) := by
          intro d hd hneed
          refine lneed fun h0 => lneed fun hfew => ?_
          rw [alg_nng] at h0
          rw [alg_few] at hfew
          obtain ⟨nn, hnn⟩ : ∃ nn : Nat, n = nn := ⟨n.toNat, by omega⟩
          subst hnn
          have hms := (hH.sit hT hE).one hcs
          have hms : a.eval s = .slice none 0 0 := hms
          obtain ⟨k1, hx⟩ := (hH.sit hT hE).int hcx
          obtain ⟨dt, it, hut, -, htyt, -⟩ := TE.und (Tab.get hT hte)
          have := fits_slice htyt
          subst this
          obtain ⟨du, iu, huu, -, htyu, -⟩ := TE.und (Tab.get hT hue)
          have := fits_int htyu
          subst this
          have hfe := Tab.get hT hee
          obtain ⟨de, ie, hde, hie, _, hsz, hbytes⟩ := TE.und hfe
          obtain ⟨ie', zv, hie', hzv, hzf, hzl⟩ := TE.zero' hfe hez
          rw [hie] at hie'; cases hie'
          obtain ⟨el, ee', hel, hee', hes, _⟩ := TE.elem (Tab.get hT hte) rfl
          cases hel
          rw [hee] at hee'; cases hee'
          have hms0 := zero_sound (S := S) hzf
          have hzs : zv.cells.size = ie.size := by
            have := hms0.length
            rw [hzl, hes] at this
            rw [hsz, hes]
            simpa using this
          have henc := dec_enc hd hneed
          rw [← henc] at hms0
          have helt := zeroCells_elts hms0 nn
          have hmul : nn * ie.bytes ≤ 1000000 * 1000 := Nat.mul_le_mul (by omega) (by omega)
          obtain ⟨v', w', hr, hA⟩ := run_appendZ t ut ty E ie zv hut huu hie hzv hzs hH.2.2.2 nn k1 (by unfold maxLen; omega) (by omega)
          rw [show ie.size = u.size by omega] at hA
          obtain ⟨ao, cap, hv⟩ := hA.rowShape
          subst hv
          intro Q hq
          have hlen : (List.replicate nn d).length = nn := by simp
          have hal : alg.rep (nn : Int) d = List.replicate nn d := by rw [alg_rep, Int.toNat_natCast]
          have he : Ext (K.map CO.base) ((K ++ [CO.row E u.size ao nn cap (Builtin.zeroCells zv.cells nn).toList]).map CO.base) := by rw [List.map_append]; exact Ext.append _ _
          refine ⟨.slice ao nn cap, w', S, K ++ [CO.row E u.size ao nn cap (Builtin.zeroCells zv.cells nn).toList], .v (.one (.row st.hp.length)), { st with hp := st.hp ++ [.row u E (alg.rep (nn : Int) d)] }, .inl ?_, Frz.le.refl S, he, ⟨hH.1, fun k v h => he k v (hH.2.1 k v h), ?_, ?_⟩, ⟨hE.size, hE.defers.mono (Frz.le.refl S) he, fun t d h => (hE.slots t d h).mono (Frz.le.refl S) he⟩, ?_, hq⟩
          · simp only [execOp, resolve, invoke, builtin, Sem.run_bind, Sem.run_pure, Result.andThen_ok, List.map_toArray, List.map_cons, List.map_nil, hms, hx, hr]
          · refine (hH.2.2.1.mono (Frz.le.refl S) he).push ?_
            rw [hal]
            have hR := Rel.row (S := S) (bs := ((K ++ [CO.row E u.size ao nn cap (Builtin.zeroCells zv.cells nn).toList]).map CO.base)) (E := E) (ao := ao) (cap := cap) helt.1 helt.2
            rw [hlen] at hR
            exact hR
          · exact At.more hA
          · show MC S _ (.row st.hp.length) _
            rw [hH.2.2.1.1]
            exact ⟨base_last _ _, _, _, _, rfl⟩
        split
        · rename_i d h1 h2; exact key d h1 fun p hp => by rw [h2] at hp; cases hp
        · rename_i d p h1 h2; exact lneed fun h3 => key d h1 fun p' hp => by rw [h2] at hp; cases hp; exact h3
        · exact lno
      · exact lno
    · exact lno
  · exact lno

theorem clear_sound (hT : T.fits Pr) (hH : Heap X st.hp S K w) (hE : Env S (K.map CO.base) st a) {t : Nat} {x : Operand} : LSound Pr X S K a w ⟨dst, .call ⟨.builtin .clear, #[x], #[t]⟩, ty, pos, af, gd⟩ (clearL alg T st t x) := by
  unfold clearL
  split
  · rename_i E b1 b2 b3 b4 u k lo hi he hc
    split
    · rename_i ee u' E' l hee ho
      split
      · rename_i z hez hs1 hs2
        split
        · rename_i d hd hdn
          refine lneed fun hcut => ?_
          have hs1 := Nat.eq_of_beq_eq_true hs1
          have hs2 := Nat.eq_of_beq_eq_true hs2
          rw [alg_cutb, alg_len] at hcut
          obtain ⟨dsc, it, hut, hit, htyt, -⟩ := TE.und (Tab.get hT he)
          have := fits_slice htyt
          subst this
          obtain ⟨ie, zv, hie, hzv, hzf, hzl⟩ := TE.zero' (Tab.get hT hee) hez
          have hsit := hH.sit hT hE
          have hm := hsit.one hc
          generalize hx : a.eval x = xv at hm
          rw [nth_eq] at ho
          obtain ⟨ao, cap, vs, hk, hlen, hxs, hrd⟩ := hsit.row ho
          obtain ⟨ao1, n1, cap1, hb, hlo0, hhi0, hsub⟩ := hm
          rw [base_get hk] at hb
          simp only [CO.base, Option.some.injEq, Value.slice.injEq] at hb
          obtain ⟨rfl, rfl, rfl⟩ := hb
          obtain ⟨ao', cap', rfl, hle, hhl, _, _, _, hao, _⟩ := hsub
          obtain ⟨lb, hlb⟩ : ∃ lb : Nat, lo = lb := ⟨lo.toNat, by omega⟩
          obtain ⟨rb, hrb⟩ : ∃ rb : Nat, hi = rb := ⟨hi.toNat, by omega⟩
          subst hlb; subst hrb
          simp only [Int.toNat_natCast] at hle hhl hao hx
          have hms := zero_sound (S := S) hzf
          have henc := dec_enc hd (fun p hp => by rw [hdn] at hp; cases hp)
          rw [← henc] at hms
          have hZ := zeroCells_elts hms (rb - lb)
          have hE0 : Elts S u' l vs := ⟨hlen, hxs⟩
          have hnew : Elts S u' (l.take lb ++ (List.replicate (rb - lb) d ++ l.drop rb)) (vs.take (lb * u'.size) ++ ((Builtin.zeroCells zv.cells (rb - lb)).toList ++ vs.drop (rb * u'.size))) := (hE0.take lb).append (hZ.append (hE0.drop rb))
          have hll : (l.take lb ++ (List.replicate (rb - lb) d ++ l.drop rb)).length = l.length := by
            simp only [List.length_append, List.length_take, List.length_replicate, List.length_drop]; omega
          have e0 : alg.app (alg.cut l 0 (lb : Int)) (alg.app (alg.rep (alg.sub (rb : Int) (lb : Int)) d) (alg.cut l (rb : Int) (alg.len l))) = l.take lb ++ (List.replicate (rb - lb) d ++ l.drop rb) := by
            rw [alg_app, alg_app, alg_cut, alg_cut, alg_rep, alg_sub, alg_len]
            simp only [Int.toNat_natCast, Int.toNat_zero, List.drop_zero, Nat.sub_zero]
            rw [show ((rb : Int) - (lb : Int)).toNat = rb - lb by omega, List.take_of_length_le (l := l.drop rb) (by rw [List.length_drop]; exact Nat.le_refl _)]
          rw [e0]
          intro Q hq
          rcases Nat.lt_or_ge lb rb with hlt | hge
          · rw [hao hlt] at hx
            have hx := hx
            obtain ⟨L, hat⟩ := hsit.chunk hk
            obtain ⟨A, hA⟩ := hat.head
            obtain ⟨hF, hA2, ⟨hv, hn0⟩ | ⟨g, cap2, cur, fz, hv, hg, hfree, hnc, hcm, hcs, ht⟩⟩ := hA
            · omega
            cases hv
            have hmul := Nat.mul_le_mul_right u'.size hhl
            have hmul2 := Nat.mul_le_mul_right u'.size hnc
            have hmul3 := Nat.mul_le_mul_right u'.size (Nat.le_of_lt hlt)
            have hZl := hZ.1
            rw [List.length_replicate, Nat.sub_mul] at hZl
            have hst := run_storeCells_free Pr g (lb * u'.size) E' fz (Builtin.zeroCells zv.cells (rb - lb)).toList 0 cur w hg hfree (by rw [hZl]; omega) hZ.oneCell
            have hcl : (cur.toList.take (lb * u'.size) ++ (Builtin.zeroCells zv.cells (rb - lb)).toList ++ cur.toList.drop (lb * u'.size + (Builtin.zeroCells zv.cells (rb - lb)).toList.length)).length = cur.size := by
              simp only [List.length_append, List.length_take, List.length_drop, Array.length_toList] at hZl ⊢; omega
            have hvs : (cur.toList.take (lb * u'.size) ++ (Builtin.zeroCells zv.cells (rb - lb)).toList ++ cur.toList.drop (lb * u'.size + (Builtin.zeroCells zv.cells (rb - lb)).toList.length)).take (l.length * u'.size) = vs.take (lb * u'.size) ++ ((Builtin.zeroCells zv.cells (rb - lb)).toList ++ vs.drop (rb * u'.size)) := by
              rw [take_mid cur.toList (Builtin.zeroCells zv.cells (rb - lb)).toList (lb * u'.size) (l.length * u'.size) (by rw [hZl]; omega) (by rw [Array.length_toList]; exact Nat.le_trans hmul2 hcs), ht, List.append_assoc, hZl, show lb * u'.size + (rb * u'.size - lb * u'.size) = rb * u'.size by omega]
            rw [Nat.add_zero] at hst
            have hbs : (K.set k (.row E' u'.size (some ⟨g, 0, none⟩) (l.take lb ++ (List.replicate (rb - lb) d ++ l.drop rb)).length cap (vs.take (lb * u'.size) ++ ((Builtin.zeroCells zv.cells (rb - lb)).toList ++ vs.drop (rb * u'.size))))).map CO.base = K.map CO.base := bases_set hk (by simp only [CO.base, hll])
            refine ⟨.tuple #[], w.setRow g (cur.toList.take (lb * u'.size) ++ (Builtin.zeroCells zv.cells (rb - lb)).toList ++ cur.toList.drop (lb * u'.size + (Builtin.zeroCells zv.cells (rb - lb)).toList.length)).toArray, S, K.set k (.row E' u'.size (some ⟨g, 0, none⟩) (l.take lb ++ (List.replicate (rb - lb) d ++ l.drop rb)).length cap (vs.take (lb * u'.size) ++ ((Builtin.zeroCells zv.cells (rb - lb)).toList ++ vs.drop (rb * u'.size)))), .tup [], _, .inl ?_, Frz.le.refl S, by rw [hbs]; exact Ext.refl _, ⟨hH.1, by rw [hbs]; exact hH.2.1, ?_, ?_⟩, ?_, ⟨[], trivial, rfl⟩, hq⟩
            · obtain ⟨m, hm⟩ : ∃ m, rb - lb = m + 1 := ⟨rb - lb - 1, by omega⟩
              rw [hs1, hm] at hx
              rw [hm] at hst ⊢
              simp only [Option.map_some, Addr.add_lit, Nat.zero_add] at hx
              simp [execOp, resolve, invoke, builtin, hx, Builtin.clear_, run_underlying hut, zeroValue, typeInfo, hie, hzv, hst]
            · rw [hbs]
              simp only
              rw [setN_eq]
              exact hH.2.2.1.set k (.row hnew.1 hnew.2)
            · refine At.turn hH.2.2.2 hk _ fun L hL => ?_
              refine hL.step fun A hA => ⟨A, ⟨?_, hnew.1, .inr ⟨g, cap, _, fz, rfl, setRow_heap w g cur _ E' fz hg, ?_, by rw [hll]; exact hnc, hcm, ?_, ?_⟩⟩, fun _ h => .inl h, (keeps_setRow w g _).mono fun k hk e => hk.2 ((hA.1 k).2 (by simp [Value.ownBlock, e]))⟩
              · intro k; rw [hA.1 k]; simp [Value.ownBlock]
              · simpa only [List.size_toArray, hcl] using hfree
              · simpa only [List.size_toArray, hcl] using hcs
              · rw [hll]; exact hvs
            · rw [hbs]; exact ⟨hE.size, hE.defers, hE.slots⟩
          · have hrl : rb = lb := by omega
            subst hrl
            have el : l.take rb ++ (List.replicate (rb - rb) d ++ l.drop rb) = l := by simp
            rw [el] at hq
            have eh : setN st.hp k (.row u' E' l) = st.hp := by
              rw [setN_eq]
              obtain ⟨hlt, he1⟩ := List.getElem?_eq_some_iff.1 ho
              rw [← he1]; exact List.set_getElem_self hlt
            rw [eh] at hq
            refine ⟨.tuple #[], w, S, K, .tup [], st, .inl ?_, Frz.le.refl S, Ext.refl _, hH, hE, ⟨[], trivial, rfl⟩, hq⟩
            rw [Nat.sub_self] at hx
            cases ao' <;> simp [execOp, resolve, invoke, builtin, hx, Builtin.clear_, run_underlying hut]
        · exact lno
      · exact lno
    · exact lno
  · exact lno

theorem lop_sound (hT : T.fits Pr) (hH : Heap X st.hp S K w) (hE : Env S (K.map CO.base) st a) (o : Oper) : LSound Pr X S K a w o (lop alg T st o.op) := by
  obtain ⟨dst, op, ty, pos, af, gd⟩ := o
  cases op with
  | store t x v => exact store_sound hT hH hE
  | alloc t => exact alloc_sound hT hH hE
  | box t x => exact box_sound hT hH hE
  | buildSlice t n parts => exact buildSlice_sound hT hH hE
  | makeSlice t x y => exact make_sound hT hH hE
  | convert s d x =>
    simp only [lop]
    split
    · exact bytes_sound hT hH hE
    · exact self_sound hT hH hE
  | call c =>
    obtain ⟨callee, args, tys⟩ := c
    simp only [lop]
    split
    · rename_i s x t u h1 h2
      have h1 : args = #[s, x] := by apply Array.ext'; simpa using h1
      have h2 : tys = #[t, u] := by apply Array.ext'; simpa using h2
      subst h1; subst h2
      split
      · exact appendZ_sound hT hH hE
      · exact append_sound hT hH hE
    · rename_i x t h1 h2
      have h1 : args = #[x] := by apply Array.ext'; simpa using h1
      have h2 : tys = #[t] := by apply Array.ext'; simpa using h2
      subst h1; subst h2
      exact clear_sound hT hH hE
    · exact lno
  | _ => exact lno
end
end Go.Ab
