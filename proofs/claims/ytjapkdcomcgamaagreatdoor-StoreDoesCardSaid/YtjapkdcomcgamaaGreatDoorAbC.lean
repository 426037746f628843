/- An abstract machine for the walks (part 3): operations that only read. -/
import Derived.Test.YtjapkdcomcgamaaGreatDoorAbB
import Derived.Test.YtjapkdcomcgamaaGreatDoorCalm
import Derived.WalkKit
set_option linter.all false
namespace Go.Ab
open Go Go.Sep
variable [Facts]

/-! ### types, as a table -/
inductive Ty where
  | bool | int (k : IntKind) | str | ptr | slice (e : Nat) | struct (fs : List (Nat × Nat)) | array (n e : Nat) | other | iface
structure TE where
  ty : Ty
  size : Nat
  bytes : Nat
  zero : Option (List P)
  u : Option U
abbrev Tab := Nat → Option TE

def nth {α : Type} : List α → Nat → Option α
  | [], _ => none
  | x :: _, 0 => some x
  | _ :: l, n + 1 => nth l n
theorem nth_eq {α : Type} : ∀ (l : List α) (n : Nat), nth l n = l[n]?
  | [], _ => by simp [nth]
  | x :: l, 0 => rfl
  | x :: l, n + 1 => by simp only [nth, List.getElem?_cons_succ]; exact nth_eq l n

def kindB : IntKind → IntKind → Bool
  | .i8, .i8 | .i16, .i16 | .i32, .i32 | .i64, .i64 | .u8, .u8 | .u16, .u16 | .u32, .u32 | .u64, .u64 => true
  | _, _ => false
theorem kindB_eq {a b : IntKind} (h : kindB a b = true) : a = b := by cases a <;> cases b <;> first | rfl | cases h

def Ty.fits : Ty → TypeDesc → Bool
  | .bool, .bool => true
  | .int k, .int k' => kindB k k'
  | .str, .string => true
  | .ptr, .pointer _ => true
  | .slice e, .slice e' => e == e'
  | .struct fs, .struct gs => gs.toList.map (fun f => (f.offset, f.type)) == fs
  | .array n e, .array n' e' => n == n' && e == e'
  | .iface, .interface _ => true
  | .other, d => !d.isRow
  | _, _ => false

def zeroFits : List Value → List P → Bool
  | [], [] => true
  | .int k 0 :: vs, .int k' 0 :: ps => kindB k k' && zeroFits vs ps
  | .bool false :: vs, .bool false :: ps => zeroFits vs ps
  | .string ⟨⟨[]⟩⟩ :: vs, .str [] :: ps => zeroFits vs ps
  | .slice none 0 0 :: vs, .list _ [] :: ps => zeroFits vs ps
  | .pointer none :: vs, .val (.pointer none) :: ps => zeroFits vs ps
  | .nilFunc :: vs, .val .nilFunc :: ps => zeroFits vs ps
  | .nilIface :: vs, .val .nilIface :: ps => zeroFits vs ps
  | _, _ => false

def primTy : Ty → Bool
  | .bool | .int _ | .str => true
  | _ => false
def primFs (T : Tab) : List (Nat × Nat) → Bool
  | [] => true
  | (_, t) :: r => match T t with | some e => primTy e.ty && primFs T r | none => false
/-- A struct of plain fields can be compared. -/
def eqFits (P : Program) (T : Tab) (t : Nat) (ty : Ty) (d : TypeDesc) : Bool :=
  match ty, d with
  | .struct fs, .struct gs => !primFs T fs || ((gs.toList.all fun f => f.name != "_") && !P.stoodInHeld t)
  | _, _ => true
def TE.fits (P : Program) (T : Tab) (t : Nat) (e : TE) : Bool :=
  match P.underlying t, P.info? t with
  | some d, some i => eqFits P T t e.ty d && e.ty.fits d && i.size == e.size && i.bytes == e.bytes &&
      (match e.zero with | none => true | some z => match i.zero with | some v => zeroFits v.cells.toList z && z.length == e.size | none => false) &&
      (match e.u with | none => true | some u => match e.ty with | .slice el => (match T el with | some ee => ee.size == u.size && decide (0 < u.size) | none => false) | _ => false)
  | _, _ => false
/-- The table tells the truth. -/
def Tab.fits (P : Program) (T : Tab) : Prop := ∀ t e, T t = some e → e.fits P T t = true
theorem Tab.fits_of {P : Program} {l : List TE} (h : ((List.range l.length).all fun t => match nth l t with | some e => e.fits P (nth l) t | none => true) = true) : Tab.fits P (nth l) := by
  intro t e he
  have hlt : t < l.length := by rw [nth_eq] at he; exact (List.getElem?_eq_some_iff.1 he).1
  have := List.all_eq_true.1 h t (List.mem_range.2 hlt)
  rw [he] at this; exact this

/-- A table as a tree. -/
inductive TT where
  | nil
  | node (l : TT) (k : Nat) (e : TE) (r : TT)
def TT.get : TT → Tab
  | .nil, _ => none
  | .node l k e r, t => match Nat.beq t k with | true => some e | false => match Nat.blt t k with | true => l.get t | false => r.get t
def TT.all (p : Nat → TE → Bool) : TT → Bool
  | .nil => true
  | .node l k e r => l.all p && p k e && r.all p
theorem TT.all_get {p : Nat → TE → Bool} : ∀ {x : TT} {t : Nat} {e : TE}, x.all p = true → x.get t = some e → p t e = true
  | .nil, t, e, _, h => by cases h
  | .node l k e0 r, t, e, ha, h => by
    simp only [TT.all, Bool.and_eq_true] at ha
    simp only [TT.get] at h
    split at h
    · rename_i hk; cases h; rw [Nat.eq_of_beq_eq_true hk]; exact ha.1.2
    · split at h
      · exact TT.all_get ha.1.1 h
      · exact TT.all_get ha.2 h
theorem Tab.fits_tt {P : Program} {x : TT} (h : x.all (fun t e => e.fits P x.get t) = true) : Tab.fits P x.get := fun _ _ he => TT.all_get h he

/-- The cells of a zero value: slices are nil. -/
def zc : P → C
  | .list _ [] => .nilS
  | p => .p p
/-- Cells as pure ones; z says which are slices. -/
def purC (z : P) (c : C) : Option P :=
  match c with
  | .p x => some x
  | .nilS => match z with | .list u _ => some (.list u []) | _ => none
  | _ => none
def pureAll : List P → List C → Option (List P)
  | [], [] => some []
  | z :: zs, c :: cs => match purC z c, pureAll zs cs with | some p, some ps => some (p :: ps) | _, _ => none
  | _, _ => none

/-! ### values -/
def ofConst : Value → Option C
  | .int k n => some (.p (.int k n))
  | .bool true => some (.p (.val (.bool true)))
  | .bool false => some (.p (.val (.bool false)))
  | .string s => match decide (s.data.toList.length ≤ 100000) with | true => some (.p (.str s.data.toList)) | false => none
  | .slice none 0 0 => some .nilS
  | .pointer none => some (.p (.val (.pointer none)))
  | .nilFunc => some (.p (.val .nilFunc))
  | .nilIface => some (.p (.val .nilIface))
  | _ => none

def St.eval (st : St) : Operand → Option D
  | .tmp t => look st.env t
  | .const v => match ofConst v with | some c => some (.v (.one c)) | none => none
  | .func f => some (.v (.one (.fn f [])))
  | .global _ => none

/-- What a reading operation comes to: a value; under what must hold; by a test. -/
inductive QR where
  | ok (d : D)
  | need (p : Prop) (r : QR)
  | br (b : Bool) (t f : QR)
  | both (t f : QR)
  | no
def QR.holds : QR → (D → Prop) → Prop
  | .ok d, K => K d
  | .need p r, K => p ∧ r.holds K
  | .br b t f, K => (b = true → t.holds K) ∧ (b = false → f.holds K)
  | .both t f, K => t.holds K ∧ f.holds K
  | .no, _ => False

def okc (c : C) : QR := .ok (.v (.one c))
def okp (p : P) : QR := .ok (.v (.one (.p p)))

/-- The elements of a slice. -/
def cont (I : Alg) (hp : List HO) : C → Option (Sigma fun u : U => List u.den)
  | .p (.list u l) => some ⟨u, l⟩
  | .row k => match nth hp k with | some (.row u _ l) => some ⟨u, l⟩ | _ => none
  | .sub u k lo hi => match nth hp k with | some (.row u' _ l) => (match Nat.beq u.size u'.size with | true => some ⟨u', I.cut l lo hi⟩ | false => none) | _ => none
  | _ => none

def lenQ (I : Alg) (hp : List HO) : Ty → C → Option Int
  | .str, .p (.str l) => some (I.len l)
  | .slice _, .nilS => some 0
  | .slice _, .sub _ _ lo hi => some (I.sub hi lo)
  | .slice _, .p (.list _ l) => some (I.len l)
  | .slice _, .row k => match nth hp k with | some (.row _ _ l) => some (I.len l) | _ => none
  | _, _ => none

def isRowTy : Ty → Bool
  | .struct _ | .array .. => true
  | _ => false
def fetch (e : TE) (cs : List C) : QR :=
  match isRowTy e.ty with
  | true => match Nat.beq cs.length e.size with | true => .ok (.v (.agg cs)) | false => .no
  | false => match cs with | [c] => okc c | _ => .no

def loadQ (I : Alg) (hp : List HO) (e : TE) : C → QR
  | .ptr k off => match nth hp k with | some (.obj _ cs) => fetch e ((cs.drop off).take e.size) | _ => .no
  | .ept u k i off => match nth hp k with
    | some (.row u' _ l) => (match Nat.beq u.size u'.size with | true => .need (I.inb i (I.len l)) (fetch e ((((enc I u' (I.get l (dflt u') i)).map C.p).drop off).take e.size)) | false => .no)
    | _ => .no
  | .fpt u l i off => .need (I.inb i (I.len l)) (fetch e ((((enc I u (I.get l (dflt u) i)).map C.p).drop off).take e.size))
  | _ => .no

def arithQ (I : Alg) (k : IntKind) (n : Int) : QR := .need (I.inr k n) (okp (.int k n))
def intQ (I : Alg) (op : BinOp) (k : IntKind) (x y : Int) : QR :=
  match op with
  | .add => arithQ I k (I.add x y)
  | .sub => arithQ I k (I.sub x y)
  | .mul => arithQ I k (I.mul x y)
  | .quo => .need (I.nne y) (arithQ I k (I.quo x y))
  | .rem => .need (I.nne y) (okp (.int k (I.rem x y)))
  | .and => okp (.int k (I.bits .and k x y))
  | .or => okp (.int k (I.bits .or k x y))
  | .xor => okp (.int k (I.bits .xor k x y))
  | .eql => okp (.bool (I.ieq x y))
  | .neq => okp (.bool (I.bnot (I.ieq x y)))
  | .lss => okp (.bool (I.ilt x y))
  | .leq => okp (.bool (I.ile x y))
  | .gtr => okp (.bool (I.ilt y x))
  | .geq => okp (.bool (I.ile y x))
  | _ => .no
def shiftQ (I : Alg) (op : BinOp) (k : IntKind) (x y : Int) : QR :=
  match op with
  | .shl => .need (I.nng y) (okp (.int k (I.shl k x y)))
  | .shr => .need (I.nng y) (.need (I.few y 64) (.need (I.few y k.bits) (okp (.int k (I.shr x y)))))
  | _ => .no
def strQ (I : Alg) (op : BinOp) (x y : Str) : QR :=
  match op with
  | .add => .need (I.few (I.add (I.len x) (I.len y)) 1000000000) (okp (.str (I.app x y)))
  | .eql => okp (.bool (I.seq x y))
  | .neq => okp (.bool (I.bnot (I.seq x y)))
  | _ => .no
def isShift : BinOp → Bool
  | .shl | .shr => true
  | _ => false
def boolC : C → Option Bool
  | .p (.bool b) => some b
  | .p (.val (.bool b)) => some b
  | _ => none
def binQ (I : Alg) (op : BinOp) (ty : Ty) (x y : C) : QR :=
  match x, y with
  | .p (.int k a), .p (.int k' b) => match isShift op with | true => shiftQ I op k a b | false => match kindB k k' with | true => intQ I op k a b | false => .no
  | .p (.str a), .p (.str b) => strQ I op a b
  | .ptr _ _, .p (.val (.pointer none)) => match ty with
    | .ptr => (match op with | .eql => okp (.val (.bool false)) | .neq => okp (.val (.bool true)) | _ => .no)
    | _ => .no
  | x, y => match ty, boolC x, boolC y with
    | .bool, some a, some b => (match op with | .eql => okp (.bool (I.beq a b)) | .neq => okp (.bool (I.bnot (I.beq a b))) | _ => .no)
    | _, _, _ => .no

/-- One cell against another. -/
def eqC (I : Alg) (ty : Ty) (x y : C) : Option Bool :=
  match ty with
  | .str => (match x, y with | .p (.str a), .p (.str b) => some (I.seq a b) | _, _ => none)
  | .int _ => (match x, y with | .p (.int k1 a), .p (.int k2 b) => (match kindB k1 k2 with | true => some (I.ieq a b) | false => none) | _, _ => none)
  | .bool => (match boolC x, boolC y with | some a, some b => some (I.beq a b) | _, _ => none)
  | _ => none
def eqFs (I : Alg) (T : Tab) (cs ds : List C) : List (Nat × Nat) → Option Bool
  | [] => none
  | (o, t) :: r => match nth cs o, nth ds o, T t with
    | some c, some d, some e => (match eqC I e.ty c d with
      | some b => (match r with
        | [] => some b
        | _ => match eqFs I T cs ds r with | some b' => some (I.ban b b') | none => none)
      | none => none)
    | _, _, _ => none
/-- Structs against each other. -/
def aggQ (I : Alg) (T : Tab) (op : BinOp) (ty : Ty) (cs ds : List C) : QR :=
  match ty with
  | .struct fs => (match primFs T fs, eqFs I T cs ds fs with
    | true, some b => (match op with | .eql => okp (.bool b) | .neq => okp (.bool (I.bnot b)) | _ => .no)
    | _, _ => .no)
  | _ => .no

/-- An index that is written out. -/
def litIx (i : Int) : Option Nat := match i with | .ofNat n => some n | .negSucc _ => none
def sliceQ (I : Alg) (hp : List HO) (ty : Ty) (sz : Nat) (c : C) (lo hi : Option Int) : QR :=
  match ty, c with
  | .str, .p (.str l) =>
    let a := lo.getD 0; let b := hi.getD (I.len l)
    .need (I.cutb a b (I.len l)) (okp (.str (I.cut l a b)))
  | .slice _, .p (.list u l) =>
    let a := lo.getD 0; let b := hi.getD (I.len l)
    match Nat.beq sz u.size with | true => .need (I.cutb a b (I.len l)) (okp (.list u (I.cut l a b))) | false => .no
  | .slice _, .row k => match nth hp k with
    | some (.row u _ l) =>
      let a := lo.getD 0; let b := hi.getD (I.len l)
      match Nat.beq sz u.size with | true => .need (I.cutb a b (I.len l)) (okc (.sub u k a b)) | false => .no
    | _ => .no
  | .slice _, .sub u k a0 b0 =>
    let a := lo.getD 0; let b := hi.getD (I.sub b0 a0)
    match Nat.beq sz u.size with | true => .need (I.cutb a b (I.sub b0 a0)) (okc (.sub u k (I.add a0 a) (I.add a0 b))) | false => .no
  | .slice _, .nilS =>
    let a := lo.getD 0; let b := hi.getD 0
    match Nat.blt 0 sz with | true => .need (I.cutb a b 0) (okc .nilS) | false => .no
  | .array n _, .ept u k i0 off => match nth hp k, litIx i0, off with
    | some (.row u' _ l), some 0, 0 =>
      let a := lo.getD 0; let b := hi.getD (Int.ofNat n)
      (match Nat.beq sz u.size, Nat.beq u.size u'.size, Nat.blt 0 n, Nat.ble n 1000000 with
      | true, true, true, true => .need (I.cutb a b (Int.ofNat n)) (.need (I.same (I.len l) (Int.ofNat n)) (okc (.sub u k a b)))
      | _, _, _, _ => .no)
    | _, _, _ => .no
  | _, _ => .no


def indexAddrQ (I : Alg) (T : Tab) (hp : List HO) (ty : Ty) (c : C) (i : Int) : QR :=
  match ty with
  | .array n e => match c, litIx i, T e with
    | .ptr k off, some j, some te => (match Nat.blt j n with | true => okc (.ptr k (off + j * te.size)) | false => .no)
    | .ept u k i0 off, _, some te => (match Nat.beq te.size u.size, litIx i0, off with | true, some 0, 0 => .need (I.inb i (Int.ofNat n)) (okc (.ept u k i 0)) | _, _, _ => .no)
    | _, _, _ => .no
  | .slice e => match T e with
    | none => .no
    | some te => match c with
      | .p (.list u l) => (match Nat.beq te.size u.size with | true => .need (I.inb i (I.len l)) (okc (.fpt u l i 0)) | false => .no)
      | .row k => (match nth hp k with | some (.row u _ l) => (match Nat.beq te.size u.size with | true => .need (I.inb i (I.len l)) (okc (.ept u k i 0)) | false => .no) | _ => .no)
      | .sub u k lo hi => (match nth hp k with | some (.row u' _ _) => (match Nat.beq te.size u.size, Nat.beq u.size u'.size with | true, true => .need (I.inb i (I.sub hi lo)) (okc (.ept u k (I.add lo i) 0)) | _, _ => .no) | _ => .no)
      | _ => .no
  | _ => .no

def pick1 : List C → V0
  | [c] => .one c
  | cs => .agg cs
def fieldQ (T : Tab) (ty : Ty) (f : Nat) (cs : List C) : QR :=
  match ty with
  | .struct fs => match nth fs f with
    | some (off, t) => (match T t with | some e => fetch e ((cs.drop off).take e.size) | none => .no)
    | none => .no
  | _ => .no

def convQ (I : Alg) (T : Tab) (hp : List HO) (src dst : Ty) (c : C) : QR :=
  match dst, c with
  | .int k, .p (.int _ n) => okp (.int k (I.wrap k n))
  | .str, .p (.str s) => okp (.str s)
  | .str, c => match src with
    | .slice e => match T e with
      | some ⟨.int .u8, _, _, _, _⟩ => (match cont I hp c with | some ⟨.byte, l⟩ => okp (.str l) | _ => match c with | .nilS => okp (.str []) | _ => .no)
      | _ => .no
    | _ => .no
  | _, _ => .no

/-- Parts laid into the cells. -/
def lay : List C → Nat → List C → List C
  | cs, _, [] => cs
  | cs, o, d :: ds => lay (cs.set o d) (o + 1) ds
def cellsOf : D → Option (List C)
  | .v (.one c) => some [c]
  | .v (.agg cs) => some cs
  | _ => none
def layAll (place : Nat → Option (Nat × Nat)) : List C → List (Nat × Option D) → Option (List C)
  | cs, [] => some cs
  | cs, (i, d) :: r => match place i, d with
    | some (o, n), some d => (match cellsOf d with
      | some ds => (match Nat.beq ds.length n, Nat.ble (o + n) cs.length with | true, true => layAll place (lay cs o ds) r | _, _ => none)
      | none => none)
    | _, _ => none
/-- Where the fields lie. -/
def places (T : Tab) : List (Nat × Nat) → Option (List (Nat × Nat))
  | [] => some []
  | (o, t) :: r => match T t, places T r with | some te, some l => some ((o, te.size) :: l) | _, _ => none
def buildQ (T : Tab) (e : TE) (parts : List (Nat × Option D)) : QR :=
  match e.zero with
  | none => .no
  | some z => match e.ty with
    | .struct fs => (match places T fs with
      | some pl => (match layAll (nth pl) (z.map zc) parts with | some cs => .ok (.v (.agg cs)) | none => .no)
      | none => .no)
    | .array _ el => (match T el with
      | some te => (match layAll (fun i => some (i * te.size, te.size)) (z.map zc) parts with | some cs => .ok (.v (.agg cs)) | none => .no)
      | none => .no)
    | _ => .no

def oneC : Option D → Option C
  | some (.v (.one c)) => some c
  | _ => none
def intC : Option D → Option Int
  | some (.v (.one (.p (.int _ n)))) => some n
  | _ => none

/-- A slice against nil. -/
def nilP (I : Alg) (hp : List HO) (c : C) (yes no : Bool) : QR :=
  match c with
  | .nilS => okp (.val (.bool yes))
  | c => match cont I hp c with
    | some ⟨_, l⟩ => .br (I.ieq (I.len l) 0) (.both (okp (.val (.bool yes))) (okp (.val (.bool no)))) (okp (.val (.bool no)))
    | none => .no
def nilQ (I : Alg) (hp : List HO) (op : BinOp) (ty : Ty) (c : C) : QR :=
  match ty, op with
  | .slice _, .eql => nilP I hp c true false
  | .slice _, .neq => nilP I hp c false true
  | _, _ => .no

/-- An interface's value against nil. -/
def isNilK : Operand → Bool
  | .const .nilIface => true
  | _ => false
def nilIfQ (op : BinOp) (ty : Ty) (c : C) : QR :=
  match ty, c, op with
  | .iface, .ifc _ _ _, .eql => okp (.val (.bool false))
  | .iface, .ifc _ _ _, .neq => okp (.val (.bool true))
  | .iface, .p (.val .nilIface), .eql => okp (.val (.bool true))
  | .iface, .p (.val .nilIface), .neq => okp (.val (.bool false))
  | _, _, _ => .no
/-- What an interface holds, of a type that is known. -/
def assertQ (t : Nat) (ty : Ty) (c : C) : QR :=
  match ty with
  | .int _ => (match c with | .ifc t' false [p] => (match Nat.beq t' t with | true => .ok (.tup [.one (.p p), .one (.p (.val (.bool true)))]) | false => .no) | _ => .no)
  | .struct _ => (match c with | .ifc t' true ps => (match Nat.beq t' t with | true => .ok (.tup [.agg (ps.map C.p), .one (.p (.val (.bool true)))]) | false => .no) | _ => .no)
  | _ => .no
/-- A reading operation. -/
def qop (I : Alg) (T : Tab) (st : St) : Op → QR
  | .move x => match st.eval x with | some d => .ok d | none => .no
  | .assign x => match st.eval x with | some d => .ok d | none => .no
  | .pick c a b => match oneC (st.eval c) with
    | some (.p (.val (.bool true))) => (match st.eval a with | some d => .ok d | none => .no)
    | some (.p (.val (.bool false))) => (match st.eval b with | some d => .ok d | none => .no)
    | _ => .no
  | .load t x => match T t, oneC (st.eval x) with | some e, some c => loadQ I st.hp e c | _, _ => .no
  | .nilCheck x => match st.eval x with
    | some (.v (.one (.ptr k o))) => okc (.ptr k o)
    | some (.v (.one (.ept u k i o))) => okc (.ept u k i o)
    | some (.v (.one (.fpt u l i o))) => okc (.fpt u l i o)
    | some (.v (.one (.fn f caps))) => okc (.fn f caps)
    | _ => .no
  | .typeAssert x _ t true => match T t, oneC (st.eval x) with | some e, some c => assertQ t e.ty c | _, _ => .no
  | .binOp op t x y _ => match isNilK y with
   | true => (match T t, oneC (st.eval x) with | some e, some c => nilIfQ op e.ty c | _, _ => .no)
   | false => match T t, oneC (st.eval x), oneC (st.eval y) with
    | some e, some a, some .nilS => nilQ I st.hp op e.ty a
    | some e, some a, some b => binQ I op e.ty a b
    | some e, none, none => (match st.eval x, st.eval y with | some (.v (.agg cs)), some (.v (.agg ds)) => aggQ I T op e.ty cs ds | _, _ => .no)
    | _, _, _ => .no
  | .unOp op _ x => match op, oneC (st.eval x) with
    | .not, some (.p (.bool b)) => okp (.bool (I.bnot b))
    | .not, some (.p (.val (.bool true))) => okp (.val (.bool false))
    | .not, some (.p (.val (.bool false))) => okp (.val (.bool true))
    | .neg, some (.p (.int k n)) => arithQ I k (I.sub 0 n)
    | _, _ => .no
  | .convert s d x => match T s, T d, oneC (st.eval x) with | some es, some ed, some c => convQ I T st.hp es.ty ed.ty c | _, _, _ => .no
  | .makeInterface t x => match T t, st.eval x with
    | some e, some d => (match e.ty with
      | .other => .no
      | .iface => .no
      | _ => match d with
        | .v (.one c) => (match e.zero with | some z => (match pureAll z [c] with | some [p] => okc (.ifc t false [p]) | _ => .no) | none => .no)
        | .v (.agg cs) => (match e.zero with | some z => (match pureAll z cs with | some ps => okc (.ifc t true ps) | none => .no) | none => .no)
        | _ => .no)
    | _, _ => .no
  | .slice t x lo hi none => match T t, oneC (st.eval x) with
    | some e, some c =>
      let sz := match e.ty with | .slice el => (match T el with | some te => te.size | none => 0) | .array _ el => (match T el with | some te => te.size | none => 0) | _ => 0
      match lo, hi with
        | none, none => sliceQ I st.hp e.ty sz c none none
        | some l, none => (match intC (st.eval l) with | some n => sliceQ I st.hp e.ty sz c (some n) none | none => .no)
        | none, some h => (match intC (st.eval h) with | some n => sliceQ I st.hp e.ty sz c none (some n) | none => .no)
        | some l, some h => (match intC (st.eval l), intC (st.eval h) with | some n, some m => sliceQ I st.hp e.ty sz c (some n) (some m) | _, _ => .no)
    | _, _ => .no
  | .slice t x none (some h) (some m) => match T t, oneC (st.eval x), intC (st.eval h), intC (st.eval m) with
    | some e, some (.row k), some n', some m' => (match e.ty, nth st.hp k with
      | .slice el, some (.row u _ l) => (match T el with
        | some te => (match Nat.beq te.size u.size with
          | true => .need (I.same n' m') (.need (I.cutb 0 n' (I.len l)) (okc (.sub u k 0 n')))
          | false => .no)
        | none => .no)
      | _, _ => .no)
    | _, _, _, _ => .no
  | .fieldAddr t x f => match T t, oneC (st.eval x) with
    | some e, some c => (match e.ty with
      | .struct fs => (match nth fs f with
        | some (o, tf) => (match T tf with
          | some te => (match Nat.blt 0 te.size, c with
            | true, .ptr k off => okc (.ptr k (off + o))
            | true, .ept u k i off => okc (.ept u k i (off + o))
            | true, .fpt u l i off => okc (.fpt u l i (off + o))
            | _, _ => .no)
          | none => .no)
        | none => .no)
      | _ => .no)
    | _, _ => .no
  | .field t x f => match T t, st.eval x with
    | some e, some (.v (.agg cs)) => fieldQ T e.ty f cs
    | _, _ => .no
  | .indexAddr t x i => match T t, oneC (st.eval x), intC (st.eval i) with | some e, some c, some n => indexAddrQ I T st.hp e.ty c n | _, _, _ => .no
  | .index t x i => match T t, st.eval x, intC (st.eval i) with
    | some e, some (.v (.one (.p (.str l)))), some n => (match e.ty with | .str => .need (I.inb n (I.len l)) (okp (.int .u8 (I.b2i (I.get l 0 n)))) | _ => .no)
    | _, _, _ => .no
  | .extract x i => match st.eval x with
    | some (.tup l) => (match nth l i with | some v => .ok (.v v) | none => .no)
    | _ => .no
  | .build t parts => match T t with | some e => buildQ T e (parts.toList.map fun p => (p.1, st.eval p.2)) | none => .no
  | .call c => match c.callee, c.args.toList with
    | .builtin .len, [x] => (match oneC (st.eval x), c.argTypes.toList with | some v, [t] => (match T t with | some e => (match lenQ I st.hp e.ty v with | some n => okp (.int .i64 n) | none => .no) | none => .no) | _, _ => .no)
    | .builtin .cap, [x] => (match oneC (st.eval x), c.argTypes.toList with | some .nilS, [t] => (match T t with | some ⟨.slice _, _, _, _, _⟩ => okp (.int .i64 0) | _ => .no) | _, _ => .no)
    | .builtin .min, [x, y] => (match oneC (st.eval x), oneC (st.eval y) with | some (.p (.int k a)), some (.p (.int k' b)) => (match kindB k k' with | true => okp (.int k (I.imin a b)) | false => .no) | _, _ => .no)
    | .builtin .max, [x, y] => (match oneC (st.eval x), oneC (st.eval y) with | some (.p (.int k a)), some (.p (.int k' b)) => (match kindB k k' with | true => okp (.int k (I.imax a b)) | false => .no) | _, _ => .no)
    | _, _ => .no
  | _ => .no
end Go.Ab
