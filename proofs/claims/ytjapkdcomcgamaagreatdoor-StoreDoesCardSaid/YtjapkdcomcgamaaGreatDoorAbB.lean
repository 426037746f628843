/- An abstract machine for the walks (part 2): states, and what they stand for. -/
import Derived.Test.YtjapkdcomcgamaaGreatDoorHeap
import Derived.Deep.Slices
set_option linter.all false
namespace Go.Ab
open Go Go.Sep

abbrev Str := List UInt8

/-! ### the plain data of the program -/
structure Fld where (name value : Str)
  deriving DecidableEq
structure Hd where (method target : Str) (minor : Int) (fields : List Fld) (length : Int)
  deriving DecidableEq
structure Prt where (name file type bytes : Str)
  deriving DecidableEq
structure Evt where (kind : Int) (head : Hd) (bytes : Str) (part : Prt) (code : Int)
  deriving DecidableEq
structure Upl where (id size : Int) (note bytes : Str) (sent : Int)
  deriving DecidableEq
structure Ent where (kind id n : Int) (text : Str)
  deriving DecidableEq
structure Stp where (kind conn n : Int) (bytes : Str)
  deriving DecidableEq
structure Ask where (h : Hd) (body : Str)
  deriving DecidableEq
structure Cal where (conn : Int) (gone : Bool) (b : Str)
  deriving DecidableEq
structure Tri where (code : Int) (bytes up : Str)
  deriving DecidableEq
structure Lst where (op n : Int) (b : Str)
  deriving DecidableEq
structure Sst where (op id n : Int) (text : Str)
  deriving DecidableEq
structure Num3 where (a b c : Int)
  deriving DecidableEq
structure Rpl where (status : Int) (fields : List Fld) (body : Str)
  deriving DecidableEq
structure Med where (word : Str) (params : List Fld)
  deriving DecidableEq

/-- Element types. -/
inductive U where
  | byte | int | str | fld | bytes | hd | prt | evt | upl | ent | stp | ask | cal | tri | lst | sst | upls | strs | rpl | med
  deriving DecidableEq

@[reducible] def U.den : U → Type
  | .byte => UInt8 | .int => Int | .str => Str | .fld => Fld | .bytes => Str | .hd => Hd | .prt => Prt | .evt => Evt | .upl => Upl
  | .ent => Ent | .stp => Stp | .ask => Ask | .cal => Cal | .tri => Tri | .lst => Lst | .sst => Sst | .upls => List Upl | .strs => List Str | .rpl => Rpl | .med => Med

def U.size : U → Nat
  | .byte => 1 | .int => 1 | .str => 1 | .fld => 2 | .bytes => 1 | .hd => 5 | .prt => 4 | .evt => 12 | .upl => 5
  | .ent => 4 | .stp => 4 | .ask => 6 | .cal => 3 | .tri => 3 | .lst => 3 | .sst => 4 | .upls => 1 | .strs => 1 | .rpl => 3 | .med => 2

/-- The operations on leaves. In a walk they are a variable, so that they are not unfolded. -/
structure Alg where
  b2i : UInt8 → Int
  i2b : Int → UInt8
  add : Int → Int → Int
  sub : Int → Int → Int
  mul : Int → Int → Int
  quo : Int → Int → Int
  rem : Int → Int → Int
  bits : BinOp → IntKind → Int → Int → Int
  shl : IntKind → Int → Int → Int
  shr : Int → Int → Int
  wrap : IntKind → Int → Int
  imin : Int → Int → Int
  imax : Int → Int → Int
  ilt : Int → Int → Bool
  ile : Int → Int → Bool
  ieq : Int → Int → Bool
  bnot : Bool → Bool
  beq : Bool → Bool → Bool
  ban : Bool → Bool → Bool
  seq : Str → Str → Bool
  len : {α : Type} → List α → Int
  app : {α : Type} → List α → List α → List α
  cut : {α : Type} → List α → Int → Int → List α
  get : {α : Type} → List α → α → Int → α
  set : {α : Type} → List α → Int → α → List α
  rep : {α : Type} → Int → α → List α
  inr : IntKind → Int → Prop
  inb : Int → Int → Prop
  cutb : Int → Int → Int → Prop
  same : {α : Type} → α → α → Prop
  few : Int → Int → Prop
  nne : Int → Prop
  nng : Int → Prop
  hid : {α : Type} → α → α

def alg : Alg where
  b2i c := (c.toNat : Int)
  i2b n := UInt8.ofNat n.toNat
  add x y := x + y
  sub x y := x - y
  mul x y := x * y
  quo x y := x.tdiv y
  rem x y := x.tmod y
  bits op k x y := k.wrap (match op with
    | .and => (BitVec.ofInt k.bits x &&& BitVec.ofInt k.bits y).toNat
    | .or => (BitVec.ofInt k.bits x ||| BitVec.ofInt k.bits y).toNat
    | _ => (BitVec.ofInt k.bits x ^^^ BitVec.ofInt k.bits y).toNat : Nat)
  shl k x y := k.wrap (x * 2 ^ (min y.toNat k.bits))
  shr x y := x.fdiv (2 ^ (min y.toNat 64))
  wrap k n := k.wrap n
  imin x y := if x ≤ y then x else y
  imax x y := if x ≤ y then y else x
  ilt x y := decide (x < y)
  ile x y := decide (x ≤ y)
  ieq x y := x == y
  bnot b := !b
  beq a b := a == b
  ban a b := a && b
  seq x y := x == y
  len l := (l.length : Int)
  app x y := x ++ y
  cut l a b := (l.drop a.toNat).take (b.toNat - a.toNat)
  get l d i := l.getD i.toNat d
  set l i x := l.set i.toNat x
  rep n x := List.replicate n.toNat x
  inr k n := k.min ≤ n ∧ n ≤ k.max
  inb i n := 0 ≤ i ∧ i < n
  cutb l h n := 0 ≤ l ∧ l ≤ h ∧ h ≤ n
  same x y := x = y
  few n m := n ≤ m
  nne n := n ≠ 0
  nng n := 0 ≤ n
  hid x := x

/-- Pure cells: they lead to no memory that may turn. -/
inductive P where
  | int (k : IntKind) (n : Int)
  | bool (b : Bool)
  | str (l : Str)
  | list (u : U) (l : List u.den)
  | val (v : Value)

def encFld (f : Fld) : List P := [.str f.name, .str f.value]
def encHd (h : Hd) : List P := [.str h.method, .str h.target, .int .i64 h.minor, .list .fld h.fields, .int .i64 h.length]
def encPrt (p : Prt) : List P := [.str p.name, .str p.file, .str p.type, .list .byte p.bytes]
def encUpl (x : Upl) : List P := [.int .i64 x.id, .int .i64 x.size, .str x.note, .list .byte x.bytes, .int .i64 x.sent]

def enc (I : Alg) : (u : U) → u.den → List P
  | .byte, c => [.int .u8 (I.b2i c)]
  | .int, n => [.int .i64 n]
  | .str, s => [.str s]
  | .fld, (f : Fld) => encFld f
  | .bytes, (b : Str) => [.list .byte b]
  | .hd, (h : Hd) => encHd h
  | .prt, (p : Prt) => encPrt p
  | .evt, (e : Evt) => .int .i64 e.kind :: (encHd e.head ++ .list .byte e.bytes :: (encPrt e.part ++ [.int .i64 e.code]))
  | .upl, (x : Upl) => encUpl x
  | .ent, (x : Ent) => [.int .i64 x.kind, .int .i64 x.id, .int .i64 x.n, .list .byte x.text]
  | .stp, (x : Stp) => [.int .i64 x.kind, .int .i64 x.conn, .int .i64 x.n, .list .byte x.bytes]
  | .ask, (x : Ask) => encHd x.h ++ [.list .byte x.body]
  | .cal, (x : Cal) => [.int .i64 x.conn, .bool x.gone, .list .byte x.b]
  | .tri, (x : Tri) => [.int .i64 x.code, .list .byte x.bytes, .list .byte x.up]
  | .lst, (x : Lst) => [.int .i64 x.op, .int .i64 x.n, .list .byte x.b]
  | .sst, (x : Sst) => [.int .i64 x.op, .int .i64 x.id, .int .i64 x.n, .str x.text]
  | .upls, (l : List Upl) => [.list .upl l]
  | .strs, (l : List Str) => [.list .str l]
  | .rpl, (x : Rpl) => [.int .i64 x.status, .list .fld x.fields, .list .byte x.body]
  | .med, (x : Med) => [.str x.word, .list .fld x.params]

theorem enc_length (I : Alg) (u : U) (x : u.den) : (enc I u x).length = u.size := by
  cases u <;> simp [enc, U.size, encFld, encHd, encPrt, encUpl]

/-- One that fits, whatever. -/
def dflt : (u : U) → u.den
  | .byte => (0 : UInt8) | .int => (0 : Int) | .str => ([] : Str) | .fld => ⟨[], []⟩ | .bytes => ([] : Str) | .hd => ⟨[], [], 0, [], 0⟩ | .prt => ⟨[], [], [], []⟩
  | .evt => ⟨0, ⟨[], [], 0, [], 0⟩, [], ⟨[], [], [], []⟩, 0⟩ | .upl => ⟨0, 0, [], [], 0⟩ | .ent => ⟨0, 0, 0, []⟩ | .stp => ⟨0, 0, 0, []⟩ | .ask => ⟨⟨[], [], 0, [], 0⟩, []⟩
  | .cal => ⟨0, false, []⟩ | .tri => ⟨0, [], []⟩ | .lst => ⟨0, 0, []⟩ | .sst => ⟨0, 0, 0, []⟩ | .upls => ([] : List Upl) | .strs => ([] : List Str) | .rpl => ⟨0, [], []⟩ | .med => ⟨[], []⟩

/-- An element out of its cells. -/
def dec (I : Alg) (u : U) (cs : List P) : Option u.den :=
  match u, cs with
  | .byte, [.int .u8 n] => some (I.i2b n)
  | .int, [.int .i64 n] => some n
  | .str, [.str s] => some s
  | .fld, [.str a, .str b] => some (⟨a, b⟩ : Fld)
  | .bytes, [.list .byte b] => some b
  | .hd, [.str a, .str b, .int .i64 m, .list .fld f, .int .i64 n] => some (⟨a, b, m, f, n⟩ : Hd)
  | .prt, [.str a, .str b, .str c, .list .byte d] => some (⟨a, b, c, d⟩ : Prt)
  | .evt, [.int .i64 k, .str a, .str b, .int .i64 m, .list .fld f, .int .i64 n, .list .byte bs, .str x, .str y, .str z, .list .byte t, .int .i64 c] => some (⟨k, ⟨a, b, m, f, n⟩, bs, ⟨x, y, z, t⟩, c⟩ : Evt)
  | .upl, [.int .i64 a, .int .i64 b, .str c, .list .byte d, .int .i64 e] => some (⟨a, b, c, d, e⟩ : Upl)
  | .ent, [.int .i64 a, .int .i64 b, .int .i64 c, .list .byte d] => some (⟨a, b, c, d⟩ : Ent)
  | .stp, [.int .i64 a, .int .i64 b, .int .i64 c, .list .byte d] => some (⟨a, b, c, d⟩ : Stp)
  | .ask, [.str a, .str b, .int .i64 m, .list .fld f, .int .i64 n, .list .byte t] => some (⟨⟨a, b, m, f, n⟩, t⟩ : Ask)
  | .cal, [.int .i64 a, .bool b, .list .byte c] => some (⟨a, b, c⟩ : Cal)
  | .tri, [.int .i64 a, .list .byte b, .list .byte c] => some (⟨a, b, c⟩ : Tri)
  | .lst, [.int .i64 a, .int .i64 b, .list .byte c] => some (⟨a, b, c⟩ : Lst)
  | .sst, [.int .i64 a, .int .i64 b, .int .i64 c, .str d] => some (⟨a, b, c, d⟩ : Sst)
  | .upls, [.list .upl l] => some l
  | .strs, [.list .str l] => some l
  | .rpl, [.int .i64 a, .list .fld f, .list .byte b] => some (⟨a, f, b⟩ : Rpl)
  | .med, [.str a, .list .fld f] => some (⟨a, f⟩ : Med)
  | _, _ => none

/-- What must hold that the cells are those of the element that they were read as. -/
def decNeed (I : Alg) (u : U) (cs : List P) : Option Prop :=
  match u, cs with
  | .byte, [.int .u8 n] => some (I.inr .u8 n)
  | _, _ => none

theorem i2b_b2i {n : Int} (h : IntKind.u8.min ≤ n ∧ n ≤ IntKind.u8.max) : ((UInt8.ofNat n.toNat).toNat : Int) = n := by
  have h1 : IntKind.u8.min = 0 := rfl
  have h2 : IntKind.u8.max = 255 := by decide
  rw [h1, h2] at h
  have : n.toNat < 256 := by omega
  rw [UInt8.toNat_ofNat', Nat.mod_eq_of_lt this]
  omega

theorem dec_enc {u : U} {cs : List P} {x : u.den} (h : dec alg u cs = some x) (hn : ∀ p, decNeed alg u cs = some p → p) : enc alg u x = cs := by
  unfold dec at h
  split at h
  case h_1 n =>
    cases h
    exact congrArg (fun m => [P.int .u8 m]) (i2b_b2i (hn _ rfl))
  all_goals (cases h <;> rfl)

/-! ### machines whose objects have more than one form: what they are known by -/
/-- Lines of a stream. -/
structure Ln where
  b : Str
  cr : Bool
  code : Int
  deriving DecidableEq
/-- A body in chunks. -/
structure Ch where
  ln : Ln
  pos : Int
  left : Int
  all : Int
  tails : Int
  code : Int
/-- A parser of requests; own: the fields' row is its own still. -/
structure Rq where
  ln : Ln
  pos : Int
  h : Hd
  left : Int
  ck : Option Ch
  own : Bool
  out : List Evt
/-- A form. -/
structure Fm where
  mark : Str
  held : Int
  bs : List Int
  pos : Int
  ln : Option Ln
  fields : List Fld
  parts : Int
  skip : Int
  code : Int
  out : List Evt
/-- A connection. -/
structure Cn where
  q : Rq
  h : Hd
  body : Str
  live : Bool
/-- The document's connection. -/
structure Cl where
  b : Str
  n : Int
  dead : Bool
inductive Gh where
  | rq (q : Rq)
  | fm (f : Fm)
  | cn (c : Cn)
  | cl (c : Cl)

/-! ### cells that may lead to memory of this call -/
/-- What a closure captured. -/
inductive Cap where
  | p (x : P)
  | ptr (k off : Nat)
inductive C where
  | p (x : P)
  | ptr (k off : Nat)
  | ept (u : U) (k : Nat) (i : Int) (off : Nat)
  | fpt (u : U) (l : List u.den) (i : Int) (off : Nat)
  | row (k : Nat)
  | sub (u : U) (k : Nat) (lo hi : Int)
  | nilS
  | fn (f : Nat) (caps : List Cap)
  | ifc (T : Nat) (agg : Bool) (cs : List P)
  | any

/-- Values: a cell, or cells one behind the other. -/
inductive V0 where
  | one (c : C)
  | agg (cs : List C)
inductive D where
  | v (x : V0)
  | tup (l : List V0)
  | bad

inductive HO where
  | obj (T : Nat) (cs : List C)
  | row (u : U) (E : Nat) (l : List u.den)
  | pack (l : List HO)
  | gone
  | abs (g : Gh)

/-! ### memory that never turns again -/
/-- What is so of every world that comes up: tables of Go's library that are laid. -/
class Facts where
  p : World → Prop
  /-- what such a machine's object is -/
  sh : Gh → List HO
  /-- and what machine's object it is -/
  ab : List HO → Option Gh
  abok : ∀ l g, ab l = some g → sh g = l
variable [Facts]
structure Frz where
  blk : Nat → Option Obj
  os : Os
  tape : Nat → Question → Nat
  output : Array (Nat × ByteArray)
  ok : ∀ w : World, (w.os = os ∧ w.tape = tape ∧ w.output = output ∧ ∀ k o, blk k = some o → w.heap[k]? = some o) → Facts.p w
/-- More memory, or other memory beside. -/
def Frz.re (S S2 : Frz) (blk : Nat → Option Obj) (h1 : S2.os = S.os) (h2 : S2.tape = S.tape) (h3 : S2.output = S.output) (h4 : ∀ k o, S.blk k = some o → blk k = some o) : Frz :=
  ⟨blk, S2.os, S2.tape, S2.output, fun w hw => S.ok w ⟨hw.1.trans h1, hw.2.1.trans h2, hw.2.2.1.trans h3, fun k o ho => hw.2.2.2 k o (h4 k o ho)⟩⟩

def frzC (S : Frz) : Chunk where
  holds w F := (∀ k, F k ↔ (S.blk k).isSome = true) ∧ w.os = S.os ∧ w.tape = S.tape ∧ w.output = S.output ∧ ∀ k o, S.blk k = some o → w.heap[k]? = some o
  lt := by
    rintro w F ⟨hF, _, _, _, h⟩ k hk
    have := (hF k).1 hk
    obtain ⟨o, ho⟩ := Option.isSome_iff_exists.1 this
    exact (Array.getElem?_eq_some_iff.1 (h k o ho)).1
  keep := by
    rintro w w' F ⟨hF, h1, h2, h3, h⟩ hk
    refine ⟨hF, hk.os.trans h1, hk.tape.trans h2, hk.output.trans h3, fun k o ho => ?_⟩
    rw [hk.block k ((hF k).2 (by rw [ho]; rfl))]
    exact h k o ho

def Frz.le (S S' : Frz) : Prop := S'.os = S.os ∧ S'.tape = S.tape ∧ S'.output = S.output ∧ ∀ k o, S.blk k = some o → S'.blk k = some o
theorem Frz.le.refl (S : Frz) : S.le S := ⟨rfl, rfl, rfl, fun _ _ h => h⟩
theorem Frz.le.trans {A B C : Frz} (h : A.le B) (k : B.le C) : A.le C :=
  ⟨k.1.trans h.1, k.2.1.trans h.2.1, k.2.2.1.trans h.2.2.1, fun i o ho => k.2.2.2 i o (h.2.2.2 i o ho)⟩

/-- The world holds what S says. -/
def Frz.on (S : Frz) (w : World) : Prop := w.os = S.os ∧ w.tape = S.tape ∧ w.output = S.output ∧ ∀ k o, S.blk k = some o → w.heap[k]? = some o
theorem Frz.on.mono {S S' : Frz} {w : World} (h : S'.on w) (hle : S.le S') : S.on w :=
  ⟨h.1.trans hle.1, h.2.1.trans hle.2.1, h.2.2.1.trans hle.2.2.1, fun k o ho => h.2.2.2 k o (hle.2.2.2 k o ho)⟩
theorem Frz.on.facts {S : Frz} {w : World} (h : S.on w) : Facts.p w := S.ok w h
theorem At.frz {S : Frz} {l : List Chunk} {w : World} (H : At w (frzC S :: l)) : S.on w := by
  obtain ⟨A, h⟩ := H.head; exact h.2

/-- The slice v of n elements reads so wherever S holds. -/
def RdS (S : Frz) (size : Nat) (v : Value) (n : Nat) (cs : List Value) : Prop := ∀ w, S.on w → Rd w size v n cs
theorem RdS.mono {S S' : Frz} {size : Nat} {v : Value} {n : Nat} {cs : List Value} (h : RdS S size v n cs) (hle : S.le S') : RdS S' size v n cs :=
  fun w hw => h w (hw.mono hle)

/-- What a pure cell stands for. -/
inductive MP (S : Frz) : P → Value → Prop
  | int (k : IntKind) (n : Int) : MP S (.int k n) (.int k n)
  | bool (b : Bool) : MP S (.bool b) (.bool b)
  | str (l : Str) (h : l.length ≤ maxLen) : MP S (.str l) (.string (Sep.S l))
  | list (u : U) (l : List u.den) (ao : Option Addr) (cap : Nat) (vs : List Value) (hlen : vs.length = l.length * u.size) (h : RdS S u.size (.slice ao l.length cap) l.length vs)
      (hx : ∀ (i : Nat) (x : u.den) (j : Nat) (p : P) (v : Value), l[i]? = some x → (enc alg u x)[j]? = some p → vs[i * u.size + j]? = some v → MP S p v) : MP S (.list u l) (.slice ao l.length cap)
  | val (v : Value) (h : v.oneCell' = true) : MP S (.val v) v

theorem MP.one {S : Frz} {p : P} {v : Value} (h : MP S p v) : v.oneCell' = true := by cases h <;> first | rfl | assumption
theorem MP.mono {S S' : Frz} (hle : S.le S') {p : P} {v : Value} (h : MP S p v) : MP S' p v := by
  induction h with
  | int k n => exact .int k n
  | bool b => exact .bool b
  | str l h => exact .str l h
  | list u l ao cap vs hlen h hx ih => exact .list u l ao cap vs hlen (h.mono hle) ih
  | val v h => exact .val v h

def MPs (S : Frz) : List P → List Value → Prop
  | [], [] => True
  | p :: ps, v :: vs => MP S p v ∧ MPs S ps vs
  | _, _ => False

/-- The concrete heap. -/
inductive CO where
  | obj (b T : Nat) (vs : List Value)
  | row (E size : Nat) (ao : Option Addr) (n cap : Nat) (vs : List Value)
  | pack (l : List CO)
  | gone (v : Value)

mutual
def CO.base : CO → Value
  | .obj b _ _ => .pointer (some ⟨b, 0, none⟩)
  | .row _ _ ao n cap _ => .slice ao n cap
  | .pack l => CO.baseL l
  | .gone v => v
def CO.baseL : List CO → Value
  | [] => undef
  | c :: _ => c.base
end
mutual
def CO.chunk : CO → Chunk
  | .obj b T vs => objC b T vs
  | .row E size ao n cap vs => rowC E size (.slice ao n cap) n vs
  | .pack l => sepC (CO.chunkL l)
  | .gone _ => pureC True
def CO.chunkL : List CO → List Chunk
  | [] => []
  | c :: l => c.chunk :: CO.chunkL l
end
theorem CO.chunkL_eq (l : List CO) : CO.chunkL l = l.map CO.chunk := by
  induction l with
  | nil => rfl
  | cons c l ih => simp [CO.chunkL, ih]

/-- v is the part from l to h of a slice at ao of n elements. -/
def SubOf (size : Nat) (ao : Option Addr) (n cap l h : Nat) (v : Value) : Prop :=
  ∃ ao' cap', v = .slice ao' (h - l) cap' ∧ l ≤ h ∧ h ≤ n ∧ h - l ≤ cap' ∧ cap' ≤ maxLen ∧ (ao' = none → cap' = 0) ∧ (l < h → ao' = ao.map (·.add (l * size))) ∧ (l = 0 → ao' = ao ∧ cap' ≤ cap)
theorem map_add0 (ao : Option Addr) (k : Nat) (h : k = 0) : ao.map (·.add k) = ao := by
  subst h
  cases ao with
  | none => rfl
  | some a => rfl

theorem SubOf.mk {w : World} {size : Nat} {ao : Option Addr} {n cap l h : Nat} {cs : List Value} (hr : Rd w size (.slice ao n cap) n cs) (h1 : l ≤ h) (h2 : h ≤ n) : SubOf size ao n cap l h (Sep.sub (.slice ao n cap) size l h) := by
  obtain ⟨_, _, e, hnc, hcm, hno, _⟩ := hr
  cases e
  refine ⟨_, _, rfl, h1, h2, by omega, by omega, fun e => ?_, fun hlt => if_neg (by omega), fun h0 => ⟨?_, by omega⟩⟩
  case refine_2 => subst h0; rw [map_add0 _ _ (Nat.zero_mul _), ite_self]
  split at e
  · omega
  · cases ao with
    | none => have := hno rfl; omega
    | some a => cases e
theorem SubOf.sub {size : Nat} {ao : Option Addr} {n cap l h : Nat} {v : Value} (hs : SubOf size ao n cap l h v) {l' h' : Nat} (h1 : l' ≤ h') (h2 : h' ≤ h - l) : SubOf size ao n cap (l + l') (l + h') (Sep.sub v size l' h') := by
  obtain ⟨ao', cap', rfl, h3, h4, h5, h6, h7, h8, h9⟩ := hs
  refine ⟨_, _, by unfold Sep.sub; simp only [Nat.add_sub_add_left]; rfl, by omega, by omega, by omega, by omega, fun e => ?_, fun hlt => ?_, fun h0 => ?_⟩
  case refine_3 =>
    obtain ⟨e, hc⟩ := h9 (by omega)
    have : l' = 0 := by omega
    subst this
    rw [map_add0 _ _ (Nat.zero_mul _), ite_self]
    exact ⟨e, by omega⟩
  · split at e
    · have := h7 e; omega
    · cases ao' with
      | none => have := h7 rfl; omega
      | some a => cases e
  · rw [if_neg (by omega), h8 (by omega)]
    cases ao with
    | none => rfl
    | some a => simp only [Option.map_some, Addr.add_add, Nat.add_mul]
theorem SubOf.rd {w : World} {size : Nat} {ao : Option Addr} {n cap l h : Nat} {cs : List Value} {v : Value} (hs : SubOf size ao n cap l h v) (hr : Rd w size (.slice ao n cap) n cs) :
    Rd w size v (h - l) ((cs.drop (l * size)).take ((h - l) * size)) := by
  obtain ⟨ao', cap', rfl, h3, h4, h5, h6, h7, h8, -⟩ := hs
  have hs := hr.sub h3 h4
  have hlen := hs.len
  obtain ⟨_, _, e0, hnc, hcm, hno, _⟩ := hr
  cases e0
  refine ⟨ao', cap', rfl, h5, h6, h7, hlen, fun j u hj => ?_⟩
  have hlt : l < h := by
    have h9 := (List.getElem?_eq_some_iff.1 hj).1
    rw [hlen] at h9
    rcases Nat.eq_zero_or_pos (h - l) with h0 | h0
    · rw [h0] at h9; simp at h9
    · omega
  rw [h8 hlt]
  obtain ⟨_, _, e, _, _, _, _, hc⟩ := hs
  unfold Sep.sub at e
  simp only at e
  rw [if_neg (by omega)] at e
  cases e
  exact hc j u hj

def MCap (S : Frz) (bs : List Value) : Cap → Value → Prop
  | .p x, v => MP S x v
  | .ptr k off, v => ∃ b, bs[k]? = some (.pointer (some ⟨b, 0, none⟩)) ∧ v = .pointer (some ⟨b, off, none⟩)
def MCaps (S : Frz) (bs : List Value) : List Cap → List Value → Prop
  | [], [] => True
  | p :: ps, v :: vs => MCap S bs p v ∧ MCaps S bs ps vs
  | _, _ => False
/-- What a cell stands for, the objects having these bases. -/
def MC (S : Frz) (bs : List Value) : C → Value → Prop
  | .p x, v => MP S x v
  | .ptr k off, v => ∃ b, bs[k]? = some (.pointer (some ⟨b, 0, none⟩)) ∧ v = .pointer (some ⟨b, off, none⟩)
  | .ept u k i off, v => ∃ ao n cap, bs[k]? = some (.slice ao n cap) ∧ 0 ≤ i ∧ v = .pointer (some (adr ao (i.toNat * u.size + off)))
  | .fpt u l i off, v => ∃ ao cap vs, vs.length = l.length * u.size ∧ RdS S u.size (.slice ao l.length cap) l.length vs ∧ (∀ (i : Nat) (x : u.den) (j : Nat) (p : P) (v : Value), l[i]? = some x → (enc alg u x)[j]? = some p → vs[i * u.size + j]? = some v → MP S p v) ∧
      0 ≤ i ∧ v = .pointer (some (adr ao (i.toNat * u.size + off)))
  | .row k, v => bs[k]? = some v ∧ ∃ ao n cap, v = .slice ao n cap
  | .sub u k lo hi, v => ∃ ao n cap, bs[k]? = some (.slice ao n cap) ∧ 0 ≤ lo ∧ 0 ≤ hi ∧ SubOf u.size ao n cap lo.toNat hi.toNat v
  | .nilS, v => v = .slice none 0 0
  | .fn f caps, v => ∃ vs : List Value, MCaps S bs caps vs ∧ v = .func (.func f) #[] vs.toArray
  | .ifc T false [p], v => ∃ x, MP S p x ∧ v = .iface T x
  | .ifc T true ps, v => ∃ vs : List Value, MPs S ps vs ∧ v = .iface T (.agg vs.toArray)
  | .ifc _ _ _, _ => False
  | .any, v => v.oneCell' = true
end Go.Ab
namespace Go.Ab
open Go Go.Sep
variable [Facts]

def MCs (S : Frz) (bs : List Value) : List C → List Value → Prop
  | [], [] => True
  | c :: cs, v :: vs => MC S bs c v ∧ MCs S bs cs vs
  | _, _ => False

def MV (S : Frz) (bs : List Value) : V0 → Value → Prop
  | .one c, v => MC S bs c v
  | .agg cs, v => ∃ vs : List Value, MCs S bs cs vs ∧ v = .agg vs.toArray
def MVs (S : Frz) (bs : List Value) : List V0 → List Value → Prop
  | [], [] => True
  | c :: cs, v :: vs => MV S bs c v ∧ MVs S bs cs vs
  | _, _ => False
def MD (S : Frz) (bs : List Value) : D → Value → Prop
  | .v x, v => MV S bs x v
  | .tup l, v => ∃ vs : List Value, MVs S bs l vs ∧ v = .tuple vs.toArray
  | .bad, _ => True

theorem MPs.length {S : Frz} : ∀ {ps : List P} {vs : List Value}, MPs S ps vs → vs.length = ps.length
  | [], [], _ => rfl
  | _ :: _, _ :: _, h => congrArg (· + 1) (MPs.length h.2)
theorem MCs.length {S : Frz} {bs : List Value} : ∀ {cs : List C} {vs : List Value}, MCs S bs cs vs → vs.length = cs.length
  | [], [], _ => rfl
  | _ :: _, _ :: _, h => congrArg (· + 1) (MCs.length h.2)
theorem MCs.get {S : Frz} {bs : List Value} : ∀ {cs : List C} {vs : List Value}, MCs S bs cs vs → ∀ {j : Nat} {c : C}, cs[j]? = some c → ∃ v, vs[j]? = some v ∧ MC S bs c v
  | [], [], _, j, c, h => by simp at h
  | c :: cs, v :: vs, h, 0, c', e => by simp at e; subst e; exact ⟨v, rfl, h.1⟩
  | c :: cs, v :: vs, h, j + 1, c', e => by
    obtain ⟨u, h1, h2⟩ := MCs.get h.2 (j := j) (c := c') (by simpa using e)
    exact ⟨u, by simpa using h1, h2⟩
theorem MPs.get {S : Frz} : ∀ {cs : List P} {vs : List Value}, MPs S cs vs → ∀ {j : Nat} {c : P}, cs[j]? = some c → ∃ v, vs[j]? = some v ∧ MP S c v
  | [], [], _, j, c, h => by simp at h
  | c :: cs, v :: vs, h, 0, c', e => by simp at e; subst e; exact ⟨v, rfl, h.1⟩
  | c :: cs, v :: vs, h, j + 1, c', e => by
    obtain ⟨u, h1, h2⟩ := MPs.get h.2 (j := j) (c := c') (by simpa using e)
    exact ⟨u, by simpa using h1, h2⟩
theorem MCs.of_get {S : Frz} {bs : List Value} : ∀ {cs : List C} {vs : List Value}, vs.length = cs.length → (∀ (j : Nat) (c : C) (v : Value), cs[j]? = some c → vs[j]? = some v → MC S bs c v) → MCs S bs cs vs
  | [], [], _, _ => trivial
  | c :: cs, v :: vs, hl, h => ⟨h 0 c v rfl rfl, MCs.of_get (by simpa using hl) fun j c' v' h1 h2 => h (j + 1) c' v' (by simpa using h1) (by simpa using h2)⟩
theorem MPs.of_get {S : Frz} : ∀ {cs : List P} {vs : List Value}, vs.length = cs.length → (∀ (j : Nat) (c : P) (v : Value), cs[j]? = some c → vs[j]? = some v → MP S c v) → MPs S cs vs
  | [], [], _, _ => trivial
  | c :: cs, v :: vs, hl, h => ⟨h 0 c v rfl rfl, MPs.of_get (by simpa using hl) fun j c' v' h1 h2 => h (j + 1) c' v' (by simpa using h1) (by simpa using h2)⟩
theorem MPs.mono {S S' : Frz} (hle : S.le S') : ∀ {cs : List P} {vs : List Value}, MPs S cs vs → MPs S' cs vs
  | [], [], _ => trivial
  | _ :: _, _ :: _, h => ⟨h.1.mono hle, MPs.mono hle h.2⟩
theorem MPs.mcs {S : Frz} {bs : List Value} : ∀ {cs : List P} {vs : List Value}, MPs S cs vs → MCs S bs (cs.map C.p) vs
  | [], [], _ => trivial
  | _ :: _, _ :: _, h => ⟨h.1, MPs.mcs h.2⟩
theorem MCs.slice {S : Frz} {bs : List Value} {cs : List C} {vs : List Value} (h : MCs S bs cs vs) (o n : Nat) : MCs S bs ((cs.drop o).take n) ((vs.drop o).take n) := by
  have hl := h.length
  refine MCs.of_get (by simp [hl]) fun j c v hc hv => ?_
  rw [List.getElem?_take] at hc hv
  split at hc
  · rename_i hj
    rw [if_pos hj] at hv
    rw [List.getElem?_drop] at hc hv
    obtain ⟨u, hu, hm⟩ := h.get hc
    rw [hu] at hv; cases hv; exact hm
  · cases hc
theorem MCs.set {S : Frz} {bs : List Value} {cs : List C} {vs : List Value} (h : MCs S bs cs vs) (o : Nat) {c : C} {v : Value} (hc : MC S bs c v) : MCs S bs (cs.set o c) (vs.set o v) := by
  have hl := h.length
  refine MCs.of_get (by simp [hl]) fun j c' v' h1 h2 => ?_
  rw [List.getElem?_set] at h1 h2
  by_cases hj : o = j
  · subst hj
    simp only [if_true] at h1 h2
    split at h1
    · rename_i hlt
      rw [if_pos (by omega)] at h2
      cases h1; cases h2; exact hc
    · cases h1
  · rw [if_neg hj] at h1 h2
    obtain ⟨u, hu, hm⟩ := h.get h1
    rw [hu] at h2; cases h2; exact hm

/-- More bases, more frozen memory: what stood for something stands for it still. -/
def Ext (bs bs' : List Value) : Prop := ∀ (k : Nat) (v : Value), bs[k]? = some v → bs'[k]? = some v
theorem Ext.refl (bs : List Value) : Ext bs bs := fun _ _ h => h
theorem Ext.trans {a b c : List Value} (h : Ext a b) (k : Ext b c) : Ext a c := fun i v hv => k i v (h i v hv)
theorem Ext.append (a b : List Value) : Ext a (a ++ b) := fun k v h => by
  have := (List.getElem?_eq_some_iff.1 h).1
  rw [List.getElem?_append_left this]; exact h

theorem MCap.mono {S S' : Frz} (hle : S.le S') {bs bs' : List Value} (he : Ext bs bs') {c : Cap} {v : Value} (h : MCap S bs c v) : MCap S' bs' c v := by
  cases c with
  | p x => exact MP.mono hle h
  | ptr k off => obtain ⟨b, h1, h2⟩ := h; exact ⟨b, he _ _ h1, h2⟩
theorem MCaps.mono {S S' : Frz} (hle : S.le S') {bs bs' : List Value} (he : Ext bs bs') : ∀ {cs : List Cap} {vs : List Value}, MCaps S bs cs vs → MCaps S' bs' cs vs
  | [], [], _ => trivial
  | _ :: _, _ :: _, h => ⟨h.1.mono hle he, MCaps.mono hle he h.2⟩
theorem MC.mono {S S' : Frz} (hle : S.le S') {bs bs' : List Value} (he : Ext bs bs') : ∀ {c : C} {v : Value}, MC S bs c v → MC S' bs' c v := by
  intro c v h
  cases c with
  | p x => exact MP.mono hle h
  | ptr k off => obtain ⟨b, h1, h2⟩ := h; exact ⟨b, he _ _ h1, h2⟩
  | ept u k i off => obtain ⟨ao, n, cap, h1, h2⟩ := h; exact ⟨ao, n, cap, he _ _ h1, h2⟩
  | fpt u l i off => obtain ⟨ao, cap, vs, h0, h1, h2, h3⟩ := h; exact ⟨ao, cap, vs, h0, h1.mono hle, fun i x j p v a b c => (h2 i x j p v a b c).mono hle, h3⟩
  | row k => exact ⟨he _ _ h.1, h.2⟩
  | sub u k lo hi => obtain ⟨ao, n, cap, h1, h2⟩ := h; exact ⟨ao, n, cap, he _ _ h1, h2⟩
  | nilS => exact h
  | fn f caps => obtain ⟨vs, h1, h2⟩ := h; exact ⟨vs, h1.mono hle he, h2⟩
  | ifc T agg cs =>
    cases agg with
    | false =>
      cases cs with
      | nil => exact h.elim
      | cons p ps =>
        cases ps with
        | nil => obtain ⟨x, h1, h2⟩ := h; exact ⟨x, h1.mono hle, h2⟩
        | cons q qs => exact h.elim
    | true => obtain ⟨vs, h1, h2⟩ := h; exact ⟨vs, h1.mono hle, h2⟩
  | any => exact h
theorem MCs.mono {S S' : Frz} (hle : S.le S') {bs bs' : List Value} (he : Ext bs bs') : ∀ {cs : List C} {vs : List Value}, MCs S bs cs vs → MCs S' bs' cs vs
  | [], [], _ => trivial
  | _ :: _, _ :: _, h => ⟨h.1.mono hle he, MCs.mono hle he h.2⟩
theorem MV.mono {S S' : Frz} (hle : S.le S') {bs bs' : List Value} (he : Ext bs bs') {c : V0} {v : Value} (h : MV S bs c v) : MV S' bs' c v := by
  cases c with
  | one c => exact MC.mono hle he h
  | agg cs => obtain ⟨vs, h1, h2⟩ := h; exact ⟨vs, h1.mono hle he, h2⟩
theorem MVs.mono {S S' : Frz} (hle : S.le S') {bs bs' : List Value} (he : Ext bs bs') : ∀ {cs : List V0} {vs : List Value}, MVs S bs cs vs → MVs S' bs' cs vs
  | [], [], _ => trivial
  | _ :: _, _ :: _, h => ⟨h.1.mono hle he, MVs.mono hle he h.2⟩
theorem MD.mono {S S' : Frz} (hle : S.le S') {bs bs' : List Value} (he : Ext bs bs') {d : D} {v : Value} (h : MD S bs d v) : MD S' bs' d v := by
  cases d with
  | v x => exact MV.mono hle he h
  | tup l => obtain ⟨vs, h1, h2⟩ := h; exact ⟨vs, h1.mono hle he, h2⟩
  | bad => trivial

theorem MC.one {S : Frz} {bs : List Value} {c : C} {v : Value} (h : MC S bs c v) : v.oneCell' = true := by
  cases c with
  | p x => exact MP.one h
  | ptr k off => obtain ⟨b, _, rfl⟩ := h; rfl
  | ept u k i off => obtain ⟨ao, n, cap, _, _, rfl⟩ := h; rfl
  | fpt u l i off => obtain ⟨ao, cap, vs, _, _, _, _, rfl⟩ := h; rfl
  | row k => obtain ⟨_, ao, n, cap, rfl⟩ := h; rfl
  | sub u k lo hi => obtain ⟨ao, n, cap, _, _, _, _, _, rfl, _⟩ := h; rfl
  | nilS => cases h; rfl
  | fn f caps => obtain ⟨vs, _, rfl⟩ := h; rfl
  | ifc T agg cs =>
    cases agg with
    | false =>
      cases cs with
      | nil => exact h.elim
      | cons p ps =>
        cases ps with
        | nil => obtain ⟨x, _, rfl⟩ := h; rfl
        | cons q qs => exact h.elim
    | true => obtain ⟨vs, _, rfl⟩ := h; rfl
  | any => exact h
theorem MCs.one {S : Frz} {bs : List Value} {cs : List C} {vs : List Value} (h : MCs S bs cs vs) : ∀ v ∈ vs, v.oneCell' = true := by
  intro v hv
  obtain ⟨j, hj⟩ := List.getElem?_of_mem hv
  have hl := h.length
  have hlt := (List.getElem?_eq_some_iff.1 hj).1
  obtain ⟨u, hu, hm⟩ := h.get (j := j) (List.getElem?_eq_getElem (by omega))
  rw [hu] at hj; cases hj; exact hm.one

/-- What an object of the abstract heap stands for. -/
inductive Rel (S : Frz) : List Value → HO → CO → Prop
  | obj {bs : List Value} {b T : Nat} {cs : List C} {vs : List Value} (h : MCs S bs cs vs) : Rel S bs (.obj T cs) (.obj b T vs)
  | row {bs : List Value} {u : U} {E : Nat} {l : List u.den} {ao : Option Addr} {cap : Nat} {vs : List Value} (hlen : vs.length = l.length * u.size)
      (hx : ∀ (i : Nat) (x : u.den) (j : Nat) (p : P) (v : Value), l[i]? = some x → (enc alg u x)[j]? = some p → vs[i * u.size + j]? = some v → MP S p v) : Rel S bs (.row u E l) (.row E u.size ao l.length cap vs)
  | pack {bs : List Value} {hs : List HO} {K : List CO} (hl : hs.length = K.length) (h : ∀ (i : Nat) (o : HO) (c : CO), hs[i]? = some o → K[i]? = some c → Rel S (K.map CO.base) o c) : Rel S bs (.pack hs) (.pack K)
  | gone {bs : List Value} {c : CO} : Rel S bs .gone c
  | abs {bs : List Value} {g : Gh} {K : List CO} (hl : (Facts.sh g).length = K.length) (h : ∀ (i : Nat) (o : HO) (c : CO), (Facts.sh g)[i]? = some o → K[i]? = some c → Rel S (K.map CO.base) o c) : Rel S bs (.abs g) (.pack K)

theorem Rel.mono {S S' : Frz} (hle : S.le S') {bs : List Value} {o : HO} {c : CO} (h : Rel S bs o c) : ∀ {bs' : List Value}, Ext bs bs' → Rel S' bs' o c := by
  induction h with
  | obj h => intro bs' he; exact .obj (h.mono hle he)
  | row hlen hx => intro bs' _; exact .row hlen fun i x j p v a b c => (hx i x j p v a b c).mono hle
  | pack hl h ih => intro bs' _; exact .pack hl fun i o c a b => ih i o c a b (Ext.refl _)
  | gone => intro bs' _; exact .gone
  | abs hl h ih => intro bs' _; exact .abs hl fun i o c a b => ih i o c a b (Ext.refl _)
/-- One form or the other. -/
theorem Rel.abs_iff {S : Frz} {bs : List Value} {g : Gh} {c : CO} : Rel S bs (.abs g) c ↔ Rel S bs (.pack (Facts.sh g)) c := by
  constructor
  · intro h; cases h with | abs a b => exact .pack a b
  · intro h; cases h with | pack a b => exact .abs a b
def partsOf : HO → List HO
  | .pack l => l
  | .abs g => Facts.sh g
  | _ => []
theorem Rel.parts {S : Frz} {bs : List Value} {o : HO} {c : CO} (h : Rel S bs o c) {h0 : HO} {hs : List HO} (hp : partsOf o = h0 :: hs) :
    ∃ K, c = .pack K ∧ (h0 :: hs).length = K.length ∧ ∀ (i : Nat) (o : HO) (c : CO), (h0 :: hs)[i]? = some o → K[i]? = some c → Rel S (K.map CO.base) o c := by
  cases h with
  | obj h => cases hp
  | row a b => cases hp
  | gone => cases hp
  | pack a b => simp only [partsOf] at hp; subst hp; exact ⟨_, rfl, a, b⟩
  | abs a b => simp only [partsOf] at hp; rw [hp] at a b; exact ⟨_, rfl, a, b⟩
def packAb (l : List HO) : HO := match Facts.ab l with | some g => .abs g | none => .pack l
theorem Rel.packAb {S : Frz} {bs : List Value} {l : List HO} {c : CO} (h : Rel S bs (.pack l) c) : Rel S bs (packAb l) c := by
  unfold Ab.packAb
  split
  · rename_i g hg; rw [Rel.abs_iff, Facts.abok _ _ hg]; exact h
  · exact h
def unabs1 : HO → HO
  | .abs g => .pack (Facts.sh g)
  | o => o
def unabs : List HO → List HO
  | [] => []
  | o :: r => unabs1 o :: unabs r
theorem unabs1_iff {S : Frz} {bs : List Value} {o : HO} {c : CO} : Rel S bs (unabs1 o) c ↔ Rel S bs o c := by
  cases o <;> first | exact Iff.rfl | exact Rel.abs_iff.symm
theorem unabs_get : ∀ {l : List HO} {i : Nat}, (unabs l)[i]? = (l[i]?).map unabs1
  | [], i => by simp [unabs]
  | o :: r, 0 => by simp [unabs]
  | o :: r, i + 1 => by simp [unabs, unabs_get (l := r)]
theorem unabs_length : ∀ (l : List HO), (unabs l).length = l.length
  | [] => rfl
  | o :: r => congrArg (· + 1) (unabs_length r)

def HR (S : Frz) (bs : List Value) (hp : List HO) (K : List CO) : Prop := hp.length = K.length ∧ ∀ (i : Nat) (o : HO) (c : CO), hp[i]? = some o → K[i]? = some c → Rel S bs o c
theorem HR.unabs_iff {S : Frz} {bs : List Value} {hp : List HO} {K : List CO} : HR S bs (unabs hp) K ↔ HR S bs hp K := by
  unfold HR
  rw [unabs_length]
  refine and_congr Iff.rfl ⟨fun h i o c a b => ?_, fun h i o c a b => ?_⟩
  · exact unabs1_iff.1 (h i _ c (by rw [unabs_get, a]; rfl) b)
  · rw [unabs_get, Option.map_eq_some_iff] at a
    obtain ⟨o', h1, rfl⟩ := a
    exact unabs1_iff.2 (h i o' c h1 b)
theorem HR.mono {S S' : Frz} (hle : S.le S') {bs bs' : List Value} (he : Ext bs bs') {hp : List HO} {K : List CO} (h : HR S bs hp K) : HR S' bs' hp K :=
  ⟨h.1, fun i o c a b => (h.2 i o c a b).mono hle he⟩
theorem HR.get {S : Frz} {bs : List Value} {hp : List HO} {K : List CO} (h : HR S bs hp K) {k : Nat} {o : HO} (ho : hp[k]? = some o) : ∃ c, K[k]? = some c ∧ Rel S bs o c := by
  have hlt := (List.getElem?_eq_some_iff.1 ho).1
  have : k < K.length := by rw [← h.1]; exact hlt
  exact ⟨K[k], List.getElem?_eq_getElem this, h.2 k o _ ho (List.getElem?_eq_getElem this)⟩

/-- The abstract state: slots, objects, how many slots. -/
structure St where
  env : List (Nat × D)
  hp : List HO
  n : Nat
  /-- what is deferred: a closure -/
  df : Option (Nat × List Cap) := none

def look : List (Nat × D) → Nat → Option D
  | [], _ => none
  | (k, d) :: r, t => match Nat.beq k t with | true => some d | false => look r t
theorem look_cons (k : Nat) (d : D) (r : List (Nat × D)) (t : Nat) : look ((k, d) :: r) t = if k = t then some d else look r t := by
  simp only [look]
  split
  · rename_i h; rw [if_pos (Nat.eq_of_beq_eq_true h)]
  · rename_i h; rw [if_neg (Nat.ne_of_beq_eq_false h)]

def MDf (S : Frz) (bs : List Value) : Option (Nat × List Cap) → List Deferred → Prop
  | none, ds => ds = []
  | some (g, caps), ds => ∃ vs : List Value, MCaps S bs caps vs ∧ ds = [⟨.fn (.func g) vs.toArray, #[]⟩]
theorem MDf.mono {S S' : Frz} (hle : S.le S') {bs bs' : List Value} (he : Ext bs bs') : ∀ {df : Option (Nat × List Cap)} {ds : List Deferred}, MDf S bs df ds → MDf S' bs' df ds
  | none, _, h => h
  | some (_, _), _, ⟨vs, h, e⟩ => ⟨vs, h.mono hle he, e⟩
structure Env (S : Frz) (bs : List Value) (st : St) (a : Act) : Prop where
  size : a.tmps.size = st.n
  defers : MDf S bs st.df a.defers
  slots : ∀ t d, look st.env t = some d → MD S bs d (a.tmps.getD t undef)

theorem Env.mono {S S' : Frz} (hle : S.le S') {bs bs' : List Value} (he : Ext bs bs') {st : St} {a : Act} (h : Env S bs st a) : Env S' bs' st a :=
  ⟨h.size, h.defers.mono hle he, fun t d hd => (h.slots t d hd).mono hle he⟩

/-- What is fixed while a function runs: the memory that was frozen when it began, the bases of its arguments' objects, the chunks that it never touches. -/
structure Ctx where
  S0 : Frz
  bs0 : List Value
  fr : List Chunk

/-- What a state stands for. -/
def Heap (X : Ctx) (hp : List HO) (S : Frz) (K : List CO) (w : World) : Prop :=
  X.S0.le S ∧ Ext X.bs0 (K.map CO.base) ∧ HR S (K.map CO.base) hp K ∧ At w (frzC S :: (CO.chunkL K ++ X.fr))
def Conc (X : Ctx) (st : St) (a : Act) (w : World) : Prop :=
  ∃ S K, Heap X st.hp S K w ∧ Env S (K.map CO.base) st a
end Go.Ab
