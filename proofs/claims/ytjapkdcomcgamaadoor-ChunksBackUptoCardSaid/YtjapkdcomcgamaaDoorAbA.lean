/- An abstract machine for the walks (part 1): abstract data, an abstract heap, and what they stand for. -/
import Derived.Test.YtjapkdcomcgamaaDoorHeap
import Derived.Deep.Slices
set_option linter.all false
namespace Go.Ab
open Go Go.Sep

abbrev Str := List UInt8

/-! ### the plain data of the program -/
structure Fld where (name value : Str)
  deriving DecidableEq
structure Hd where (method target : Str) (minor : Int) (fields : List Fld) (length : Int)
  deriving DecidableEq
structure Prt where (name file type bytes : Str)
  deriving DecidableEq
structure Evt where (kind : Int) (head : Hd) (bytes : Str) (part : Prt) (code : Int)
  deriving DecidableEq
structure Upl where (id size : Int) (note bytes : Str) (sent : Int)
  deriving DecidableEq
structure Ent where (kind id n : Int) (text : Str)
  deriving DecidableEq
structure Stp where (kind conn n : Int) (bytes : Str)
  deriving DecidableEq
structure Ask where (h : Hd) (body : Str)
  deriving DecidableEq
structure Cal where (conn : Int) (gone : Bool) (b : Str)
  deriving DecidableEq
structure Tri where (code : Int) (bytes up : Str)
  deriving DecidableEq
structure Lst where (op n : Int) (b : Str)
  deriving DecidableEq
structure Sst where (op id n : Int) (text : Str)
  deriving DecidableEq
structure Num3 where (a b c : Int)
  deriving DecidableEq
structure Rpl where (status : Int) (fields : List Fld) (body : Str)
  deriving DecidableEq
structure Med where (word : Str) (params : List Fld)
  deriving DecidableEq

/-- Element types. -/
inductive U where
  | byte | int | str | fld | bytes | hd | prt | evt | upl | ent | stp | ask | cal | tri | lst | sst | upls | strs | rpl | med
  deriving DecidableEq

@[reducible] def U.den : U → Type
  | .byte => UInt8 | .int => Int | .str => Str | .fld => Fld | .bytes => Str | .hd => Hd | .prt => Prt | .evt => Evt | .upl => Upl
  | .ent => Ent | .stp => Stp | .ask => Ask | .cal => Cal | .tri => Tri | .lst => Lst | .sst => Sst | .upls => List Upl | .strs => List Str | .rpl => Rpl | .med => Med

def U.size : U → Nat
  | .byte => 1 | .int => 1 | .str => 1 | .fld => 2 | .bytes => 1 | .hd => 5 | .prt => 4 | .evt => 12 | .upl => 5
  | .ent => 4 | .stp => 4 | .ask => 6 | .cal => 3 | .tri => 3 | .lst => 3 | .sst => 4 | .upls => 1 | .strs => 1 | .rpl => 3 | .med => 2

/-- The operations on leaves. In a walk they are a variable, so that they are not unfolded. -/
structure Alg where
  b2i : UInt8 → Int
  i2b : Int → UInt8
  add : Int → Int → Int
  sub : Int → Int → Int
  mul : Int → Int → Int
  quo : Int → Int → Int
  rem : Int → Int → Int
  bits : BinOp → IntKind → Int → Int → Int
  shl : IntKind → Int → Int → Int
  shr : Int → Int → Int
  wrap : IntKind → Int → Int
  imin : Int → Int → Int
  imax : Int → Int → Int
  ilt : Int → Int → Bool
  ile : Int → Int → Bool
  ieq : Int → Int → Bool
  bnot : Bool → Bool
  beq : Bool → Bool → Bool
  ban : Bool → Bool → Bool
  seq : Str → Str → Bool
  len : {α : Type} → List α → Int
  app : {α : Type} → List α → List α → List α
  cut : {α : Type} → List α → Int → Int → List α
  get : {α : Type} → List α → α → Int → α
  set : {α : Type} → List α → Int → α → List α
  rep : {α : Type} → Int → α → List α
  inr : IntKind → Int → Prop
  inb : Int → Int → Prop
  cutb : Int → Int → Int → Prop
  same : {α : Type} → α → α → Prop
  few : Int → Int → Prop
  nne : Int → Prop
  nng : Int → Prop
  hid : {α : Type} → α → α

def alg : Alg where
  b2i c := (c.toNat : Int)
  i2b n := UInt8.ofNat n.toNat
  add x y := x + y
  sub x y := x - y
  mul x y := x * y
  quo x y := x.tdiv y
  rem x y := x.tmod y
  bits op k x y := k.wrap (match op with
    | .and => (BitVec.ofInt k.bits x &&& BitVec.ofInt k.bits y).toNat
    | .or => (BitVec.ofInt k.bits x ||| BitVec.ofInt k.bits y).toNat
    | _ => (BitVec.ofInt k.bits x ^^^ BitVec.ofInt k.bits y).toNat : Nat)
  shl k x y := k.wrap (x * 2 ^ (min y.toNat k.bits))
  shr x y := x.fdiv (2 ^ (min y.toNat 64))
  wrap k n := k.wrap n
  imin x y := if x ≤ y then x else y
  imax x y := if x ≤ y then y else x
  ilt x y := decide (x < y)
  ile x y := decide (x ≤ y)
  ieq x y := x == y
  bnot b := !b
  beq a b := a == b
  ban a b := a && b
  seq x y := x == y
  len l := (l.length : Int)
  app x y := x ++ y
  cut l a b := (l.drop a.toNat).take (b.toNat - a.toNat)
  get l d i := l.getD i.toNat d
  set l i x := l.set i.toNat x
  rep n x := List.replicate n.toNat x
  inr k n := k.min ≤ n ∧ n ≤ k.max
  inb i n := 0 ≤ i ∧ i < n
  cutb l h n := 0 ≤ l ∧ l ≤ h ∧ h ≤ n
  same x y := x = y
  few n m := n ≤ m
  nne n := n ≠ 0
  nng n := 0 ≤ n
  hid x := x

/-- Pure cells: they lead to no memory that may turn. -/
inductive P where
  | int (k : IntKind) (n : Int)
  | bool (b : Bool)
  | str (l : Str)
  | list (u : U) (l : List u.den)
  | val (v : Value)

def encFld (f : Fld) : List P := [.str f.name, .str f.value]
def encHd (h : Hd) : List P := [.str h.method, .str h.target, .int .i64 h.minor, .list .fld h.fields, .int .i64 h.length]
def encPrt (p : Prt) : List P := [.str p.name, .str p.file, .str p.type, .list .byte p.bytes]
def encUpl (x : Upl) : List P := [.int .i64 x.id, .int .i64 x.size, .str x.note, .list .byte x.bytes, .int .i64 x.sent]

def enc (I : Alg) : (u : U) → u.den → List P
  | .byte, c => [.int .u8 (I.b2i c)]
  | .int, n => [.int .i64 n]
  | .str, s => [.str s]
  | .fld, (f : Fld) => encFld f
  | .bytes, (b : Str) => [.list .byte b]
  | .hd, (h : Hd) => encHd h
  | .prt, (p : Prt) => encPrt p
  | .evt, (e : Evt) => .int .i64 e.kind :: (encHd e.head ++ .list .byte e.bytes :: (encPrt e.part ++ [.int .i64 e.code]))
  | .upl, (x : Upl) => encUpl x
  | .ent, (x : Ent) => [.int .i64 x.kind, .int .i64 x.id, .int .i64 x.n, .list .byte x.text]
  | .stp, (x : Stp) => [.int .i64 x.kind, .int .i64 x.conn, .int .i64 x.n, .list .byte x.bytes]
  | .ask, (x : Ask) => encHd x.h ++ [.list .byte x.body]
  | .cal, (x : Cal) => [.int .i64 x.conn, .bool x.gone, .list .byte x.b]
  | .tri, (x : Tri) => [.int .i64 x.code, .list .byte x.bytes, .list .byte x.up]
  | .lst, (x : Lst) => [.int .i64 x.op, .int .i64 x.n, .list .byte x.b]
  | .sst, (x : Sst) => [.int .i64 x.op, .int .i64 x.id, .int .i64 x.n, .str x.text]
  | .upls, (l : List Upl) => [.list .upl l]
  | .strs, (l : List Str) => [.list .str l]
  | .rpl, (x : Rpl) => [.int .i64 x.status, .list .fld x.fields, .list .byte x.body]
  | .med, (x : Med) => [.str x.word, .list .fld x.params]

theorem enc_length (I : Alg) (u : U) (x : u.den) : (enc I u x).length = u.size := by
  cases u <;> simp [enc, U.size, encFld, encHd, encPrt, encUpl]

/-- One that fits, whatever. -/
def dflt : (u : U) → u.den
  | .byte => (0 : UInt8) | .int => (0 : Int) | .str => ([] : Str) | .fld => ⟨[], []⟩ | .bytes => ([] : Str) | .hd => ⟨[], [], 0, [], 0⟩ | .prt => ⟨[], [], [], []⟩
  | .evt => ⟨0, ⟨[], [], 0, [], 0⟩, [], ⟨[], [], [], []⟩, 0⟩ | .upl => ⟨0, 0, [], [], 0⟩ | .ent => ⟨0, 0, 0, []⟩ | .stp => ⟨0, 0, 0, []⟩ | .ask => ⟨⟨[], [], 0, [], 0⟩, []⟩
  | .cal => ⟨0, false, []⟩ | .tri => ⟨0, [], []⟩ | .lst => ⟨0, 0, []⟩ | .sst => ⟨0, 0, 0, []⟩ | .upls => ([] : List Upl) | .strs => ([] : List Str) | .rpl => ⟨0, [], []⟩ | .med => ⟨[], []⟩

/-- An element out of its cells. -/
def dec (I : Alg) (u : U) (cs : List P) : Option u.den :=
  match u, cs with
  | .byte, [.int .u8 n] => some (I.i2b n)
  | .int, [.int .i64 n] => some n
  | .str, [.str s] => some s
  | .fld, [.str a, .str b] => some (⟨a, b⟩ : Fld)
  | .bytes, [.list .byte b] => some b
  | .hd, [.str a, .str b, .int .i64 m, .list .fld f, .int .i64 n] => some (⟨a, b, m, f, n⟩ : Hd)
  | .prt, [.str a, .str b, .str c, .list .byte d] => some (⟨a, b, c, d⟩ : Prt)
  | .evt, [.int .i64 k, .str a, .str b, .int .i64 m, .list .fld f, .int .i64 n, .list .byte bs, .str x, .str y, .str z, .list .byte t, .int .i64 c] => some (⟨k, ⟨a, b, m, f, n⟩, bs, ⟨x, y, z, t⟩, c⟩ : Evt)
  | .upl, [.int .i64 a, .int .i64 b, .str c, .list .byte d, .int .i64 e] => some (⟨a, b, c, d, e⟩ : Upl)
  | .ent, [.int .i64 a, .int .i64 b, .int .i64 c, .list .byte d] => some (⟨a, b, c, d⟩ : Ent)
  | .stp, [.int .i64 a, .int .i64 b, .int .i64 c, .list .byte d] => some (⟨a, b, c, d⟩ : Stp)
  | .ask, [.str a, .str b, .int .i64 m, .list .fld f, .int .i64 n, .list .byte t] => some (⟨⟨a, b, m, f, n⟩, t⟩ : Ask)
  | .cal, [.int .i64 a, .bool b, .list .byte c] => some (⟨a, b, c⟩ : Cal)
  | .tri, [.int .i64 a, .list .byte b, .list .byte c] => some (⟨a, b, c⟩ : Tri)
  | .lst, [.int .i64 a, .int .i64 b, .list .byte c] => some (⟨a, b, c⟩ : Lst)
  | .sst, [.int .i64 a, .int .i64 b, .int .i64 c, .str d] => some (⟨a, b, c, d⟩ : Sst)
  | .upls, [.list .upl l] => some l
  | .strs, [.list .str l] => some l
  | .rpl, [.int .i64 a, .list .fld f, .list .byte b] => some (⟨a, f, b⟩ : Rpl)
  | .med, [.str a, .list .fld f] => some (⟨a, f⟩ : Med)
  | _, _ => none

/-- What must hold that the cells are those of the element that they were read as. -/
def decNeed (I : Alg) (u : U) (cs : List P) : Option Prop :=
  match u, cs with
  | .byte, [.int .u8 n] => some (I.inr .u8 n)
  | _, _ => none

theorem i2b_b2i {n : Int} (h : IntKind.u8.min ≤ n ∧ n ≤ IntKind.u8.max) : ((UInt8.ofNat n.toNat).toNat : Int) = n := by
  have h1 : IntKind.u8.min = 0 := rfl
  have h2 : IntKind.u8.max = 255 := by decide
  rw [h1, h2] at h
  have : n.toNat < 256 := by omega
  rw [UInt8.toNat_ofNat', Nat.mod_eq_of_lt this]
  omega

theorem dec_enc {u : U} {cs : List P} {x : u.den} (h : dec alg u cs = some x) (hn : ∀ p, decNeed alg u cs = some p → p) : enc alg u x = cs := by
  unfold dec at h
  split at h
  case h_1 n =>
    cases h
    exact congrArg (fun m => [P.int .u8 m]) (i2b_b2i (hn _ rfl))
  all_goals (cases h <;> rfl)

/-! ### memory that never turns again -/
/-- What is so of every world that comes up: tables of Go's library that are laid. -/
class Facts where
  p : World → Prop
variable [Facts]
structure Frz where
  blk : Nat → Option Obj
  os : Os
  tape : Nat → Question → Nat
  output : Array (Nat × ByteArray)
  ok : ∀ w : World, (w.os = os ∧ w.tape = tape ∧ w.output = output ∧ ∀ k o, blk k = some o → w.heap[k]? = some o) → Facts.p w
/-- More memory, or other memory beside. -/
def Frz.re (S S2 : Frz) (blk : Nat → Option Obj) (h1 : S2.os = S.os) (h2 : S2.tape = S.tape) (h3 : S2.output = S.output) (h4 : ∀ k o, S.blk k = some o → blk k = some o) : Frz :=
  ⟨blk, S2.os, S2.tape, S2.output, fun w hw => S.ok w ⟨hw.1.trans h1, hw.2.1.trans h2, hw.2.2.1.trans h3, fun k o ho => hw.2.2.2 k o (h4 k o ho)⟩⟩

def frzC (S : Frz) : Chunk where
  holds w F := (∀ k, F k ↔ (S.blk k).isSome = true) ∧ w.os = S.os ∧ w.tape = S.tape ∧ w.output = S.output ∧ ∀ k o, S.blk k = some o → w.heap[k]? = some o
  lt := by
    rintro w F ⟨hF, _, _, _, h⟩ k hk
    have := (hF k).1 hk
    obtain ⟨o, ho⟩ := Option.isSome_iff_exists.1 this
    exact (Array.getElem?_eq_some_iff.1 (h k o ho)).1
  keep := by
    rintro w w' F ⟨hF, h1, h2, h3, h⟩ hk
    refine ⟨hF, hk.os.trans h1, hk.tape.trans h2, hk.output.trans h3, fun k o ho => ?_⟩
    rw [hk.block k ((hF k).2 (by rw [ho]; rfl))]
    exact h k o ho

def Frz.le (S S' : Frz) : Prop := S'.os = S.os ∧ S'.tape = S.tape ∧ S'.output = S.output ∧ ∀ k o, S.blk k = some o → S'.blk k = some o
theorem Frz.le.refl (S : Frz) : S.le S := ⟨rfl, rfl, rfl, fun _ _ h => h⟩
theorem Frz.le.trans {A B C : Frz} (h : A.le B) (k : B.le C) : A.le C :=
  ⟨k.1.trans h.1, k.2.1.trans h.2.1, k.2.2.1.trans h.2.2.1, fun i o ho => k.2.2.2 i o (h.2.2.2 i o ho)⟩

/-- The world holds what S says. -/
def Frz.on (S : Frz) (w : World) : Prop := w.os = S.os ∧ w.tape = S.tape ∧ w.output = S.output ∧ ∀ k o, S.blk k = some o → w.heap[k]? = some o
theorem Frz.on.mono {S S' : Frz} {w : World} (h : S'.on w) (hle : S.le S') : S.on w :=
  ⟨h.1.trans hle.1, h.2.1.trans hle.2.1, h.2.2.1.trans hle.2.2.1, fun k o ho => h.2.2.2 k o (hle.2.2.2 k o ho)⟩
theorem Frz.on.facts {S : Frz} {w : World} (h : S.on w) : Facts.p w := S.ok w h
theorem At.frz {S : Frz} {l : List Chunk} {w : World} (H : At w (frzC S :: l)) : S.on w := by
  obtain ⟨A, h⟩ := H.head; exact h.2

/-- The slice v of n elements reads so wherever S holds. -/
def RdS (S : Frz) (size : Nat) (v : Value) (n : Nat) (cs : List Value) : Prop := ∀ w, S.on w → Rd w size v n cs
theorem RdS.mono {S S' : Frz} {size : Nat} {v : Value} {n : Nat} {cs : List Value} (h : RdS S size v n cs) (hle : S.le S') : RdS S' size v n cs :=
  fun w hw => h w (hw.mono hle)

/-- What a pure cell stands for. -/
inductive MP (S : Frz) : P → Value → Prop
  | int (k : IntKind) (n : Int) : MP S (.int k n) (.int k n)
  | bool (b : Bool) : MP S (.bool b) (.bool b)
  | str (l : Str) (h : l.length ≤ maxLen) : MP S (.str l) (.string (Sep.S l))
  | list (u : U) (l : List u.den) (ao : Option Addr) (cap : Nat) (vs : List Value) (hlen : vs.length = l.length * u.size) (h : RdS S u.size (.slice ao l.length cap) l.length vs)
      (hx : ∀ (i : Nat) (x : u.den) (j : Nat) (p : P) (v : Value), l[i]? = some x → (enc alg u x)[j]? = some p → vs[i * u.size + j]? = some v → MP S p v) : MP S (.list u l) (.slice ao l.length cap)
  | val (v : Value) (h : v.oneCell' = true) : MP S (.val v) v

theorem MP.one {S : Frz} {p : P} {v : Value} (h : MP S p v) : v.oneCell' = true := by cases h <;> first | rfl | assumption
theorem MP.mono {S S' : Frz} (hle : S.le S') {p : P} {v : Value} (h : MP S p v) : MP S' p v := by
  induction h with
  | int k n => exact .int k n
  | bool b => exact .bool b
  | str l h => exact .str l h
  | list u l ao cap vs hlen h hx ih => exact .list u l ao cap vs hlen (h.mono hle) ih
  | val v h => exact .val v h

def MPs (S : Frz) : List P → List Value → Prop
  | [], [] => True
  | p :: ps, v :: vs => MP S p v ∧ MPs S ps vs
  | _, _ => False

/-! ### cells that may lead to memory of this call -/
/-- What a closure captured. -/
inductive Cap where
  | p (x : P)
  | ptr (k off : Nat)
inductive C where
  | p (x : P)
  | ptr (k off : Nat)
  | ept (u : U) (k : Nat) (i : Int) (off : Nat)
  | fpt (u : U) (l : List u.den) (i : Int) (off : Nat)
  | row (k : Nat)
  | sub (u : U) (k : Nat) (lo hi : Int)
  | nilS
  | fn (f : Nat) (caps : List Cap)
  | ifc (T : Nat) (agg : Bool) (cs : List P)
  | any

/-- Values: a cell, or cells one behind the other. -/
inductive V0 where
  | one (c : C)
  | agg (cs : List C)
inductive D where
  | v (x : V0)
  | tup (l : List V0)
  | bad

inductive HO where
  | obj (T : Nat) (cs : List C)
  | row (u : U) (E : Nat) (l : List u.den)
  | pack (l : List HO)
  | gone

/-- The concrete heap. -/
inductive CO where
  | obj (b T : Nat) (vs : List Value)
  | row (E size : Nat) (ao : Option Addr) (n cap : Nat) (vs : List Value)
  | pack (l : List CO)
  | gone (v : Value)

mutual
def CO.base : CO → Value
  | .obj b _ _ => .pointer (some ⟨b, 0, none⟩)
  | .row _ _ ao n cap _ => .slice ao n cap
  | .pack l => CO.baseL l
  | .gone v => v
def CO.baseL : List CO → Value
  | [] => undef
  | c :: _ => c.base
end
mutual
def CO.chunk : CO → Chunk
  | .obj b T vs => objC b T vs
  | .row E size ao n cap vs => rowC E size (.slice ao n cap) n vs
  | .pack l => sepC (CO.chunkL l)
  | .gone _ => pureC True
def CO.chunkL : List CO → List Chunk
  | [] => []
  | c :: l => c.chunk :: CO.chunkL l
end
theorem CO.chunkL_eq (l : List CO) : CO.chunkL l = l.map CO.chunk := by
  induction l with
  | nil => rfl
  | cons c l ih => simp [CO.chunkL, ih]

/-- v is the part from l to h of a slice at ao of n elements. -/
def SubOf (size : Nat) (ao : Option Addr) (n cap l h : Nat) (v : Value) : Prop :=
  ∃ ao' cap', v = .slice ao' (h - l) cap' ∧ l ≤ h ∧ h ≤ n ∧ h - l ≤ cap' ∧ cap' ≤ maxLen ∧ (ao' = none → cap' = 0) ∧ (l < h → ao' = ao.map (·.add (l * size))) ∧ (l = 0 → ao' = ao ∧ cap' ≤ cap)
theorem map_add0 (ao : Option Addr) (k : Nat) (h : k = 0) : ao.map (·.add k) = ao := by
  subst h
  cases ao with
  | none => rfl
  | some a => rfl

theorem SubOf.mk {w : World} {size : Nat} {ao : Option Addr} {n cap l h : Nat} {cs : List Value} (hr : Rd w size (.slice ao n cap) n cs) (h1 : l ≤ h) (h2 : h ≤ n) : SubOf size ao n cap l h (Sep.sub (.slice ao n cap) size l h) := by
  obtain ⟨_, _, e, hnc, hcm, hno, _⟩ := hr
  cases e
  refine ⟨_, _, rfl, h1, h2, by omega, by omega, fun e => ?_, fun hlt => if_neg (by omega), fun h0 => ⟨?_, by omega⟩⟩
  case refine_2 => subst h0; rw [map_add0 _ _ (Nat.zero_mul _), ite_self]
  split at e
  · omega
  · cases ao with
    | none => have := hno rfl; omega
    | some a => cases e
theorem SubOf.sub {size : Nat} {ao : Option Addr} {n cap l h : Nat} {v : Value} (hs : SubOf size ao n cap l h v) {l' h' : Nat} (h1 : l' ≤ h') (h2 : h' ≤ h - l) : SubOf size ao n cap (l + l') (l + h') (Sep.sub v size l' h') := by
  obtain ⟨ao', cap', rfl, h3, h4, h5, h6, h7, h8, h9⟩ := hs
  refine ⟨_, _, by unfold Sep.sub; simp only [Nat.add_sub_add_left]; rfl, by omega, by omega, by omega, by omega, fun e => ?_, fun hlt => ?_, fun h0 => ?_⟩
  case refine_3 =>
    obtain ⟨e, hc⟩ := h9 (by omega)
    have : l' = 0 := by omega
    subst this
    rw [map_add0 _ _ (Nat.zero_mul _), ite_self]
    exact ⟨e, by omega⟩
  · split at e
    · have := h7 e; omega
    · cases ao' with
      | none => have := h7 rfl; omega
      | some a => cases e
  · rw [if_neg (by omega), h8 (by omega)]
    cases ao with
    | none => rfl
    | some a => simp only [Option.map_some, Addr.add_add, Nat.add_mul]
theorem SubOf.rd {w : World} {size : Nat} {ao : Option Addr} {n cap l h : Nat} {cs : List Value} {v : Value} (hs : SubOf size ao n cap l h v) (hr : Rd w size (.slice ao n cap) n cs) :
    Rd w size v (h - l) ((cs.drop (l * size)).take ((h - l) * size)) := by
  obtain ⟨ao', cap', rfl, h3, h4, h5, h6, h7, h8, -⟩ := hs
  have hs := hr.sub h3 h4
  have hlen := hs.len
  obtain ⟨_, _, e0, hnc, hcm, hno, _⟩ := hr
  cases e0
  refine ⟨ao', cap', rfl, h5, h6, h7, hlen, fun j u hj => ?_⟩
  have hlt : l < h := by
    have h9 := (List.getElem?_eq_some_iff.1 hj).1
    rw [hlen] at h9
    rcases Nat.eq_zero_or_pos (h - l) with h0 | h0
    · rw [h0] at h9; simp at h9
    · omega
  rw [h8 hlt]
  obtain ⟨_, _, e, _, _, _, _, hc⟩ := hs
  unfold Sep.sub at e
  simp only at e
  rw [if_neg (by omega)] at e
  cases e
  exact hc j u hj

def MCap (S : Frz) (bs : List Value) : Cap → Value → Prop
  | .p x, v => MP S x v
  | .ptr k off, v => ∃ b, bs[k]? = some (.pointer (some ⟨b, 0, none⟩)) ∧ v = .pointer (some ⟨b, off, none⟩)
def MCaps (S : Frz) (bs : List Value) : List Cap → List Value → Prop
  | [], [] => True
  | p :: ps, v :: vs => MCap S bs p v ∧ MCaps S bs ps vs
  | _, _ => False
/-- What a cell stands for, the objects having these bases. -/
def MC (S : Frz) (bs : List Value) : C → Value → Prop
  | .p x, v => MP S x v
  | .ptr k off, v => ∃ b, bs[k]? = some (.pointer (some ⟨b, 0, none⟩)) ∧ v = .pointer (some ⟨b, off, none⟩)
  | .ept u k i off, v => ∃ ao n cap, bs[k]? = some (.slice ao n cap) ∧ 0 ≤ i ∧ v = .pointer (some (adr ao (i.toNat * u.size + off)))
  | .fpt u l i off, v => ∃ ao cap vs, vs.length = l.length * u.size ∧ RdS S u.size (.slice ao l.length cap) l.length vs ∧ (∀ (i : Nat) (x : u.den) (j : Nat) (p : P) (v : Value), l[i]? = some x → (enc alg u x)[j]? = some p → vs[i * u.size + j]? = some v → MP S p v) ∧
      0 ≤ i ∧ v = .pointer (some (adr ao (i.toNat * u.size + off)))
  | .row k, v => bs[k]? = some v ∧ ∃ ao n cap, v = .slice ao n cap
  | .sub u k lo hi, v => ∃ ao n cap, bs[k]? = some (.slice ao n cap) ∧ 0 ≤ lo ∧ 0 ≤ hi ∧ SubOf u.size ao n cap lo.toNat hi.toNat v
  | .nilS, v => v = .slice none 0 0
  | .fn f caps, v => ∃ vs : List Value, MCaps S bs caps vs ∧ v = .func (.func f) #[] vs.toArray
  | .ifc T false [p], v => ∃ x, MP S p x ∧ v = .iface T x
  | .ifc T true ps, v => ∃ vs : List Value, MPs S ps vs ∧ v = .iface T (.agg vs.toArray)
  | .ifc _ _ _, _ => False
  | .any, v => v.oneCell' = true
end Go.Ab
