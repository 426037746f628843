/- An abstract machine for the walks (part 16): contracts that are asked by themselves; a tree of what must be shown, written out. -/
import Derived.Test.YtjapkdcomcgamaaDoorAbN
import Derived.Deep.LoopGhost
set_option linter.all false
namespace Go.Ab
open Go Go.Sep
variable [Facts]

theorem alg_hid {α : Type} (x : α) : alg.hid x = x := rfl
theorem alg_shl (k : IntKind) (x y : Int) : alg.shl k x y = k.wrap (x * 2 ^ (min y.toNat k.bits)) := rfl
theorem alg_shr (x y : Int) : alg.shr x y = x.fdiv (2 ^ (min y.toNat 64)) := rfl
theorem alg_bits (op : BinOp) (k : IntKind) (x y : Int) : alg.bits op k x y = k.wrap (match op with
    | .and => (BitVec.ofInt k.bits x &&& BitVec.ofInt k.bits y).toNat
    | .or => (BitVec.ofInt k.bits x ||| BitVec.ofInt k.bits y).toNat
    | _ => (BitVec.ofInt k.bits x ^^^ BitVec.ofInt k.bits y).toNat : Nat) := rfl
theorem i64_min : IntKind.i64.min = -9223372036854775808 := by decide
theorem i64_max : IntKind.i64.max = 9223372036854775807 := by decide
theorem u8_min : IntKind.u8.min = 0 := by decide
theorem u8_max : IntKind.u8.max = 255 := by decide
theorem ofNat_b2i (c : UInt8) : UInt8.ofNat ((c.toNat : Int)).toNat = c := by simp
theorem b2i_inj (c d : UInt8) : ((c.toNat : Int) = (d.toNat : Int)) ↔ c = d := by
  constructor
  · intro h; exact UInt8.toNat_inj.1 (by omega)
  · intro h; rw [h]

/-! ### contracts -/
/-- What a contract answers: under what, to what end, with what objects. -/
structure CR where
  need : Prop
  out : AOut
  hp : List HO
/-- One end, or one of two by a test. -/
inductive CT where
  | one (r : CR)
  | br (b : Bool) (t f : CT)
def CT.Good (Pr : Program) (f : Nat) (args : List D) (hp : List HO) : CT → Prop
  | .one r => r.need → Spc Pr f args hp r.out r.hp
  | .br b t e => (b = true → t.Good Pr f args hp) ∧ (b = false → e.Good Pr f args hp)
def CT.map (g : CR → CR) : CT → CT
  | .one r => .one (g r)
  | .br b t e => .br b (t.map g) (e.map g)
def CT.mapO (g : CR → Option CR) : CT → Option CT
  | .one r => match g r with | some r => some (.one r) | none => none
  | .br b t e => match t.mapO g, e.mapO g with | some t, some e => some (.br b t e) | _, _ => none
def CT.tree (k : CR → Tree) : CT → Tree
  | .one r => k r
  | .br b t e => .br b (t.tree k) (e.tree k)
theorem CT.Good.map {Pr : Program} {f f' : Nat} {args args' : List D} {hp hp' : List HO} {g : CR → CR} (h : ∀ r : CR, (r.need → Spc Pr f args hp r.out r.hp) → (g r).need → Spc Pr f' args' hp' (g r).out (g r).hp) : ∀ {c : CT}, c.Good Pr f args hp → (c.map g).Good Pr f' args' hp'
  | .one r, hc => h r hc
  | .br _ _ _, hc => ⟨fun e => CT.Good.map h (hc.1 e), fun e => CT.Good.map h (hc.2 e)⟩
theorem CT.Good.mapO {Pr : Program} {f f' : Nat} {args args' : List D} {hp hp' : List HO} {g : CR → Option CR} (h : ∀ r r' : CR, g r = some r' → (r.need → Spc Pr f args hp r.out r.hp) → r'.need → Spc Pr f' args' hp' r'.out r'.hp) : ∀ {c c' : CT}, c.mapO g = some c' → c.Good Pr f args hp → c'.Good Pr f' args' hp'
  | .one r, c', e, hc => by
    simp only [CT.mapO] at e
    split at e
    · rename_i r' hr; cases e; exact h r r' hr hc
    · cases e
  | .br b t f, c', e, hc => by
    simp only [CT.mapO] at e
    split at e
    · rename_i t' f' ht hf; cases e; exact ⟨fun e => CT.Good.mapO h ht (hc.1 e), fun e => CT.Good.mapO h hf (hc.2 e)⟩
    · cases e
structure Know (Pr : Program) where
  f : Nat
  c : Alg → List D → List HO → Option CT
  ok : ∀ args hp r, c alg args hp = some r → r.Good Pr f args hp

def refsDs : List D → List Nat
  | [] => []
  | d :: ds => refsD d ++ refsDs ds
def selOf (hp : List HO) (args : List D) : List Nat := gather hp 60 (refsDs args) []
/-- A contract over a few objects serves among many. -/
def frameC (c : List D → List HO → Option CT) (args : List D) (hp : List HO) : Option CT :=
  match takeOut (selOf hp args) hp with
  | none => none
  | some (os, hpr) => match c (args.map (D.ren fun q => idx q (selOf hp args) 0)) (os.map (HO.ren fun q => idx q (selOf hp args) 0)) with
    | none => none
    | some r => some (r.map fun r => ⟨r.need, r.out.ren (backF (selOf hp args) hp.length), putBack (backF (selOf hp args) hp.length) (selOf hp args) r.hp hpr⟩)
/-- Rows are lent. -/
def lendAll (I : Alg) (c : List D → List HO → Option CT) : Nat → List D → List HO → Option CT
  | 0, args, hp => frameC c args hp
  | n + 1, args, hp => match nth hp n with
    | some (.row u E l) => (match lendAll I c n (args.map (D.frz I n u l)) (setN (hp.map (HO.frz I n u l)) n .gone) with
      | some r => r.mapO fun r => (match noLA r.out, noLOs r.hp with
        | true, true => some ⟨r.need, r.out, setN r.hp n (.row u E l)⟩
        | _, _ => none)
      | none => none)
    | _ => lendAll I c n args hp
def lendC (I : Alg) (c : List D → List HO → Option CT) (args : List D) (hp : List HO) : Option CT := lendAll I c hp.length args hp

/-- Where the walk asks. -/
def ask {Pr : Program} (I : Alg) : List (Know Pr) → Nat → List D → List HO → Option CT
  | [], _, _, _ => none
  | k :: r, f, args, hp => match Nat.beq k.f f with
    | true => (match frameC (k.c I) args hp with | some x => some x | none => ask I r f args hp)
    | false => ask I r f args hp
def drive (q : Nat → List D → List HO → Option CT) : Tree → Tree
  | .need p t => .need p (drive q t)
  | .br b t f => .br b (drive q t) (drive q f)
  | .call f args hp k => match q f args hp with
    | some r => r.tree fun r => .need r.need (drive q (k r.out r.hp))
    | none => .call f args hp fun o h => drive q (k o h)
  | .code c st k => .code c st k
  | .fin o hp => .fin o hp
  | .both t f => .both (drive q t) (drive q f)
  | .qed => .qed
  | .stop n => .stop n

def GoodC (Pr : Program) (f : Nat) (c : List D → List HO → Option CT) : Prop := ∀ args hp r, c args hp = some r → r.Good Pr f args hp

section
variable {Pr : Program} {T : Tab} {X : Ctx} {G : AOut → List HO → Prop} {a : Act} {w : World}

theorem frameC_good {f : Nat} {c : List D → List HO → Option CT} (h : GoodC Pr f c) : GoodC Pr f (frameC c) := by
  intro args hp r hr
  unfold frameC at hr
  split at hr
  · cases hr
  · rename_i os hpr ht
    split at hr
    · cases hr
    · rename_i r0 hc
      cases hr
      exact CT.Good.map (g := fun r => ⟨r.need, r.out.ren (backF (selOf hp args) hp.length), putBack (backF (selOf hp args) hp.length) (selOf hp args) r.hp hpr⟩) (fun r hs hn => (hs hn).frame _ ht rfl rfl) (h _ _ _ hc)
theorem lendAll_good {f : Nat} {c : List D → List HO → Option CT} (h : GoodC Pr f c) : ∀ n, GoodC Pr f (lendAll alg c n)
  | 0 => frameC_good h
  | n + 1 => by
    intro args hp r hr
    unfold lendAll at hr
    split at hr
    · rename_i u E l ho
      rw [nth_eq] at ho
      split at hr
      · rename_i r0 hc
        refine CT.Good.mapO (fun r r' hrr hs hn => ?_) hr (lendAll_good h n _ _ _ hc)
        split at hrr
        · rename_i h1 h2
          cases hrr
          exact Spc.lend1 (hs hn) ho rfl rfl h1 h2
        · cases hrr
      · cases hr
    · exact lendAll_good h n _ _ _ hr
theorem lendC_good {f : Nat} {c : List D → List HO → Option CT} (h : GoodC Pr f c) : GoodC Pr f (lendC alg c) := fun args hp => lendAll_good h hp.length args hp
theorem ask_good : ∀ {kn : List (Know Pr)} {f : Nat}, GoodC Pr f (ask alg kn f)
  | [], f => fun args hp r hr => by cases hr
  | k :: r, f => fun args hp x hr => by
    unfold ask at hr
    split at hr
    · rename_i hb
      obtain rfl := Nat.eq_of_beq_eq_true hb
      split at hr
      · rename_i y hy; cases hr; exact frameC_good k.ok args hp _ hy
      · exact ask_good args hp x hr
    · exact ask_good args hp x hr
theorem CT.tree_ok {f : Nat} {args : List D} {hp : List HO} {k : AOut → List HO → Tree} {k' : AOut → List HO → Tree} (ih : ∀ o h, (k' o h).ok Pr X G → (k o h).ok Pr X G) : ∀ {c : CT}, c.Good Pr f args hp → (c.tree fun r => .need r.need (k' r.out r.hp)).ok Pr X G → ∃ out hp', Spc Pr f args hp out hp' ∧ (k out hp').ok Pr X G
  | .one r, hc, h => ⟨r.out, r.hp, hc h.1, ih _ _ h.2⟩
  | .br b t e, hc, h => by
    cases b with
    | true => exact CT.tree_ok ih (hc.1 rfl) (h.1 rfl)
    | false => exact CT.tree_ok ih (hc.2 rfl) (h.2 rfl)
theorem drive_ok {q : Nat → List D → List HO → Option CT} (hq : ∀ f, GoodC Pr f (q f)) : ∀ {t : Tree}, (drive q t).ok Pr X G → t.ok Pr X G := by
  intro t
  induction t with
  | need p t ih => exact fun h => ⟨h.1, ih h.2⟩
  | br b t f ih1 ih2 => exact fun h => ⟨fun e => ih1 (h.1 e), fun e => ih2 (h.2 e)⟩
  | call f args hp k ih =>
    intro h
    simp only [drive] at h
    split at h
    · rename_i r hr; exact CT.tree_ok (k' := fun o h => drive q (k o h)) (fun o h => ih o h) (hq f args hp r hr) h
    · obtain ⟨o, hp', h1, h2⟩ := h; exact ⟨o, hp', h1, ih _ _ h2⟩
  | code c st k ih => exact fun h => h
  | fin o hp => exact fun h => h
  | both t f ih1 ih2 => exact fun h => ⟨ih1 h.1, ih2 h.2⟩
  | qed => exact fun h => h
  | stop n => exact fun h => h

/-! ### places in the code -/
structure Rt where
  B : Code
  K : AEx → St → Tree
def bodyOf (fn : Func) : Code := match fn.body with | some c => c | none => .skip
def loopBody : Code → Code
  | .loop b => b
  | c => c
def cAt : List Nat → Code → Code
  | [], c => c
  | n :: p, c => match c with
    | .seq a b => (match n with | 0 => cAt p a | _ => cAt p b)
    | .cond _ t e => (match n with | 0 => cAt p t | _ => cAt p e)
    | .block _ b => cAt p b
    | c => c
def kAt (I : Alg) (T : Tab) (cfg : Cfg) : List Nat → Code → (AEx → St → Tree) → AEx → St → Tree
  | [], _, K => K
  | n :: p, c, K => match c with
    | .seq a b => (match n with | 0 => kAt I T cfg p a (fun e st => match e with | .normal => vc I T cfg b K st | e => K e st) | _ => kAt I T cfg p b K)
    | .cond _ t e => (match n with | 0 => kAt I T cfg p t K | _ => kAt I T cfg p e K)
    | .block id b => kAt I T cfg p b (fun e st => match e with
      | .exit j => (match Nat.beq j id with | true => K .normal st | false => K (.exit j) st)
      | e => K e st)
    | _ => K
def rtAt : Nat → List Rt → Rt
  | _, [] => ⟨.skip, fun _ _ => .stop 50⟩
  | 0, r :: _ => r
  | n + 1, _ :: l => rtAt n l
/-- A place: of root i, at a path; a state. -/
def leaf (I : Alg) (T : Tab) (cfg : Cfg) (R : List Rt) (i : Nat) (p : List Nat) (st : St) : Tree :=
  .code (cAt p (rtAt i R).B) st (kAt I T cfg p (rtAt i R).B (rtAt i R).K)
def headT (I : Alg) (T : Tab) (cfg : Cfg) (c : Code) (K : AEx → St → Tree) (st : St) : Tree :=
  match c with
  | .region _ ops draw => regT I T cfg ops draw K (st.tidy cfg.keep)
  | c => vc I T cfg c K st
/-- The walk from a place on. -/
def go (I : Alg) (T : Tab) (cfg : Cfg) (kn : List (Know Pr)) (R : List Rt) (i : Nat) (p : List Nat) (st : St) : Tree :=
  drive (ask I kn) (headT I T cfg (cAt p (rtAt i R).B) (kAt I T cfg p (rtAt i R).B (rtAt i R).K) st)
def cutM (cfg : Cfg) (k0 : Nat) (dom : List Nat) (st : St) : Option St := St.cut cfg.fsl k0 dom (moveAll cfg.mv st)
def roundK (cfg : Cfg) (k0 : Nat) (dom : List Nat) (A : St → Prop) (k : AEx → St → Tree) : AEx → St → Tree := fun e st =>
  match e with
  | .normal => (match cutM cfg k0 dom st with | some s => .need (A s) .qed | none => .stop 19)
  | e => k e st
/-- The root of a loop's round. -/
def round (I : Alg) (T : Tab) (cfg : Cfg) (k0 : Nat) (dom : List Nat) (A : St → Prop) (R : List Rt) (i : Nat) (p : List Nat) : Rt :=
  ⟨loopBody (cAt p (rtAt i R).B), roundK cfg k0 dom A (kAt I T cfg p (rtAt i R).B (rtAt i R).K)⟩

/-- A tree, written out. -/
inductive PT where
  | need (p : Prop) (t : PT)
  | br (b : Bool) (t f : PT)
  | code (i : Nat) (p : List Nat) (st : St)
  | fin (o : AOut) (hp : List HO)
  | both (t f : PT)
  | qed
  | stop (n : Nat)
def PT.inst (I : Alg) (T : Tab) (cfg : Cfg) (R : List Rt) : PT → Tree
  | .need p t => .need p (t.inst I T cfg R)
  | .br b t f => .br b (t.inst I T cfg R) (f.inst I T cfg R)
  | .code i p st => leaf I T cfg R i p st
  | .fin o hp => .fin o hp
  | .both t f => .both (t.inst I T cfg R) (f.inst I T cfg R)
  | .qed => .qed
  | .stop n => .stop n

theorem ev_rule {I : Alg} {cfg : Cfg} {kn : List (Know Pr)} {R : List Rt} {i : Nat} {p : List Nat} {st : St} (pt : PT) (h : go I T cfg kn R i p st = pt.inst I T cfg R) (k : Ok Pr X G (pt.inst I T cfg R)) : Ok Pr X G (go I T cfg kn R i p st) := h ▸ k

theorem inst_need {I : Alg} {cfg : Cfg} {R : List Rt} {p : Prop} {t : PT} : Ok Pr X G (PT.inst I T cfg R (.need p t)) ↔ p ∧ Ok Pr X G (t.inst I T cfg R) := ok_need
theorem inst_br {I : Alg} {cfg : Cfg} {R : List Rt} {b : Bool} {t f : PT} : Ok Pr X G (PT.inst I T cfg R (.br b t f)) ↔ (b = true → Ok Pr X G (t.inst I T cfg R)) ∧ (b = false → Ok Pr X G (f.inst I T cfg R)) := ok_br
theorem inst_both {I : Alg} {cfg : Cfg} {R : List Rt} {t f : PT} : Ok Pr X G (PT.inst I T cfg R (.both t f)) ↔ Ok Pr X G (t.inst I T cfg R) ∧ Ok Pr X G (f.inst I T cfg R) := ok_both
theorem inst_fin {I : Alg} {cfg : Cfg} {R : List Rt} {o : AOut} {hp : List HO} : Ok Pr X G (PT.inst I T cfg R (.fin o hp)) ↔ G o hp := ok_fin
theorem inst_qed {I : Alg} {cfg : Cfg} {R : List Rt} : Ok Pr X G (PT.inst I T cfg R .qed) ↔ True := ok_qed
theorem inst_stop {I : Alg} {cfg : Cfg} {R : List Rt} {n : Nat} : Ok Pr X G (PT.inst I T cfg R (.stop n)) ↔ False := ok_stop
theorem inst_code {I : Alg} {cfg : Cfg} {R : List Rt} {i : Nat} {p : List Nat} {st : St} : Ok Pr X G (PT.inst I T cfg R (.code i p st)) ↔ Ok Pr X G (leaf I T cfg R i p st) := Iff.rfl

def headSeam (cfg : Cfg) : Code → Bool
  | .region id _ _ => memN id cfg.seam
  | _ => false
/-- The contract of a function. -/
theorem spcG {P : Program} {T : Tab} (hT : T.fits P) (hm : P.follows .mixedOrders = true) {f : Nat} {fn : Func} (hf : P.funcs[f]? = some fn) (hn : (fn.name == "runtime.NumGoroutine") = false) (cfg : Cfg) (kn : List (Know P)) {args : List D} {hp : List HO} {out : AOut} {hp' : List HO}
    (hb : (fn.body.isSome && !headSeam cfg (bodyOf fn) && Nat.ble args.length fn.ntmps) = true)
    (h : ∀ (I : Alg) (X : Ctx), I = alg → X.bs0.length = hp.length → Ok P X (fun o h => o = out ∧ h = hp') (go I T cfg kn [⟨bodyOf fn, finK I T cfg hp.length fn⟩] 0 [] { env := envOf 0 args, hp := hp, n := fn.ntmps })) : Spc P f args hp out hp' := by
  simp only [Bool.and_eq_true, Bool.not_eq_true'] at hb
  refine spec_intro hT hm hf hn (cfg := cfg) hb.1.1 hb.2 fun I X hI hX => ?_
  subst hI
  have h1 := (h alg X rfl hX).out
  have h2 := drive_ok (fun f => ask_good) h1
  have hs := hb.1.2
  unfold funT
  unfold bodyOf at h2 hs
  cases hbd : fn.body with
  | none => rw [hbd] at hb; cases hb.1.1
  | some c =>
    rw [hbd] at h2 hs
    simp only [rtAt, cAt, kAt] at h2
    simp only at hs ⊢
    cases c <;> first | exact h2 | skip
    simp only [headSeam] at hs
    simp only [vc, hs]
    exact h2

theorem headT_sound (hT : T.fits Pr) (hm : Pr.follows .mixedOrders = true) {cfg : Cfg} {c : Code} {K : AEx → St → Tree} {st : St} (h : (headT alg T cfg c K st).ok Pr X G) (hn : Now X st a w) : c.wp Pr (Post X fun e st' => (K e st').ok Pr X G) a w := by
  cases c with
  | region id ops draw => exact regT_sound hT hm h (hn.tidy cfg.keep)
  | _ => exact vc_sound hT hm (cfg := cfg) h hn

theorem cutM_sound {cfg : Cfg} {k0 : Nat} (hk : X.bs0.length = k0) {dom : List Nat} {st s : St} (hc : cutM cfg k0 dom st = some s) (hn : Now X st a w) : Now X s a w := by
  obtain ⟨S, K, hH, hE⟩ := hn
  obtain ⟨K', h1, h2⟩ := moveAll_sound cfg.mv hH hE
  exact cut_sound hk hc ⟨S, K', h1, h2⟩
/-- A loop: what holds at each round's head (plain data, and what is known of it), and a number that falls. -/
theorem loop_inv {I : Alg} (hI : I = alg) (hT : T.fits Pr) (hm : Pr.follows .mixedOrders = true) {cfg : Cfg} (kn : List (Know Pr)) {R : List Rt} {i : Nat} {p : List Nat} {st : St} {k0 : Nat} (hk : X.bs0.length = k0) (dom : List Nat) {ι : Type} (Inv : ι → Prop) (Iv : ι → St) (μ : ι → Nat) (g0 : ι)
    (hc : (match cAt p (rtAt i R).B with | .loop b => !headSeam cfg b | _ => false) = true) (h0 : cutM cfg k0 dom st = some (Iv g0)) (hg0 : Inv g0)
    (hr : ∀ (g : ι), Inv g → ∀ (A : St → Prop), (∀ g', Inv g' → μ g' < μ g → A (Iv g')) → Ok Pr X G (go I T cfg kn (round I T cfg k0 dom A R i p :: R) 0 [] (Iv g))) : Ok Pr X G (leaf I T cfg R i p st) := by
  subst hI
  constructor
  unfold leaf
  intro S K a w hH hE
  obtain ⟨b, hb⟩ : ∃ b, cAt p (rtAt i R).B = .loop b := by
    cases h : cAt p (rtAt i R).B <;> rw [h] at hc <;> first | exact ⟨_, rfl⟩ | cases hc
  rw [hb]
  refine wp_loop_ghost (fun n a w => ∃ g, Inv g ∧ μ g = n ∧ Now X (Iv g) a w) (μ g0) ⟨g0, hg0, rfl, cutM_sound hk h0 ⟨S, K, hH, hE⟩⟩ ?_
  rintro n a w ⟨g, hg, rfl, hn⟩
  have h1 := (hr g hg (fun s => ∃ g', Inv g' ∧ μ g' < μ g ∧ s = Iv g') (fun g' hi hl => ⟨g', hi, hl, rfl⟩)).out
  have h2 := drive_ok (fun f => ask_good) h1
  simp only [rtAt, cAt, kAt, round, hb, loopBody] at h2
  refine wp_mono (headT_sound hT hm h2 hn) fun e a' w' hq => ?_
  obtain ⟨e', st', h1, S', K', hH', hE', hem⟩ := hq
  generalize kAt alg T cfg p (rtAt i R).B (rtAt i R).K = k at h1
  have keep : ∀ {e : Exit} {e' : AEx}, (∀ (h : e' = .normal), False) → EM S' (K'.map CO.base) e e' → (k e' st').ok Pr X G → Post X (fun e st' => (k e st').ok Pr X G) e a' w' := fun {e e'} _ hem h => ⟨e', st', h, S', K', hH', hE', hem⟩
  cases e' with
  | normal =>
    cases e with
    | normal =>
      have h1 : ((match cutM cfg k0 dom st' with | some s => Tree.need (∃ g', Inv g' ∧ μ g' < μ g ∧ s = Iv g') .qed | none => .stop 19) : Tree).ok Pr X G := h1
      split at h1
      · rename_i s hs
        obtain ⟨⟨g', hi, hlt, rfl⟩, _⟩ := h1
        exact ⟨μ g', hlt, g', hi, rfl, cutM_sound hk hs ⟨S', K', hH', hE'⟩⟩
      · exact h1.elim
    | exit i => exact hem.elim
    | goto l => exact hem.elim
    | ret => exact hem.elim
    | panic ch => exact hem.elim
    | outgrown => exact hem.elim
  | exit j => cases e with
    | exit i => exact keep (fun h => by cases h) hem h1
    | normal => exact hem.elim
    | goto l => exact hem.elim
    | ret => exact hem.elim
    | panic ch => exact hem.elim
    | outgrown => exact hem.elim
  | ret => cases e with
    | ret => exact keep (fun h => by cases h) hem h1
    | normal => exact hem.elim
    | goto l => exact hem.elim
    | exit j => exact hem.elim
    | panic ch => exact hem.elim
    | outgrown => exact hem.elim
  | pan c => cases e with
    | panic ch => exact keep (fun h => by cases h) hem h1
    | normal => exact hem.elim
    | goto l => exact hem.elim
    | exit j => exact hem.elim
    | ret => exact hem.elim
    | outgrown => exact hem.elim

/-- A seam: the walk goes on from a state of a known shape. -/
theorem seam {I : Alg} (hI : I = alg) (hT : T.fits Pr) (hm : Pr.follows .mixedOrders = true) {cfg : Cfg} (kn : List (Know Pr)) {R : List Rt} {i : Nat} {p : List Nat} {st : St} {k0 : Nat} (hk : X.bs0.length = k0) (dom : List Nat) (st1 : St)
    (h0 : cutM cfg k0 dom st = some st1) (hr : Ok Pr X G (go I T cfg kn R i p st1)) : Ok Pr X G (leaf I T cfg R i p st) := by
  subst hI
  constructor
  intro S K a w hH hE
  exact headT_sound hT hm (drive_ok (fun f => ask_good) hr.out) (cutM_sound hk h0 ⟨S, K, hH, hE⟩)
end
end Go.Ab
