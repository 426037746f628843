/- An abstract machine for the walks (part 16): contracts that are asked by themselves; a tree of what must be shown, written out. -/
import Derived.Test.YtjapkdcomcgamaaGreatDoorAbN
import Derived.Deep.LoopGhost
import Derived.Recover
set_option linter.all false
namespace Go.Ab
open Go Go.Sep
variable [Facts]

theorem alg_hid {α : Type} (x : α) : alg.hid x = x := rfl
theorem alg_shl (k : IntKind) (x y : Int) : alg.shl k x y = k.wrap (x * 2 ^ (min y.toNat k.bits)) := rfl
theorem alg_shr (x y : Int) : alg.shr x y = x.fdiv (2 ^ (min y.toNat 64)) := rfl
theorem alg_bits (op : BinOp) (k : IntKind) (x y : Int) : alg.bits op k x y = k.wrap (match op with
    | .and => (BitVec.ofInt k.bits x &&& BitVec.ofInt k.bits y).toNat
    | .or => (BitVec.ofInt k.bits x ||| BitVec.ofInt k.bits y).toNat
    | _ => (BitVec.ofInt k.bits x ^^^ BitVec.ofInt k.bits y).toNat : Nat) := rfl
theorem i64_min : IntKind.i64.min = -9223372036854775808 := by decide
theorem i64_max : IntKind.i64.max = 9223372036854775807 := by decide
theorem u8_min : IntKind.u8.min = 0 := by decide
theorem u8_max : IntKind.u8.max = 255 := by decide
theorem ofNat_b2i (c : UInt8) : UInt8.ofNat ((c.toNat : Int)).toNat = c := by simp
theorem b2i_inj (c d : UInt8) : ((c.toNat : Int) = (d.toNat : Int)) ↔ c = d := by
  constructor
  · intro h; exact UInt8.toNat_inj.1 (by omega)
  · intro h; rw [h]

/-- A contract over machines, by their objects. -/
theorem Spc.unabs {Pr : Program} {f : Nat} {args : List D} {hp : List HO} {out : AOut} {hp' : List HO} (h : Spc Pr f args (unabs hp) out (Ab.unabs hp')) : Spc Pr f args hp out hp' := by
  refine ⟨h.1, fun S K fr w vs hHR hM hA => (h.2 S K fr w vs (HR.unabs_iff.2 hHR) hM hA).mono fun e w' he => ?_⟩
  obtain ⟨S', K', h1, h2, h3, h4, h5⟩ := he
  exact ⟨S', K', h1, h2, HR.unabs_iff.1 h3, h4, h5⟩
/-! ### contracts -/
/-- What a contract answers: under what, to what end, with what objects. -/
structure CR where
  need : Prop
  out : AOut
  hp : List HO
/-- One end, or one of two by a test. -/
inductive CT where
  | one (r : CR)
  | br (b : Bool) (t f : CT)
def CT.Good (Pr : Program) (f : Nat) (args : List D) (hp : List HO) : CT → Prop
  | .one r => r.need → Spc Pr f args hp r.out r.hp
  | .br b t e => (b = true → t.Good Pr f args hp) ∧ (b = false → e.Good Pr f args hp)
def CT.map (g : CR → CR) : CT → CT
  | .one r => .one (g r)
  | .br b t e => .br b (t.map g) (e.map g)
def CT.mapO (g : CR → Option CR) : CT → Option CT
  | .one r => match g r with | some r => some (.one r) | none => none
  | .br b t e => match t.mapO g, e.mapO g with | some t, some e => some (.br b t e) | _, _ => none
def CT.tree (k : CR → Tree) : CT → Tree
  | .one r => k r
  | .br b t e => .br b (t.tree k) (e.tree k)
theorem CT.Good.map {Pr : Program} {f f' : Nat} {args args' : List D} {hp hp' : List HO} {g : CR → CR} (h : ∀ r : CR, (r.need → Spc Pr f args hp r.out r.hp) → (g r).need → Spc Pr f' args' hp' (g r).out (g r).hp) : ∀ {c : CT}, c.Good Pr f args hp → (c.map g).Good Pr f' args' hp'
  | .one r, hc => h r hc
  | .br _ _ _, hc => ⟨fun e => CT.Good.map h (hc.1 e), fun e => CT.Good.map h (hc.2 e)⟩
theorem CT.Good.mapO {Pr : Program} {f f' : Nat} {args args' : List D} {hp hp' : List HO} {g : CR → Option CR} (h : ∀ r r' : CR, g r = some r' → (r.need → Spc Pr f args hp r.out r.hp) → r'.need → Spc Pr f' args' hp' r'.out r'.hp) : ∀ {c c' : CT}, c.mapO g = some c' → c.Good Pr f args hp → c'.Good Pr f' args' hp'
  | .one r, c', e, hc => by
    simp only [CT.mapO] at e
    split at e
    · rename_i r' hr; cases e; exact h r r' hr hc
    · cases e
  | .br b t f, c', e, hc => by
    simp only [CT.mapO] at e
    split at e
    · rename_i t' f' ht hf; cases e; exact ⟨fun e => CT.Good.mapO h ht (hc.1 e), fun e => CT.Good.mapO h hf (hc.2 e)⟩
    · cases e
structure Know (Pr : Program) where
  f : Nat
  c : Alg → List D → List HO → Option CT
  ok : ∀ args hp r, c alg args hp = some r → r.Good Pr f args hp

def refsDs : List D → List Nat
  | [] => []
  | d :: ds => refsD d ++ refsDs ds
def selOf (hp : List HO) (args : List D) : List Nat := gather hp 60 (refsDs args) []
/-- A contract over a few objects serves among many. -/
def frameC (c : List D → List HO → Option CT) (args : List D) (hp : List HO) : Option CT :=
  match takeOut (selOf hp args) hp with
  | none => none
  | some (os, hpr) => match c (args.map (D.ren fun q => idx q (selOf hp args) 0)) (os.map (HO.ren fun q => idx q (selOf hp args) 0)) with
    | none => none
    | some r => some (r.map fun r => ⟨r.need, r.out.ren (backF (selOf hp args) hp.length), putBack (backF (selOf hp args) hp.length) (selOf hp args) r.hp hpr⟩)
/-- Rows are lent. -/
def lendAll (I : Alg) (c : List D → List HO → Option CT) : Nat → List D → List HO → Option CT
  | 0, args, hp => frameC c args hp
  | n + 1, args, hp => match nth hp n with
    | some (.row u E l) => (match lendAll I c n (args.map (D.frz I n u l)) (setN (hp.map (HO.frz I n u l)) n .gone) with
      | some r => r.mapO fun r => (match noLA r.out, noLOs r.hp with
        | true, true => some ⟨r.need, r.out, setN r.hp n (.row u E l)⟩
        | _, _ => none)
      | none => none)
    | _ => lendAll I c n args hp
def lendC (I : Alg) (c : List D → List HO → Option CT) (args : List D) (hp : List HO) : Option CT := lendAll I c hp.length args hp

/-- Where the walk asks. -/
def ask {Pr : Program} (I : Alg) : List (Know Pr) → Nat → List D → List HO → Option CT
  | [], _, _, _ => none
  | k :: r, f, args, hp => match Nat.beq k.f f with
    | true => (match frameC (k.c I) args hp with | some x => some x | none => ask I r f args hp)
    | false => ask I r f args hp
def drive (q : Nat → List D → List HO → Option CT) : Tree → Tree
  | .need p t => .need p (drive q t)
  | .br b t f => .br b (drive q t) (drive q f)
  | .call f args hp k => forceH hp fun hp => match q f args hp with
    | some r => r.tree fun r => .need r.need (forceH r.hp fun h => drive q (k r.out h))
    | none => .call f args hp fun o h => drive q (k o h)
  | .code c st k => .code c st k
  | .fin o hp => .fin o hp
  | .both t f => .both (drive q t) (drive q f)
  | .qed => .qed
  | .stop n => .stop n

def GoodC (Pr : Program) (f : Nat) (c : List D → List HO → Option CT) : Prop := ∀ args hp r, c args hp = some r → r.Good Pr f args hp

section
variable {Pr : Program} {T : Tab} {X : Ctx} {G : AOut → List HO → Prop} {a : Act} {w : World}

theorem frameC_good {f : Nat} {c : List D → List HO → Option CT} (h : GoodC Pr f c) : GoodC Pr f (frameC c) := by
  intro args hp r hr
  unfold frameC at hr
  split at hr
  · cases hr
  · rename_i os hpr ht
    split at hr
    · cases hr
    · rename_i r0 hc
      cases hr
      exact CT.Good.map (g := fun r => ⟨r.need, r.out.ren (backF (selOf hp args) hp.length), putBack (backF (selOf hp args) hp.length) (selOf hp args) r.hp hpr⟩) (fun r hs hn => (hs hn).frame _ ht rfl rfl) (h _ _ _ hc)
theorem lendAll_good {f : Nat} {c : List D → List HO → Option CT} (h : GoodC Pr f c) : ∀ n, GoodC Pr f (lendAll alg c n)
  | 0 => frameC_good h
  | n + 1 => by
    intro args hp r hr
    unfold lendAll at hr
    split at hr
    · rename_i u E l ho
      rw [nth_eq] at ho
      split at hr
      · rename_i r0 hc
        refine CT.Good.mapO (fun r r' hrr hs hn => ?_) hr (lendAll_good h n _ _ _ hc)
        split at hrr
        · rename_i h1 h2
          cases hrr
          exact Spc.lend1 (hs hn) ho rfl rfl h1 h2
        · cases hrr
      · cases hr
    · exact lendAll_good h n _ _ _ hr
theorem lendC_good {f : Nat} {c : List D → List HO → Option CT} (h : GoodC Pr f c) : GoodC Pr f (lendC alg c) := fun args hp => lendAll_good h hp.length args hp
theorem ask_good : ∀ {kn : List (Know Pr)} {f : Nat}, GoodC Pr f (ask alg kn f)
  | [], f => fun args hp r hr => by cases hr
  | k :: r, f => fun args hp x hr => by
    unfold ask at hr
    split at hr
    · rename_i hb
      obtain rfl := Nat.eq_of_beq_eq_true hb
      split at hr
      · rename_i y hy; cases hr; exact frameC_good k.ok args hp _ hy
      · exact ask_good args hp x hr
    · exact ask_good args hp x hr
theorem CT.tree_ok {f : Nat} {args : List D} {hp : List HO} {k : AOut → List HO → Tree} {k' : AOut → List HO → Tree} (ih : ∀ o h, (k' o h).ok Pr X G → (k o h).ok Pr X G) : ∀ {c : CT}, c.Good Pr f args hp → (c.tree fun r => .need r.need (k' r.out r.hp)).ok Pr X G → ∃ out hp', Spc Pr f args hp out hp' ∧ (k out hp').ok Pr X G
  | .one r, hc, h => ⟨r.out, r.hp, hc h.1, ih _ _ h.2⟩
  | .br b t e, hc, h => by
    cases b with
    | true => exact CT.tree_ok ih (hc.1 rfl) (h.1 rfl)
    | false => exact CT.tree_ok ih (hc.2 rfl) (h.2 rfl)
theorem drive_ok {q : Nat → List D → List HO → Option CT} (hq : ∀ f, GoodC Pr f (q f)) : ∀ {t : Tree}, (drive q t).ok Pr X G → t.ok Pr X G := by
  intro t
  induction t with
  | need p t ih => exact fun h => ⟨h.1, ih h.2⟩
  | br b t f ih1 ih2 => exact fun h => ⟨fun e => ih1 (h.1 e), fun e => ih2 (h.2 e)⟩
  | call f args hp k ih =>
    intro h
    simp only [drive, forceH_eq] at h
    split at h
    · rename_i r hr; exact CT.tree_ok (k' := fun o h => drive q (k o h)) (fun o h => ih o h) (hq f args hp r hr) h
    · obtain ⟨o, hp', h1, h2⟩ := h; exact ⟨o, hp', h1, ih _ _ h2⟩
  | code c st k ih => exact fun h => h
  | fin o hp => exact fun h => h
  | both t f ih1 ih2 => exact fun h => ⟨ih1 h.1, ih2 h.2⟩
  | qed => exact fun h => h
  | stop n => exact fun h => h

/-! ### places in the code -/
structure Rt where
  B : Code
  K : AEx → St → Tree
def bodyOf (fn : Func) : Code := match fn.body with | some c => c | none => .skip
def loopBody : Code → Code
  | .loop b => b
  | c => c
def cAt : List Nat → Code → Code
  | [], c => c
  | n :: p, c => match c with
    | .seq a b => (match n with | 0 => cAt p a | _ => cAt p b)
    | .cond _ t e => (match n with | 0 => cAt p t | _ => cAt p e)
    | .block _ b => cAt p b
    | c => c
def kAt (I : Alg) (T : Tab) (cfg : Cfg) : List Nat → Code → (AEx → St → Tree) → AEx → St → Tree
  | [], _, K => K
  | n :: p, c, K => match c with
    | .seq a b => (match n with | 0 => kAt I T cfg p a (fun e st => match e with | .normal => vc I T cfg b K st | e => K e st) | _ => kAt I T cfg p b K)
    | .cond _ t e => (match n with | 0 => kAt I T cfg p t K | _ => kAt I T cfg p e K)
    | .block id b => kAt I T cfg p b (fun e st => match e with
      | .exit j => (match Nat.beq j id with | true => K .normal st | false => K (.exit j) st)
      | e => K e st)
    | _ => K
def rtAt : Nat → List Rt → Rt
  | _, [] => ⟨.skip, fun _ _ => .stop 50⟩
  | 0, r :: _ => r
  | n + 1, _ :: l => rtAt n l
/-- A place: of root i, at a path; a state. -/
def leaf (I : Alg) (T : Tab) (cfg : Cfg) (R : List Rt) (i : Nat) (p : List Nat) (st : St) : Tree :=
  .code (cAt p (rtAt i R).B) st (kAt I T cfg p (rtAt i R).B (rtAt i R).K)
def headT (I : Alg) (T : Tab) (cfg : Cfg) (c : Code) (K : AEx → St → Tree) (st : St) : Tree :=
  match c with
  | .region _ ops draw => regT I T cfg ops draw K (st.tidy cfg.keep)
  | c => vc I T cfg c K st
/-- The walk from a place on. -/
def go (I : Alg) (T : Tab) (cfg : Cfg) (kn : List (Know Pr)) (R : List Rt) (i : Nat) (p : List Nat) (st : St) : Tree :=
  drive (ask I kn) (headT I T cfg (cAt p (rtAt i R).B) (kAt I T cfg p (rtAt i R).B (rtAt i R).K) st)
def cutM (cfg : Cfg) (k0 : Nat) (dom : List Nat) (st : St) : Option St := St.cut cfg.fsl k0 dom (moveAll cfg.mv st)
def roundK (cfg : Cfg) (k0 : Nat) (dom : List Nat) (A : St → Prop) (k : AEx → St → Tree) : AEx → St → Tree := fun e st =>
  match e with
  | .normal => (match cutM cfg k0 dom st with | some s => .need (A s) .qed | none => .stop 19)
  | e => k e st
/-- The root of a loop's round. -/
def round (I : Alg) (T : Tab) (cfg : Cfg) (k0 : Nat) (dom : List Nat) (A : St → Prop) (R : List Rt) (i : Nat) (p : List Nat) : Rt :=
  ⟨loopBody (cAt p (rtAt i R).B), roundK cfg k0 dom A (kAt I T cfg p (rtAt i R).B (rtAt i R).K)⟩

/-- A tree, written out. -/
inductive PT where
  | need (p : Prop) (t : PT)
  | br (b : Bool) (t f : PT)
  | code (i : Nat) (p : List Nat) (st : St)
  | fin (o : AOut) (hp : List HO)
  | both (t f : PT)
  | qed
  | stop (n : Nat)
def PT.inst (I : Alg) (T : Tab) (cfg : Cfg) (R : List Rt) : PT → Tree
  | .need p t => .need p (t.inst I T cfg R)
  | .br b t f => .br b (t.inst I T cfg R) (f.inst I T cfg R)
  | .code i p st => leaf I T cfg R i p st
  | .fin o hp => .fin o hp
  | .both t f => .both (t.inst I T cfg R) (f.inst I T cfg R)
  | .qed => .qed
  | .stop n => .stop n

theorem ev_rule {I : Alg} {cfg : Cfg} {kn : List (Know Pr)} {R : List Rt} {i : Nat} {p : List Nat} {st : St} (pt : PT) (h : go I T cfg kn R i p st = pt.inst I T cfg R) (k : Ok Pr X G (pt.inst I T cfg R)) : Ok Pr X G (go I T cfg kn R i p st) := h ▸ k

theorem inst_need {I : Alg} {cfg : Cfg} {R : List Rt} {p : Prop} {t : PT} : Ok Pr X G (PT.inst I T cfg R (.need p t)) ↔ p ∧ Ok Pr X G (t.inst I T cfg R) := ok_need
theorem inst_br {I : Alg} {cfg : Cfg} {R : List Rt} {b : Bool} {t f : PT} : Ok Pr X G (PT.inst I T cfg R (.br b t f)) ↔ (b = true → Ok Pr X G (t.inst I T cfg R)) ∧ (b = false → Ok Pr X G (f.inst I T cfg R)) := ok_br
theorem inst_both {I : Alg} {cfg : Cfg} {R : List Rt} {t f : PT} : Ok Pr X G (PT.inst I T cfg R (.both t f)) ↔ Ok Pr X G (t.inst I T cfg R) ∧ Ok Pr X G (f.inst I T cfg R) := ok_both
theorem inst_fin {I : Alg} {cfg : Cfg} {R : List Rt} {o : AOut} {hp : List HO} : Ok Pr X G (PT.inst I T cfg R (.fin o hp)) ↔ G o hp := ok_fin
theorem inst_qed {I : Alg} {cfg : Cfg} {R : List Rt} : Ok Pr X G (PT.inst I T cfg R .qed) ↔ True := ok_qed
theorem inst_stop {I : Alg} {cfg : Cfg} {R : List Rt} {n : Nat} : Ok Pr X G (PT.inst I T cfg R (.stop n)) ↔ False := ok_stop
theorem inst_code {I : Alg} {cfg : Cfg} {R : List Rt} {i : Nat} {p : List Nat} {st : St} : Ok Pr X G (PT.inst I T cfg R (.code i p st)) ↔ Ok Pr X G (leaf I T cfg R i p st) := Iff.rfl

def headSeam (cfg : Cfg) : Code → Bool
  | .region id _ _ => memN id cfg.seam
  | _ => false
/-- The contract of a function. -/
theorem spcG {P : Program} {T : Tab} (hT : T.fits P) (hm : P.follows .mixedOrders = true) {f : Nat} {fn : Func} (hf : P.funcs[f]? = some fn) (hn : (fn.name == "runtime.NumGoroutine") = false) (cfg : Cfg) (kn : List (Know P)) {args : List D} {hp : List HO} {out : AOut} {hp' : List HO}
    (hb : (fn.body.isSome && !headSeam cfg (bodyOf fn) && Nat.ble args.length fn.ntmps) = true)
    (h : ∀ (I : Alg) (X : Ctx), I = alg → X.bs0.length = hp.length → Ok P X (fun o h => o = out ∧ h = hp') (go I T cfg kn [⟨bodyOf fn, finK I T cfg hp.length fn⟩] 0 [] { env := envOf 0 args, hp := hp, n := fn.ntmps })) : Spc P f args hp out hp' := by
  simp only [Bool.and_eq_true, Bool.not_eq_true'] at hb
  refine spec_intro hT hm hf hn (cfg := cfg) hb.1.1 hb.2 fun I X hI hX => ?_
  subst hI
  have h1 := (h alg X rfl hX).out
  have h2 := drive_ok (fun f => ask_good) h1
  have hs := hb.1.2
  unfold funT
  unfold bodyOf at h2 hs
  cases hbd : fn.body with
  | none => rw [hbd] at hb; cases hb.1.1
  | some c =>
    rw [hbd] at h2 hs
    simp only [rtAt, cAt, kAt] at h2
    simp only at hs ⊢
    cases c <;> first | exact h2 | skip
    simp only [headSeam] at hs
    simp only [vc, hs]
    exact h2

theorem headT_sound (hT : T.fits Pr) (hm : Pr.follows .mixedOrders = true) {cfg : Cfg} {c : Code} {K : AEx → St → Tree} {st : St} (h : (headT alg T cfg c K st).ok Pr X G) (hn : Now X st a w) : c.wp Pr (Post X fun e st' => (K e st').ok Pr X G) a w := by
  cases c with
  | region id ops draw => exact regT_sound hT hm h (hn.tidy cfg.keep)
  | _ => exact vc_sound hT hm (cfg := cfg) h hn

theorem cutM_sound {cfg : Cfg} {k0 : Nat} (hk : X.bs0.length = k0) {dom : List Nat} {st s : St} (hc : cutM cfg k0 dom st = some s) (hn : Now X st a w) : Now X s a w := by
  obtain ⟨S, K, hH, hE⟩ := hn
  obtain ⟨K', h1, h2⟩ := moveAll_sound cfg.mv hH hE
  exact cut_sound hk hc ⟨S, K', h1, h2⟩
/-- A loop: what holds at each round's head (plain data, and what is known of it), and a number that falls. -/
theorem loop_inv {I : Alg} (hI : I = alg) (hT : T.fits Pr) (hm : Pr.follows .mixedOrders = true) {cfg : Cfg} (kn : List (Know Pr)) {R : List Rt} {i : Nat} {p : List Nat} {st : St} {k0 : Nat} (hk : X.bs0.length = k0) (dom : List Nat) {ι : Type} (Inv : ι → Prop) (Iv : ι → St) (μ : ι → Nat) (g0 : ι)
    (hc : (match cAt p (rtAt i R).B with | .loop b => !headSeam cfg b | _ => false) = true) (h0 : cutM cfg k0 dom st = some (Iv g0)) (hg0 : Inv g0)
    (hr : ∀ (g : ι), Inv g → ∀ (A : St → Prop), (∀ g', Inv g' → μ g' < μ g → A (Iv g')) → Ok Pr X G (go I T cfg kn (round I T cfg k0 dom A R i p :: R) 0 [] (Iv g))) : Ok Pr X G (leaf I T cfg R i p st) := by
  subst hI
  constructor
  unfold leaf
  intro S K a w hH hE
  obtain ⟨b, hb⟩ : ∃ b, cAt p (rtAt i R).B = .loop b := by
    cases h : cAt p (rtAt i R).B <;> rw [h] at hc <;> first | exact ⟨_, rfl⟩ | cases hc
  rw [hb]
  refine wp_loop_ghost (fun n a w => ∃ g, Inv g ∧ μ g = n ∧ Now X (Iv g) a w) (μ g0) ⟨g0, hg0, rfl, cutM_sound hk h0 ⟨S, K, hH, hE⟩⟩ ?_
  rintro n a w ⟨g, hg, rfl, hn⟩
  have h1 := (hr g hg (fun s => ∃ g', Inv g' ∧ μ g' < μ g ∧ s = Iv g') (fun g' hi hl => ⟨g', hi, hl, rfl⟩)).out
  have h2 := drive_ok (fun f => ask_good) h1
  simp only [rtAt, cAt, kAt, round, hb, loopBody] at h2
  refine wp_mono (headT_sound hT hm h2 hn) fun e a' w' hq => ?_
  obtain ⟨e', st', h1, S', K', hH', hE', hem⟩ := hq
  generalize kAt alg T cfg p (rtAt i R).B (rtAt i R).K = k at h1
  have keep : ∀ {e : Exit} {e' : AEx}, (∀ (h : e' = .normal), False) → EM S' (K'.map CO.base) e e' → (k e' st').ok Pr X G → Post X (fun e st' => (k e st').ok Pr X G) e a' w' := fun {e e'} _ hem h => ⟨e', st', h, S', K', hH', hE', hem⟩
  cases e' with
  | normal =>
    cases e with
    | normal =>
      have h1 : ((match cutM cfg k0 dom st' with | some s => Tree.need (∃ g', Inv g' ∧ μ g' < μ g ∧ s = Iv g') .qed | none => .stop 19) : Tree).ok Pr X G := h1
      split at h1
      · rename_i s hs
        obtain ⟨⟨g', hi, hlt, rfl⟩, _⟩ := h1
        exact ⟨μ g', hlt, g', hi, rfl, cutM_sound hk hs ⟨S', K', hH', hE'⟩⟩
      · exact h1.elim
    | exit i => exact hem.elim
    | goto l => exact hem.elim
    | ret => exact hem.elim
    | panic ch => exact hem.elim
    | outgrown => exact hem.elim
  | exit j => cases e with
    | exit i => exact keep (fun h => by cases h) hem h1
    | normal => exact hem.elim
    | goto l => exact hem.elim
    | ret => exact hem.elim
    | panic ch => exact hem.elim
    | outgrown => exact hem.elim
  | ret => cases e with
    | ret => exact keep (fun h => by cases h) hem h1
    | normal => exact hem.elim
    | goto l => exact hem.elim
    | exit j => exact hem.elim
    | panic ch => exact hem.elim
    | outgrown => exact hem.elim
  | pan c => cases e with
    | panic ch => exact keep (fun h => by cases h) hem h1
    | normal => exact hem.elim
    | goto l => exact hem.elim
    | exit j => exact hem.elim
    | ret => exact hem.elim
    | outgrown => exact hem.elim

/-- A seam: the walk goes on from a state of a known shape. -/
theorem seam {I : Alg} (hI : I = alg) (hT : T.fits Pr) (hm : Pr.follows .mixedOrders = true) {cfg : Cfg} (kn : List (Know Pr)) {R : List Rt} {i : Nat} {p : List Nat} {st : St} {k0 : Nat} (hk : X.bs0.length = k0) (dom : List Nat) (st1 : St)
    (h0 : cutM cfg k0 dom st = some st1) (hr : Ok Pr X G (go I T cfg kn R i p st1)) : Ok Pr X G (leaf I T cfg R i p st) := by
  subst hI
  constructor
  intro S K a w hH hE
  exact headT_sound hT hm (drive_ok (fun f => ask_good) hr.out) (cutM_sound hk h0 ⟨S, K, hH, hE⟩)
end

/-! ### functions that defer a closure -/
inductive AM where
  | ret
  | pan (c : C)
def MAM (S : Frz) (bs : List Value) : AM → FrameMode → Prop
  | .ret, u => u = .returning
  | .pan c, u => ∃ v, u = .panicking [{ v := v, recovered := false }] ∧ MC S bs c v
/-- The contract of a closure that was deferred: ahead of it the function ends so; behind it so. -/
def SpcD (Pr : Program) (g : Nat) (caps : List Cap) (m : AM) (hp : List HO) (m' : AM) (hp' : List HO) : Prop :=
  (∃ fn, Pr.funcs[g]? = some fn ∧ (fn.name == "runtime.NumGoroutine") = false ∧ fn.body.isNone = false) ∧
  ∀ (S : Frz) (K : List CO) (fr : List Chunk) (w : World) (vs : List Value) (u : FrameMode), HR S (K.map CO.base) hp K → MCaps S (K.map CO.base) caps vs → At w (frzC S :: (CO.chunkL K ++ fr)) → MAM S (K.map CO.base) m u →
    CallsD Pr g vs.toArray u w fun e u' w' => (∃ v, e = .returned v) ∧ ∃ S' K', S.le S' ∧ Ext (K.map CO.base) (K'.map CO.base) ∧ HR S' (K'.map CO.base) hp' K' ∧ At w' (frzC S' :: (CO.chunkL K' ++ fr)) ∧ MAM S' (K'.map CO.base) m' (settle u')
structure Door (Pr : Program) where
  g : Nat
  c : Alg → AM → List Cap → List HO → Option (Prop × AM × List HO)
  ok : ∀ m caps hp p m' hp', c alg m caps hp = some (p, m', hp') → p → SpcD Pr g caps m hp m' hp'
def AM.out : AM → AEx
  | .ret => .ret
  | .pan c => .pan c
def modeOf : AEx → Option AM
  | .normal => some .ret
  | .ret => some .ret
  | .pan c => some (.pan c)
  | .exit _ => none
def finKD {Pr : Program} (I : Alg) (T : Tab) (cfg : Cfg) (k0 : Nat) (fn : Func) (dk : Door Pr) (e : AEx) (st : St) : Tree :=
  match st.df with
  | none => finK0 I T cfg k0 fn e st
  | some (g, caps) => match Nat.beq g dk.g, modeOf e with
    | true, some m => (match dk.c I m caps st.hp with
      | some (p, m', hp') => .need p (finK0 I T cfg k0 fn m'.out { st with hp := hp', df := none })
      | none => .stop 91)
    | _, _ => .stop 92

section
variable {Pr : Program} {T : Tab} {a : Act} {w : World}
theorem call_enter {g : Nat} {fn : Func} (hfn : Pr.funcs[g]? = some fn) (hname : (fn.name == "runtime.NumGoroutine") = false) (hbody : fn.body.isNone = false) (args : Array Value) : (callFunc g args).run Pr w = .ok (.enter g args) w := by
  have hname' : ¬ fn.name = "runtime.NumGoroutine" := by simpa using hname
  have hbody' : ¬ fn.body = none := by cases hb : fn.body with | none => rw [hb] at hbody; cases hbody | some c => simp
  simp [callFunc, program, hfn, Sem.run]
  rw [if_neg hname', if_neg hbody']

theorem spcGD {P : Program} {T : Tab} (hT : T.fits P) (hm : P.follows .mixedOrders = true) {f : Nat} {fn : Func} (hf : P.funcs[f]? = some fn) (hn : (fn.name == "runtime.NumGoroutine") = false) (cfg : Cfg) (kn : List (Know P)) (dk : Door P) {args : List D} {hp : List HO} {out : AOut} {hp' : List HO}
    (hb : (fn.body.isSome && !headSeam cfg (bodyOf fn) && Nat.ble args.length fn.ntmps) = true)
    (h : ∀ (I : Alg) (X : Ctx), I = alg → X.bs0.length = hp.length → Ok P X (fun o h => o = out ∧ h = hp') (go I T cfg kn [⟨bodyOf fn, finKD I T cfg hp.length fn dk⟩] 0 [] { env := envOf 0 args, hp := hp, n := fn.ntmps })) : Spc P f args hp out hp' := by
  simp only [Bool.and_eq_true, Bool.not_eq_true'] at hb
  obtain ⟨⟨hb1, hb2⟩, hb3⟩ := hb
  obtain ⟨c, hc⟩ := Option.isSome_iff_exists.1 hb1
  have hbo : bodyOf fn = c := by unfold bodyOf; rw [hc]
  refine ⟨⟨fn, hf, hn, by rw [hc]; rfl⟩, fun S K fr w vs hHR hargs hat => ?_⟩
  have h1 := (h alg ⟨S, K.map CO.base, fr⟩ rfl (by simp [hHR.1])).out
  have h2 := drive_ok (fun f => ask_good) h1
  simp only [rtAt, cAt, kAt, hbo] at h2
  have hal := hargs.length
  have hle := Nat.le_of_ble_eq_true hb3
  have hnow : Now ⟨S, K.map CO.base, fr⟩ { env := envOf 0 args, hp := hp, n := fn.ntmps } { tmps := vs.toArray ++ Array.replicate (fn.ntmps - vs.toArray.size) undef, defers := [] } w := by
    refine ⟨S, K, ⟨Frz.le.refl S, Ext.refl _, hHR, hat⟩, ⟨?_, rfl, fun t d hd => ?_⟩⟩
    · simp [hal]; omega
    · obtain ⟨_, v, h1, h2⟩ := look_envOf hargs hd
      simp only [Nat.sub_zero] at h1
      have hlt := (List.getElem?_eq_some_iff.1 h1).1
      have e : (vs.toArray ++ Array.replicate (fn.ntmps - vs.toArray.size) undef).getD t undef = v := by
        rw [Array.getD_eq_getD_getElem?, Array.getElem?_append_left (by simpa using hlt)]
        simp [h1]
      rw [e]; exact h2
  refine calls_of_wp_defers hf hc (wp_mono (headT_sound hT hm h2 hnow) fun e a w' hq => ?_)
  obtain ⟨e', st', hk, S', K', hH, hE, hem⟩ := hq
  have hlen : (K.map CO.base).length = hp.length := by simp [hHR.1]
  unfold finKD at hk
  split at hk
  · rename_i hdf
    have hd : a.defers = [] := by have := hE.defers; rw [hdf] at this; exact this
    have hfin := fin_ok (X := ⟨S, K.map CO.base, fr⟩) hT hlen hk hH hE hem
    cases e with
    | normal => show Leaves P fn a.tmps _ a.defers .returning w'; rw [hd]; exact hfin
    | ret => show Leaves P fn a.tmps _ a.defers .returning w'; rw [hd]; exact hfin
    | panic ch => show Leaves P fn a.tmps _ a.defers (.panicking ch) w'; rw [hd]; exact hfin
    | exit i => exact hfin.elim
    | goto l => exact hfin.elim
    | outgrown => exact hfin.elim
  · rename_i g caps hdf
    split at hk
    · rename_i m hg hmo
      have hg := Nat.eq_of_beq_eq_true hg
      split at hk
      · rename_i p m' hp2 hc2
        obtain ⟨hpn, hk⟩ := hk
        have hds := hE.defers
        rw [hdf] at hds
        obtain ⟨us, hcap, hds⟩ := hds
        have hspec := dk.ok _ _ _ _ _ _ hc2 hpn
        rw [← hg] at hspec
        obtain ⟨⟨gn, hgn, hgname, hgbody⟩, hspec⟩ := hspec
        have key : ∀ u, MAM S' (K'.map CO.base) m u → u ≠ .run → Leaves P fn a.tmps (fun e w' => ∃ S' K', S.le S' ∧ Ext (K.map CO.base) (K'.map CO.base) ∧ HR S' (K'.map CO.base) hp' K' ∧ At w' (frzC S' :: (CO.chunkL K' ++ fr)) ∧ EOut S' (K'.map CO.base) out e) a.defers u w' := by
          intro u hu hrun
          rw [hds]
          refine ⟨hrun, _, _, g, us.toArray, rfl, ?_, CallsD.mono (hspec S' K' fr w' us u hH.2.2.1 hcap hH.2.2.2 hu) ?_⟩
          · simp only [invoke, Array.empty_append]
            exact call_enter hgn hgname hgbody _
          · rintro e2 u' w2 ⟨⟨v, rfl⟩, S2, K2, hle2, hex2, hHR2, hat2, hm2⟩
            simp only
            have hH2 : Heap ⟨S, K.map CO.base, fr⟩ hp2 S2 K2 w2 := ⟨hH.1.trans hle2, hH.2.1.trans hex2, hHR2, hat2⟩
            have hE2 : Env S2 (K2.map CO.base) { st' with hp := hp2, df := none } { a with defers := [] } := ⟨hE.size, rfl, fun t d hd => (hE.slots t d hd).mono hle2 hex2⟩
            cases m' with
            | ret =>
              have : settle u' = .returning := hm2
              rw [this]
              exact fin_ok (X := ⟨S, K.map CO.base, fr⟩) (e := .ret) hT hlen hk hH2 hE2 trivial
            | pan c =>
              obtain ⟨v2, h5, h6⟩ := hm2
              rw [h5]
              exact fin_ok (X := ⟨S, K.map CO.base, fr⟩) (e := .panic _) hT hlen hk hH2 hE2 ⟨v2, rfl, h6⟩
        cases e with
        | normal => cases e' <;> first | exact hem.elim | (cases hmo; exact key .returning rfl (by simp))
        | ret => cases e' <;> first | exact hem.elim | (cases hmo; exact key .returning rfl (by simp))
        | panic ch => cases e' <;> first | exact hem.elim | (cases hmo; exact key (.panicking ch) (by obtain ⟨v, h1, h2⟩ := hem; exact ⟨v, by rw [h1], h2⟩) (by simp))
        | exit i => cases e' <;> first | exact hem.elim | (cases hmo; done)
        | goto l => cases e' <;> exact hem.elim
        | outgrown => cases e' <;> exact hem.elim
      · exact hk.elim
    · exact hk.elim

/-- What a closure that recovers gets. -/
def recC : AM → C
  | .ret => .p (.val .nilIface)
  | .pan c => c
/-- A closure that recovers at its beginning, and returns. -/
theorem spcD_intro {P : Program} {T : Tab} (hT : T.fits P) (hm : P.follows .mixedOrders = true) {f : Nat} {fn : Func} (hf : P.funcs[f]? = some fn) (hn : (fn.name == "runtime.NumGoroutine") = false) (cfg : Cfg) (kn : List (Know P))
    {id t t2 ty0 ty1 : Nat} {pos0 pos1 : String} {af0 af1 : Array Edge} {rest : Code}
    (hb : fn.body = some (.seq (.region id #[⟨some t, .call ⟨.builtin .recover, #[], #[]⟩, ty0, pos0, af0, none⟩, ⟨some t2, .assign (.tmp t), ty1, pos1, af1, none⟩] false) rest))
    {m : AM} {caps : List Cap} {hp hp' : List HO}
    (hbb : (Nat.blt t fn.ntmps && Nat.blt t2 fn.ntmps && !Nat.beq t t2 && Nat.ble caps.length fn.ntmps && !headSeam cfg rest) = true)
    (h : ∀ (I : Alg) (X : Ctx), I = alg → X.bs0.length = hp.length → Ok P X (fun o h => o = .ret (.tup []) ∧ h = hp') (go I T cfg kn [⟨bodyOf fn, finK I T cfg hp.length fn⟩] 0 [1] (({ env := envOf 0 (caps.map dP), hp := hp, n := fn.ntmps } : St).put (some t) (.v (.one (recC m))) |>.put (some t2) (.v (.one (recC m)))))) : SpcD P f caps m hp .ret hp' := by
  simp only [Bool.and_eq_true, Bool.not_eq_true'] at hbb
  obtain ⟨⟨⟨⟨ht, ht2⟩, hne⟩, hle⟩, hseam⟩ := hbb
  have ht : t < fn.ntmps := by simpa using ht
  have ht2 : t2 < fn.ntmps := by simpa using ht2
  have hne : t ≠ t2 := Nat.ne_of_beq_eq_false hne
  have hle := Nat.le_of_ble_eq_true hle
  refine ⟨⟨fn, hf, hn, by rw [hb]; rfl⟩, fun S K fr w vs u hHR hcap hat hmode => ?_⟩
  have h1 := (h alg ⟨S, K.map CO.base, fr⟩ rfl (by simp [hHR.1])).out
  have h2 := drive_ok (fun f => ask_good) h1
  have hbo : bodyOf fn = .seq (.region id #[⟨some t, .call ⟨.builtin .recover, #[], #[]⟩, ty0, pos0, af0, none⟩, ⟨some t2, .assign (.tmp t), ty1, pos1, af1, none⟩] false) rest := by unfold bodyOf; rw [hb]
  simp only [rtAt, hbo, cAt, kAt] at h2
  have hal := hcap.mds.length
  rw [List.length_map] at hal
  have hlen : (K.map CO.base).length = hp.length := by simp [hHR.1]
  refine callsD_of_wpS hf hb fun c₀ cs hu => ?_
  -- what is got, and the mode behind it
  obtain ⟨x, u1, hrec, hx, hset⟩ : ∃ x u1, (match recoverD (c₀ :: cs) with | some (v, cs') => (v, cs') | none => (.nilIface, c₀ :: cs)) = (x, { c₀ with mode := u1 } :: cs) ∧ MC S (K.map CO.base) (recC m) x ∧ settle u1 = .returning := by
    cases m with
    | ret =>
      have hmode : u = .returning := hmode
      subst hmode
      refine ⟨.nilIface, .returning, ?_, .val _ rfl, rfl⟩
      simp only [recoverD, hu]
      cases c₀; simp at hu; subst hu; rfl
    | pan c =>
      obtain ⟨v, rfl, hv⟩ := hmode
      refine ⟨v, .panicking [{ v := v, recovered := true }], ?_, hv, rfl⟩
      simp [recoverD, hu]
  have hnow : Now ⟨S, K.map CO.base, fr⟩ (({ env := envOf 0 (caps.map dP), hp := hp, n := fn.ntmps } : St).put (some t) (.v (.one (recC m))) |>.put (some t2) (.v (.one (recC m)))) (({ tmps := vs.toArray ++ Array.replicate (fn.ntmps - vs.toArray.size) undef, defers := [] } : Act).put (some t) x |>.put (some t2) x) w := by
    have hE0 : Env S (K.map CO.base) { env := envOf 0 (caps.map dP), hp := hp, n := fn.ntmps } { tmps := vs.toArray ++ Array.replicate (fn.ntmps - vs.toArray.size) undef, defers := [] } := by
      refine ⟨?_, rfl, fun t d hd => ?_⟩
      · simp [hal]; omega
      · obtain ⟨_, v, h1, h2⟩ := look_envOf hcap.mds hd
        simp only [Nat.sub_zero] at h1
        have hlt := (List.getElem?_eq_some_iff.1 h1).1
        have e : (vs.toArray ++ Array.replicate (fn.ntmps - vs.toArray.size) undef).getD t undef = v := by
          rw [Array.getD_eq_getD_getElem?, Array.getElem?_append_left (by simpa using hlt)]
          simp [h1]
        rw [e]; exact h2
    exact ⟨S, K, by rw [put_hp, put_hp]; exact ⟨Frz.le.refl S, Ext.refl _, hHR, hat⟩, (hE0.put (some t) (d := .v (.one (recC m))) hx).put (some t2) (d := .v (.one (recC m))) hx⟩
  have hw := headT_sound hT hm h2 hnow
  refine wpS_seq (wpS_region ?_)
  have hsz : t < (vs.toArray ++ Array.replicate (fn.ntmps - vs.toArray.size) undef).size := by simp [hal]; omega
  have hev : ({ tmps := (vs.toArray ++ Array.replicate (fn.ntmps - vs.toArray.size) undef).setIfInBounds t x, defers := [] } : Act).eval (.tmp t) = x := by
    simp only [Act.eval]
    rw [Array.getD_eq_getD_getElem?, Array.getElem?_setIfInBounds_self_of_lt hsz]; rfl
  have hgoal : rest.wpS P (bodyPostS P fn c₀ cs fun e u' w' => (∃ v, e = .returned v) ∧ ∃ S' K', S.le S' ∧ Ext (K.map CO.base) (K'.map CO.base) ∧ HR S' (K'.map CO.base) hp' K' ∧ At w' (frzC S' :: (CO.chunkL K' ++ fr)) ∧ MAM S' (K'.map CO.base) .ret (settle u'))
      (({ tmps := vs.toArray ++ Array.replicate (fn.ntmps - vs.toArray.size) undef, defers := [] } : Act).put (some t) x |>.put (some t2) x) ({ c₀ with mode := u1 } :: cs) w := by
    refine wpS_of_wp (wp_mono hw fun e a' w' hq => ?_)
    obtain ⟨e', st', hk, S', K', hH, hE, hem⟩ := hq
    unfold finK at hk
    split at hk
    case h_2 => exact hk.elim
    rename_i hdf
    have hd : a'.defers = [] := by have := hE.defers; rw [hdf] at this; exact this
    have hfin := fin_ok (X := ⟨S, K.map CO.base, fr⟩) hT hlen hk hH hE hem
    cases e with
    | normal => obtain ⟨v, hv, S2, K2, h5, h6, h7, h8, _⟩ := hfin; exact ⟨hd, u1, rfl, v, hv, ⟨v, rfl⟩, S2, K2, h5, h6, h7, h8, hset⟩
    | ret => obtain ⟨v, hv, S2, K2, h5, h6, h7, h8, _⟩ := hfin; exact ⟨hd, u1, rfl, v, hv, ⟨v, rfl⟩, S2, K2, h5, h6, h7, h8, hset⟩
    | panic ch => obtain ⟨S2, K2, h5, h6, h7, h8, h9⟩ := hfin; exact h9.elim
    | exit i => exact hfin.elim
    | goto l => exact hfin.elim
    | outgrown => exact hfin.elim
  clear hnow hw
  generalize vs.toArray ++ Array.replicate (fn.ntmps - vs.toArray.size) undef = tm at hev hgoal hsz ⊢
  have hr0 : ∀ (a : Act), (execOp a.eval ⟨some t, .call ⟨.builtin .recover, #[], #[]⟩, ty0, pos0, af0, none⟩).run P w = .ok .recover w := by
    intro a; simp [execOp, Go.resolve, invoke, builtin]
  simp only [List.size_toArray, List.length_cons, List.length_nil, Nat.zero_add, Nat.reduceAdd, List.range_succ_eq_map, List.range_zero, List.map_cons, List.map_nil]
  simp only [wpOpsS, List.getElem?_toArray, List.getElem?_cons_zero, List.getElem?_cons_succ, Region.wanted, if_true, hr0]
  cases hq : recoverD (c₀ :: cs) with
  | none =>
    rw [hq] at hrec
    simp only [Prod.mk.injEq] at hrec
    obtain ⟨rfl, hcs⟩ := hrec
    simp only [Act.put, execOp, Sem.run_pure, hev, Oper.upon, Exit.thenS]
    rw [hcs]
    exact hgoal
  | some y =>
    obtain ⟨y, cs'⟩ := y
    rw [hq] at hrec
    simp only [Prod.mk.injEq] at hrec
    obtain ⟨rfl, rfl⟩ := hrec
    simp only [Act.put, execOp, Sem.run_pure, hev, Oper.upon, Exit.thenS]
    exact hgoal
end
/-! ### lemmas of the walks, bound together -/
theorem nrmA : type_of% (And.intro @alg_b2i <| And.intro @alg_i2b <| And.intro @alg_add <| And.intro @alg_sub <| And.intro @alg_mul <| And.intro @alg_quo <| And.intro @alg_rem <| And.intro @alg_wrap <| And.intro @alg_imin <| And.intro @alg_imax <| And.intro @alg_ilt <| And.intro @alg_ile <| And.intro @alg_ieq <| And.intro @alg_bnot <| And.intro @alg_beq <| And.intro @alg_ban <| And.intro @alg_seq <| And.intro @alg_len <| And.intro @alg_app <| And.intro @alg_cut <| And.intro @alg_get <| And.intro @alg_set <| And.intro @alg_rep <| And.intro @alg_inr <| And.intro @alg_inb <| And.intro @alg_cutb <| And.intro @alg_same <| And.intro @alg_few <| And.intro @alg_nne <| And.intro @alg_nng <| And.intro @alg_hid <| And.intro @alg_shl <| And.intro @alg_shr <| @alg_bits) := And.intro @alg_b2i <| And.intro @alg_i2b <| And.intro @alg_add <| And.intro @alg_sub <| And.intro @alg_mul <| And.intro @alg_quo <| And.intro @alg_rem <| And.intro @alg_wrap <| And.intro @alg_imin <| And.intro @alg_imax <| And.intro @alg_ilt <| And.intro @alg_ile <| And.intro @alg_ieq <| And.intro @alg_bnot <| And.intro @alg_beq <| And.intro @alg_ban <| And.intro @alg_seq <| And.intro @alg_len <| And.intro @alg_app <| And.intro @alg_cut <| And.intro @alg_get <| And.intro @alg_set <| And.intro @alg_rep <| And.intro @alg_inr <| And.intro @alg_inb <| And.intro @alg_cutb <| And.intro @alg_same <| And.intro @alg_few <| And.intro @alg_nne <| And.intro @alg_nng <| And.intro @alg_hid <| And.intro @alg_shl <| And.intro @alg_shr <| @alg_bits
theorem nrmB : type_of% (And.intro @decide_eq_true_eq <| And.intro @decide_eq_false_iff_not <| And.intro @beq_iff_eq.{0} <| And.intro @beq_eq_false_iff_ne.{0} <| And.intro @Bool.not_eq_true' <| And.intro @Bool.not_eq_false' <| And.intro @Bool.and_eq_true <| And.intro @Bool.and_true <| And.intro @Bool.true_and <| And.intro @and_true <| And.intro @true_and <| And.intro @ne_eq.{1} <| And.intro @Int.toNat_zero <| And.intro @Nat.sub_zero <| And.intro @List.drop_zero.{0} <| And.intro @i64_min <| And.intro @i64_max <| And.intro @u8_min <| And.intro @u8_max <| And.intro @ofNat_b2i <| And.intro @b2i_inj <| And.intro @Int.toNat_natCast <| And.intro @Int.ofNat_eq_natCast <| And.intro @UInt8.ofNat_toNat <| And.intro @AOut.ret.injEq <| And.intro @AOut.pan.injEq <| And.intro @C.ifc.injEq <| And.intro @D.v.injEq <| And.intro @D.tup.injEq <| And.intro @V0.one.injEq <| And.intro @C.p.injEq <| And.intro @P.bool.injEq <| And.intro @P.int.injEq <| And.intro @P.str.injEq <| And.intro @Bool.false_eq_true <| And.intro @Bool.true_eq_false <| And.intro @imp_false <| And.intro @Decidable.not_not <| And.intro @not_true_eq_false <| @not_false_eq_true) := And.intro @decide_eq_true_eq <| And.intro @decide_eq_false_iff_not <| And.intro @beq_iff_eq.{0} <| And.intro @beq_eq_false_iff_ne.{0} <| And.intro @Bool.not_eq_true' <| And.intro @Bool.not_eq_false' <| And.intro @Bool.and_eq_true <| And.intro @Bool.and_true <| And.intro @Bool.true_and <| And.intro @and_true <| And.intro @true_and <| And.intro @ne_eq.{1} <| And.intro @Int.toNat_zero <| And.intro @Nat.sub_zero <| And.intro @List.drop_zero.{0} <| And.intro @i64_min <| And.intro @i64_max <| And.intro @u8_min <| And.intro @u8_max <| And.intro @ofNat_b2i <| And.intro @b2i_inj <| And.intro @Int.toNat_natCast <| And.intro @Int.ofNat_eq_natCast <| And.intro @UInt8.ofNat_toNat <| And.intro @AOut.ret.injEq <| And.intro @AOut.pan.injEq <| And.intro @C.ifc.injEq <| And.intro @D.v.injEq <| And.intro @D.tup.injEq <| And.intro @V0.one.injEq <| And.intro @C.p.injEq <| And.intro @P.bool.injEq <| And.intro @P.int.injEq <| And.intro @P.str.injEq <| And.intro @Bool.false_eq_true <| And.intro @Bool.true_eq_false <| And.intro @imp_false <| And.intro @Decidable.not_not <| And.intro @not_true_eq_false <| @not_false_eq_true
theorem nrlB : type_of% (And.intro @List.cons.injEq.{0} <| And.intro @P.list.injEq <| And.intro @HO.row.injEq <| And.intro @heq_eq_eq.{1} <| And.intro @false_and <| @and_false) := And.intro @List.cons.injEq.{0} <| And.intro @P.list.injEq <| And.intro @HO.row.injEq <| And.intro @heq_eq_eq.{1} <| And.intro @false_and <| @and_false
theorem instL : type_of% (And.intro @inst_need <| And.intro @inst_br <| And.intro @inst_both <| And.intro @inst_fin <| And.intro @inst_qed <| And.intro @inst_stop <| @inst_code) := And.intro @inst_need <| And.intro @inst_br <| And.intro @inst_both <| And.intro @inst_fin <| And.intro @inst_qed <| And.intro @inst_stop <| @inst_code
end Go.Ab
