/- Texts of this proof, one behind the other: AbP AbO Tab Laid InZ Shelf Lib ChrA ChrB ChrC ParL ParA ParC ParD Fnd FldA FldB FldG FldD FldE ChrD ChrN Base SplL. -/
import Derived.Deep.LoopGhost
import Derived.Recover
import Derived.Test.YtcclfkakcgnacaaGreatDoorProg
import Derived.WalkKit
import Derived.Lib.ItoaNum
import Derived.Lib.LaidTab
import Derived.WideShapes
import Derived.ChangeArms
import Derived.SizedLaws
import Derived.Shelf.Strings.SlTrimAscii
import Derived.Shelf.Strings.Trim
import Derived.Shelf.Small.Utf8
import Derived.Shelf.Small.Strs
import Derived.Shelf.Small.Wraps
import Derived.Shelf.Strconv.Itoa0
import Derived.Shelf.Strconv.Itoa1
import Derived.Shelf.LaysM
import Derived.Shelf.Strconv.Itoa2
import Derived.Shelf.Strconv.Itoa3
import Derived.Shelf.Strings.Search1
import Derived.Shelf.Strings.Prefix
import Derived.Shelf.Strings.Runes
import Derived.Shelf.Strings.AsciiSet
import Derived.Shelf.Unicode.DecodeSlow
import Derived.Below
import Derived.Test.YtcclfkakcgnacaaGreatDoorMb
set_option linter.all false
namespace Go.Ab
open Go Go.Sep
variable [Facts]
theorem zdd {α:Type} (x:α):alg.hid x=x:=rfl
theorem zit (k:IntKind) (x y:Int):alg.shl k x y=k.wrap (x * 2 ^ (min y.toNat k.bits)):=rfl
theorem zis (x y:Int):alg.shr x y=x.fdiv (2 ^ (min y.toNat 64)):=rfl
theorem ze7 (op:BinOp) (k:IntKind) (x y:Int):alg.bits op k x y=k.wrap (match op with
    |.and=>(BitVec.ofInt k.bits x&&& BitVec.ofInt k.bits y).toNat
    |.or=>(BitVec.ofInt k.bits x|||BitVec.ofInt k.bits y).toNat
    |_=>(BitVec.ofInt k.bits x ^^^ BitVec.ofInt k.bits y).toNat:Nat):=rfl
theorem zaf:IntKind.i64.min= -9223372036854775808:=by decide
theorem zah:IntKind.i64.max=9223372036854775807:=by decide
theorem zj2:IntKind.u8.min=0:=by decide
theorem zj3:IntKind.u8.max=255:=by decide
theorem zbj (c:UInt8):UInt8.ofNat ((c.toNat:Int)).toNat=c:=by simp
theorem vw (c d:UInt8):((c.toNat:Int)=(d.toNat:Int))↔c=d:=by
  constructor
  · intro h;exact UInt8.toNat_inj.1 (by omega)
  · intro h;rw [h]
structure CR where
  need:Prop
  out:AOut
  hp:List HO
inductive CT where
  |one (r:CR)
  |br (b:Bool) (t f:CT)
def CT.Good (Pr:Program) (f:Nat) (args:List D) (hp:List HO):CT→Prop
  |.one r=>r.need→Spc Pr f args hp r.out r.hp
  |.br b t e=>(b=true→t.Good Pr f args hp)∧(b=false→e.Good Pr f args hp)
def CT.map (g:CR→CR):CT→CT
  |.one r=>.one (g r)
  |.br b t e=>.br b (t.map g) (e.map g)
def CT.mapO (g:CR→Option CR):CT→Option CT
  |.one r=>match g r with|some r=>some (.one r)|none=>none
  |.br b t e=>match t.mapO g,e.mapO g with|some t,some e=>some (.br b t e)|_,_=>none
def CT.tree (k:CR→Tree):CT→Tree
  |.one r=>k r
  |.br b t e=>.br b (t.tree k) (e.tree k)
theorem CT.Good.map {Pr:Program} {f f':Nat} {args args':List D} {hp hp':List HO} {g:CR→CR} (h: ∀ r:CR,(r.need→Spc Pr f args hp r.out r.hp)→(g r).need→Spc Pr f' args' hp' (g r).out (g r).hp): ∀ {c:CT},c.Good Pr f args hp→(c.map g).Good Pr f' args' hp'
  |.one r,hc=>h r hc
  |.br _ _ _,hc=>⟨fun e=>CT.Good.map h (hc.1 e),fun e=>CT.Good.map h (hc.2 e)⟩
theorem CT.Good.mapO {Pr:Program} {f f':Nat} {args args':List D} {hp hp':List HO} {g:CR→Option CR} (h: ∀ r r':CR,g r=some r'→(r.need→Spc Pr f args hp r.out r.hp)→r'.need→Spc Pr f' args' hp' r'.out r'.hp): ∀ {c c':CT},c.mapO g=some c'→c.Good Pr f args hp→c'.Good Pr f' args' hp'
  | .one r,c',e,hc=>by
    simp only [CT.mapO] at e
    split at e
    · rename_i r' hr;cases e;exact h r r' hr hc
    · cases e
  | .br b t f,c',e,hc=>by
    simp only [CT.mapO] at e
    split at e
    · rename_i t' f' ht hf;cases e;exact⟨fun e=>CT.Good.mapO h ht (hc.1 e),fun e=>CT.Good.mapO h hf (hc.2 e)⟩
    · cases e
structure Know (Pr:Program) where
  f:Nat
  c:Alg→List D→List HO→Option CT
  ok: ∀ args hp r,c alg args hp=some r→r.Good Pr f args hp
def zka:List D→List Nat
  |[]=>[]
  |d::ds=>zji d++zka ds
def Qp (hp:List HO) (args:List D):List Nat:=gather hp 60 (zka args) []
def frameC (c:List D→List HO→Option CT) (args:List D) (hp:List HO):Option CT:=
  match tY (Qp hp args) hp with
  |none=>none
  | some (os,hpr)=>match c (args.map (D.ren fun q=>idx q (Qp hp args) 0)) (os.map (HO.ren fun q=>idx q (Qp hp args) 0)) with
    |none=>none
    |some r=>some (r.map fun r=>⟨r.need,r.out.ren (Wy (Qp hp args) hp.length),qL (Wy (Qp hp args) hp.length) (Qp hp args) r.hp hpr⟩)
def U6 (I:Alg) (c:List D→List HO→Option CT):Nat→List D→List HO→Option CT
  |0,args,hp=>frameC c args hp
  | n + 1,args,hp=>match nth hp n with
    | some (.row u E l)=>(match U6 I c n (args.map (D.frz I n u l)) (setN (hp.map (HO.frz I n u l)) n .gone) with
      | some r=>r.mapO fun r=>(match noLA r.out,zbl r.hp with
        |true,true=>some ⟨r.need,r.out,setN r.hp n (.row u E l)⟩
        |_,_=>none)
      |none=>none)
    |_=>U6 I c n args hp
def zq (I:Alg) (c:List D→List HO→Option CT) (args:List D) (hp:List HO):Option CT:=U6 I c hp.length args hp
def ask {Pr:Program} (I:Alg):List (Know Pr)→Nat→List D→List HO→Option CT
  |[],_,_,_=>none
  | k::r,f,args,hp=>match Nat.beq k.f f with
    |true=>(match frameC (k.c I) args hp with|some x=>some x|none=>ask I r f args hp)
    |false=>ask I r f args hp
def drive (q:Nat→List D→List HO→Option CT):Tree→Tree
  |.need p t=>.need p (drive q t)
  |.br b t f=>.br b (drive q t) (drive q f)
  | .call f args hp k=>RU hp fun hp=>match q f args hp with
    |some r=>r.tree fun r=>.need r.need (RU r.hp fun h=>drive q (k r.out h))
    |none=>.call f args hp fun o h=>drive q (k o h)
  |.code c st k=>.code c st k
  |.fin o hp=>.fin o hp
  |.both t f=>.both (drive q t) (drive q f)
  |.qed=>.qed
  |.stop n=>.stop n
def zo (Pr:Program) (f:Nat) (c:List D→List HO→Option CT):Prop:=∀ args hp r,c args hp=some r→r.Good Pr f args hp
section
variable {Pr:Program} {T:Tab} {X:Ctx} {G:AOut→List HO→Prop} {a:Act} {w:World}
theorem Ti {f:Nat} {c:List D→List HO→Option CT} (h:zo Pr f c):zo Pr f (frameC c):=by
  intro args hp r hr
  unfold frameC at hr
  split at hr
  · cases hr
  · rename_i os hpr ht
    split at hr
    · cases hr
    · rename_i r0 hc
      cases hr
      exact CT.Good.map (g:=fun r=>⟨r.need,r.out.ren (Wy (Qp hp args) hp.length),qL (Wy (Qp hp args) hp.length) (Qp hp args) r.hp hpr⟩) (fun r hs hn=>(hs hn).frame _ ht rfl rfl) (h _ _ _ hc)
theorem ZB {f:Nat} {c:List D→List HO→Option CT} (h:zo Pr f c): ∀ n,zo Pr f (U6 alg c n)
  |0=>Ti h
  | n + 1 =>by
    intro args hp r hr
    unfold U6 at hr
    split at hr
    · rename_i u E l ho
      rw [yK] at ho
      split at hr
      · rename_i r0 hc
        refine CT.Good.mapO (fun r r' hrr hs hn=> ?_) hr (ZB h n _ _ _ hc)
        split at hrr
        · rename_i h1 h2
          cases hrr
          exact Spc.znc (hs hn) ho rfl rfl h1 h2
        · cases hrr
      · cases hr
    · exact ZB h n _ _ _ hr
theorem zf {f:Nat} {c:List D→List HO→Option CT} (h:zo Pr f c):zo Pr f (zq alg c):=fun args hp=>ZB h hp.length args hp
theorem Ze: ∀ {kn:List (Know Pr)} {f:Nat},zo Pr f (ask alg kn f)
  |[],f=>fun args hp r hr=>by cases hr
  | k ::r,f=>fun args hp x hr=>by
    unfold ask at hr
    split at hr
    · rename_i hb
      obtain rfl:=Nat.eq_of_beq_eq_true hb
      split at hr
      · rename_i y hy;cases hr;exact Ti k.ok args hp _ hy
      · exact Ze args hp x hr
    · exact Ze args hp x hr
theorem CT.wW {f:Nat} {args:List D} {hp:List HO} {k:AOut→List HO→Tree} {k':AOut→List HO→Tree} (ih: ∀ o h,(k' o h).ok Pr X G→(k o h).ok Pr X G): ∀ {c:CT},c.Good Pr f args hp→(c.tree fun r=>.need r.need (k' r.out r.hp)).ok Pr X G→∃ out hp',Spc Pr f args hp out hp'∧(k out hp').ok Pr X G
  |.one r,hc,h=>⟨r.out,r.hp,hc h.1,ih _ _ h.2⟩
  | .br b t e,hc,h=>by
    cases b with
    |true=>exact CT.wW ih (hc.1 rfl) (h.1 rfl)
    |false=>exact CT.wW ih (hc.2 rfl) (h.2 rfl)
theorem XG {q:Nat→List D→List HO→Option CT} (hq: ∀ f,zo Pr f (q f)): ∀ {t:Tree},(drive q t).ok Pr X G→t.ok Pr X G:=by
  intro t
  induction t with
  |need p t ih=>exact fun h=>⟨h.1,ih h.2⟩
  |br b t f ih1 ih2=>exact fun h=>⟨fun e=>ih1 (h.1 e),fun e=>ih2 (h.2 e)⟩
  | call f args hp k ih=>
    intro h
    simp only [drive,Tm] at h
    split at h
    · rename_i r hr;exact CT.wW (k':=fun o h=>drive q (k o h)) (fun o h=>ih o h) (hq f args hp r hr) h
    · obtain⟨o,hp',h1,h2⟩:=h;exact⟨o,hp',h1,ih _ _ h2⟩
  |code c st k ih=>exact fun h=>h
  |fin o hp=>exact fun h=>h
  |both t f ih1 ih2=>exact fun h=>⟨ih1 h.1,ih2 h.2⟩
  |qed=>exact fun h=>h
  |stop n=>exact fun h=>h
structure Rt where
  B:Code
  K:AEx→St→Tree
def yH (fn:Func):Code:=match fn.body with|some c=>c|none=>.skip
def loopBody:Code→Code
  |.loop b=>b
  |c=>c
def cAt:List Nat→Code→Code
  |[],c=>c
  | n::p,c=>match c with
    |.seq a b=>(match n with|0=>cAt p a|_=>cAt p b)
    |.cond _ t e=>(match n with|0=>cAt p t|_=>cAt p e)
    |.block _ b=>cAt p b
    |c=>c
def kAt (I:Alg) (T:Tab) (cfg:Cfg):List Nat→Code→(AEx→St→Tree)→AEx→St→Tree
  |[],_,K=>K
  | n ::p,c,K=>match c with
    |.seq a b=>(match n with|0=>kAt I T cfg p a (fun e st=>match e with|.normal=>vc I T cfg b K st|e=>K e st)|_=>kAt I T cfg p b K)
    |.cond _ t e=>(match n with|0=>kAt I T cfg p t K|_=>kAt I T cfg p e K)
    | .block id b=>kAt I T cfg p b (fun e st=>match e with
      |.exit j=>(match Nat.beq j id with|true=>K .normal st|false=>K (.exit j) st)
      |e=>K e st)
    |_=>K
def rtAt:Nat→List Rt→Rt
  |_,[]=>⟨.skip,fun _ _=>.stop 50⟩
  |0,r::_=>r
  |n+1,_::l=>rtAt n l
def leaf (I:Alg) (T:Tab) (cfg:Cfg) (R:List Rt) (i:Nat) (p:List Nat) (st:St):Tree:=
  .code (cAt p (rtAt i R).B) st (kAt I T cfg p (rtAt i R).B (rtAt i R).K)
def znk (I:Alg) (T:Tab) (cfg:Cfg) (c:Code) (K:AEx→St→Tree) (st:St):Tree:=
  match c with
  |.region _ ops draw=>regT I T cfg ops draw K (st.tidy cfg.keep)
  |c=>vc I T cfg c K st
def go (I:Alg) (T:Tab) (cfg:Cfg) (kn:List (Know Pr)) (R:List Rt) (i:Nat) (p:List Nat) (st:St):Tree:=
  drive (ask I kn) (znk I T cfg (cAt p (rtAt i R).B) (kAt I T cfg p (rtAt i R).B (rtAt i R).K) st)
def cutM (cfg:Cfg) (k0:Nat) (dom:List Nat) (st:St):Option St:=St.cut cfg.fsl k0 dom (YN cfg.mv st)
def zmK (cfg:Cfg) (k0:Nat) (dom:List Nat) (A:St→Prop) (k:AEx→St→Tree):AEx→St→Tree:=fun e st=>
  match e with
  |.normal=>(match cutM cfg k0 dom st with|some s=>.need (A s) .qed|none=>.stop 19)
  |e=>k e st
def round (I:Alg) (T:Tab) (cfg:Cfg) (k0:Nat) (dom:List Nat) (A:St→Prop) (R:List Rt) (i:Nat) (p:List Nat):Rt:=
  ⟨loopBody (cAt p (rtAt i R).B),zmK cfg k0 dom A (kAt I T cfg p (rtAt i R).B (rtAt i R).K)⟩
inductive PT where
  |need (p:Prop) (t:PT)
  |br (b:Bool) (t f:PT)
  |code (i:Nat) (p:List Nat) (st:St)
  |fin (o:AOut) (hp:List HO)
  |both (t f:PT)
  |qed
  |stop (n:Nat)
def PT.inst (I:Alg) (T:Tab) (cfg:Cfg) (R:List Rt):PT→Tree
  |.need p t=>.need p (t.inst I T cfg R)
  |.br b t f=>.br b (t.inst I T cfg R) (f.inst I T cfg R)
  |.code i p st=>leaf I T cfg R i p st
  |.fin o hp=>.fin o hp
  |.both t f=>.both (t.inst I T cfg R) (f.inst I T cfg R)
  |.qed=>.qed
  |.stop n=>.stop n
theorem zh {I:Alg} {cfg:Cfg} {kn:List (Know Pr)} {R:List Rt} {i:Nat} {p:List Nat} {st:St} (pt:PT) (h:go I T cfg kn R i p st=pt.inst I T cfg R) (k:Ok Pr X G (pt.inst I T cfg R)):Ok Pr X G (go I T cfg kn R i p st):=h▸k
theorem zbz {I:Alg} {cfg:Cfg} {R:List Rt} {p:Prop} {t:PT}:Ok Pr X G (PT.inst I T cfg R (.need p t))↔p∧Ok Pr X G (t.inst I T cfg R):=zlm
theorem zhx {I:Alg} {cfg:Cfg} {R:List Rt} {b:Bool} {t f:PT}:Ok Pr X G (PT.inst I T cfg R (.br b t f))↔(b=true→Ok Pr X G (t.inst I T cfg R))∧(b=false→Ok Pr X G (f.inst I T cfg R)):=zn6
theorem zbB {I:Alg} {cfg:Cfg} {R:List Rt} {t f:PT}:Ok Pr X G (PT.inst I T cfg R (.both t f))↔Ok Pr X G (t.inst I T cfg R)∧Ok Pr X G (f.inst I T cfg R):=zln
theorem zen {I:Alg} {cfg:Cfg} {R:List Rt} {o:AOut} {hp:List HO}:Ok Pr X G (PT.inst I T cfg R (.fin o hp))↔G o hp:=zm5
theorem zem {I:Alg} {cfg:Cfg} {R:List Rt}:Ok Pr X G (PT.inst I T cfg R .qed)↔True:=zm4
theorem zby {I:Alg} {cfg:Cfg} {R:List Rt} {n:Nat}:Ok Pr X G (PT.inst I T cfg R (.stop n))↔False:=zll
theorem zbA {I:Alg} {cfg:Cfg} {R:List Rt} {i:Nat} {p:List Nat} {st:St}:Ok Pr X G (PT.inst I T cfg R (.code i p st))↔Ok Pr X G (leaf I T cfg R i p st):=Iff.rfl
def Xv (cfg:Cfg):Code→Bool
  |.region id _ _=>memN id cfg.seam
  |_=>false
theorem spcG {P:Program} {T:Tab} (hT:T.fits P) (hm:P.follows .mixedOrders=true) {f:Nat} {fn:Func} (hf:P.funcs[f]? =some fn) (hn:(fn.name == "runtime.NumGoroutine")=false) (cfg:Cfg) (kn:List (Know P)) {args:List D} {hp:List HO} {out:AOut} {hp':List HO}
    (hb:(fn.body.isSome&& !Xv cfg (yH fn)&&Nat.ble args.length fn.ntmps)=true)
    (h: ∀ (I:Alg) (X:Ctx),I=alg→X.bs0.length=hp.length→Ok P X (fun o h=>o=out∧h=hp') (go I T cfg kn [⟨yH fn,finK I T cfg hp.length fn⟩] 0 [] { env:=Sj 0 args,hp:=hp,n:=fn.ntmps})):Spc P f args hp out hp':=by
  simp only [Bool.and_eq_true,Bool.not_eq_true'] at hb
  refine zfg hT hm hf hn (cfg:=cfg) hb.1.1 hb.2 fun I X hI hX=> ?_
  subst hI
  have h1:=(h alg X rfl hX).out
  have h2:=XG (fun f=>Ze) h1
  have hs:=hb.1.2
  unfold funT
  unfold yH at h2 hs
  cases hbd:fn.body with
  |none=>rw [hbd] at hb;cases hb.1.1
  | some c=>
    rw [hbd] at h2 hs
    simp only [rtAt,cAt,kAt] at h2
    simp only at hs ⊢
    cases c<;>first|exact h2|skip
    simp only [Xv] at hs
    simp only [vc,hs]
    exact h2
theorem qV (hT:T.fits Pr) (hm:Pr.follows .mixedOrders=true) {cfg:Cfg} {c:Code} {K:AEx→St→Tree} {st:St} (h:(znk alg T cfg c K st).ok Pr X G) (hn:Now X st a w):c.wp Pr (Post X fun e st'=>(K e st').ok Pr X G) a w:=by
  cases c with
  |region id ops draw=>exact SX hT hm h (hn.tidy cfg.keep)
  |_=>exact zdk hT hm (cfg:=cfg) h hn
theorem Wu {cfg:Cfg} {k0:Nat} (hk:X.bs0.length=k0) {dom:List Nat} {st s:St} (hc:cutM cfg k0 dom st=some s) (hn:Now X st a w):Now X s a w:=by
  obtain⟨S,K,hH,hE⟩:=hn
  obtain⟨K',h1,h2⟩:=qU cfg.mv hH hE
  exact zh8 hk hc ⟨S,K',h1,h2⟩
theorem zG {I:Alg} (hI:I=alg) (hT:T.fits Pr) (hm:Pr.follows .mixedOrders=true) {cfg:Cfg} (kn:List (Know Pr)) {R:List Rt} {i:Nat} {p:List Nat} {st:St} {k0:Nat} (hk:X.bs0.length=k0) (dom:List Nat) {ι:Type} (Inv:ι→Prop) (Iv:ι→St) (μ:ι→Nat) (g0:ι)
    (hc:(match cAt p (rtAt i R).B with|.loop b=> !Xv cfg b|_=>false)=true) (h0:cutM cfg k0 dom st=some (Iv g0)) (hg0:Inv g0)
    (hr: ∀ (g:ι),Inv g→∀ (A:St→Prop),(∀ g',Inv g'→μ g'<μ g→A (Iv g'))→Ok Pr X G (go I T cfg kn (round I T cfg k0 dom A R i p::R) 0 [] (Iv g))):Ok Pr X G (leaf I T cfg R i p st):=by
  subst hI
  constructor
  unfold leaf
  intro S K a w hH hE
  obtain⟨b,hb⟩: ∃ b,cAt p (rtAt i R).B=.loop b:=by
    cases h:cAt p (rtAt i R).B<;>rw [h] at hc<;>first|exact⟨_,rfl⟩|cases hc
  rw [hb]
  refine wp_loop_ghost (fun n a w=>∃ g,Inv g∧μ g=n∧Now X (Iv g) a w) (μ g0) ⟨g0,hg0,rfl,Wu hk h0 ⟨S,K,hH,hE⟩⟩ ?_
  rintro n a w ⟨g,hg,rfl,hn⟩
  have h1:=(hr g hg (fun s=>∃ g',Inv g'∧μ g'<μ g∧s=Iv g') (fun g' hi hl=>⟨g',hi,hl,rfl⟩)).out
  have h2:=XG (fun f=>Ze) h1
  simp only [rtAt,cAt,kAt,round,hb,loopBody] at h2
  refine wp_mono (qV hT hm h2 hn) fun e a' w' hq=> ?_
  obtain⟨e',st',h1,S',K',hH',hE',hem⟩:=hq
  generalize kAt alg T cfg p (rtAt i R).B (rtAt i R).K=k at h1
  have keep: ∀ {e:Exit} {e':AEx},(∀ (h:e'=.normal),False)→EM S' (K'.map CO.base) e e'→(k e' st').ok Pr X G→Post X (fun e st'=>(k e st').ok Pr X G) e a' w':=fun {e e'} _ hem h=>⟨e',st',h,S',K',hH',hE',hem⟩
  cases e' with
  | normal=>
    cases e with
    | normal=>
      have h1:((match cutM cfg k0 dom st' with|some s=>Tree.need (∃ g',Inv g'∧μ g'<μ g∧s=Iv g') .qed|none=>.stop 19):Tree).ok Pr X G:=h1
      split at h1
      · rename_i s hs
        obtain⟨⟨g',hi,hlt,rfl⟩,_⟩:=h1
        exact⟨μ g',hlt,g',hi,rfl,Wu hk hs ⟨S',K',hH',hE'⟩⟩
      · exact h1.elim
    |exit i=>exact hem.elim
    |goto l=>exact hem.elim
    |ret=>exact hem.elim
    |panic ch=>exact hem.elim
    |outgrown=>exact hem.elim
  | exit j=>cases e with
    |exit i=>exact keep (fun h=>by cases h) hem h1
    |normal=>exact hem.elim
    |goto l=>exact hem.elim
    |ret=>exact hem.elim
    |panic ch=>exact hem.elim
    |outgrown=>exact hem.elim
  | ret=>cases e with
    |ret=>exact keep (fun h=>by cases h) hem h1
    |normal=>exact hem.elim
    |goto l=>exact hem.elim
    |exit j=>exact hem.elim
    |panic ch=>exact hem.elim
    |outgrown=>exact hem.elim
  | pan c=>cases e with
    |panic ch=>exact keep (fun h=>by cases h) hem h1
    |normal=>exact hem.elim
    |goto l=>exact hem.elim
    |exit j=>exact hem.elim
    |ret=>exact hem.elim
    |outgrown=>exact hem.elim
theorem seam {I:Alg} (hI:I=alg) (hT:T.fits Pr) (hm:Pr.follows .mixedOrders=true) {cfg:Cfg} (kn:List (Know Pr)) {R:List Rt} {i:Nat} {p:List Nat} {st:St} {k0:Nat} (hk:X.bs0.length=k0) (dom:List Nat) (st1:St)
    (h0:cutM cfg k0 dom st=some st1) (hr:Ok Pr X G (go I T cfg kn R i p st1)):Ok Pr X G (leaf I T cfg R i p st):=by
  subst hI
  constructor
  intro S K a w hH hE
  exact qV hT hm (XG (fun f=>Ze) hr.out) (Wu hk h0 ⟨S,K,hH,hE⟩)
end
inductive AM where
  |ret
  |pan (c:C)
def MAM (S:Frz) (bs:List Value):AM→FrameMode→Prop
  |.ret,u=>u=.returning
  |.pan c,u=>∃ v,u=.panicking [{ v:=v,recovered:=false}]∧MC S bs c v
def SpcD (Pr:Program) (g:Nat) (caps:List Cap) (m:AM) (hp:List HO) (m':AM) (hp':List HO):Prop:=
  (∃ fn,Pr.funcs[g]? =some fn∧(fn.name == "runtime.NumGoroutine")=false∧fn.body.isNone=false)∧
  ∀ (S:Frz) (K:List CO) (fr:List Chunk) (w:World) (vs:List Value) (u:FrameMode),HR S (K.map CO.base) hp K→Zo S (K.map CO.base) caps vs→At w (frzC S::(CO.zn K++fr))→MAM S (K.map CO.base) m u→
    CallsD Pr g vs.toArray u w fun e u' w'=>(∃ v,e=.returned v)∧∃ S' K',S.le S'∧Ext (K.map CO.base) (K'.map CO.base)∧HR S' (K'.map CO.base) hp' K'∧At w' (frzC S'::(CO.zn K'++fr))∧MAM S' (K'.map CO.base) m' (settle u')
structure Door (Pr:Program) where
  g:Nat
  c:Alg→AM→List Cap→List HO→Option (Prop × AM × List HO)
  ok: ∀ m caps hp p m' hp',c alg m caps hp=some (p,m',hp')→p→SpcD Pr g caps m hp m' hp'
def AM.out:AM→AEx
  |.ret=>.ret
  |.pan c=>.pan c
def zm9:AEx→Option AM
  |.normal=>some .ret
  |.ret=>some .ret
  |.pan c=>some (.pan c)
  |.exit _=>none
def znr {Pr:Program} (I:Alg) (T:Tab) (cfg:Cfg) (k0:Nat) (fn:Func) (dk:Door Pr) (e:AEx) (st:St):Tree:=
  match st.df with
  |none=>zjI I T cfg k0 fn e st
  | some (g,caps)=>match Nat.beq g dk.g,zm9 e with
    | true,some m=>(match dk.c I m caps st.hp with
      |some (p,m',hp')=>.need p (zjI I T cfg k0 fn m'.out { st with hp:=hp',df:=none})
      |none=>.stop 91)
    |_,_=>.stop 92
section
variable {Pr:Program} {T:Tab} {a:Act} {w:World}
theorem zfW {g:Nat} {fn:Func} (hfn:Pr.funcs[g]? =some fn) (hname:(fn.name == "runtime.NumGoroutine")=false) (hbody:fn.body.isNone=false) (args:Array Value):(callFunc g args).run Pr w=.ok (.enter g args) w:=by
  have hname': ¬ fn.name= "runtime.NumGoroutine" :=by simpa using hname
  have hbody': ¬ fn.body=none:=by cases hb:fn.body with|none=>rw [hb] at hbody;cases hbody|some c=>simp
  simp [callFunc,program,hfn,Sem.run]
  rw [if_neg hname',if_neg hbody']
theorem zmt {P:Program} {T:Tab} (hT:T.fits P) (hm:P.follows .mixedOrders=true) {f:Nat} {fn:Func} (hf:P.funcs[f]? =some fn) (hn:(fn.name == "runtime.NumGoroutine")=false) (cfg:Cfg) (kn:List (Know P)) (dk:Door P) {args:List D} {hp:List HO} {out:AOut} {hp':List HO}
    (hb:(fn.body.isSome&& !Xv cfg (yH fn)&&Nat.ble args.length fn.ntmps)=true)
    (h: ∀ (I:Alg) (X:Ctx),I=alg→X.bs0.length=hp.length→Ok P X (fun o h=>o=out∧h=hp') (go I T cfg kn [⟨yH fn,znr I T cfg hp.length fn dk⟩] 0 [] { env:=Sj 0 args,hp:=hp,n:=fn.ntmps})):Spc P f args hp out hp':=by
  simp only [Bool.and_eq_true,Bool.not_eq_true'] at hb
  obtain⟨⟨hb1,hb2⟩,hb3⟩:=hb
  obtain⟨c,hc⟩:=Option.isSome_iff_exists.1 hb1
  have hbo:yH fn=c:=by unfold yH;rw [hc]
  refine⟨⟨fn,hf,hn,by rw [hc];rfl⟩,fun S K fr w vs hHR hargs hat=> ?_⟩
  have h1:=(h alg ⟨S,K.map CO.base,fr⟩ rfl (by simp [hHR.1])).out
  have h2:=XG (fun f=>Ze) h1
  simp only [rtAt,cAt,kAt,hbo] at h2
  have hal:=hargs.length
  have hle:=Nat.le_of_ble_eq_true hb3
  have hnow:Now ⟨S,K.map CO.base,fr⟩ { env:=Sj 0 args,hp:=hp,n:=fn.ntmps} { tmps:=vs.toArray++Array.replicate (fn.ntmps - vs.toArray.size) undef,defers:=[]} w:=by
    refine⟨S,K,⟨Frz.le.refl S,Ext.refl _,hHR,hat⟩,⟨?_,rfl,fun t d hd=> ?_⟩⟩
    · simp [hal];omega
    · obtain⟨_,v,h1,h2⟩:=Ye hargs hd
      simp only [Nat.sub_zero] at h1
      have hlt:=(List.getElem?_eq_some_iff.1 h1).1
      have e:(vs.toArray++Array.replicate (fn.ntmps - vs.toArray.size) undef).getD t undef=v:=by
        rw [Array.getD_eq_getD_getElem?,Array.getElem?_append_left (by simpa using hlt)]
        simp [h1]
      rw [e];exact h2
  refine calls_of_wp_defers hf hc (wp_mono (qV hT hm h2 hnow) fun e a w' hq=> ?_)
  obtain⟨e',st',hk,S',K',hH,hE,hem⟩:=hq
  have hlen:(K.map CO.base).length=hp.length:=by simp [hHR.1]
  unfold znr at hk
  split at hk
  · rename_i hdf
    have hd:a.defers=[]:=by have:=hE.defers;rw [hdf] at this;exact this
    have hfin:=zbW (X:=⟨S,K.map CO.base,fr⟩) hT hlen hk hH hE hem
    cases e with
    |normal=>show Leaves P fn a.tmps _ a.defers .returning w';rw [hd];exact hfin
    |ret=>show Leaves P fn a.tmps _ a.defers .returning w';rw [hd];exact hfin
    |panic ch=>show Leaves P fn a.tmps _ a.defers (.panicking ch) w';rw [hd];exact hfin
    |exit i=>exact hfin.elim
    |goto l=>exact hfin.elim
    |outgrown=>exact hfin.elim
  · rename_i g caps hdf
    split at hk
    · rename_i m hg hmo
      have hg:=Nat.eq_of_beq_eq_true hg
      split at hk
      · rename_i p m' hp2 hc2
        obtain⟨hpn,hk⟩:=hk
        have hds:=hE.defers
        rw [hdf] at hds
        obtain⟨us,hcap,hds⟩:=hds
        have hspec:=dk.ok _ _ _ _ _ _ hc2 hpn
        rw [← hg] at hspec
        obtain⟨⟨gn,hgn,hgname,hgbody⟩,hspec⟩:=hspec
        have key: ∀ u,MAM S' (K'.map CO.base) m u→u≠ .run→Leaves P fn a.tmps (fun e w'=>∃ S' K',S.le S'∧Ext (K.map CO.base) (K'.map CO.base)∧HR S' (K'.map CO.base) hp' K'∧At w' (frzC S'::(CO.zn K'++fr))∧EOut S' (K'.map CO.base) out e) a.defers u w':=by
          intro u hu hrun
          rw [hds]
          refine⟨hrun,_,_,g,us.toArray,rfl,?_,CallsD.mono (hspec S' K' fr w' us u hH.2.2.1 hcap hH.2.2.2 hu) ?_⟩
          · simp only [invoke,Array.empty_append]
            exact zfW hgn hgname hgbody _
          · rintro e2 u' w2 ⟨⟨v,rfl⟩,S2,K2,hle2,hex2,hHR2,hat2,hm2⟩
            simp only
            have hH2:Heap ⟨S,K.map CO.base,fr⟩ hp2 S2 K2 w2:=⟨hH.1.trans hle2,hH.2.1.trans hex2,hHR2,hat2⟩
            have hE2:Env S2 (K2.map CO.base) { st' with hp:=hp2,df:=none} { a with defers:=[]}:=⟨hE.size,rfl,fun t d hd=>(hE.slots t d hd).mono hle2 hex2⟩
            cases m' with
            | ret=>
              have:settle u'=.returning:=hm2
              rw [this]
              exact zbW (X:=⟨S,K.map CO.base,fr⟩) (e:=.ret) hT hlen hk hH2 hE2 trivial
            | pan c=>
              obtain⟨v2,h5,h6⟩:=hm2
              rw [h5]
              exact zbW (X:=⟨S,K.map CO.base,fr⟩) (e:=.panic _) hT hlen hk hH2 hE2 ⟨v2,rfl,h6⟩
        cases e with
        |normal=>cases e'<;>first|exact hem.elim|(cases hmo;exact key .returning rfl (by simp))
        |ret=>cases e'<;>first|exact hem.elim|(cases hmo;exact key .returning rfl (by simp))
        |panic ch=>cases e'<;>first|exact hem.elim|(cases hmo;exact key (.panicking ch) (by obtain⟨v,h1,h2⟩:=hem;exact⟨v,by rw [h1],h2⟩) (by simp))
        |exit i=>cases e'<;>first|exact hem.elim|(cases hmo;done)
        |goto l=>cases e'<;>exact hem.elim
        |outgrown=>cases e'<;>exact hem.elim
      · exact hk.elim
    · exact hk.elim
def recC:AM→C
  |.ret=>.p (.val .nilIface)
  |.pan c=>c
theorem XU {P:Program} {T:Tab} (hT:T.fits P) (hm:P.follows .mixedOrders=true) {f:Nat} {fn:Func} (hf:P.funcs[f]? =some fn) (hn:(fn.name == "runtime.NumGoroutine")=false) (cfg:Cfg) (kn:List (Know P))
    {id t t2 ty0 ty1:Nat} {pos0 pos1:String} {af0 af1:Array Edge} {rest:Code}
    (hb:fn.body=some (.seq (.region id #[⟨some t,.call ⟨.builtin .recover,#[],#[]⟩,ty0,pos0,af0,none⟩,⟨some t2,.assign (.tmp t),ty1,pos1,af1,none⟩] false) rest))
    {m:AM} {caps:List Cap} {hp hp':List HO}
    (hbb:(Nat.blt t fn.ntmps&&Nat.blt t2 fn.ntmps&& !Nat.beq t t2&&Nat.ble caps.length fn.ntmps&& !Xv cfg rest)=true)
    (h: ∀ (I:Alg) (X:Ctx),I=alg→X.bs0.length=hp.length→Ok P X (fun o h=>o=.ret (.tup [])∧h=hp') (go I T cfg kn [⟨yH fn,finK I T cfg hp.length fn⟩] 0 [1] (({ env:=Sj 0 (caps.map dP),hp:=hp,n:=fn.ntmps}:St).put (some t) (.v (.one (recC m))) |>.put (some t2) (.v (.one (recC m)))))):SpcD P f caps m hp .ret hp':=by
  simp only [Bool.and_eq_true,Bool.not_eq_true'] at hbb
  obtain⟨⟨⟨⟨ht,ht2⟩,hne⟩,hle⟩,hseam⟩:=hbb
  have ht:t<fn.ntmps:=by simpa using ht
  have ht2:t2<fn.ntmps:=by simpa using ht2
  have hne:t≠t2:=Nat.ne_of_beq_eq_false hne
  have hle:=Nat.le_of_ble_eq_true hle
  refine⟨⟨fn,hf,hn,by rw [hb];rfl⟩,fun S K fr w vs u hHR hcap hat hmode=> ?_⟩
  have h1:=(h alg ⟨S,K.map CO.base,fr⟩ rfl (by simp [hHR.1])).out
  have h2:=XG (fun f=>Ze) h1
  have hbo:yH fn=.seq (.region id #[⟨some t,.call ⟨.builtin .recover,#[],#[]⟩,ty0,pos0,af0,none⟩,⟨some t2,.assign (.tmp t),ty1,pos1,af1,none⟩] false) rest:=by unfold yH;rw [hb]
  simp only [rtAt,hbo,cAt,kAt] at h2
  have hal:=hcap.mds.length
  rw [List.length_map] at hal
  have hlen:(K.map CO.base).length=hp.length:=by simp [hHR.1]
  refine callsD_of_wpS hf hb fun c₀ cs hu=> ?_
  obtain⟨x,u1,hrec,hx,hset⟩: ∃ x u1,(match recoverD (c₀::cs) with|some (v,cs')=>(v,cs')|none=>(.nilIface,c₀::cs))=(x,{ c₀ with mode:=u1}::cs)∧MC S (K.map CO.base) (recC m) x∧settle u1=.returning:=by
    cases m with
    | ret=>
      have hmode:u=.returning:=hmode
      subst hmode
      refine⟨.nilIface,.returning,?_,.val _ rfl,rfl⟩
      simp only [recoverD,hu]
      cases c₀;simp at hu;subst hu;rfl
    | pan c=>
      obtain⟨v,rfl,hv⟩:=hmode
      refine⟨v,.panicking [{ v:=v,recovered:=true}],?_,hv,rfl⟩
      simp [recoverD,hu]
  have hnow:Now ⟨S,K.map CO.base,fr⟩ (({ env:=Sj 0 (caps.map dP),hp:=hp,n:=fn.ntmps}:St).put (some t) (.v (.one (recC m))) |>.put (some t2) (.v (.one (recC m)))) (({ tmps:=vs.toArray++Array.replicate (fn.ntmps - vs.toArray.size) undef,defers:=[]}:Act).put (some t) x |>.put (some t2) x) w:=by
    have hE0:Env S (K.map CO.base) { env:=Sj 0 (caps.map dP),hp:=hp,n:=fn.ntmps} { tmps:=vs.toArray++Array.replicate (fn.ntmps - vs.toArray.size) undef,defers:=[]}:=by
      refine⟨?_,rfl,fun t d hd=> ?_⟩
      · simp [hal];omega
      · obtain⟨_,v,h1,h2⟩:=Ye hcap.mds hd
        simp only [Nat.sub_zero] at h1
        have hlt:=(List.getElem?_eq_some_iff.1 h1).1
        have e:(vs.toArray++Array.replicate (fn.ntmps - vs.toArray.size) undef).getD t undef=v:=by
          rw [Array.getD_eq_getD_getElem?,Array.getElem?_append_left (by simpa using hlt)]
          simp [h1]
        rw [e];exact h2
    exact⟨S,K,by rw [uS,uS];exact⟨Frz.le.refl S,Ext.refl _,hHR,hat⟩,(hE0.put (some t) (d:=.v (.one (recC m))) hx).put (some t2) (d:=.v (.one (recC m))) hx⟩
  have hw:=qV hT hm h2 hnow
  refine wpS_seq (wpS_region ?_)
  have hsz:t<(vs.toArray++Array.replicate (fn.ntmps - vs.toArray.size) undef).size:=by simp [hal];omega
  have hev:({ tmps:=(vs.toArray++Array.replicate (fn.ntmps - vs.toArray.size) undef).setIfInBounds t x,defers:=[]}:Act).eval (.tmp t)=x:=by
    simp only [Act.eval]
    rw [Array.getD_eq_getD_getElem?,Array.getElem?_setIfInBounds_self_of_lt hsz];rfl
  have hgoal:rest.wpS P (bodyPostS P fn c₀ cs fun e u' w'=>(∃ v,e=.returned v)∧∃ S' K',S.le S'∧Ext (K.map CO.base) (K'.map CO.base)∧HR S' (K'.map CO.base) hp' K'∧At w' (frzC S'::(CO.zn K'++fr))∧MAM S' (K'.map CO.base) .ret (settle u'))
      (({ tmps:=vs.toArray++Array.replicate (fn.ntmps - vs.toArray.size) undef,defers:=[]}:Act).put (some t) x |>.put (some t2) x) ({ c₀ with mode:=u1}::cs) w:=by
    refine wpS_of_wp (wp_mono hw fun e a' w' hq=> ?_)
    obtain⟨e',st',hk,S',K',hH,hE,hem⟩:=hq
    unfold finK at hk
    split at hk
    case h_2=>exact hk.elim
    rename_i hdf
    have hd:a'.defers=[]:=by have:=hE.defers;rw [hdf] at this;exact this
    have hfin:=zbW (X:=⟨S,K.map CO.base,fr⟩) hT hlen hk hH hE hem
    cases e with
    |normal=>obtain⟨v,hv,S2,K2,h5,h6,h7,h8,_⟩:=hfin;exact⟨hd,u1,rfl,v,hv,⟨v,rfl⟩,S2,K2,h5,h6,h7,h8,hset⟩
    |ret=>obtain⟨v,hv,S2,K2,h5,h6,h7,h8,_⟩:=hfin;exact⟨hd,u1,rfl,v,hv,⟨v,rfl⟩,S2,K2,h5,h6,h7,h8,hset⟩
    |panic ch=>obtain⟨S2,K2,h5,h6,h7,h8,h9⟩:=hfin;exact h9.elim
    |exit i=>exact hfin.elim
    |goto l=>exact hfin.elim
    |outgrown=>exact hfin.elim
  clear hnow hw
  generalize vs.toArray++Array.replicate (fn.ntmps - vs.toArray.size) undef=tm at hev hgoal hsz ⊢
  have hr0: ∀ (a:Act),(execOp a.eval ⟨some t,.call ⟨.builtin .recover,#[],#[]⟩,ty0,pos0,af0,none⟩).run P w=.ok .recover w:=by
    intro a;simp [execOp,Go.resolve,invoke,builtin]
  simp only [List.size_toArray,List.length_cons,List.length_nil,Nat.zero_add,Nat.reduceAdd,List.range_succ_eq_map,List.range_zero,List.map_cons,List.map_nil]
  simp only [wpOpsS,List.getElem?_toArray,List.getElem?_cons_zero,List.getElem?_cons_succ,Region.wanted,if_true,hr0]
  cases hq:recoverD (c₀::cs) with
  | none=>
    rw [hq] at hrec
    simp only [Prod.mk.injEq] at hrec
    obtain⟨rfl,hcs⟩:=hrec
    simp only [Act.put,execOp,Sem.run_pure,hev,Oper.upon,Exit.thenS]
    rw [hcs]
    exact hgoal
  | some y=>
    obtain⟨y,cs'⟩:=y
    rw [hq] at hrec
    simp only [Prod.mk.injEq] at hrec
    obtain⟨rfl,rfl⟩:=hrec
    simp only [Act.put,execOp,Sem.run_pure,hev,Oper.upon,Exit.thenS]
    exact hgoal
end
theorem nrmA:type_of% (And.intro @zdf <| And.intro @ziv <| And.intro @ug <| And.intro @Zf <| And.intro @zdc <| And.intro @zdb <| And.intro @ziu <| And.intro @ze6 <| And.intro @zaJ <| And.intro @zaK <| And.intro @zaL <| And.intro @zaM <| And.intro @WC <| And.intro @Zi <| And.intro @TP <| And.intro @zde <| And.intro @TM <| And.intro @yL <| And.intro @WE <| And.intro @vV <| And.intro @zaN <| And.intro @zda <| And.intro @TN <| And.intro @WB <| And.intro @Zg <| And.intro @XQ <| And.intro @Yp <| And.intro @Zh <| And.intro @zaI <| And.intro @WA <| And.intro @zdd <| And.intro @zit <| And.intro @zis <| @ze7):=And.intro @zdf <| And.intro @ziv <| And.intro @ug <| And.intro @Zf <| And.intro @zdc <| And.intro @zdb <| And.intro @ziu <| And.intro @ze6 <| And.intro @zaJ <| And.intro @zaK <| And.intro @zaL <| And.intro @zaM <| And.intro @WC <| And.intro @Zi <| And.intro @TP <| And.intro @zde <| And.intro @TM <| And.intro @yL <| And.intro @WE <| And.intro @vV <| And.intro @zaN <| And.intro @zda <| And.intro @TN <| And.intro @WB <| And.intro @Zg <| And.intro @XQ <| And.intro @Yp <| And.intro @Zh <| And.intro @zaI <| And.intro @WA <| And.intro @zdd <| And.intro @zit <| And.intro @zis <| @ze7
theorem nrmB:type_of% (And.intro @decide_eq_true_eq <| And.intro @decide_eq_false_iff_not <| And.intro @beq_iff_eq.{0} <| And.intro @beq_eq_false_iff_ne.{0} <| And.intro @Bool.not_eq_true' <| And.intro @Bool.not_eq_false' <| And.intro @Bool.and_eq_true <| And.intro @Bool.and_true <| And.intro @Bool.true_and <| And.intro @and_true <| And.intro @true_and <| And.intro @ne_eq.{1} <| And.intro @Int.toNat_zero <| And.intro @Nat.sub_zero <| And.intro @List.drop_zero.{0} <| And.intro @zaf <| And.intro @zah <| And.intro @zj2 <| And.intro @zj3 <| And.intro @zbj <| And.intro @vw <| And.intro @Int.toNat_natCast <| And.intro @Int.ofNat_eq_natCast <| And.intro @UInt8.ofNat_toNat <| And.intro @AOut.ret.injEq <| And.intro @AOut.pan.injEq <| And.intro @C.ifc.injEq <| And.intro @D.v.injEq <| And.intro @D.tup.injEq <| And.intro @V0.one.injEq <| And.intro @C.p.injEq <| And.intro @P.bool.injEq <| And.intro @P.int.injEq <| And.intro @P.str.injEq <| And.intro @Bool.false_eq_true <| And.intro @Bool.true_eq_false <| And.intro @imp_false <| And.intro @Decidable.not_not <| And.intro @not_true_eq_false <| @not_false_eq_true):=And.intro @decide_eq_true_eq <| And.intro @decide_eq_false_iff_not <| And.intro @beq_iff_eq.{0} <| And.intro @beq_eq_false_iff_ne.{0} <| And.intro @Bool.not_eq_true' <| And.intro @Bool.not_eq_false' <| And.intro @Bool.and_eq_true <| And.intro @Bool.and_true <| And.intro @Bool.true_and <| And.intro @and_true <| And.intro @true_and <| And.intro @ne_eq.{1} <| And.intro @Int.toNat_zero <| And.intro @Nat.sub_zero <| And.intro @List.drop_zero.{0} <| And.intro @zaf <| And.intro @zah <| And.intro @zj2 <| And.intro @zj3 <| And.intro @zbj <| And.intro @vw <| And.intro @Int.toNat_natCast <| And.intro @Int.ofNat_eq_natCast <| And.intro @UInt8.ofNat_toNat <| And.intro @AOut.ret.injEq <| And.intro @AOut.pan.injEq <| And.intro @C.ifc.injEq <| And.intro @D.v.injEq <| And.intro @D.tup.injEq <| And.intro @V0.one.injEq <| And.intro @C.p.injEq <| And.intro @P.bool.injEq <| And.intro @P.int.injEq <| And.intro @P.str.injEq <| And.intro @Bool.false_eq_true <| And.intro @Bool.true_eq_false <| And.intro @imp_false <| And.intro @Decidable.not_not <| And.intro @not_true_eq_false <| @not_false_eq_true
theorem nrlB:type_of% (And.intro @List.cons.injEq.{0} <| And.intro @P.list.injEq <| And.intro @HO.row.injEq <| And.intro @heq_eq_eq.{1} <| And.intro @false_and <| @and_false):=And.intro @List.cons.injEq.{0} <| And.intro @P.list.injEq <| And.intro @HO.row.injEq <| And.intro @heq_eq_eq.{1} <| And.intro @false_and <| @and_false
theorem zk:type_of% (And.intro @zbz <| And.intro @zhx <| And.intro @zbB <| And.intro @zen <| And.intro @zem <| And.intro @zby <| @zbA):=And.intro @zbz <| And.intro @zhx <| And.intro @zbB <| And.intro @zen <| And.intro @zem <| And.intro @zby <| @zbA
end Go.Ab
namespace Go.Ab
open Go Go.Sep Go.RowKit
variable [Facts]
def Holds (W:World):Prop:=∀ w:World,(∀ (k:Nat) (o:Obj),W.heap[k]? =some o→w.heap[k]? =some o)→Facts.p w
def frzW (W:World) (hF:Holds W):Frz:=⟨fun k=>W.heap[k]?,W.os,W.tape,W.output,fun w hw=>hF w hw.2.2.2⟩
theorem tabIs_of {Pr:Program} {W w:World} (h: ∀ (k:Nat) (o:Obj),W.heap[k]? =some o→w.heap[k]? =some o) {name:String} {cs:Array Value} (hv:W.var? Pr name=some cs):w.var? Pr name=some cs:=by
  unfold World.var? at hv ⊢
  cases hg:Pr.globalNamed name with
  |none=>rw [hg] at hv;cases hv
  | some g=>
    rw [hg] at hv
    simp only [Option.bind_some] at hv ⊢
    split at hv
    · rename_i cs' t f hc;rw [h _ _ hc];exact hv
    · cases hv
theorem zlQ (W:World) (hF:Holds W):At W [frzC (frzW W hF)]:=
  ⟨fun k=>(W.heap[k]?).isSome=true,fun k=>(W.heap[k]?).isSome=true,fun _=>False,fun k=>by simp,fun _ _ h=>h,⟨fun _=>Iff.rfl,rfl,rfl,rfl,fun _ _ h=>h⟩,fun _ h=>h⟩
theorem RN {W w:World} {hF:Holds W} (h:(frzW W hF).on w):Below W.heap.size W w:=by
  obtain⟨h1,h2,h3,h4⟩:=h
  have hb: ∀ k,k<W.heap.size→w.heap[k]? =W.heap[k]? :=fun k hk=>by
    have:W.heap[k]? =some W.heap[k]:=by simp [hk]
    rw [h4 k _ this,this]
  refine⟨h1,h2,h3,?_,hb⟩
  rcases Nat.lt_or_ge w.heap.size W.heap.size with hlt|hge
  · have:=hb w.heap.size hlt
    simp at this
    omega
  · exact hge
theorem zlP {W:World} {hF:Holds W} {size:Nat} {v:Value} {n:Nat} {cs:List Value} (h:Rd W size v n cs):RdS (frzW W hF) size v n cs:=by
  intro w hw
  obtain⟨ao,cap,e,h1,h2,h4,h3,hc⟩:=h
  refine⟨ao,cap,e,h1,h2,h4,h3,fun j u hu=> ?_⟩
  obtain⟨hs,hcell⟩:=hc j u hu
  exact⟨hs,((RN hw).cell (block_lt hcell)).trans hcell⟩
theorem Spc.law {Pr:Program} {f:Nat} {args:List D} {hp':List HO} {W:World} {hF:Holds W} {vs:List Value} (h:Spc Pr f args [] (.ret (.v (.one (.p (.bool true))))) hp') (ha:MDs (frzW W hF) [] args vs):
    Calls Pr f vs.toArray W fun e w'=>e=.returned (.bool true)∧Below W.heap.size W w':=by
  refine(h.2 (frzW W hF) [] [] W vs ⟨rfl,fun i o c h=>by simp at h⟩ ha (zlQ W hF)).mono fun e w' he=> ?_
  obtain⟨S',K',hle,_,_,hat,ho⟩:=he
  refine⟨?_,RN ((At.frz hat).mono hle)⟩
  cases e with
  |returned v=>cases ho;rfl
  |panicked ch=>exact ho.elim
  |outgrown=>exact ho.elim
theorem zlB {W:World} {hF:Holds W} {v:Value} {u:U} {R:Sep.Rel u.den} (hR: ∀ cs x,R W cs x→MPs (frzW W hF) (enc alg u x) cs) {xs:List u.den} (h:RSl u.size R W [v] xs):MD (frzW W hF) [] (.v (.one (.p (.list u xs)))) v:=by
  obtain⟨v',vs,e,hr,hx⟩:=h
  cases e
  have hlen:=hr.len
  obtain⟨ao,cap,rfl,_⟩:=id hr
  refine MP.list u xs ao cap vs hlen (zlP hr) fun i x j p v hi hj hv=> ?_
  have hm:=hR _ _ (hx i x hi)
  obtain⟨v',h1,h2⟩:=hm.get hj
  rw [List.getElem?_take] at h1
  split at h1
  · rw [List.getElem?_drop,hv] at h1
    cases h1;exact h2
  · cases h1
theorem zlC {W:World} {hF:Holds W} {cs:List Value} {x:UInt8} (h:zj0 W cs x):MPs (frzW W hF) (enc alg .byte x) cs:=by
  rw [show cs=[bv x] from h];exact⟨.int _ _,trivial⟩
end Go.Ab
namespace Go.Proofs.YtcclfkakcgnacaaGreatDoor
open Go Go.Ab
instance facts:Facts:= { p:=fun w=>Lib.TabIs Tryz.prog w "internal/strconv.uint64pow10" .u64 Lib.pow10Tab,sh:=fun _=>[],ab:=fun _=>none,abok:=fun _ _ h=>by cases h}
def tabT:TT:=
 (.node (.node (.node (.node (.node (.node (.node (.node .nil 0 ⟨.other,1,0,none,none⟩
 .nil) 1 ⟨.other,1,8,(some [.val .nilFunc]),none⟩
 (.node .nil 2 ⟨.int .i64,1,8,(some [.int .i64 0]),none⟩
 .nil)) 3 ⟨.int .i64,1,8,(some [.int .i64 0]),none⟩
 (.node (.node .nil 4 ⟨.bool,1,1,(some [.bool false]),none⟩
 .nil) 5 ⟨.int .u8,1,1,(some [.int .u8 0]),none⟩
 .nil)) 6 ⟨.int .u8,1,1,(some [.int .u8 0]),none⟩
 (.node (.node (.node .nil 9 ⟨.str,1,16,(some [.str []]),none⟩
 .nil) 10 ⟨.str,1,16,(some [.str []]),none⟩
 .nil) 11 ⟨.str,1,16,(some [.str []]),none⟩
 (.node (.node .nil 12 ⟨.int .u64,1,8,(some [.int .u64 0]),none⟩
 .nil) 15 ⟨.ptr,1,8,(some [.val (.pointer none)]),none⟩
 .nil))) 16 ⟨.ptr,1,8,(some [.val (.pointer none)]),none⟩
 (.node (.node (.node (.node .nil 17 ⟨.ptr,1,8,(some [.val (.pointer none)]),none⟩
 .nil) 20 ⟨.iface,1,16,(some [.val .nilIface]),none⟩
 (.node .nil 21 ⟨.int .i32,1,4,(some [.int .i32 0]),none⟩
 .nil)) 22 ⟨.slice 37,1,24,(some [.list .ask []]),(some .ask)⟩
 (.node (.node .nil 23 ⟨.other,1,8,(some [.val .nilFunc]),none⟩
 .nil) 24 ⟨.other,1,8,(some [.val .nilFunc]),none⟩
 .nil)) 25 ⟨.ptr,1,8,(some [.val (.pointer none)]),none⟩
 (.node (.node (.node .nil 26 ⟨.other,1,8,(some [.val .nilFunc]),none⟩
 .nil) 27 ⟨.ptr,1,8,(some [.val (.pointer none)]),none⟩
 .nil) 28 ⟨.other,1,8,(some [.val .nilFunc]),none⟩
 (.node (.node .nil 29 ⟨.slice 58,1,24,(some [.list .fld []]),(some .fld)⟩
 .nil) 30 ⟨.slice 5,1,24,(some [.list .byte []]),(some .byte)⟩
 .nil)))) 31 ⟨.struct [(0,3),(1,29),(2,30)],3,56,(some [.int .i64 0,.list .fld [],.list .byte []]),none⟩
 (.node (.node (.node (.node (.node .nil 32 ⟨.struct [(0,3),(1,29),(2,30)],3,56,(some [.int .i64 0,.list .fld [],.list .byte []]),none⟩
 .nil) 33 ⟨.other,1,8,(some [.val .nilFunc]),none⟩
 (.node .nil 34 ⟨.struct [(0,9),(1,9),(2,3),(3,29),(4,3)],5,72,(some [.str [],.str [],.int .i64 0,.list .fld [],.int .i64 0]),none⟩
 .nil)) 35 ⟨.struct [(0,9),(1,9),(2,3),(3,29),(4,3)],5,72,(some [.str [],.str [],.int .i64 0,.list .fld [],.int .i64 0]),none⟩
 (.node (.node .nil 36 ⟨.struct [(0,35),(5,30)],6,96,(some [.str [],.str [],.int .i64 0,.list .fld [],.int .i64 0,.list .byte []]),none⟩
 .nil) 37 ⟨.struct [(0,35),(5,30)],6,96,(some [.str [],.str [],.int .i64 0,.list .fld [],.int .i64 0,.list .byte []]),none⟩
 .nil)) 38 ⟨.other,1,8,(some [.val .nilFunc]),none⟩
 (.node (.node (.node .nil 39 ⟨.other,1,0,none,none⟩
 .nil) 40 ⟨.other,1,8,(some [.val .nilFunc]),none⟩
 .nil) 41 ⟨.other,1,8,(some [.val .nilFunc]),none⟩
 (.node (.node .nil 42 ⟨.other,1,8,(some [.val .nilFunc]),none⟩
 .nil) 43 ⟨.slice 67,1,24,(some [.list .upl []]),(some .upl)⟩
 .nil))) 44 ⟨.other,1,8,(some [.val .nilFunc]),none⟩
 (.node (.node (.node (.node .nil 45 ⟨.ptr,1,8,(some [.val (.pointer none)]),none⟩
 .nil) 46 ⟨.ptr,1,8,(some [.val (.pointer none)]),none⟩
 (.node .nil 47 ⟨.struct [(0,45),(1,46)],2,16,(some [.val (.pointer none),.val (.pointer none)]),none⟩
 .nil)) 48 ⟨.struct [(0,45),(1,46)],2,16,(some [.val (.pointer none),.val (.pointer none)]),none⟩
 (.node (.node .nil 49 ⟨.struct [(0,43),(1,3)],2,32,(some [.list .upl [],.int .i64 0]),none⟩
 .nil) 50 ⟨.struct [(0,43),(1,3)],2,32,(some [.list .upl [],.int .i64 0]),none⟩
 .nil)) 51 ⟨.ptr,1,8,(some [.val (.pointer none)]),none⟩
 (.node (.node (.node .nil 52 ⟨.struct [(0,51),(1,30),(2,3)],3,40,(some [.val (.pointer none),.list .byte [],.int .i64 0]),none⟩
 .nil) 53 ⟨.struct [(0,51),(1,30),(2,3)],3,40,(some [.val (.pointer none),.list .byte [],.int .i64 0]),none⟩
 .nil) 54 ⟨.other,1,8,(some [.val .nilFunc]),none⟩
 (.node (.node .nil 55 ⟨.other,1,8,(some [.val .nilFunc]),none⟩
 .nil) 56 ⟨.other,1,8,(some [.val .nilFunc]),none⟩
 .nil))))) 57 ⟨.struct [(0,9),(1,9)],2,32,(some [.str [],.str []]),none⟩
 (.node (.node (.node (.node (.node (.node .nil 58 ⟨.struct [(0,9),(1,9)],2,32,(some [.str [],.str []]),none⟩
 .nil) 59 ⟨.slice 30,1,24,(some [.list .bytes []]),(some .bytes)⟩
 (.node .nil 60 ⟨.other,1,0,none,none⟩
 .nil)) 61 ⟨.other,1,8,(some [.val .nilFunc]),none⟩
 (.node (.node .nil 62 ⟨.other,1,0,none,none⟩
 .nil) 63 ⟨.other,1,8,(some [.val .nilFunc]),none⟩
 .nil)) 64 ⟨.other,1,8,(some [.val .nilFunc]),none⟩
 (.node (.node (.node .nil 65 ⟨.other,1,8,(some [.val .nilFunc]),none⟩
 .nil) 66 ⟨.struct [(0,3),(1,3),(2,9),(3,30),(4,3)],5,64,(some [.int .i64 0,.int .i64 0,.str [],.list .byte [],.int .i64 0]),none⟩
 .nil) 67 ⟨.struct [(0,3),(1,3),(2,9),(3,30),(4,3)],5,64,(some [.int .i64 0,.int .i64 0,.str [],.list .byte [],.int .i64 0]),none⟩
 (.node (.node .nil 68 ⟨.other,1,8,(some [.val .nilFunc]),none⟩
 .nil) 69 ⟨.other,1,8,(some [.val .nilFunc]),none⟩
 .nil))) 70 ⟨.other,1,8,(some [.val .nilFunc]),none⟩
 (.node (.node (.node (.node .nil 71 ⟨.other,1,8,(some [.val .nilFunc]),none⟩
 .nil) 72 ⟨.other,1,8,(some [.val .nilFunc]),none⟩
 (.node .nil 73 ⟨.struct [(0,3),(1,29),(2,30)],3,56,(some [.int .i64 0,.list .fld [],.list .byte []]),none⟩
 .nil)) 74 ⟨.other,1,0,none,none⟩
 (.node (.node .nil 75 ⟨.other,1,8,(some [.val .nilFunc]),none⟩
 .nil) 76 ⟨.ptr,1,8,(some [.val (.pointer none)]),none⟩
 .nil)) 77 ⟨.struct [(0,25),(1,35)],6,80,(some [.val (.pointer none),.str [],.str [],.int .i64 0,.list .fld [],.int .i64 0]),none⟩
 (.node (.node (.node .nil 78 ⟨.struct [(0,25),(1,35)],6,80,(some [.val (.pointer none),.str [],.str [],.int .i64 0,.list .fld [],.int .i64 0]),none⟩
 .nil) 79 ⟨.other,1,8,(some [.val .nilFunc]),none⟩
 .nil) 80 ⟨.other,1,8,(some [.val .nilFunc]),none⟩
 (.node (.node .nil 81 ⟨.other,1,8,(some [.val .nilFunc]),none⟩
 .nil) 82 ⟨.other,1,0,none,none⟩
 .nil)))) 83 ⟨.other,1,8,(some [.val .nilFunc]),none⟩
 (.node (.node (.node (.node (.node .nil 84 ⟨.other,1,8,(some [.val .nilFunc]),none⟩
 .nil) 85 ⟨.slice 9,1,24,(some [.list .str []]),(some .str)⟩
 (.node .nil 86 ⟨.other,1,8,(some [.val .nilFunc]),none⟩
 .nil)) 87 ⟨.other,1,8,(some [.val .nilFunc]),none⟩
 (.node (.node .nil 88 ⟨.other,1,8,(some [.val .nilFunc]),none⟩
 .nil) 89 ⟨.struct [(0,43),(1,3)],2,32,(some [.list .upl [],.int .i64 0]),none⟩
 .nil)) 90 ⟨.struct [(0,43),(1,3)],2,32,(some [.list .upl [],.int .i64 0]),none⟩
 (.node (.node (.node .nil 91 ⟨.other,1,0,none,none⟩
 .nil) 92 ⟨.other,1,8,(some [.val .nilFunc]),none⟩
 .nil) 93 ⟨.other,1,8,(some [.val .nilFunc]),none⟩
 (.node (.node .nil 94 ⟨.other,1,8,(some [.val .nilFunc]),none⟩
 .nil) 95 ⟨.other,1,8,(some [.val .nilFunc]),none⟩
 .nil))) 96 ⟨.other,1,8,(some [.val .nilFunc]),none⟩
 (.node (.node (.node (.node .nil 97 ⟨.slice 101,1,24,(some [.list .ent []]),(some .ent)⟩
 .nil) 98 ⟨.other,1,0,none,none⟩
 .nil) 99 ⟨.other,1,8,(some [.val .nilFunc]),none⟩
 (.node (.node .nil 100 ⟨.struct [(0,3),(1,3),(2,3),(3,30)],4,48,(some [.int .i64 0,.int .i64 0,.int .i64 0,.list .byte []]),none⟩
 .nil) 101 ⟨.struct [(0,3),(1,3),(2,3),(3,30)],4,48,(some [.int .i64 0,.int .i64 0,.int .i64 0,.list .byte []]),none⟩
 .nil)) 102 ⟨.other,1,8,(some [.val .nilFunc]),none⟩
 (.node (.node (.node .nil 103 ⟨.struct [(0,30),(1,3)],2,32,(some [.list .byte [],.int .i64 0]),none⟩
 .nil) 104 ⟨.struct [(0,30),(1,3)],2,32,(some [.list .byte [],.int .i64 0]),none⟩
 .nil) 105 ⟨.other,1,8,(some [.val .nilFunc]),none⟩
 (.node (.node .nil 106 ⟨.other,1,0,none,none⟩
 .nil) 107 ⟨.other,1,8,(some [.val .nilFunc]),none⟩
 .nil)))))) 108 ⟨.other,1,8,(some [.val .nilFunc]),none⟩
 (.node (.node (.node (.node (.node (.node (.node .nil 109 ⟨.other,1,8,(some [.val .nilFunc]),none⟩
 .nil) 110 ⟨.other,1,8,(some [.val .nilFunc]),none⟩
 (.node .nil 111 ⟨.other,1,8,(some [.val .nilFunc]),none⟩
 .nil)) 112 ⟨.struct [(0,3),(1,3),(2,3),(3,30)],4,48,(some [.int .i64 0,.int .i64 0,.int .i64 0,.list .byte []]),none⟩
 (.node (.node .nil 113 ⟨.slice 135,1,24,(some [.list .fld []]),(some .fld)⟩
 .nil) 114 ⟨.struct [(0,9),(1,113)],2,40,(some [.str [],.list .fld []]),none⟩
 .nil)) 115 ⟨.struct [(0,9),(1,113)],2,40,(some [.str [],.list .fld []]),none⟩
 (.node (.node (.node .nil 116 ⟨.other,1,0,none,none⟩
 .nil) 117 ⟨.other,1,8,(some [.val .nilFunc]),none⟩
 .nil) 118 ⟨.other,1,8,(some [.val .nilFunc]),none⟩
 (.node (.node .nil 119 ⟨.other,1,8,(some [.val .nilFunc]),none⟩
 .nil) 120 ⟨.other,1,8,(some [.val .nilFunc]),none⟩
 .nil))) 121 ⟨.other,1,8,(some [.val .nilFunc]),none⟩
 (.node (.node (.node (.node .nil 122 ⟨.ptr,1,8,(some [.val (.pointer none)]),none⟩
 .nil) 123 ⟨.other,1,0,none,none⟩
 (.node .nil 124 ⟨.other,1,8,(some [.val .nilFunc]),none⟩
 .nil)) 125 ⟨.other,1,8,(some [.val .nilFunc]),none⟩
 (.node (.node .nil 126 ⟨.other,1,0,none,none⟩
 .nil) 127 ⟨.other,1,8,(some [.val .nilFunc]),none⟩
 .nil)) 128 ⟨.other,1,8,(some [.val .nilFunc]),none⟩
 (.node (.node (.node .nil 129 ⟨.other,1,8,(some [.val .nilFunc]),none⟩
 .nil) 130 ⟨.other,1,8,(some [.val .nilFunc]),none⟩
 .nil) 131 ⟨.other,1,8,(some [.val .nilFunc]),none⟩
 (.node (.node .nil 132 ⟨.other,1,8,(some [.val .nilFunc]),none⟩
 .nil) 133 ⟨.other,1,8,(some [.val .nilFunc]),none⟩
 .nil)))) 134 ⟨.other,1,8,(some [.val .nilFunc]),none⟩
 (.node (.node (.node (.node (.node .nil 135 ⟨.struct [(0,9),(1,9)],2,32,(some [.str [],.str []]),none⟩
 .nil) 136 ⟨.other,1,8,(some [.val .nilFunc]),none⟩
 (.node .nil 137 ⟨.other,1,8,(some [.val .nilFunc]),none⟩
 .nil)) 138 ⟨.other,1,0,none,none⟩
 (.node (.node .nil 139 ⟨.other,1,8,(some [.val .nilFunc]),none⟩
 .nil) 140 ⟨.array 3 3,3,24,(some [.int .i64 0,.int .i64 0,.int .i64 0]),none⟩
 .nil)) 141 ⟨.other,1,8,(some [.val .nilFunc]),none⟩
 (.node (.node (.node .nil 142 ⟨.other,1,8,(some [.val .nilFunc]),none⟩
 .nil) 143 ⟨.other,1,8,(some [.val .nilFunc]),none⟩
 .nil) 144 ⟨.other,1,8,(some [.val .nilFunc]),none⟩
 (.node (.node .nil 145 ⟨.int .i64,1,8,(some [.int .i64 0]),none⟩
 .nil) 146 ⟨.other,1,0,none,none⟩
 .nil))) 147 ⟨.ptr,1,8,(some [.val (.pointer none)]),none⟩
 (.node (.node (.node (.node .nil 148 ⟨.struct [(0,9)],1,16,(some [.str []]),none⟩
 .nil) 149 ⟨.struct [(0,9)],1,16,(some [.str []]),none⟩
 (.node .nil 150 ⟨.other,1,8,(some [.val .nilFunc]),none⟩
 .nil)) 151 ⟨.other,1,8,(some [.val .nilFunc]),none⟩
 (.node (.node .nil 152 ⟨.other,1,8,(some [.val .nilFunc]),none⟩
 .nil) 153 ⟨.other,1,8,(some [.val .nilFunc]),none⟩
 .nil)) 154 ⟨.other,1,8,(some [.val .nilFunc]),none⟩
 (.node (.node (.node .nil 155 ⟨.other,1,8,(some [.val .nilFunc]),none⟩
 .nil) 156 ⟨.other,1,8,(some [.val .nilFunc]),none⟩
 .nil) 157 ⟨.other,1,8,(some [.val .nilFunc]),none⟩
 (.node (.node .nil 158 ⟨.other,1,8,(some [.val .nilFunc]),none⟩
 .nil) 159 ⟨.other,1,8,(some [.val .nilFunc]),none⟩
 .nil))))) 160 ⟨.other,1,8,(some [.val .nilFunc]),none⟩
 (.node (.node (.node (.node (.node (.node .nil 161 ⟨.other,1,8,(some [.val .nilFunc]),none⟩
 .nil) 162 ⟨.other,1,8,(some [.val .nilFunc]),none⟩
 (.node .nil 163 ⟨.other,1,8,(some [.val .nilFunc]),none⟩
 .nil)) 164 ⟨.slice 3,1,24,(some [.list .int []]),(some .int)⟩
 (.node (.node .nil 165 ⟨.other,1,8,(some [.val .nilFunc]),none⟩
 .nil) 166 ⟨.array 256 4,256,256,none,none⟩
 .nil)) 167 ⟨.array 256 4,256,256,none,none⟩
 (.node (.node (.node .nil 168 ⟨.other,1,0,none,none⟩
 .nil) 169 ⟨.other,1,8,(some [.val .nilFunc]),none⟩
 .nil) 170 ⟨.other,1,8,(some [.val .nilFunc]),none⟩
 (.node (.node .nil 171 ⟨.ptr,1,8,(some [.val (.pointer none)]),none⟩
 .nil) 172 ⟨.array 24 5,24,24,(some [.int .u8 0,.int .u8 0,.int .u8 0,.int .u8 0,.int .u8 0,.int .u8 0,.int .u8 0,.int .u8 0,.int .u8 0,.int .u8 0,.int .u8 0,.int .u8 0,.int .u8 0,.int .u8 0,.int .u8 0,.int .u8 0,.int .u8 0,.int .u8 0,.int .u8 0,.int .u8 0,.int .u8 0,.int .u8 0,.int .u8 0,.int .u8 0]),none⟩
 .nil))) 173 ⟨.int .u64,1,8,(some [.int .u64 0]),none⟩
 (.node (.node (.node (.node .nil 174 ⟨.other,1,8,(some [.val .nilFunc]),none⟩
 .nil) 175 ⟨.other,1,8,(some [.val .nilFunc]),none⟩
 (.node .nil 176 ⟨.other,1,0,none,none⟩
 .nil)) 177 ⟨.other,1,8,(some [.val .nilFunc]),none⟩
 (.node (.node .nil 178 ⟨.other,1,8,(some [.val .nilFunc]),none⟩
 .nil) 179 ⟨.other,1,8,(some [.val .nilFunc]),none⟩
 .nil)) 180 ⟨.other,1,8,(some [.val .nilFunc]),none⟩
 (.node (.node (.node .nil 181 ⟨.int .u64,1,8,(some [.int .u64 0]),none⟩
 .nil) 182 ⟨.other,1,0,none,none⟩
 .nil) 183 ⟨.other,1,8,(some [.val .nilFunc]),none⟩
 (.node (.node .nil 184 ⟨.other,1,8,(some [.val .nilFunc]),none⟩
 .nil) 185 ⟨.other,1,8,(some [.val .nilFunc]),none⟩
 .nil)))) 186 ⟨.array 20 173,20,160,(some [.int .u64 0,.int .u64 0,.int .u64 0,.int .u64 0,.int .u64 0,.int .u64 0,.int .u64 0,.int .u64 0,.int .u64 0,.int .u64 0,.int .u64 0,.int .u64 0,.int .u64 0,.int .u64 0,.int .u64 0,.int .u64 0,.int .u64 0,.int .u64 0,.int .u64 0,.int .u64 0]),none⟩
 (.node (.node (.node (.node (.node .nil 187 ⟨.int .u32,1,4,(some [.int .u32 0]),none⟩
 .nil) 188 ⟨.array 65 5,65,65,(some [.int .u8 0,.int .u8 0,.int .u8 0,.int .u8 0,.int .u8 0,.int .u8 0,.int .u8 0,.int .u8 0,.int .u8 0,.int .u8 0,.int .u8 0,.int .u8 0,.int .u8 0,.int .u8 0,.int .u8 0,.int .u8 0,.int .u8 0,.int .u8 0,.int .u8 0,.int .u8 0,.int .u8 0,.int .u8 0,.int .u8 0,.int .u8 0,.int .u8 0,.int .u8 0,.int .u8 0,.int .u8 0,.int .u8 0,.int .u8 0,.int .u8 0,.int .u8 0,.int .u8 0,.int .u8 0,.int .u8 0,.int .u8 0,.int .u8 0,.int .u8 0,.int .u8 0,.int .u8 0,.int .u8 0,.int .u8 0,.int .u8 0,.int .u8 0,.int .u8 0,.int .u8 0,.int .u8 0,.int .u8 0,.int .u8 0,.int .u8 0,.int .u8 0,.int .u8 0,.int .u8 0,.int .u8 0,.int .u8 0,.int .u8 0,.int .u8 0,.int .u8 0,.int .u8 0,.int .u8 0,.int .u8 0,.int .u8 0,.int .u8 0,.int .u8 0,.int .u8 0]),none⟩
 (.node .nil 189 ⟨.other,1,8,(some [.val .nilFunc]),none⟩
 .nil)) 190 ⟨.other,1,8,(some [.val .nilFunc]),none⟩
 (.node (.node .nil 191 ⟨.other,1,8,(some [.val .nilFunc]),none⟩
 .nil) 192 ⟨.other,1,8,(some [.val .nilFunc]),none⟩
 .nil)) 193 ⟨.array 256 5,256,256,none,none⟩
 (.node (.node (.node .nil 194 ⟨.struct [(0,5),(1,5)],2,2,(some [.int .u8 0,.int .u8 0]),none⟩
 .nil) 195 ⟨.struct [(0,5),(1,5)],2,2,(some [.int .u8 0,.int .u8 0]),none⟩
 .nil) 196 ⟨.array 16 195,32,32,(some [.int .u8 0,.int .u8 0,.int .u8 0,.int .u8 0,.int .u8 0,.int .u8 0,.int .u8 0,.int .u8 0,.int .u8 0,.int .u8 0,.int .u8 0,.int .u8 0,.int .u8 0,.int .u8 0,.int .u8 0,.int .u8 0,.int .u8 0,.int .u8 0,.int .u8 0,.int .u8 0,.int .u8 0,.int .u8 0,.int .u8 0,.int .u8 0,.int .u8 0,.int .u8 0,.int .u8 0,.int .u8 0,.int .u8 0,.int .u8 0,.int .u8 0,.int .u8 0]),none⟩
 (.node (.node .nil 197 ⟨.other,1,8,(some [.val .nilFunc]),none⟩
 .nil) 198 ⟨.other,1,8,(some [.val .nilFunc]),none⟩
 .nil))) 199 ⟨.array 32 5,32,32,(some [.int .u8 0,.int .u8 0,.int .u8 0,.int .u8 0,.int .u8 0,.int .u8 0,.int .u8 0,.int .u8 0,.int .u8 0,.int .u8 0,.int .u8 0,.int .u8 0,.int .u8 0,.int .u8 0,.int .u8 0,.int .u8 0,.int .u8 0,.int .u8 0,.int .u8 0,.int .u8 0,.int .u8 0,.int .u8 0,.int .u8 0,.int .u8 0,.int .u8 0,.int .u8 0,.int .u8 0,.int .u8 0,.int .u8 0,.int .u8 0,.int .u8 0,.int .u8 0]),none⟩
 (.node (.node (.node (.node .nil 200 ⟨.array 64 5,64,64,(some [.int .u8 0,.int .u8 0,.int .u8 0,.int .u8 0,.int .u8 0,.int .u8 0,.int .u8 0,.int .u8 0,.int .u8 0,.int .u8 0,.int .u8 0,.int .u8 0,.int .u8 0,.int .u8 0,.int .u8 0,.int .u8 0,.int .u8 0,.int .u8 0,.int .u8 0,.int .u8 0,.int .u8 0,.int .u8 0,.int .u8 0,.int .u8 0,.int .u8 0,.int .u8 0,.int .u8 0,.int .u8 0,.int .u8 0,.int .u8 0,.int .u8 0,.int .u8 0,.int .u8 0,.int .u8 0,.int .u8 0,.int .u8 0,.int .u8 0,.int .u8 0,.int .u8 0,.int .u8 0,.int .u8 0,.int .u8 0,.int .u8 0,.int .u8 0,.int .u8 0,.int .u8 0,.int .u8 0,.int .u8 0,.int .u8 0,.int .u8 0,.int .u8 0,.int .u8 0,.int .u8 0,.int .u8 0,.int .u8 0,.int .u8 0,.int .u8 0,.int .u8 0,.int .u8 0,.int .u8 0,.int .u8 0,.int .u8 0,.int .u8 0,.int .u8 0]),none⟩
 .nil) 203 ⟨.array 0 16,0,0,(some []),none⟩
 .nil) 206 ⟨.int .u8,1,1,(some [.int .u8 0]),none⟩
 (.node (.node .nil 207 ⟨.int .u8,1,1,(some [.int .u8 0]),none⟩
 .nil) 208 ⟨.other,1,8,(some [.val .nilFunc]),none⟩
 .nil)) 209 ⟨.ptr,1,8,(some [.val (.pointer none)]),none⟩
 (.node (.node (.node .nil 210 ⟨.int .i32,1,4,(some [.int .i32 0]),none⟩
 .nil) 211 ⟨.int .i32,1,4,(some [.int .i32 0]),none⟩
 .nil) 212 ⟨.struct [(0,12),(1,12),(2,187),(3,206),(4,5),(5,5),(6,207),(7,208),(8,209),(9,210),(10,211)],11,48,(some [.int .u64 0,.int .u64 0,.int .u32 0,.int .u8 0,.int .u8 0,.int .u8 0,.int .u8 0,.val .nilFunc,.val (.pointer none),.int .i32 0,.int .i32 0]),none⟩
 (.node (.node .nil 213 ⟨.struct [(0,12),(1,12),(2,187),(3,206),(4,5),(5,5),(6,207),(7,208),(8,209),(9,210),(10,211)],11,48,(some [.int .u64 0,.int .u64 0,.int .u32 0,.int .u8 0,.int .u8 0,.int .u8 0,.int .u8 0,.val .nilFunc,.val (.pointer none),.int .i32 0,.int .i32 0]),none⟩
 .nil) 214 ⟨.other,1,8,none,none⟩
 .nil)))))))
def tab:Tab:=tabT.get
theorem zi:tab.fits Tryz.prog:=Tab.zlS (by kernel_rfl)
theorem mixed:Tryz.prog.follows .mixedOrders=true:=by kernel_rfl
end Go.Proofs.YtcclfkakcgnacaaGreatDoor
namespace Go.Ab
open Go
theorem laid_tail {P:Program} {x:String × DataW Unit} {rest:List (String × DataW Unit)} {w:World} (h:laidMet P (x::rest) w):laidMet P rest w:=by
  obtain⟨ps,⟨g,t,cs,fuel,p,q,h1,h2,h3,h4,h5,rfl⟩,hn,hc⟩:=h
  exact⟨q,h5,(List.nodup_append.1 hn).2.1,fun b off hm=>hc b off (List.mem_append_right _ hm)⟩
theorem pow10_of {P:Program} {W:World} {d:DataW Unit} {rest:List (String × DataW Unit)} (g t e:Nat) (hd:d=Lib.tabData .u64 Lib.pow10Tab)
    (hg:P.globalNamed "internal/strconv.uint64pow10" =some g) (hty:(P.globals[g]?).map (·.type)=some t) (ht:P.underlying t=some (.array 20 e)) (he:P.underlying e=some (.int .u64)) (hce:P.cellsOf e=1) (hct:P.cellsOf t=20)
    (h:laidMet P (("internal/strconv.uint64pow10",d)::rest) W):Lib.TabIs P W "internal/strconv.uint64pow10" .u64 Lib.pow10Tab:=by
  subst hd
  exact Lib.tabIs_of_head hg hty ht he hce hct h
end Go.Ab
namespace Go.Ab
open Go Go.Sep
variable [Facts]
def wfI (n:Int):Prop:= -9223372036854775808≤n∧n≤9223372036854775807
theorem zmb {n:Int} (h:(Lit.int .i64 n).wf=true):wfI n:=by
  simp only [Lit.wf,Bool.and_eq_true,decide_eq_true_eq] at h
  have h1:IntKind.i64.min= -9223372036854775808:=by decide
  have h2:IntKind.i64.max=9223372036854775807:=by decide
  rw [h1,h2] at h;exact h
def wfS {α:Type} (s:List α):Prop:=s.length≤140737488355328
def ziH (f:Fld):Prop:=wfS f.name∧wfS f.value
def wfHd (h:Hd):Prop:=wfS h.method∧wfS h.target∧wfI h.minor∧(wfS h.fields∧∀ f ∈ h.fields,ziH f)∧wfI h.length
def zma (p:Prt):Prop:=wfS p.name∧wfS p.file∧wfS p.type∧wfS p.bytes
def wfZ:(u:U)→u.den→Prop
  |.byte,_=>True
  |.int,n=>wfI n
  |.str,(s:Str)=>wfS s
  |.fld,f=>ziH f
  |.bytes,(b:Str)=>wfS b
  |.hd,h=>wfHd h
  |.prt,p=>zma p
  |.evt,(e:Evt)=>wfI e.kind∧wfHd e.head∧wfS e.bytes∧zma e.part∧wfI e.code
  |.upl,(x:Upl)=>wfI x.id∧wfI x.size∧wfS x.note∧wfS x.bytes∧wfI x.sent
  |.ent,(e:Ent)=>wfI e.kind∧wfI e.id∧wfI e.n∧wfS e.text
  |.stp,(e:Stp)=>wfI e.kind∧wfI e.conn∧wfI e.n∧wfS e.bytes
  |.ask,(a:Ask)=>wfHd a.h∧wfS a.body
  |.cal,(c:Cal)=>wfI c.conn∧wfS c.b
  |.lst,(e:Lst)=>wfI e.op∧wfI e.n∧wfS e.b
  |.sst,(e:Sst)=>wfI e.op∧wfI e.id∧wfI e.n∧wfS e.text
  |.rpl,(r:Rpl)=>wfI r.status∧(wfS r.fields∧∀ f ∈ r.fields,ziH f)∧wfS r.body
  |.med,(m:Med)=>wfS m.word∧(wfS m.params∧∀ f ∈ m.params,ziH f)
  |_,_=>True
abbrev Small {H:Type} (Pr:Program) (t:TypeId) (d:DataW H):Prop:=(d.weights Pr t).all (· ≤reachBytes)=true
section
variable {H:Type} {hsh:TypeId × Value→H} {Pr:Program} {w:World} {hF:Holds w} {base:Nat} {spare:Nat→Bool} {held:Bool}
def Zl (hsh:TypeId × Value→H) (Pr:Program) (w:World) (hF:Holds w) (base:Nat) (spare:Nat→Bool) (held:Bool) (t:TypeId) (Q:List P→Prop):Prop:=
  ∀ fuel cs y,DataW.trod hsh Pr w base spare held fuel t cs=some y→Small Pr t y.1→∃ ps,MPs (frzW w hF) ps cs∧Q ps
theorem Zl.mono {t:TypeId} {Q Q':List P→Prop} (h:Zl hsh Pr w hF base spare held t Q) (hq: ∀ ps,Q ps→Q' ps):Zl hsh Pr w hF base spare held t Q':=by
  intro fuel cs y hy hs
  obtain⟨ps,h1,h2⟩:=h fuel cs y hy hs
  exact⟨ps,h1,hq _ h2⟩
def QU (u:U) (ps:List P):Prop:=∃ x:u.den,ps=enc alg u x∧wfZ u x
def QL (u:U) (ps:List P):Prop:=∃ l:List u.den,ps=[.list u l]∧wfS l∧∀ x ∈ l,wfZ u x
theorem op_int {t:TypeId} (ht:Pr.underlying t=some (.int .i64)):Zl hsh Pr w hF base spare held t (QU .int):=by
  intro fuel cs y h _
  obtain⟨n,rfl,hn⟩:=zg2 ht fuel cs y h
  exact⟨[.int .i64 n],⟨.int _ _,trivial⟩,n,rfl,zmb hn⟩
theorem op_byte {t:TypeId} (ht:Pr.underlying t=some (.int .u8)):Zl hsh Pr w hF base spare held t (QU .byte):=by
  intro fuel cs y h _
  obtain⟨c,hc⟩:=zfv ht fuel cs y h
  exact⟨enc alg .byte c,zlC hc,c,rfl,trivial⟩
theorem zdY {n:Nat} (h:n≤reachBytes):n≤140737488355328:=Nat.le_trans h (by decide)
theorem op_str {t:TypeId} (ht:Pr.underlying t=some .string):Zl hsh Pr w hF base spare held t (QU .str):=by
  intro fuel cs y h hs
  obtain⟨s,rfl,hy,hl⟩:=DataW.trod_string ht h
  have e:Sep.S s.data.toList=s:=by cases s;rfl
  refine⟨[.str s.data.toList],⟨by rw [← e];exact .str _ (by simpa using hl),trivial⟩,s.data.toList,rfl,?_⟩
  rw [hy] at hs
  simp only [Small,DataW.weights,List.all_cons,List.all_nil,Bool.and_true,decide_eq_true_eq] at hs
  exact zdY hs
def elemsOf:DataW H→List (DataW H)
  |.slice es _=>es
  |_=>[]
theorem zcp {α:Type} {t e:TypeId} {size:Nat} {R:Sep.Rel α} (ht:Pr.underlying t=some (.slice e)) (hs:Pr.cellsOf e=size) {fuel:Nat} {cs:List Value} {y:DataW H × List MemPlace}
    (h:DataW.trod hsh Pr w base spare held fuel t cs=some y) (he: ∀ n ci z,z.1 ∈ elemsOf y.1→DataW.trod hsh Pr w base spare held n e ci=some z→∃ x,R w ci x):
    ∃ xs,RSl size R w cs xs∧xs.length=(elemsOf y.1).length:=by
  rcases DataW.trod_slice ht h with⟨rfl,rfl⟩|⟨a,len,cap,elems,rest,n,_,rfl,rfl,_,hl,hm,hlen,hel,_,_⟩
  · exact⟨[],⟨_,[],rfl,⟨none,0,rfl,Nat.le_refl _,Nat.zero_le _,fun _=>rfl,by simp,fun j u h=>by simp at h⟩,fun i x h=>by simp at h⟩,rfl⟩
  · subst hs
    have each: ∀ i,i<len→∃ ci:List Value,ci.length=Pr.cellsOf e∧(∀ j u,ci[j]? =some u→w.cell? ((a.add (i * Pr.cellsOf e)).add j)=some u)∧∃ x,R w ci x:=by
      intro i hi
      have h1:=hel i hi
      rw [List.getElem?_eq_getElem (by omega),Option.bind_eq_some_iff] at h1
      obtain⟨ci,hci,hy⟩:=h1
      obtain⟨h2,h3⟩:=cells?_get hci
      exact⟨ci,h2,h3,he n ci _ (List.mem_map_of_mem (List.getElem_mem _)) hy⟩
    have all: ∀ m,m≤len→∃ (vs:List Value) (xs:List α),xs.length=m∧vs.length=m * Pr.cellsOf e∧(∀ j u,vs[j]? =some u→w.cell? (a.add j)=some u)∧∀ i x,xs[i]? =some x→R w ((vs.drop (i * Pr.cellsOf e)).take (Pr.cellsOf e)) x:=by
      intro m
      induction m with
      |zero=>intro _;exact⟨[],[],rfl,by simp,fun j u h=>by simp at h,fun i x h=>by simp at h⟩
      | succ m ih=>
        intro hm'
        obtain⟨vs,xs,h1,h2,h3,h4⟩:=ih (by omega)
        obtain⟨ci,c1,c2,x,c3⟩:=each m (by omega)
        refine⟨vs++ci,xs++[x],by simp [h1],by simp [h2,c1,Nat.succ_mul],fun j u hj=> ?_,fun i z hi=> ?_⟩
        · rcases Nat.lt_or_ge j vs.length with hj1|hj1
          · rw [List.getElem?_append_left hj1] at hj;exact h3 j u hj
          · rw [List.getElem?_append_right hj1] at hj
            have h5:=c2 _ _ hj
            rw [Addr.add_add,h2,show m * Pr.cellsOf e+(j - m * Pr.cellsOf e)=j by omega] at h5
            exact h5
        · rcases Nat.lt_or_ge i xs.length with hi1|hi1
          · rw [List.getElem?_append_left hi1] at hi
            have h5:=h4 i z hi
            have h6:i * Pr.cellsOf e+Pr.cellsOf e≤vs.length:=by rw [h2,← Nat.succ_mul];exact Nat.mul_le_mul_right _ (by omega)
            rw [List.drop_append_of_le_length (by omega),List.take_append_of_le_length (by simp;omega)]
            exact h5
          · rw [List.getElem?_append_right hi1] at hi
            have hi2:i=m:=by
              have:=(List.getElem?_eq_some_iff.1 hi).1
              simp at this;omega
            subst hi2
            rw [h1,Nat.sub_self] at hi
            simp at hi
            subst hi
            rw [← h2,List.drop_left,List.take_of_length_le (by omega)]
            exact c3
    obtain⟨vs,xs,h1,h2,h3,h4⟩:=all len (Nat.le_refl _)
    refine⟨xs,⟨_,vs,rfl,⟨some a,cap,by rw [h1],by omega,hm,(fun h=>by cases h),by rw [h1];exact h2,fun j u hj=> ?_⟩,h4⟩,by simp [elemsOf,h1,hlen]⟩
    have hsp:a.spot=none:=by
      cases hv:vs with
      |nil=>rw [hv] at hj;simp at hj
      | cons u0 r=>
        have:=h3 0 u0 (by rw [hv];rfl)
        rw [show a.add 0=a by simp [Addr.add]] at this
        exact zkW this
    exact⟨⟨a,rfl,hsp⟩,by rw [← WG hsp];exact h3 j u hj⟩
theorem weightsAll_mem {e:TypeId}: ∀ {es:List (DataW H)} {d:DataW H},d ∈ es→∀ n ∈ d.weights Pr e,n ∈ DataW.weightsAll Pr e es
  | x::es,d,hd,n,hn=>by
    simp only [DataW.weightsAll,List.mem_append]
    rcases List.mem_cons.1 hd with rfl|hd
    · exact .inl hn
    · exact .inr (weightsAll_mem hd n hn)
theorem zfh {t e:TypeId} (ht:Pr.underlying t=some (.slice e)) {d z:DataW H} (h:Small Pr t d) (hz:z ∈ elemsOf d):Small Pr e z:=by
  cases d<;>simp only [elemsOf,List.not_mem_nil] at hz
  refine List.all_eq_true.2 fun n hn=>List.all_eq_true.1 h n ?_
  simp only [DataW.weights,ht,List.mem_cons,List.mem_append]
  exact .inr (.inl (weightsAll_mem hz n hn))
theorem zgu {t e:TypeId} (ht:Pr.underlying t=some (.slice e)) (hb:Nat.blt 0 (Pr.bytesOf e)=true) {d:DataW H} (h:Small Pr t d):(elemsOf d).length≤140737488355328:=by
  cases d<;>simp only [elemsOf]<;>try exact Nat.zero_le _
  rename_i es ss
  have h1:=List.all_eq_true.1 h ((es.length+ss.length) * Pr.bytesOf e) (by simp [DataW.weights,ht])
  have hb:0<Pr.bytesOf e:=by simpa [Nat.blt_eq] using hb
  refine zdY (Nat.le_trans (Nat.le_trans (Nat.le_add_right _ ss.length) (Nat.le_mul_of_pos_right _ hb)) (by simpa using h1))
theorem op_list {t e:TypeId} {u:U} (ht:Pr.underlying t=some (.slice e)) (hc:Pr.cellsOf e=u.size) (hb:Nat.blt 0 (Pr.bytesOf e)=true) (he:Zl hsh Pr w hF base spare held e (QU u)):
    Zl hsh Pr w hF base spare held t (QL u):=by
  intro fuel cs y h hs
  obtain⟨l,hl,hlen⟩:=zcp (R:=fun _ cs (x:u.den)=>MPs (frzW w hF) (enc alg u x) cs∧wfZ u x) ht hc h (fun n ci z hz ht'=>by
    obtain⟨ps,h1,x,rfl,hx⟩:=he n ci z ht' (zfh ht hs hz)
    exact⟨x,h1,hx⟩)
  have hl':=hl
  obtain⟨v,vs,rfl,_,hx⟩:=hl
  refine⟨[.list u l],⟨zlB (fun _ _ h=>h.1) hl',trivial⟩,l,rfl,by unfold wfS;rw [hlen];exact zgu ht hb hs,fun x hm=> ?_⟩
  obtain⟨i,hi⟩:=List.getElem?_of_mem hm
  exact(hx i x hi).2
def QAll:List (List P→Prop)→List P→Prop
  |[],ps=>ps=[]
  |Q::Qs,ps=>∃ a b,ps=a++b∧Q a∧QAll Qs b
def lays (Pr:Program):Nat→List Field→Nat→Bool
  |o,[],n=>Nat.beq o n
  |o,f::fs,n=>Nat.beq f.offset o&&lays Pr (o+Pr.cellsOf f.type) fs n
def zcf (hsh:TypeId × Value→H) (Pr:Program) (w:World) (hF:Holds w) (base:Nat) (spare:Nat→Bool) (held:Bool):List Field→List (List P→Prop)→Prop
  |[],[]=>True
  |f::fs,Q::Qs=>Zl hsh Pr w hF base spare held f.type Q∧zcf hsh Pr w hF base spare held fs Qs
  |_,_=>False
theorem zcf.nil:zcf hsh Pr w hF base spare held [] []:=trivial
theorem zcf.cons {f:Field} {fs:List Field} {Q:List P→Prop} {Qs:List (List P→Prop)} (h:Zl hsh Pr w hF base spare held f.type Q) (k:zcf hsh Pr w hF base spare held fs Qs):zcf hsh Pr w hF base spare held (f::fs) (Q::Qs):=⟨h,k⟩
theorem MPs.append {S:Frz}: ∀ {a b:List P} {x y:List Value},MPs S a x→MPs S b y→MPs S (a++b) (x++y)
  |[],_,[],_,_,h=>h
  |_::_,_,_::_,_,h,k=>⟨h.1,MPs.append h.2 k⟩
theorem zbi {cs:List Value}: ∀ (fs:List Field) (Qs:List (List P→Prop)) (o:Nat),lays Pr o fs cs.length=true→zcf hsh Pr w hF base spare held fs Qs→
    (∀ f ∈ fs,∃ n z,DataW.trod hsh Pr w base spare held n f.type ((cs.drop f.offset).take (Pr.cellsOf f.type))=some z∧Small Pr f.type z.1)→∃ ps,MPs (frzW w hF) ps (cs.drop o)∧QAll Qs ps
  | [],[],o,hl,_,_=>by
    have:=Nat.eq_of_beq_eq_true hl
    exact⟨[],by rw [List.drop_of_length_le (by omega)];trivial,rfl⟩
  | f::fs,Q::Qs,o,hl,hq,hz=>by
    simp only [lays,Bool.and_eq_true] at hl
    have ho:=Nat.eq_of_beq_eq_true hl.1
    obtain⟨n,z,h1,h2⟩:=hz f (by simp)
    rw [ho] at h1
    obtain⟨p1,m1,q1⟩:=hq.1 n _ z h1 h2
    obtain⟨p2,m2,q2⟩:=zbi fs Qs _ hl.2 hq.2 (fun g hg=>hz g (by simp [hg]))
    refine⟨p1++p2,?_,p1,p2,rfl,q1,q2⟩
    have:=m1.append m2
    rwa [← List.drop_drop,List.take_append_drop] at this
  |[],_::_,_,_,h,_=>h.elim
  |_::_,[],_,_,h,_=>h.elim
theorem op_struct {t:TypeId} {fs:Array Field} {Qs:List (List P→Prop)} (ht:Pr.underlying t=some (.struct fs)) (hl:lays Pr 0 fs.toList (Pr.cellsOf t)=true) (hq:zcf hsh Pr w hF base spare held fs.toList Qs):
    Zl hsh Pr w hF base spare held t (QAll Qs):=by
  intro fuel cs y h hs
  obtain⟨xs,n,_,rfl,hcl,hxl,hf⟩:=DataW.trod_struct ht h
  have:=zbi fs.toList Qs 0 (by rw [hcl];exact hl) hq (fun f hfm=>by
    obtain⟨i,hi⟩:=List.getElem?_of_mem hfm
    have hi':fs[i]? =some f:=by simpa using hi
    have hlt:i<xs.length:=by rw [hxl];exact(Array.getElem?_eq_some_iff.1 hi').1
    refine⟨n,xs[i],by rw [hf i f hi',List.getElem?_eq_getElem hlt],List.all_eq_true.2 fun k hk=>List.all_eq_true.1 hs k ?_⟩
    simp only [DataW.weights,ht]
    exact DataW.weights_mem_each (j:=i) (t:=f.type) (by simp [hi']) (by simp [hlt]) k hk)
  simpa using this
theorem q_fld (ps:List P) (h:QAll [QU .str,QU .str] ps):QU .fld ps:=by
  obtain⟨_,_,rfl,⟨a,rfl,ha⟩,_,_,rfl,⟨b,rfl,hb⟩,rfl⟩:=h
  exact⟨(⟨a,b⟩:Fld),rfl,ha,hb⟩
theorem q_hd (ps:List P) (h:QAll [QU .str,QU .str,QU .int,QL .fld,QU .int] ps):QU .hd ps:=by
  obtain⟨_,_,rfl,⟨a,rfl,ha⟩,_,_,rfl,⟨b,rfl,hb⟩,_,_,rfl,⟨c,rfl,hc⟩,_,_,rfl,⟨d,rfl,hd⟩,_,_,rfl,⟨e,rfl,he⟩,rfl⟩:=h
  exact⟨(⟨a,b,c,d,e⟩:Hd),rfl,ha,hb,hc,hd,he⟩
theorem q_ask (ps:List P) (h:QAll [QU .hd,QL .byte] ps):QU .ask ps:=by
  obtain⟨_,_,rfl,⟨a,rfl,ha⟩,_,_,rfl,⟨b,rfl,hb,_⟩,rfl⟩:=h
  exact⟨(⟨a,b⟩:Ask),by simp [enc],ha,hb⟩
theorem z_one {t:TypeId} {v:Value} {d:DataW H} {ps:List MemPlace} {Q:List P→Prop} (hr:v.oneCell'=true) (h:DataW.Trod hsh Pr w base spare held t v d ps) (hs:Small Pr t d) (ho:Zl hsh Pr w hF base spare held t Q): ∃ qs,MPs (frzW w hF) qs [v]∧Q qs:=by
  obtain⟨fuel,hf⟩:=h
  have hc:v.cells.toList=[v]:=by cases v<;>first|rfl|cases hr
  rw [hc] at hf
  exact ho fuel _ _ hf hs
theorem small_nth {ts:List TypeId} {ds:List (DataW H)} (h:(DataW.weightsEach Pr ts ds).all (· ≤reachBytes)=true) {j:Nat} {t:TypeId} {d:DataW H} (ht:ts[j]? =some t) (hd:ds[j]? =some d):Small Pr t d:=
  List.all_eq_true.2 fun n hn=>List.all_eq_true.1 h n (DataW.weights_mem_each ht hd n hn)
end
end Go.Ab
namespace Go.Proofs
open Go.Shelf
def Tryz.zcH:Go.Shelf.Ren:=⟨fun|161=>158|231=>144|227=>146|233=>147|235=>149|228=>163|197=>164|151=>165|260=>173|152=>174|137=>172|119=>179|224=>180|225=>181|217=>178|266=>182|n=>n,fun|9=>9|4=>4|3=>3|5=>5|117=>168|116=>167|0=>0|124=>171|105=>182|21=>21|119=>193|46=>181|139=>196|138=>195|n=>n,fun|3=>1|4=>2|n=>n⟩
theorem Tryz.lays161:Go.Proofs.Lays.n161 Tryz.prog Tryz.zcH:= {
  mixed:=by kernel_rfl
  f119:=Tryz.func179.trans (congrArg some (by kernel_rfl))
  f137:=Tryz.func172.trans (congrArg some (by kernel_rfl))
  f151:=Tryz.func165.trans (congrArg some (by kernel_rfl))
  f152:=Tryz.func174.trans (congrArg some (by kernel_rfl))
  f161:=Tryz.func158.trans (congrArg some (by kernel_rfl))
  f197:=Tryz.func164.trans (congrArg some (by kernel_rfl))
  f217:=Tryz.func178.trans (congrArg some (by kernel_rfl))
  f224:=Tryz.func180.trans (congrArg some (by kernel_rfl))
  f225:=Tryz.func181.trans (congrArg some (by kernel_rfl))
  f227:=Tryz.func146.trans (congrArg some (by kernel_rfl))
  f228:=Tryz.func163.trans (congrArg some (by kernel_rfl))
  f231:=Tryz.func144.trans (congrArg some (by kernel_rfl))
  f233:=Tryz.func147.trans (congrArg some (by kernel_rfl))
  f235:=Tryz.func149.trans (congrArg some (by kernel_rfl))
  f260:=Tryz.func173.trans (congrArg some (by kernel_rfl))
  f266:=Tryz.func182.trans (congrArg some (by kernel_rfl))
  t0:=Tryz.underlying0
  a0:=Tryz.isAgg0
  z0:=Tryz.sizeOf0
  v0:=Tryz.zeroValue0
  t3:=Tryz.underlying3
  a3:=Tryz.isAgg3
  z3:=Tryz.sizeOf3
  v3:=Tryz.zeroValue3
  t4:=Tryz.underlying4
  a4:=Tryz.isAgg4
  z4:=Tryz.sizeOf4
  v4:=Tryz.zeroValue4
  t5:=Tryz.underlying5
  a5:=Tryz.isAgg5
  z5:=Tryz.sizeOf5
  v5:=Tryz.zeroValue5
  t9:=Tryz.underlying9
  a9:=Tryz.isAgg9
  z9:=Tryz.sizeOf9
  v9:=Tryz.zeroValue9
  t21:=Tryz.underlying21
  a21:=Tryz.isAgg21
  z21:=Tryz.sizeOf21
  v21:=Tryz.zeroValue21
  t46:=Tryz.underlying181
  a46:=Tryz.isAgg181
  z46:=Tryz.sizeOf181
  v46:=Tryz.zeroValue181
  t105:=Tryz.underlying182
  a105:=Tryz.isAgg182
  z105:=Tryz.sizeOf182
  v105:=Tryz.zeroValue182
  t116:=Tryz.underlying167
  a116:=Tryz.isAgg167
  z116:=Tryz.sizeOf167
  t117:=Tryz.underlying168
  a117:=Tryz.isAgg168
  z117:=Tryz.sizeOf168
  v117:=Tryz.zeroValue168
  t119:=Tryz.underlying193
  a119:=Tryz.isAgg193
  z119:=Tryz.sizeOf193
  t124:=Tryz.underlying171
  a124:=Tryz.isAgg171
  z124:=Tryz.sizeOf171
  v124:=Tryz.zeroValue171
  t138:=Tryz.underlying195
  a138:=Tryz.isAgg195
  z138:=Tryz.sizeOf195
  v138:=Tryz.zeroValue195
  t139:=Tryz.underlying196
  a139:=Tryz.isAgg196
  z139:=Tryz.sizeOf196
  v139:=Tryz.zeroValue196
  g3:=by kernel_rfl
  g4:=by kernel_rfl}
def Tryz.zcI:Go.Shelf.Ren:=⟨fun|160=>131|232=>145|231=>144|227=>146|234=>148|233=>147|236=>150|235=>149|228=>163|271=>166|151=>165|197=>164|120=>175|152=>174|260=>173|137=>172|119=>179|224=>180|225=>181|217=>178|266=>182|n=>n,fun|9=>9|4=>4|3=>3|5=>5|117=>168|116=>167|0=>0|124=>171|21=>21|105=>182|46=>181|119=>193|139=>196|138=>195|n=>n,fun|3=>1|4=>2|n=>n⟩
theorem Tryz.lays160:Go.Proofs.Lays.n160 Tryz.prog Tryz.zcI:= {
  mixed:=by kernel_rfl
  f119:=Tryz.func179.trans (congrArg some (by kernel_rfl))
  f120:=Tryz.func175.trans (congrArg some (by kernel_rfl))
  f137:=Tryz.func172.trans (congrArg some (by kernel_rfl))
  f151:=Tryz.func165.trans (congrArg some (by kernel_rfl))
  f152:=Tryz.func174.trans (congrArg some (by kernel_rfl))
  f160:=Tryz.func131.trans (congrArg some (by kernel_rfl))
  f197:=Tryz.func164.trans (congrArg some (by kernel_rfl))
  f217:=Tryz.func178.trans (congrArg some (by kernel_rfl))
  f224:=Tryz.func180.trans (congrArg some (by kernel_rfl))
  f225:=Tryz.func181.trans (congrArg some (by kernel_rfl))
  f227:=Tryz.func146.trans (congrArg some (by kernel_rfl))
  f228:=Tryz.func163.trans (congrArg some (by kernel_rfl))
  f231:=Tryz.func144.trans (congrArg some (by kernel_rfl))
  f232:=Tryz.func145.trans (congrArg some (by kernel_rfl))
  f233:=Tryz.func147.trans (congrArg some (by kernel_rfl))
  f234:=Tryz.func148.trans (congrArg some (by kernel_rfl))
  f235:=Tryz.func149.trans (congrArg some (by kernel_rfl))
  f236:=Tryz.func150.trans (congrArg some (by kernel_rfl))
  f260:=Tryz.func173.trans (congrArg some (by kernel_rfl))
  f266:=Tryz.func182.trans (congrArg some (by kernel_rfl))
  f271:=Tryz.func166.trans (congrArg some (by kernel_rfl))
  t0:=Tryz.underlying0
  a0:=Tryz.isAgg0
  z0:=Tryz.sizeOf0
  v0:=Tryz.zeroValue0
  t3:=Tryz.underlying3
  a3:=Tryz.isAgg3
  z3:=Tryz.sizeOf3
  v3:=Tryz.zeroValue3
  t4:=Tryz.underlying4
  a4:=Tryz.isAgg4
  z4:=Tryz.sizeOf4
  v4:=Tryz.zeroValue4
  t5:=Tryz.underlying5
  a5:=Tryz.isAgg5
  z5:=Tryz.sizeOf5
  v5:=Tryz.zeroValue5
  t9:=Tryz.underlying9
  a9:=Tryz.isAgg9
  z9:=Tryz.sizeOf9
  v9:=Tryz.zeroValue9
  t21:=Tryz.underlying21
  a21:=Tryz.isAgg21
  z21:=Tryz.sizeOf21
  v21:=Tryz.zeroValue21
  t46:=Tryz.underlying181
  a46:=Tryz.isAgg181
  z46:=Tryz.sizeOf181
  v46:=Tryz.zeroValue181
  t105:=Tryz.underlying182
  a105:=Tryz.isAgg182
  z105:=Tryz.sizeOf182
  v105:=Tryz.zeroValue182
  t116:=Tryz.underlying167
  a116:=Tryz.isAgg167
  z116:=Tryz.sizeOf167
  t117:=Tryz.underlying168
  a117:=Tryz.isAgg168
  z117:=Tryz.sizeOf168
  v117:=Tryz.zeroValue168
  t119:=Tryz.underlying193
  a119:=Tryz.isAgg193
  z119:=Tryz.sizeOf193
  t124:=Tryz.underlying171
  a124:=Tryz.isAgg171
  z124:=Tryz.sizeOf171
  v124:=Tryz.zeroValue171
  t138:=Tryz.underlying195
  a138:=Tryz.isAgg195
  z138:=Tryz.sizeOf195
  v138:=Tryz.zeroValue195
  t139:=Tryz.underlying196
  a139:=Tryz.isAgg196
  z139:=Tryz.sizeOf196
  v139:=Tryz.zeroValue196
  g3:=by kernel_rfl
  g4:=by kernel_rfl}
def Tryz.zcJ:Go.Shelf.Ren:=⟨fun|137=>172|217=>178|266=>182|n=>n,fun|9=>9|5=>5|3=>3|n=>n,fun|n=>n⟩
theorem Tryz.lays137:Go.Proofs.Lays.n137 Tryz.prog Tryz.zcJ:= {
  mixed:=by kernel_rfl
  f137:=Tryz.func172.trans (congrArg some (by kernel_rfl))
  f217:=Tryz.func178.trans (congrArg some (by kernel_rfl))
  f266:=Tryz.func182.trans (congrArg some (by kernel_rfl))
  t3:=Tryz.underlying3
  a3:=Tryz.isAgg3
  z3:=Tryz.sizeOf3
  v3:=Tryz.zeroValue3
  t5:=Tryz.underlying5
  a5:=Tryz.isAgg5
  z5:=Tryz.sizeOf5
  v5:=Tryz.zeroValue5
  t9:=Tryz.underlying9
  a9:=Tryz.isAgg9
  z9:=Tryz.sizeOf9
  v9:=Tryz.zeroValue9}
def Tryz.zcK:Go.Shelf.Ren:=⟨fun|103=>82|210=>110|206=>67|n=>n,fun|9=>9|4=>4|24=>106|3=>3|n=>n,fun|n=>n⟩
theorem Tryz.zlu:Go.Proofs.Lays.n103 Tryz.prog Tryz.zcK:= {
  mixed:=by kernel_rfl
  f103:=Tryz.func82.trans (congrArg some (by kernel_rfl))
  f206:=Tryz.func67.trans (congrArg some (by kernel_rfl))
  f210:=Tryz.func110.trans (congrArg some (by kernel_rfl))
  t3:=Tryz.underlying3
  a3:=Tryz.isAgg3
  z3:=Tryz.sizeOf3
  v3:=Tryz.zeroValue3
  t4:=Tryz.underlying4
  a4:=Tryz.isAgg4
  z4:=Tryz.sizeOf4
  v4:=Tryz.zeroValue4
  t9:=Tryz.underlying9
  a9:=Tryz.isAgg9
  z9:=Tryz.sizeOf9
  v9:=Tryz.zeroValue9
  t24:=Tryz.underlying106
  a24:=Tryz.isAgg106
  z24:=Tryz.sizeOf106
  v24:=Tryz.zeroValue106}
def Tryz.zbr:Go.Shelf.Ren:=⟨fun|171=>77|243=>108|246=>133|283=>151|284=>152|285=>153|286=>154|129=>168|317=>167|318=>169|319=>170|320=>171|337=>176|338=>177|n=>n,fun|3=>3|9=>9|2=>2|4=>4|171=>172|0=>0|53=>173|37=>30|5=>5|173=>176|212=>186|51=>187|20=>20|213=>188|46=>181|232=>199|233=>200|n=>n,fun|17=>0|18=>3|19=>4|n=>n⟩
theorem Tryz.laysM171:Go.Proofs.LaysM.n171 Tryz.prog Tryz.zbr:= {
  mixed:=by kernel_rfl
  f129:=Tryz.func168.trans (congrArg some (by kernel_rfl))
  f171:=Tryz.func77.trans (congrArg some (by kernel_rfl))
  f243:=Tryz.func108.trans (congrArg some (by kernel_rfl))
  f246:=Tryz.func133.trans (congrArg some (by kernel_rfl))
  f283:=Tryz.func151.trans (congrArg some (by kernel_rfl))
  f284:=Tryz.func152.trans (congrArg some (by kernel_rfl))
  f285:=Tryz.func153.trans (congrArg some (by kernel_rfl))
  f286:=Tryz.func154.trans (congrArg some (by kernel_rfl))
  f317:=Tryz.func167.trans (congrArg some (by kernel_rfl))
  f318:=Tryz.func169.trans (congrArg some (by kernel_rfl))
  f319:=Tryz.func170.trans (congrArg some (by kernel_rfl))
  f320:=Tryz.func171.trans (congrArg some (by kernel_rfl))
  f337:=Tryz.func176.trans (congrArg some (by kernel_rfl))
  f338:=Tryz.func177.trans (congrArg some (by kernel_rfl))
  t0:=Tryz.underlying0
  a0:=Tryz.isAgg0
  z0:=Tryz.sizeOf0
  v0:=Tryz.zeroValue0
  t2:=Tryz.underlying2
  a2:=Tryz.isAgg2
  z2:=Tryz.sizeOf2
  v2:=Tryz.zeroValue2
  t3:=Tryz.underlying3
  a3:=Tryz.isAgg3
  z3:=Tryz.sizeOf3
  v3:=Tryz.zeroValue3
  t4:=Tryz.underlying4
  a4:=Tryz.isAgg4
  z4:=Tryz.sizeOf4
  v4:=Tryz.zeroValue4
  t5:=Tryz.underlying5
  a5:=Tryz.isAgg5
  z5:=Tryz.sizeOf5
  v5:=Tryz.zeroValue5
  t9:=Tryz.underlying9
  a9:=Tryz.isAgg9
  z9:=Tryz.sizeOf9
  v9:=Tryz.zeroValue9
  t20:=Tryz.underlying20
  a20:=Tryz.isAgg20
  z20:=Tryz.sizeOf20
  v20:=Tryz.zeroValue20
  t37:=Tryz.underlying30
  a37:=Tryz.isAgg30
  z37:=Tryz.sizeOf30
  v37:=Tryz.zeroValue30
  t46:=Tryz.underlying181
  a46:=Tryz.isAgg181
  z46:=Tryz.sizeOf181
  v46:=Tryz.zeroValue181
  t51:=Tryz.underlying187
  a51:=Tryz.isAgg187
  z51:=Tryz.sizeOf187
  v51:=Tryz.zeroValue187
  t53:=Tryz.underlying173
  a53:=Tryz.isAgg173
  z53:=Tryz.sizeOf173
  v53:=Tryz.zeroValue173
  t171:=Tryz.underlying172
  a171:=Tryz.isAgg172
  z171:=Tryz.sizeOf172
  v171:=Tryz.zeroValue172
  t173:=Tryz.underlying176
  a173:=Tryz.isAgg176
  z173:=Tryz.sizeOf176
  v173:=Tryz.zeroValue176
  t212:=Tryz.underlying186
  a212:=Tryz.isAgg186
  z212:=Tryz.sizeOf186
  v212:=Tryz.zeroValue186
  t213:=Tryz.underlying188
  a213:=Tryz.isAgg188
  z213:=Tryz.sizeOf188
  t232:=Tryz.underlying199
  a232:=Tryz.isAgg199
  z232:=Tryz.sizeOf199
  v232:=Tryz.zeroValue199
  t233:=Tryz.underlying200
  a233:=Tryz.isAgg200
  z233:=Tryz.sizeOf200
  v233:=Tryz.zeroValue200
  g17:=by kernel_rfl
  g18:=by kernel_rfl
  g19:=by kernel_rfl
  i0:=by kernel_rfl
  i2:=by kernel_rfl
  i3:=by kernel_rfl
  i4:=by kernel_rfl
  i5:=by kernel_rfl
  i9:=by kernel_rfl
  i20:=by kernel_rfl
  i37:=by kernel_rfl
  i46:=by kernel_rfl
  i51:=by kernel_rfl
  i53:=by kernel_rfl
  i171:=by kernel_rfl
  i173:=by kernel_rfl
  i212:=by kernel_rfl
  i232:=by kernel_rfl
  i233:=by kernel_rfl
  m17:=by kernel_rfl
  m18:=by kernel_rfl
  m19:=by kernel_rfl}
def Tryz.lays99_ren:Go.Shelf.Ren:=⟨fun|99=>42|206=>67|n=>n,fun|9=>9|4=>4|3=>3|n=>n,fun|n=>n⟩
theorem Tryz.lays99:Go.Proofs.Lays.n99 Tryz.prog Tryz.lays99_ren:= {
  mixed:=by kernel_rfl
  f99:=Tryz.func42.trans (congrArg some (by kernel_rfl))
  f206:=Tryz.func67.trans (congrArg some (by kernel_rfl))
  t3:=Tryz.underlying3
  a3:=Tryz.isAgg3
  z3:=Tryz.sizeOf3
  v3:=Tryz.zeroValue3
  t4:=Tryz.underlying4
  a4:=Tryz.isAgg4
  z4:=Tryz.sizeOf4
  v4:=Tryz.zeroValue4
  t9:=Tryz.underlying9
  a9:=Tryz.isAgg9
  z9:=Tryz.sizeOf9
  v9:=Tryz.zeroValue9}
open Go.RowKit in
theorem Tryz.strings_IndexByte (s:ByteArray) (c:Int) (w:World):
    Calls Tryz.prog 172 #[.string s,.int .u8 c] w fun e w'=>e=.returned (.int .i64 (Lib.indexByte s.data.toList c.toNat.toUInt8))∧w'=w:=Any.strings_IndexByte Tryz.lays137 s c w
open Go.RowKit in
theorem Tryz.strings_CutPrefix (s p:ByteArray) (w:World):
    Calls Tryz.prog 82 #[.string s,.string p] w fun e w'=>e=.returned (.tuple #[.string ⟨(Lib.trimPrefix s.data.toList p.data.toList).toArray⟩,.bool (Lib.hasPrefix s.data.toList p.data.toList)])∧w'=w:=Any.strings_CutPrefix Tryz.zlu s p w
open Go.RowKit Go.Sort Go.Lib in
theorem Tryz.strconv_Itoa (n:Int) (h0: -9223372036854775808≤n) (h1:n≤9223372036854775807) (w:World) (htab:Lib.TabIs Tryz.prog w "internal/strconv.uint64pow10" .u64 Lib.pow10Tab):
    Calls Tryz.prog 77 #[.int .i64 n] w fun e w'=>e=.returned (.string ⟨(Lib.itoa n).toArray⟩)∧∃ k os,w'=grow (w.drewN k) os:=Any.strconv_Itoa Tryz.laysM171 n h0 h1 w htab
open Go.RowKit Go.Lib in
theorem Tryz.strings_HasPrefix (s p:ByteArray) (w:World):
    Calls Tryz.prog 42 #[.string s,.string p] w fun e w'=>e=.returned (.bool (Lib.hasPrefix s.data.toList p.data.toList))∧w'=w:=Any.strings_HasPrefix Tryz.lays99 s p w
theorem Tryz.strings_Trim_laid (s cutset:ByteArray) (w:World) (hs:s.size≤9223372036854775807) (hcs:cutset.size<4294967281) (hascii: ∀ (j:Nat) b,cutset.data.toList[j]? =some b→b.toNat<128):
    Calls Tryz.prog 131 #[.string s,.string cutset] w fun e w'=>e=.returned (.string ⟨(Lib.trimS s.data.toList cutset.data.toList).toArray⟩)∧Go.RowKit.Below w.heap.size w w':=Any.strings_Trim_laid Tryz.lays160 (by kernel_rfl) s cutset w hs hcs hascii
theorem Tryz.strings_TrimLeft_laid (s cutset:ByteArray) (w:World) (hcs:cutset.size<4294967281) (hascii: ∀ (j:Nat) b,cutset.data.toList[j]? =some b→b.toNat<128):
    Calls Tryz.prog 158 #[.string s,.string cutset] w fun e w'=>e=.returned (.string ⟨(Lib.trimLeftS s.data.toList cutset.data.toList).toArray⟩)∧Go.RowKit.Below w.heap.size w w':=Any.strings_TrimLeft_laid Tryz.lays161 (by kernel_rfl) s cutset w hcs hascii
end Go.Proofs
namespace Go.Ab
open Go Go.Sep
variable [Facts]
theorem zc6 {w w':World} (h:RowKit.Below w.heap.size w w'):Keeps (fun k=>k<w.heap.size) w w':=⟨h.1,h.2,h.3,h.4,h.5⟩
theorem Spc.of_below {Pr:Program} {f:Nat} {args:List D} {hp:List HO} {d:D} (hf: ∃ fn,Pr.funcs[f]? =some fn∧(fn.name == "runtime.NumGoroutine")=false∧fn.body.isNone=false)
    (h: ∀ (S:Frz) (bs:List Value) (w:World) (vs:List Value),Facts.p w→MDs S bs args vs→∃ v,MD S bs d v∧Calls Pr f vs.toArray w fun e w'=>e=.returned v∧RowKit.Below w.heap.size w w'):Spc Pr f args hp (.ret d) hp:=by
  refine⟨hf,fun S K fr w vs hH hM hA=> ?_⟩
  obtain⟨v,hv,hc⟩:=h S _ w vs (At.frz hA).facts hM
  refine hc.mono fun e w' he=> ?_
  obtain⟨he,hb⟩:=he
  subst he
  exact⟨S,K,Frz.le.refl S,Ext.refl _,hH,hA.keep (zc6 hb),hv⟩
end Go.Ab
namespace Go.Proofs.YtcclfkakcgnacaaGreatDoor
open Go Go.Sep Go.Ab
set_option maxRecDepth 100000
theorem ziK (s cs:Str):(Lib.trimS s cs).length≤s.length:=by
  unfold Lib.trimS Lib.trimLeftS Lib.trimRightS
  refine Nat.le_trans (List.dropWhile_sublist _).length_le ?_
  rw [List.length_reverse]
  exact Nat.le_trans (List.dropWhile_sublist _).length_le (by rw [List.length_reverse];exact Nat.le_refl _)
theorem znN (s:Str):Spc Tryz.prog 131 [.v (.one (.p (.str s))),.v (.one (.p (.str ([32,9]))))] [] (.ret (.v (.one (.p (.str (Lib.trimS s [32,9])))))) []:=by
  refine Spc.of_below ⟨_,Tryz.func131,by kernel_rfl,by kernel_rfl⟩ fun S bs w vs _ hM=> ?_
  obtain⟨v,r,rfl⟩: ∃ v r,vs=v::r:=by cases vs with|nil=>exact hM.elim|cons v r=>exact⟨v,r,rfl⟩
  obtain⟨h1,hM⟩:=hM
  obtain⟨v2,r2,rfl⟩: ∃ v r2,r=v::r2:=by cases r with|nil=>exact hM.elim|cons v r=>exact⟨v,r,rfl⟩
  obtain⟨h2,hM⟩:=hM
  obtain rfl:r2=[]:=by cases r2 with|nil=>rfl|cons v r=>exact hM.elim
  cases h1 with
  | str _ hl1=>
    cases h2 with
    | str _ hl2=>
      refine⟨.string (Sep.S (Lib.trimS s [32,9])),.str _ (Nat.le_trans (ziK _ _) hl1),?_⟩
      exact Tryz.strings_Trim_laid (Sep.S s) (Sep.S [32,9]) w (by have:=hl1;unfold maxLen at this;exact this) (by decide) (fun j b hb=>by
        have:=List.mem_of_getElem? hb
        rcases(by simpa [Sep.S] using this:b=32∨b=9) with rfl|rfl<;>decide)
def Qc (I:Alg) (args:List D) (hp:List HO):Option CT:=match args,hp with
  |[.v (.one (.p (.str s))),.v (.one (.p (.str ([32,9]))))],[]=>(fun(s:Str)=>(some (.one ⟨I.hid (True),(.ret (.v (.one (.p (.str (I.hid (Lib.trimS s [32,9]))))))),[]⟩):Option CT)) s
  |_,_=>none
theorem zgb:zo Tryz.prog 131 (Qc alg):=by
  intro args hp r h
  unfold Qc at h
  split at h
  · cases h;exact fun hn=>znN _
  · cases h
def zkD:Know Tryz.prog:=⟨131,Qc,zgb⟩
def zkC:Know Tryz.prog:=⟨131,fun I=>zq I (Qc I),zf zgb⟩
theorem zfH (s:Str) (k:Int):Spc Tryz.prog 172 [.v (.one (.p (.str s))),.v (.one (.p (.int .u8 k)))] [] (.ret (.v (.one (.p (.int .i64 (Lib.indexByte s k.toNat.toUInt8)))))) []:=by
  refine Spc.of_below ⟨_,Tryz.func172,by kernel_rfl,by kernel_rfl⟩ fun S bs w vs _ hM=> ?_
  obtain⟨v,r,rfl⟩: ∃ v r,vs=v::r:=by cases vs with|nil=>exact hM.elim|cons v r=>exact⟨v,r,rfl⟩
  obtain⟨h1,hM⟩:=hM
  obtain⟨v2,r2,rfl⟩: ∃ v r2,r=v::r2:=by cases r with|nil=>exact hM.elim|cons v r=>exact⟨v,r,rfl⟩
  obtain⟨h2,hM⟩:=hM
  obtain rfl:r2=[]:=by cases r2 with|nil=>rfl|cons v r=>exact hM.elim
  cases h1 with
  | str _ hl1=>
    cases h2 with
    | int _ _=>
      refine⟨.int .i64 (Lib.indexByte s k.toNat.toUInt8),.int _ _,?_⟩
      refine(Tryz.strings_IndexByte (Sep.S s) k w).mono fun e w' h=> ?_
      obtain⟨he,rfl⟩:=h
      exact⟨he,RowKit.Below.refl _ _⟩
def rM (I:Alg) (args:List D) (hp:List HO):Option CT:=match args,hp with
  |[.v (.one (.p (.str s))),.v (.one (.p (.int .u8 k)))],[]=>(fun(s:Str) (k:Int)=>(some (.one ⟨I.hid (True),(.ret (.v (.one (.p (.int .i64 (I.hid (Lib.indexByte s k.toNat.toUInt8))))))),[]⟩):Option CT)) s k
  |_,_=>none
theorem WX:zo Tryz.prog 172 (rM alg):=by
  intro args hp r h
  unfold rM at h
  split at h
  · cases h;exact fun hn=>zfH _ _
  · cases h
def zbF:Know Tryz.prog:=⟨172,rM,WX⟩
def zbE:Know Tryz.prog:=⟨172,fun I=>zq I (rM I),zf WX⟩
end Go.Proofs.YtcclfkakcgnacaaGreatDoor
namespace Go.Proofs.YtcclfkakcgnacaaGreatDoor
open Go Go.Sep Go.Ab
set_option maxRecDepth 100000
def lowK (k:Int):Int:=if 65≤k∧k≤90 then k+32 else k
def YD (k:Int):Bool:=decide (48≤k∧k≤57)
def rY (k:Int):Bool:=decide (97≤lowK k∧lowK k≤122)
def marks:Str:=[33,35,36,37,38,39,42,43,45,46,94,95,96,124,126]
def tokB (k:Int):Bool:=YD k||(rY k||decide (0≤Lib.indexByte marks k.toNat.toUInt8))
def UH (k:Int):Bool:=decide (k=9∨32≤k∧k≠127)
def hexK (k:Int):Int:=if YD k then k - 48 else if rY k&&decide (lowK k≤102) then lowK k - 97+10 else -1
theorem wrap64 (n:Int) (h: -9223372036854775808≤n∧n≤9223372036854775807):IntKind.i64.wrap n=n:=by
  unfold IntKind.wrap
  simp only [show IntKind.i64.signed=true by decide,show IntKind.i64.bits=64 by decide]
  split<;>simp_all<;>omega
theorem zhs {k:Int} (h:0≤k∧k≤255):0≤lowK k∧lowK k≤255:=by unfold lowK;split<;>omega
theorem znx (k:Int):Spc Tryz.prog 156 [.v (.one (.p (.int .u8 k)))] [] (.ret (.v (.one (.p (.bool (YD k)))))) []:=by
  refine spcG zi mixed Tryz.func156 (by kernel_rfl) { keep:=some [0,2]} [] (by kernel_rfl) ?_
  intro I X hI hX
  refine zh (.br (I.ile 48 k) (.fin (.ret (.v (.one (.p (.bool (I.ile k 57)))))) []) (.fin (.ret (.v (.one (.p (.bool Bool.false))))) [])) (by kernel_rfl) ?_
  simp only [zk]
  subst hI
  simp only [nrmA,nrmB]
  unfold YD
  exact⟨fun h=>decide_eq_decide.2 (by omega),fun h=>(decide_eq_false (by omega)).symm⟩
def Uf (I:Alg) (args:List D) (hp:List HO):Option CT:=match args,hp with
  |[.v (.one (.p (.int .u8 k)))],[]=>(fun(k:Int)=>(some (.one ⟨I.hid (True),(.ret (.v (.one (.p (.bool (I.hid (YD k))))))),[]⟩):Option CT)) k
  |_,_=>none
theorem zeT:zo Tryz.prog 156 (Uf alg):=by
  intro args hp r h
  unfold Uf at h
  split at h
  · cases h;exact fun hn=>znx _
  · cases h
def zeS:Know Tryz.prog:=⟨156,Uf,zeT⟩
def zeR:Know Tryz.prog:=⟨156,fun I=>zq I (Uf I),zf zeT⟩
theorem zna (k:Int) (hneed:0≤k∧k≤255):Spc Tryz.prog 155 [.v (.one (.p (.int .u8 k)))] [] (.ret (.v (.one (.p (.int .u8 (lowK k)))))) []:=by
  refine spcG zi mixed Tryz.func155 (by kernel_rfl) { keep:=some [0,2]} [] (by kernel_rfl) ?_
  intro I X hI hX
  refine zh (.br (I.ile 65 k) (.br (I.ile k 90) (.need (I.inr Go.IntKind.u8 (I.add k 32)) (.fin (.ret (.v (.one (.p (.int .u8 (I.add k 32)))))) [])) (.fin (.ret (.v (.one (.p (.int .u8 k))))) [])) (.fin (.ret (.v (.one (.p (.int .u8 k))))) [])) (by kernel_rfl) ?_
  simp only [zk]
  subst hI
  simp only [nrmA,nrmB]
  unfold lowK
  (repeat' (first|refine And.intro ?_ ?_|intro _))<;>first|omega|exact True.intro|exact False.elim ‹False›|skip
def V7 (I:Alg) (args:List D) (hp:List HO):Option CT:=match args,hp with
  |[.v (.one (.p (.int .u8 k)))],[]=>(fun(k:Int)=>(some (.one ⟨I.hid (0≤k∧k≤255),(.ret (.v (.one (.p (.int .u8 (I.hid (lowK k))))))),[]⟩):Option CT)) k
  |_,_=>none
theorem zeh:zo Tryz.prog 155 (V7 alg):=by
  intro args hp r h
  unfold V7 at h
  split at h
  · cases h;exact fun hn=>zna _ hn
  · cases h
def V6:Know Tryz.prog:=⟨155,V7,zeh⟩
def V5:Know Tryz.prog:=⟨155,fun I=>zq I (V7 I),zf zeh⟩
theorem zlt (k:Int) (hneed:0≤k∧k≤255):Spc Tryz.prog 157 [.v (.one (.p (.int .u8 k)))] [] (.ret (.v (.one (.p (.bool (rY k)))))) []:=by
  refine spcG zi mixed Tryz.func157 (by kernel_rfl) { keep:=some [0,2]} [V6,V5] (by kernel_rfl) ?_
  intro I X hI hX
  refine zh (let y0:=I.hid (α:=(Prop)) (And (LE.le (0:Int) k) (LE.le k (255:Int)));.need y0 (.br (I.ile 97 (I.hid (α:=Int) (lowK k))) (.need y0 (.fin (.ret (.v (.one (.p (.bool (I.ile (I.hid (α:=Int) (lowK k)) 122)))))) [])) (.fin (.ret (.v (.one (.p (.bool Bool.false))))) []))) (by kernel_rfl) ?_
  simp only [zk]
  subst hI
  simp only [nrmA,nrmB]
  unfold rY
  (repeat' (first|refine And.intro ?_ ?_|intro _))<;>first|omega|exact True.intro|exact False.elim ‹False›|skip
  all_goals first|exact decide_eq_decide.2 (by omega)|exact(decide_eq_false (by omega)).symm|exact(decide_eq_true (by omega)).symm|(rw [show(k == 127)=decide (k=127) from rfl,← decide_not];exact decide_eq_decide.2 (by omega))
def Xt (I:Alg) (args:List D) (hp:List HO):Option CT:=match args,hp with
  |[.v (.one (.p (.int .u8 k)))],[]=>(fun(k:Int)=>(some (.one ⟨I.hid (0≤k∧k≤255),(.ret (.v (.one (.p (.bool (I.hid (rY k))))))),[]⟩):Option CT)) k
  |_,_=>none
theorem zbq:zo Tryz.prog 157 (Xt alg):=by
  intro args hp r h
  unfold Xt at h
  split at h
  · cases h;exact fun hn=>zlt _ hn
  · cases h
def zbp:Know Tryz.prog:=⟨157,Xt,zbq⟩
def zbo:Know Tryz.prog:=⟨157,fun I=>zq I (Xt I),zf zbq⟩
theorem zmh (k:Int) (hneed:0≤k∧k≤255):Spc Tryz.prog 159 [.v (.one (.p (.int .u8 k)))] [] (.ret (.v (.one (.p (.bool (tokB k)))))) []:=by
  refine spcG zi mixed Tryz.func159 (by kernel_rfl) { keep:=some [0,2]} [zbF,zbE,zeS,zeR,zbp,zbo] (by kernel_rfl) ?_
  intro I X hI hX
  refine zh (.need (I.hid (α:=(Prop)) True) (.br (I.hid (α:=Bool) (YD k)) (.fin (.ret (.v (.one (.p (.bool Bool.true))))) []) (.need (I.hid (α:=(Prop)) (And (LE.le (0:Int) k) (LE.le k (255:Int)))) (.br (I.hid (α:=Bool) (rY k)) (.fin (.ret (.v (.one (.p (.bool Bool.true))))) []) (.need (I.hid (α:=(Prop)) True) (.fin (.ret (.v (.one (.p (.bool (I.ile 0 (I.hid (α:=Int) (Go.Lib.indexByte ([33,35,36,37,38,39,42,43,45,46,94,95,96,124,126]:Str) (Nat.toUInt8 (Int.toNat k)))))))))) [])))))) (by kernel_rfl) ?_
  simp only [zk]
  subst hI
  simp only [nrmA,nrmB]
  unfold tokB marks
  (repeat' (first|refine And.intro ?_ ?_|intro _))<;>first|omega|exact True.intro|exact False.elim ‹False›|skip
  all_goals simp [*]
def Vq (I:Alg) (args:List D) (hp:List HO):Option CT:=match args,hp with
  |[.v (.one (.p (.int .u8 k)))],[]=>(fun(k:Int)=>(some (.one ⟨I.hid (0≤k∧k≤255),(.ret (.v (.one (.p (.bool (I.hid (tokB k))))))),[]⟩):Option CT)) k
  |_,_=>none
theorem zdq:zo Tryz.prog 159 (Vq alg):=by
  intro args hp r h
  unfold Vq at h
  split at h
  · cases h;exact fun hn=>zmh _ hn
  · cases h
def ZM:Know Tryz.prog:=⟨159,Vq,zdq⟩
def Vp:Know Tryz.prog:=⟨159,fun I=>zq I (Vq I),zf zdq⟩
theorem ziI (k:Int):Spc Tryz.prog 130 [.v (.one (.p (.int .u8 k)))] [] (.ret (.v (.one (.p (.bool (UH k)))))) []:=by
  refine spcG zi mixed Tryz.func130 (by kernel_rfl) { keep:=some [0,2]} [] (by kernel_rfl) ?_
  intro I X hI hX
  refine zh (.br (I.ieq k 9) (.fin (.ret (.v (.one (.p (.bool Bool.true))))) []) (.br (I.ile 32 k) (.fin (.ret (.v (.one (.p (.bool (I.bnot (I.ieq k 127))))))) []) (.fin (.ret (.v (.one (.p (.bool Bool.false))))) []))) (by kernel_rfl) ?_
  simp only [zk]
  subst hI
  simp only [nrmA,nrmB]
  unfold UH
  (repeat' (first|refine And.intro ?_ ?_|intro _))<;>first|omega|exact True.intro|exact False.elim ‹False›|skip
  all_goals first|exact decide_eq_decide.2 (by omega)|exact(decide_eq_false (by omega)).symm|exact(decide_eq_true (by omega)).symm|(rw [show(k == 127)=decide (k=127) from rfl,← decide_not];exact decide_eq_decide.2 (by omega))
def ZK (I:Alg) (args:List D) (hp:List HO):Option CT:=match args,hp with
  |[.v (.one (.p (.int .u8 k)))],[]=>(fun(k:Int)=>(some (.one ⟨I.hid (True),(.ret (.v (.one (.p (.bool (I.hid (UH k))))))),[]⟩):Option CT)) k
  |_,_=>none
theorem Sz:zo Tryz.prog 130 (ZK alg):=by
  intro args hp r h
  unfold ZK at h
  split at h
  · cases h;exact fun hn=>ziI _
  · cases h
def XR:Know Tryz.prog:=⟨130,ZK,Sz⟩
def ze8:Know Tryz.prog:=⟨130,fun I=>zq I (ZK I),zf Sz⟩
theorem zlz (k:Int):Spc Tryz.prog 125 [.v (.one (.p (.int .u8 k)))] [] (.ret (.v (.one (.p (.bool (UH k)))))) []:=by
  refine spcG zi mixed Tryz.func125 (by kernel_rfl) { keep:=some [0,2]} [] (by kernel_rfl) ?_
  intro I X hI hX
  refine zh (.br (I.ieq k 9) (.fin (.ret (.v (.one (.p (.bool Bool.true))))) []) (.br (I.ilt 31 k) (.fin (.ret (.v (.one (.p (.bool (I.bnot (I.ieq k 127))))))) []) (.fin (.ret (.v (.one (.p (.bool Bool.false))))) []))) (by kernel_rfl) ?_
  simp only [zk]
  subst hI
  simp only [nrmA,nrmB]
  unfold UH
  (repeat' (first|refine And.intro ?_ ?_|intro _))<;>first|omega|exact True.intro|exact False.elim ‹False›|skip
  all_goals first|exact decide_eq_decide.2 (by omega)|exact(decide_eq_false (by omega)).symm|exact(decide_eq_true (by omega)).symm|(rw [show(k == 127)=decide (k=127) from rfl,← decide_not];exact decide_eq_decide.2 (by omega))
def Xu (I:Alg) (args:List D) (hp:List HO):Option CT:=match args,hp with
  |[.v (.one (.p (.int .u8 k)))],[]=>(fun(k:Int)=>(some (.one ⟨I.hid (True),(.ret (.v (.one (.p (.bool (I.hid (UH k))))))),[]⟩):Option CT)) k
  |_,_=>none
theorem zbx:zo Tryz.prog 125 (Xu alg):=by
  intro args hp r h
  unfold Xu at h
  split at h
  · cases h;exact fun hn=>zlz _
  · cases h
def zbw:Know Tryz.prog:=⟨125,Xu,zbx⟩
def zbv:Know Tryz.prog:=⟨125,fun I=>zq I (Xu I),zf zbx⟩
theorem hex_ (k:Int) (hneed:0≤k∧k≤255):Spc Tryz.prog 135 [.v (.one (.p (.int .u8 k)))] [] (.ret (.v (.one (.p (.int .i64 (hexK k)))))) []:=by
  refine spcG zi mixed Tryz.func135 (by kernel_rfl) { keep:=some [0,2]} [zeS,zeR,V6,V5,zbp,zbo] (by kernel_rfl) ?_
  intro I X hI hX
  refine zh (let y0:=I.hid (α:=(Prop)) (And (LE.le (0:Int) k) (LE.le k (255:Int)));let y1:=I.add (I.wrap Go.IntKind.i64 (I.sub (I.hid (α:=Int) (lowK k)) 97)) 10;.need (I.hid (α:=(Prop)) True) (.br (I.hid (α:=Bool) (YD k)) (.need (I.inr Go.IntKind.u8 (I.sub k 48)) (.fin (.ret (.v (.one (.p (.int .i64 (I.wrap Go.IntKind.i64 (I.sub k 48))))))) [])) (.need y0 (.br (I.hid (α:=Bool) (rY k)) (.need y0 (.br (I.ile (I.hid (α:=Int) (lowK k)) 102) (.need y0 (.need (I.inr Go.IntKind.u8 (I.sub (I.hid (α:=Int) (lowK k)) 97)) (.need (I.inr Go.IntKind.i64 y1) (.fin (.ret (.v (.one (.p (.int .i64 y1))))) [])))) (.fin (.ret (.v (.one (.p (.int .i64 (Neg.neg (1:Int))))))) []))) (.fin (.ret (.v (.one (.p (.int .i64 (Neg.neg (1:Int))))))) []))))) (by kernel_rfl) ?_
  simp only [zk]
  subst hI
  simp only [nrmA,nrmB]
  (repeat' (first|refine And.intro ?_ ?_|intro _))<;>first|omega|exact True.intro|exact False.elim ‹False›|skip
  all_goals first
    |(have:=of_decide_eq_true ‹YD k=true›;omega)
    |(have:=of_decide_eq_true ‹YD k=true›;unfold hexK;rw [if_pos ‹YD k=true›,wrap64 _ (by omega)])
    |(have:=of_decide_eq_true ‹rY k=true›;omega)
    |(have:=of_decide_eq_true ‹rY k=true›;rw [wrap64 _ (by omega)];omega)
    |(have:=of_decide_eq_true ‹rY k=true›;rw [wrap64 _ (by omega)];unfold hexK;simp [*])
    |(unfold hexK;simp [*])
def zer (I:Alg) (args:List D) (hp:List HO):Option CT:=match args,hp with
  |[.v (.one (.p (.int .u8 k)))],[]=>(fun(k:Int)=>(some (.one ⟨I.hid (0≤k∧k≤255),(.ret (.v (.one (.p (.int .i64 (I.hid (hexK k))))))),[]⟩):Option CT)) k
  |_,_=>none
theorem zkm:zo Tryz.prog 135 (zer alg):=by
  intro args hp r h
  unfold zer at h
  split at h
  · cases h;exact fun hn=>hex_ _ hn
  · cases h
def zeq:Know Tryz.prog:=⟨135,zer,zkm⟩
def zep:Know Tryz.prog:=⟨135,fun I=>zq I (zer I),zf zkm⟩
end Go.Proofs.YtcclfkakcgnacaaGreatDoor
namespace Go.Proofs.YtcclfkakcgnacaaGreatDoor
open Go Go.Sep Go.Ab
set_option maxRecDepth 100000
def tokA (s:Str):Bool:=s.all fun c=>tokB (c.toNat:Int)
def tZ (s:Str):Bool:=s.all fun c=>UH (c.toNat:Int)
theorem wQ (c:UInt8):0≤(c.toNat:Int)∧(c.toNat:Int)≤255:=by have:=c.toNat_lt;omega
theorem zaH {p:UInt8→Bool} {s:Str} {i:Nat} (h:i<s.length):(s.drop i).all p=(p (s.getD i 0)&&(s.drop (i+1)).all p):=by
  rw [List.drop_eq_getElem_cons h,List.all_cons];simp [h]
theorem zl6 (s:Str) (hneed:s.length≤1000000):Spc Tryz.prog 129 [.v (.one (.p (.str s))),.v (.one (.fn 159 []))] [] (.ret (.v (.one (.p (.bool (tokA s)))))) []:=by
  generalize hr:tokA s=r
  refine spcG zi mixed Tryz.func129 (by kernel_rfl) { keep:=some [0,1,4,5,7,8]} [ZM] (by kernel_rfl) ?_
  intro I X hI hX
  refine zh (.code 0 [1,0,1,0] ⟨[(8,(.v (.one (.p (.int .i64 0))))),(7,(.v (.one (.p (.int .i64 (I.len (α:=UInt8) s)))))),(4,(.v (.one (.p (.val (.bool .false)))))),(0,(.v (.one (.p (.str s))))),(1,(.v (.one (.fn 159 []))))],[],18,none⟩) (by kernel_rfl) ?_
  simp only [zk]
  refine zG hI zi mixed [ZM] hX [0,1,7,8] (fun(i:Nat)=>i≤s.length∧tokA (s.drop i)=r) (fun(i:Nat)=>⟨[(0,.v (.one (.p (.str s)))),(1,.v (.one (.fn 159 []))),(7,.v (.one (.p (.int .i64 ((I.len (α:=UInt8) s)))))),(8,.v (.one (.p (.int .i64 i))))],[],18,none⟩) (fun(i:Nat)=>s.length - i) 0 (by kernel_rfl) (by kernel_rfl) ?_ ?_
  · exact⟨Nat.zero_le _,hr⟩
  rintro i ⟨h1,h2⟩ A hA
  refine zh (let y0:=I.b2i (I.get (α:=UInt8) s 0 (Nat.cast i));.br (I.ilt (Nat.cast i) (I.len (α:=UInt8) s)) (.need (I.inb (Nat.cast i) (I.len (α:=UInt8) s)) (.need (I.hid (α:=(Prop)) (And (LE.le (0:Int) y0) (LE.le y0 (255:Int)))) (.br (I.bnot (I.hid (α:=Bool) (tokB y0))) (.fin (.ret (.v (.one (.p (.bool Bool.false))))) []) (.need (I.inr Go.IntKind.i64 (I.add (Nat.cast i) 1)) (.need (A ⟨[(0,(.v (.one (.p (.str s))))),(1,(.v (.one (.fn 159 [])))),(7,(.v (.one (.p (.int .i64 (I.len (α:=UInt8) s)))))),(8,(.v (.one (.p (.int .i64 (I.add (Nat.cast i) 1))))))],[],18,none⟩) .qed))))) (.fin (.ret (.v (.one (.p (.bool Bool.true))))) [])) (by kernel_rfl) ?_
  simp only [zk]
  subst hI
  simp only [nrmA,nrmB]
  have hb:=wQ (s.getD i 0)
  have hd:i<s.length→tokA (s.drop i)=(tokB (s.getD i 0).toNat&&tokA (s.drop (i+1))):=fun h=>zaH h
  generalize s.getD i 0=x at *
  (repeat' (first|refine And.intro ?_ ?_|intro _))<;>first|omega|exact True.intro|exact False.elim ‹False›|skip
  all_goals first
    |(rw [← h2,hd (by omega)];simp [*];done)
    |(refine hA (i+1) ⟨by omega,?_⟩ (by omega);rw [← h2,hd (by omega)];simp [*];done)
    |(rw [← h2,List.drop_of_length_le (by omega)];rfl)
def XM (I:Alg) (args:List D) (hp:List HO):Option CT:=match args,hp with
  |[.v (.one (.p (.str s))),.v (.one (.fn 159 []))],[]=>(fun(s:Str)=>(some (.one ⟨I.hid (s.length≤1000000),(.ret (.v (.one (.p (.bool (I.hid (tokA s))))))),[]⟩):Option CT)) s
  |_,_=>none
theorem zcd:zo Tryz.prog 129 (XM alg):=by
  intro args hp r h
  unfold XM at h
  split at h
  · cases h;exact fun hn=>zl6 _ hn
  · cases h
def TL:Know Tryz.prog:=⟨129,XM,zcd⟩
def TK:Know Tryz.prog:=⟨129,fun I=>zq I (XM I),zf zcd⟩
theorem zjY (s:Str) (hneed:s.length≤1000000):Spc Tryz.prog 129 [.v (.one (.p (.str s))),.v (.one (.fn 130 []))] [] (.ret (.v (.one (.p (.bool (tZ s)))))) []:=by
  generalize hr:tZ s=r
  refine spcG zi mixed Tryz.func129 (by kernel_rfl) { keep:=some [0,1,4,5,7,8]} [XR,TL,TK] (by kernel_rfl) ?_
  intro I X hI hX
  refine zh (.code 0 [1,0,1,0] ⟨[(8,(.v (.one (.p (.int .i64 0))))),(7,(.v (.one (.p (.int .i64 (I.len (α:=UInt8) s)))))),(4,(.v (.one (.p (.val (.bool .false)))))),(0,(.v (.one (.p (.str s))))),(1,(.v (.one (.fn 130 []))))],[],18,none⟩) (by kernel_rfl) ?_
  simp only [zk]
  refine zG hI zi mixed [XR,TL,TK] hX [0,1,7,8] (fun(i:Nat)=>i≤s.length∧tZ (s.drop i)=r) (fun(i:Nat)=>⟨[(0,.v (.one (.p (.str s)))),(1,.v (.one (.fn 130 []))),(7,.v (.one (.p (.int .i64 ((I.len (α:=UInt8) s)))))),(8,.v (.one (.p (.int .i64 i))))],[],18,none⟩) (fun(i:Nat)=>s.length - i) 0 (by kernel_rfl) (by kernel_rfl) ?_ ?_
  · exact⟨Nat.zero_le _,hr⟩
  rintro i ⟨h1,h2⟩ A hA
  refine zh (.br (I.ilt (Nat.cast i) (I.len (α:=UInt8) s)) (.need (I.inb (Nat.cast i) (I.len (α:=UInt8) s)) (.need (I.hid (α:=(Prop)) True) (.br (I.bnot (I.hid (α:=Bool) (UH (I.b2i (I.get (α:=UInt8) s 0 (Nat.cast i)))))) (.fin (.ret (.v (.one (.p (.bool Bool.false))))) []) (.need (I.inr Go.IntKind.i64 (I.add (Nat.cast i) 1)) (.need (A ⟨[(0,(.v (.one (.p (.str s))))),(1,(.v (.one (.fn 130 [])))),(7,(.v (.one (.p (.int .i64 (I.len (α:=UInt8) s)))))),(8,(.v (.one (.p (.int .i64 (I.add (Nat.cast i) 1))))))],[],18,none⟩) .qed))))) (.fin (.ret (.v (.one (.p (.bool Bool.true))))) [])) (by kernel_rfl) ?_
  simp only [zk]
  subst hI
  simp only [nrmA,nrmB]
  have hb:=wQ (s.getD i 0)
  have hd:i<s.length→tZ (s.drop i)=(UH (s.getD i 0).toNat&&tZ (s.drop (i+1))):=fun h=>zaH h
  generalize s.getD i 0=x at *
  (repeat' (first|refine And.intro ?_ ?_|intro _))<;>first|omega|exact True.intro|exact False.elim ‹False›|skip
  all_goals first
    |(rw [← h2,hd (by omega)];simp [*];done)
    |(refine hA (i+1) ⟨by omega,?_⟩ (by omega);rw [← h2,hd (by omega)];simp [*];done)
    |(rw [← h2,List.drop_of_length_le (by omega)];rfl)
def Yo (I:Alg) (args:List D) (hp:List HO):Option CT:=match args,hp with
  |[.v (.one (.p (.str s))),.v (.one (.fn 130 []))],[]=>(fun(s:Str)=>(some (.one ⟨I.hid (s.length≤1000000),(.ret (.v (.one (.p (.bool (I.hid (tZ s))))))),[]⟩):Option CT)) s
  |_,_=>none
theorem Qa:zo Tryz.prog 129 (Yo alg):=by
  intro args hp r h
  unfold Yo at h
  split at h
  · cases h;exact fun hn=>zjY _ hn
  · cases h
def zf2:Know Tryz.prog:=⟨129,Yo,Qa⟩
def zf1:Know Tryz.prog:=⟨129,fun I=>zq I (Yo I),zf Qa⟩
theorem zfG (s:Str) (hneed:s.length≤1000000):Spc Tryz.prog 101 [.v (.one (.p (.str s)))] [] (.ret (.v (.one (.p (.bool (tZ s)))))) []:=by
  refine spcG zi mixed Tryz.func101 (by kernel_rfl) { keep:=some [0,2]} [XR,ze8,TL,TK,zf2,zf1] (by kernel_rfl) ?_
  intro I X hI hX
  refine zh (.need (I.hid (α:=(Prop)) (LE.le (List.length s) 1000000)) (.fin (.ret (.v (.one (.p (.bool (I.hid (α:=Bool) (tZ s))))))) [])) (by kernel_rfl) ?_
  simp only [zk]
  subst hI
  simp only [nrmA,nrmB]
  exact hneed
def rH (I:Alg) (args:List D) (hp:List HO):Option CT:=match args,hp with
  |[.v (.one (.p (.str s)))],[]=>(fun(s:Str)=>(some (.one ⟨I.hid (s.length≤1000000),(.ret (.v (.one (.p (.bool (I.hid (tZ s))))))),[]⟩):Option CT)) s
  |_,_=>none
theorem WW:zo Tryz.prog 101 (rH alg):=by
  intro args hp r h
  unfold rH at h
  split at h
  · cases h;exact fun hn=>zfG _ hn
  · cases h
def WV:Know Tryz.prog:=⟨101,rH,WW⟩
def WU:Know Tryz.prog:=⟨101,fun I=>zq I (rH I),zf WW⟩
theorem one_ (k:Int) (s:Str) (hneed:s.length≤1000000∧0≤k∧k≤255):Spc Tryz.prog 43 [.v (.one (.p (.int .u8 k))),.v (.one (.p (.str s)))] [] (.ret (.v (.one (.p (.bool (s.contains (UInt8.ofNat k.toNat))))))) []:=by
  generalize hr:s.contains (UInt8.ofNat k.toNat)=r
  refine spcG zi mixed Tryz.func43 (by kernel_rfl) { keep:=some [0,1,4,5]} [] (by kernel_rfl) ?_
  intro I X hI hX
  refine zh (.code 0 [1,0,1,0] ⟨[(5,(.v (.one (.p (.int .i64 0))))),(4,(.v (.one (.p (.val (.bool .false)))))),(0,(.v (.one (.p (.int .u8 k))))),(1,(.v (.one (.p (.str s)))))],[],17,none⟩) (by kernel_rfl) ?_
  simp only [zk]
  refine zG hI zi mixed [] hX [0,1,5] (fun(i:Nat)=>i≤s.length∧(s.drop i).contains (UInt8.ofNat k.toNat)=r) (fun(i:Nat)=>⟨[(0,.v (.one (.p (.int .u8 k)))),(1,.v (.one (.p (.str s)))),(5,.v (.one (.p (.int .i64 i))))],[],17,none⟩) (fun(i:Nat)=>s.length - i) 0 (by kernel_rfl) (by kernel_rfl) ?_ ?_
  · exact⟨Nat.zero_le _,hr⟩
  rintro i ⟨h1,h2⟩ A hA
  refine zh (.br (I.ilt (Nat.cast i) (I.len (α:=UInt8) s)) (.need (I.inb (Nat.cast i) (I.len (α:=UInt8) s)) (.br (I.ieq (I.b2i (I.get (α:=UInt8) s 0 (Nat.cast i))) k) (.fin (.ret (.v (.one (.p (.bool Bool.true))))) []) (.need (I.inr Go.IntKind.i64 (I.add (Nat.cast i) 1)) (.need (A ⟨[(0,(.v (.one (.p (.int .u8 k))))),(1,(.v (.one (.p (.str s))))),(5,(.v (.one (.p (.int .i64 (I.add (Nat.cast i) 1))))))],[],17,none⟩) .qed)))) (.fin (.ret (.v (.one (.p (.bool Bool.false))))) [])) (by kernel_rfl) ?_
  simp only [zk]
  subst hI
  simp only [nrmA,nrmB]
  have hd:i<s.length→(s.drop i).contains (UInt8.ofNat k.toNat)=((UInt8.ofNat k.toNat == s.getD i 0)||(s.drop (i+1)).contains (UInt8.ofNat k.toNat)):=fun h=>by
    rw [List.drop_eq_getElem_cons h,List.contains_cons];simp [h]
  have hc:((s.getD i 0).toNat:Int)=k↔UInt8.ofNat k.toNat=s.getD i 0:=by
    rw [← UInt8.toNat_inj,UInt8.toNat_ofNat']
    omega
  rw [hc]
  generalize s.getD i 0=x at *
  (repeat' (first|refine And.intro ?_ ?_|intro _))<;>first|omega|exact True.intro|exact False.elim ‹False›|skip
  all_goals first
    |(rw [← h2,hd (by omega)];simp [*];done)
    |(refine hA (i+1) ⟨by omega,?_⟩ (by omega);rw [← h2,hd (by omega)];simp [*];done)
    |(rw [← h2,List.drop_of_length_le (by omega)];rfl)
def zd7 (I:Alg) (args:List D) (hp:List HO):Option CT:=match args,hp with
  |[.v (.one (.p (.int .u8 k))),.v (.one (.p (.str s)))],[]=>(fun(k:Int) (s:Str)=>(some (.one ⟨I.hid (s.length≤1000000∧0≤k∧k≤255),(.ret (.v (.one (.p (.bool (I.hid (s.contains (UInt8.ofNat k.toNat)))))))),[]⟩):Option CT)) k s
  |_,_=>none
theorem zkf:zo Tryz.prog 43 (zd7 alg):=by
  intro args hp r h
  unfold zd7 at h
  split at h
  · cases h;exact fun hn=>one_ _ _ hn
  · cases h
def zg6:Know Tryz.prog:=⟨43,zd7,zkf⟩
def zg5:Know Tryz.prog:=⟨43,fun I=>zq I (zd7 I),zf zkf⟩
def tokR:Str:=[48,49,50,51,52,53,54,55,56,57,65,66,67,68,69,70,71,72,73,74,75,76,77,78,79,80,81,82,83,84,85,86,87,88,89,90,97,98,99,100,101,102,103,104,105,106,107,108,109,110,111,112,113,114,115,116,117,118,119,120,121,122,33,35,36,37,38,39,42,43,45,46,94,95,96,124,126]
theorem zjW {p:Int→Prop} [∀ k,Decidable (p k)] (h: ∀ n:Fin 256,p (n.1:Int)) {k:Int} (hk:0≤k∧k≤255):p k:=by
  have:=h ⟨k.toNat,by omega⟩
  rwa [show((k.toNat:Nat):Int)=k by omega] at this
theorem ziM {k:Int} (hk:0≤k∧k≤255):tokR.contains (UInt8.ofNat k.toNat)=tokB k:=
  zjW (p:=fun k=>tokR.contains (UInt8.ofNat k.toNat)=tokB k) (by decide+kernel) hk
theorem zbu (k:Int) (hneed:0≤k∧k≤255):Spc Tryz.prog 126 [.v (.one (.p (.int .u8 k)))] [] (.ret (.v (.one (.p (.bool (tokB k)))))) []:=by
  rw [← ziM hneed]
  refine spcG zi mixed Tryz.func126 (by kernel_rfl) { keep:=some [0,2]} [zg6,zg5] (by kernel_rfl) ?_
  intro I X hI hX
  refine zh (let y0:=([99,100,101,102,103,104,105,106,107,108,109,110,111,112,113,114,115,116,117,118,119,120,121,122,33,35,36,37,38,39,42,43,45,46,94,95,96,124,126]:Str);let y1:=([48,49,50,51,52,53,54,55,56,57,65,66,67,68,69,70,71,72,73,74,75,76,77,78,79,80,81,82,83,84,85,86,87,88,89,90,97,98]:Str);.need (I.hid (α:=(Prop)) (And (LE.le (List.length (Array.toList (List.toArray (List.append y1 y0)))) 1000000) (And (LE.le (0:Int) k) (LE.le k (255:Int))))) (.fin (.ret (.v (.one (.p (.bool (I.hid (α:=Bool) (List.contains (Array.toList (List.toArray (List.append y1 y0))) (UInt8.ofNat (Int.toNat k))))))))) [])) (by kernel_rfl) ?_
  simp only [zk]
  subst hI
  simp only [nrmA,nrmB]
  trivial
def um (I:Alg) (args:List D) (hp:List HO):Option CT:=match args,hp with
  |[.v (.one (.p (.int .u8 k)))],[]=>(fun(k:Int)=>(some (.one ⟨I.hid (0≤k∧k≤255),(.ret (.v (.one (.p (.bool (I.hid (tokB k))))))),[]⟩):Option CT)) k
  |_,_=>none
theorem YB:zo Tryz.prog 126 (um alg):=by
  intro args hp r h
  unfold um at h
  split at h
  · cases h;exact fun hn=>zbu _ hn
  · cases h
def YA:Know Tryz.prog:=⟨126,um,YB⟩
def Yz:Know Tryz.prog:=⟨126,fun I=>zq I (um I),zf YB⟩
theorem zgC (s:Str) (hneed:s.length≤1000000):Spc Tryz.prog 93 [.v (.one (.p (.str s)))] [] (.ret (.v (.one (.p (.bool (tZ s)))))) []:=by
  generalize hr:tZ s=r
  refine spcG zi mixed Tryz.func93 (by kernel_rfl) { keep:=some [0,2,3]} [zbw,zbv] (by kernel_rfl) ?_
  intro I X hI hX
  refine zh (.code 0 [1,0,1,0] ⟨[(3,(.v (.one (.p (.int .i64 0))))),(2,(.v (.one (.p (.val (.bool .false)))))),(0,(.v (.one (.p (.str s)))))],[],15,none⟩) (by kernel_rfl) ?_
  simp only [zk]
  refine zG hI zi mixed [zbw,zbv] hX [0,3] (fun(i:Nat)=>i≤s.length∧tZ (s.drop i)=r) (fun(i:Nat)=>⟨[(0,.v (.one (.p (.str s)))),(3,.v (.one (.p (.int .i64 i))))],[],15,none⟩) (fun(i:Nat)=>s.length - i) 0 (by kernel_rfl) (by kernel_rfl) ?_ ?_
  · exact⟨Nat.zero_le _,hr⟩
  rintro i ⟨h1,h2⟩ A hA
  refine zh (.br (I.ilt (Nat.cast i) (I.len (α:=UInt8) s)) (.need (I.inb (Nat.cast i) (I.len (α:=UInt8) s)) (.need (I.hid (α:=(Prop)) True) (.br (I.bnot (I.hid (α:=Bool) (UH (I.b2i (I.get (α:=UInt8) s 0 (Nat.cast i)))))) (.fin (.ret (.v (.one (.p (.bool Bool.false))))) []) (.need (I.inr Go.IntKind.i64 (I.add (Nat.cast i) 1)) (.need (A ⟨[(0,(.v (.one (.p (.str s))))),(3,(.v (.one (.p (.int .i64 (I.add (Nat.cast i) 1))))))],[],15,none⟩) .qed))))) (.fin (.ret (.v (.one (.p (.bool Bool.true))))) [])) (by kernel_rfl) ?_
  simp only [zk]
  subst hI
  simp only [nrmA,nrmB]
  have hb:=wQ (s.getD i 0)
  have hd:i<s.length→tZ (s.drop i)=(UH (s.getD i 0).toNat&&tZ (s.drop (i+1))):=fun h=>zaH h
  generalize s.getD i 0=x at *
  (repeat' (first|refine And.intro ?_ ?_|intro _))<;>first|omega|exact True.intro|exact False.elim ‹False›|skip
  all_goals first
    |(rw [← h2,hd (by omega)];simp [*];done)
    |(refine hA (i+1) ⟨by omega,?_⟩ (by omega);rw [← h2,hd (by omega)];simp [*];done)
    |(rw [← h2,List.drop_of_length_le (by omega)];rfl)
def qJ (I:Alg) (args:List D) (hp:List HO):Option CT:=match args,hp with
  |[.v (.one (.p (.str s)))],[]=>(fun(s:Str)=>(some (.one ⟨I.hid (s.length≤1000000),(.ret (.v (.one (.p (.bool (I.hid (tZ s))))))),[]⟩):Option CT)) s
  |_,_=>none
theorem UG:zo Tryz.prog 93 (qJ alg):=by
  intro args hp r h
  unfold qJ at h
  split at h
  · cases h;exact fun hn=>zgC _ hn
  · cases h
def yV:Know Tryz.prog:=⟨93,qJ,UG⟩
def yU:Know Tryz.prog:=⟨93,fun I=>zq I (qJ I),zf UG⟩
end Go.Proofs.YtcclfkakcgnacaaGreatDoor
namespace Go.Proofs.YtcclfkakcgnacaaGreatDoor
open Go Go.Sep Go.Ab
set_option maxRecDepth 100000
def lowC (x:UInt8):UInt8:=if 65≤x.toNat∧x.toNat≤90 then x+32 else x
def lowS (s:Str):Str:=s.map lowC
theorem wC (s:Str):(lowS s).length=s.length:=by simp [lowS]
theorem zfC (x:UInt8):((lowC x).toNat:Int)=lowK x.toNat:=by
  unfold lowC lowK
  have:=x.toNat_lt
  split
  · rw [if_pos (by omega),UInt8.toNat_add]
    simp only [show(32:UInt8).toNat=32 from rfl]
    omega
  · rw [if_neg (by omega)]
theorem zls (x:UInt8):UInt8.ofNat (lowK x.toNat).toNat=lowC x:=by
  rw [← zfC,Int.toNat_natCast,UInt8.ofNat_toNat]
def bl (c:UInt8):Bool:=([32,9]:Str).contains c
def trL (s:Str):Str:=s.dropWhile bl
def trR (s:Str):Str:=(s.reverse.dropWhile bl).reverse
theorem ziL (s:Str):Lib.trimS s [32,9]=trL (trR s):=rfl
theorem YT (c:UInt8) (l:Str):trL (c::l)=if bl c then trL l else c::l:=by unfold trL;rw [List.dropWhile_cons]
theorem zdo (c:UInt8) (l:Str):trR (c::l)=if trR l=[]∧bl c=true then [] else c::trR l:=by
  unfold trR
  rw [List.reverse_cons,List.dropWhile_append]
  cases hd:l.reverse.dropWhile bl with
  |nil=>cases hb:bl c<;>simp [hb,List.dropWhile]
  |cons y r=>simp
theorem zdn (c:UInt8) (l:Str):trR (l++[c])=if bl c then trR l else l++[c]:=by
  unfold trR
  rw [List.reverse_append]
  simp only [List.reverse_cons,List.reverse_nil,List.nil_append,List.singleton_append]
  rw [List.dropWhile_cons]
  split
  · rfl
  · simp
theorem zgd: ∀ s:Str,trL (trR s)=trR (trL s)
  |[]=>rfl
  | c ::l=>by
    have ih:=zgd l
    rw [zdo,YT]
    by_cases hb:bl c=true
    · rw [if_pos hb,← ih]
      by_cases h0:trR l=[]
      · rw [if_pos ⟨h0,hb⟩,h0]
      · rw [if_neg (fun h=>h0 h.1),YT,if_pos hb]
    · rw [if_neg hb,if_neg (fun h=>hb h.2),YT,if_neg hb,zdo,if_neg (fun h=>hb h.2)]
theorem zb5 (c:UInt8):bl c=true↔(c.toNat:Int)=32∨(c.toNat:Int)=9:=by
  unfold bl
  rw [List.contains_iff_mem,List.mem_cons,List.mem_singleton,← UInt8.toNat_inj,← UInt8.toNat_inj]
  simp only [show(32:UInt8).toNat=32 from rfl,show(9:UInt8).toNat=9 from rfl]
  omega
theorem zdp {u:Str} (h:0<u.length→¬ bl (u.getD 0 0)=true):trL u=u:=by
  cases u with
  |nil=>rfl
  |cons c l=>rw [YT,if_neg (by simpa using h (by simp))]
theorem zmg {u:Str} (h:0<u.length) (hb:bl (u.getD 0 0)=true):trL u=trL (u.drop 1):=by
  cases u with
  |nil=>simp at h
  |cons c l=>rw [YT,if_pos (by simpa using hb)];rfl
theorem zgt {u:Str} (h:0<u.length):u=u.take (u.length - 1)++[u.getD (u.length - 1) 0]:=by
  have hl:u.length - 1<u.length:=by omega
  have:=List.take_append_drop (u.length - 1) u
  rw [List.drop_eq_getElem_cons hl,List.drop_of_length_le (by omega)] at this
  simpa [hl] using this.symm
theorem zdm {u:Str} (h:0<u.length→¬ bl (u.getD (u.length - 1) 0)=true):trR u=u:=by
  rcases Nat.eq_zero_or_pos u.length with h0|h0
  · rw [List.eq_nil_of_length_eq_zero h0];rfl
  · have:=zgt h0
    generalize hc:u.getD (u.length - 1) 0=c at *
    rw [this,zdn,if_neg (h h0)]
theorem zj5 {u:Str} (h:0<u.length) (hb:bl (u.getD (u.length - 1) 0)=true):trR u=trR (u.take (u.length - 1)):=by
  have:=zgt h
  generalize hc:u.getD (u.length - 1) 0=c at *
  generalize ht:u.take (u.length - 1)=t at *
  rw [this,zdn,if_pos hb]
theorem znH (s:Str):Spc Tryz.prog 102 [.v (.one (.p (.str s)))] [] (.ret (.v (.one (.p (.str (Lib.trimS s [32,9])))))) []:=by
  refine spcG zi mixed Tryz.func102 (by kernel_rfl) { keep:=some [0,2]} [zkD,zkC] (by kernel_rfl) ?_
  intro I X hI hX
  refine zh (.need (I.hid (α:=(Prop)) True) (.fin (.ret (.v (.one (.p (.str (I.hid (α:=Str) (Go.Lib.trimS s ([32,9]:Str)))))))) [])) (by kernel_rfl) ?_
  simp only [zk]
  subst hI
  simp only [nrmA,nrmB]
  try trivial
def Ui (I:Alg) (args:List D) (hp:List HO):Option CT:=match args,hp with
  |[.v (.one (.p (.str s)))],[]=>(fun(s:Str)=>(some (.one ⟨I.hid (True),(.ret (.v (.one (.p (.str (I.hid (Lib.trimS s [32,9]))))))),[]⟩):Option CT)) s
  |_,_=>none
theorem ze0:zo Tryz.prog 102 (Ui alg):=by
  intro args hp r h
  unfold Ui at h
  split at h
  · cases h;exact fun hn=>znH _
  · cases h
def zjS:Know Tryz.prog:=⟨102,Ui,ze0⟩
def zjR:Know Tryz.prog:=⟨102,fun I=>zq I (Ui I),zf ze0⟩
theorem ziJ (s:Str) (hneed:s.length≤1000000):Spc Tryz.prog 143 [.v (.one (.p (.str s)))] [] (.ret (.v (.one (.p (.str (Lib.trimS s [32,9])))))) []:=by
  rw [ziL,zgd]
  generalize hr:trR (trL s)=r
  refine spcG zi mixed Tryz.func143 (by kernel_rfl) { keep:=some [0,2]} [] (by kernel_rfl) ?_
  intro I X hI hX
  refine zh (.code 0 [1,0,0] ⟨[(2,(.v (.one (.p (.str ([]:Str)))))),(0,(.v (.one (.p (.str s)))))],[],43,none⟩) (by kernel_rfl) ?_
  simp only [zk]
  refine zG hI zi mixed [] hX [0] (fun(u:Str)=>trR (trL u)=r∧u.length≤1000000) (fun(u:Str)=>⟨[(0,.v (.one (.p (.str u))))],[],43,none⟩) (fun(u:Str)=>u.length) s (by kernel_rfl) (by kernel_rfl) ?_ ?_
  · exact⟨hr,hneed⟩
  rintro u ⟨h1,h2⟩ A hA
  refine zh (let y0:=I.cutb 1 (I.len (α:=UInt8) u) (I.len (α:=UInt8) u);let y1:=I.cut (α:=UInt8) u 1 (I.len (α:=UInt8) u);let y2:=I.b2i (I.get (α:=UInt8) u 0 0);.br (I.ilt 0 (I.len (α:=UInt8) u)) (.need (I.inb 0 (I.len (α:=UInt8) u)) (.br (I.ieq y2 32) (.need y0 (.need (A ⟨[(0,(.v (.one (.p (.str y1)))))],[],43,none⟩) .qed)) (.need (I.inb 0 (I.len (α:=UInt8) u)) (.br (I.ieq y2 9) (.need y0 (.need (A ⟨[(0,(.v (.one (.p (.str y1)))))],[],43,none⟩) .qed)) (.code 1 [1,1,0,0] ⟨[(0,(.v (.one (.p (.str u)))))],[],43,none⟩))))) (.code 1 [1,1,0,0] ⟨[(0,(.v (.one (.p (.str u)))))],[],43,none⟩)) (by kernel_rfl) ?_
  simp only [zk]
  have hc:I.cut (α:=UInt8) u 1 (I.len (α:=UInt8) u)=u.drop 1:=by
    rw [hI,vV,yL]
    simp only [Int.toNat_natCast,show(1:Int).toNat=1 from rfl]
    exact List.take_of_length_le (by rw [List.length_drop];exact Nat.le_refl _)
  rw [hc]
  have hgo:0<u.length→bl (u.getD 0 0)=true→A ⟨[(0,.v (.one (.p (.str ((u.drop 1))))))],[],43,none⟩:=fun q1 q2=>
    hA _ ⟨by rw [← h1,zmg q1 q2],by rw [List.length_drop];omega⟩ (by rw [List.length_drop];omega)
  refine⟨fun c1=>⟨?_,fun c2=> ?_,fun c2=>⟨?_,fun c3=> ?_,fun c3=> ?_⟩⟩,fun c1=> ?_⟩
  · subst hI
    simp only [nrmA,nrmB] at c1
    simp only [nrmA,nrmB]
    omega
  · subst hI
    simp only [nrmA,nrmB] at c1
    simp only [nrmA,nrmB] at c2
    simp only [nrmA,nrmB]
    exact⟨by omega,hgo (by omega) ((zb5 _).2 (.inl c2))⟩
  · subst hI
    simp only [nrmA,nrmB] at c1
    simp only [nrmA,nrmB]
    omega
  · subst hI
    simp only [nrmA,nrmB] at c1
    simp only [nrmA,nrmB] at c3
    simp only [nrmA,nrmB]
    exact⟨by omega,hgo (by omega) ((zb5 _).2 (.inr c3))⟩
  · have hst:trL u=u:=zdp fun q h=>by
      subst hI
      simp only [nrmA,nrmB] at c2
      simp only [nrmA,nrmB] at c3
      rcases(zb5 _).1 h with h|h
      · exact c2 h
      · exact c3 h
    refine zG hI zi mixed [] hX [0] (fun(v:Str)=>trR v=r∧v.length≤1000000) (fun(v:Str)=>⟨[(0,.v (.one (.p (.str v))))],[],43,none⟩) (fun(v:Str)=>v.length) u (by kernel_rfl) (by kernel_rfl) ?_ ?_
    · exact⟨by rw [← h1,hst],h2⟩
    rintro v ⟨k1,k2⟩ B hB
    refine zh (let y0:=I.inr Go.IntKind.i64 (I.sub (I.len (α:=UInt8) v) 1);let y1:=I.cutb 0 (I.sub (I.len (α:=UInt8) v) 1) (I.len (α:=UInt8) v);let y2:=I.b2i (I.get (α:=UInt8) v 0 (I.sub (I.len (α:=UInt8) v) 1));let y3:=I.inb (I.sub (I.len (α:=UInt8) v) 1) (I.len (α:=UInt8) v);let y4:=I.cut (α:=UInt8) v 0 (I.sub (I.len (α:=UInt8) v) 1);.br (I.ilt 0 (I.len (α:=UInt8) v)) (.need y0 (.need y3 (.br (I.ieq y2 32) (.need y0 (.need y1 (.need (B ⟨[(0,(.v (.one (.p (.str y4)))))],[],43,none⟩) .qed))) (.need y0 (.need y3 (.br (I.ieq y2 9) (.need y0 (.need y1 (.need (B ⟨[(0,(.v (.one (.p (.str y4)))))],[],43,none⟩) .qed))) (.fin (.ret (.v (.one (.p (.str v))))) []))))))) (.fin (.ret (.v (.one (.p (.str v))))) [])) (by kernel_rfl) ?_
    simp only [zk]
    subst hI
    simp only [nrmA,nrmB]
    have hgo:0<v.length→bl (v.getD (v.length - 1) 0)=true→B ⟨[(0,.v (.one (.p (.str ((v.take (v.length - 1)))))))],[],43,none⟩:=fun q1 q2=>
      hB _ ⟨by rw [← k1,zj5 q1 q2],by rw [List.length_take];omega⟩ (by rw [List.length_take];omega)
    have hend:(0<v.length→¬ bl (v.getD (v.length - 1) 0)=true)→v=r:=fun q=>by rw [← k1,zdm q]
    rw [zb5] at hgo hend
    simp only [show((v.length:Int) - 1).toNat=v.length - 1 by omega]
    (repeat' (first|refine And.intro ?_ ?_|intro _))<;>first|omega|exact True.intro|exact False.elim ‹False›|skip
    all_goals first
      |exact hgo (by omega) (.inl ‹_›)
      |exact hgo (by omega) (.inr ‹_›)
      |(refine hend fun _ h=> ?_;rcases h with h|h<;>contradiction)
      |exact hend (fun h=>by omega)
  · have hst:trL u=u:=zdp fun q h=>by
      subst hI
      simp only [nrmA,nrmB] at c1
      omega
    refine zG hI zi mixed [] hX [0] (fun(v:Str)=>trR v=r∧v.length≤1000000) (fun(v:Str)=>⟨[(0,.v (.one (.p (.str v))))],[],43,none⟩) (fun(v:Str)=>v.length) u (by kernel_rfl) (by kernel_rfl) ?_ ?_
    · exact⟨by rw [← h1,hst],h2⟩
    rintro v ⟨k1,k2⟩ B hB
    refine zh (let y0:=I.inr Go.IntKind.i64 (I.sub (I.len (α:=UInt8) v) 1);let y1:=I.cutb 0 (I.sub (I.len (α:=UInt8) v) 1) (I.len (α:=UInt8) v);let y2:=I.b2i (I.get (α:=UInt8) v 0 (I.sub (I.len (α:=UInt8) v) 1));let y3:=I.inb (I.sub (I.len (α:=UInt8) v) 1) (I.len (α:=UInt8) v);let y4:=I.cut (α:=UInt8) v 0 (I.sub (I.len (α:=UInt8) v) 1);.br (I.ilt 0 (I.len (α:=UInt8) v)) (.need y0 (.need y3 (.br (I.ieq y2 32) (.need y0 (.need y1 (.need (B ⟨[(0,(.v (.one (.p (.str y4)))))],[],43,none⟩) .qed))) (.need y0 (.need y3 (.br (I.ieq y2 9) (.need y0 (.need y1 (.need (B ⟨[(0,(.v (.one (.p (.str y4)))))],[],43,none⟩) .qed))) (.fin (.ret (.v (.one (.p (.str v))))) []))))))) (.fin (.ret (.v (.one (.p (.str v))))) [])) (by kernel_rfl) ?_
    simp only [zk]
    subst hI
    simp only [nrmA,nrmB]
    have hgo:0<v.length→bl (v.getD (v.length - 1) 0)=true→B ⟨[(0,.v (.one (.p (.str ((v.take (v.length - 1)))))))],[],43,none⟩:=fun q1 q2=>
      hB _ ⟨by rw [← k1,zj5 q1 q2],by rw [List.length_take];omega⟩ (by rw [List.length_take];omega)
    have hend:(0<v.length→¬ bl (v.getD (v.length - 1) 0)=true)→v=r:=fun q=>by rw [← k1,zdm q]
    rw [zb5] at hgo hend
    simp only [show((v.length:Int) - 1).toNat=v.length - 1 by omega]
    (repeat' (first|refine And.intro ?_ ?_|intro _))<;>first|omega|exact True.intro|exact False.elim ‹False›|skip
    all_goals first
      |exact hgo (by omega) (.inl ‹_›)
      |exact hgo (by omega) (.inr ‹_›)
      |(refine hend fun _ h=> ?_;rcases h with h|h<;>contradiction)
      |exact hend (fun h=>by omega)
def ZL (I:Alg) (args:List D) (hp:List HO):Option CT:=match args,hp with
  |[.v (.one (.p (.str s)))],[]=>(fun(s:Str)=>(some (.one ⟨I.hid (s.length≤1000000),(.ret (.v (.one (.p (.str (I.hid (Lib.trimS s [32,9]))))))),[]⟩):Option CT)) s
  |_,_=>none
theorem SA:zo Tryz.prog 143 (ZL alg):=by
  intro args hp r h
  unfold ZL at h
  split at h
  · cases h;exact fun hn=>ziJ _ hn
  · cases h
def zfb:Know Tryz.prog:=⟨143,ZL,SA⟩
def zfa:Know Tryz.prog:=⟨143,fun I=>zq I (ZL I),zf SA⟩
theorem zl2 (s:Str) (hneed:s.length≤1000000):Spc Tryz.prog 134 [.v (.one (.p (.str s)))] [] (.ret (.v (.one (.p (.str (lowS s)))))) []:=by
  refine spcG zi mixed Tryz.func134 (by kernel_rfl) { keep:=some [0,2,3,4,5,8,9,10]} [V6,V5] (by kernel_rfl) ?_
  intro I X hI hX
  refine zh (.code 0 [1,1,0,1,0] ⟨[(10,(.v (.one (.p (.int .i64 0))))),(9,(.v (.one (.p (.int .i64 (I.len (α:=UInt8) s)))))),(8,(.v (.one (.row 0)))),(3,(.v (.one (.row 0)))),(2,(.v (.one (.p (.str ([]:Str)))))),(0,(.v (.one (.p (.str s)))))],[(.row .byte 5 s)],23,none⟩) (by kernel_rfl) ?_
  simp only [zk]
  refine zG hI zi mixed [V6,V5] hX [0,3,8,9,10] (fun(g:Nat × Str)=>match g with|(i,b)=>i≤s.length∧b=lowS (s.take i)++s.drop i) (fun(g:Nat × Str)=>match g with|(i,b)=>⟨[(0,.v (.one (.p (.str s)))),(3,.v (.one (.row 0))),(8,.v (.one (.row 0))),(9,.v (.one (.p (.int .i64 ((I.len (α:=UInt8) s)))))),(10,.v (.one (.p (.int .i64 i))))],[.row .byte 5 b],23,none⟩) (fun(g:Nat × Str)=>match g with|(i,b)=>s.length - i) (0,s) (by kernel_rfl) (by kernel_rfl) ?_ ?_
  · exact⟨Nat.zero_le _,rfl⟩
  rintro⟨i,b⟩ ⟨h1,h2⟩ A hA
  simp only at hA
  refine zh (let y0:=I.b2i (I.get (α:=UInt8) b 0 (Nat.cast i));let y1:=I.inb (Nat.cast i) (I.len (α:=UInt8) b);.br (I.ilt (Nat.cast i) (I.len (α:=UInt8) s)) (.need y1 (.need y1 (.need (I.hid (α:=(Prop)) (And (LE.le (0:Int) y0) (LE.le y0 (255:Int)))) (.need y1 (.need (I.inr Go.IntKind.u8 (I.hid (α:=Int) (lowK y0))) (.need y1 (.need (I.inr Go.IntKind.i64 (I.add (Nat.cast i) 1)) (.need (A ⟨[(0,(.v (.one (.p (.str s))))),(3,(.v (.one (.row 0)))),(8,(.v (.one (.row 0)))),(9,(.v (.one (.p (.int .i64 (I.len (α:=UInt8) s)))))),(10,(.v (.one (.p (.int .i64 (I.add (Nat.cast i) 1))))))],[(.row .byte 5 (I.set (α:=UInt8) b (Nat.cast i) (I.i2b (I.hid (α:=Int) (lowK y0)))))],23,none⟩) .qed)))))))) (.fin (.ret (.v (.one (.p (.str b))))) [])) (by kernel_rfl) ?_
  simp only [zk]
  subst hI
  simp only [nrmA,nrmB]
  have hlen:b.length=s.length:=by rw [h2,List.length_append,wC,List.length_take,List.length_drop];omega
  have hx:i<s.length→b.getD i 0=s.getD i 0:=fun h=>by
    rw [h2,List.getD_eq_getElem?_getD,List.getD_eq_getElem?_getD,List.getElem?_append_right (by rw [wC,List.length_take];omega),wC,List.length_take,List.getElem?_drop]
    congr 2
    omega
  have hset:i<s.length→b.set i (lowC (s.getD i 0))=lowS (s.take (i+1))++s.drop (i+1):=fun h=>by
    have e:(lowS (s.take i)).length=i:=by rw [wC,List.length_take];omega
    rw [h2,List.set_append_right _ _ (by omega),e,Nat.sub_self,List.drop_eq_getElem_cons h,List.set_cons_zero,List.take_succ_eq_append_getElem h,show s.getD i 0=s[i] by simp [h]]
    unfold lowS
    rw [List.map_append,List.append_assoc]
    rfl
  have hby:=wQ (s.getD i 0)
  have hlk:=zhs hby
  refine⟨fun c=> ?_,fun c=> ?_⟩
  · rw [hx (by omega),zls,hset (by omega)]
    exact⟨by omega,by omega,by omega,by omega,by omega,by omega,by omega,hA (i+1,_) ⟨by simp only;omega,rfl⟩ (by simp only;omega)⟩
  · rw [h2,List.drop_of_length_le (by omega),List.take_of_length_le (by omega),List.append_nil]
def XK (I:Alg) (args:List D) (hp:List HO):Option CT:=match args,hp with
  |[.v (.one (.p (.str s)))],[]=>(fun(s:Str)=>(some (.one ⟨I.hid (s.length≤1000000),(.ret (.v (.one (.p (.str (I.hid (lowS s))))))),[]⟩):Option CT)) s
  |_,_=>none
theorem zb4:zo Tryz.prog 134 (XK alg):=by
  intro args hp r h
  unfold XK at h
  split at h
  · cases h;exact fun hn=>zl2 _ hn
  · cases h
def uP:Know Tryz.prog:=⟨134,XK,zb4⟩
def uO:Know Tryz.prog:=⟨134,fun I=>zq I (XK I),zf zb4⟩
theorem zmy (s:Str) (hneed:s.length≤1000000):Spc Tryz.prog 68 [.v (.one (.p (.str s)))] [] (.ret (.v (.one (.p (.str (lowS s)))))) []:=by
  refine spcG zi mixed Tryz.func68 (by kernel_rfl) { keep:=some [0,2,3,4,5,6]} [] (by kernel_rfl) ?_
  intro I X hI hX
  refine zh (.code 0 [1,1,0,1,0] ⟨[(4,(.v (.one (.p (.int .i64 0))))),(3,(.v (.one (.p (.str ([]:Str)))))),(2,(.v (.one (.p (.str ([]:Str)))))),(0,(.v (.one (.p (.str s)))))],[],36,none⟩) (by kernel_rfl) ?_
  simp only [zk]
  refine zG hI zi mixed [] hX [0,3,4] (fun(g:Nat × Str)=>match g with|(i,out)=>i≤s.length∧out=lowS (s.take i)) (fun(g:Nat × Str)=>match g with|(i,out)=>⟨[(0,.v (.one (.p (.str s)))),(3,.v (.one (.p (.str out)))),(4,.v (.one (.p (.int .i64 i))))],[],36,none⟩) (fun(g:Nat × Str)=>match g with|(i,out)=>s.length - i) (0,[]) (by kernel_rfl) (by kernel_rfl) ?_ ?_
  · exact⟨Nat.zero_le _,rfl⟩
  rintro⟨i,out⟩ ⟨h1,h2⟩ A hA
  simp only at hA
  refine zh (.br (I.ilt (Nat.cast i) (I.len (α:=UInt8) s)) (.need (I.inr Go.IntKind.i64 (I.add (Nat.cast i) 1)) (.need (I.cutb (Int.ofNat i) (I.add (Nat.cast i) 1) (I.len (α:=UInt8) s)) (.code 0 [1,0,0,1,0,1,0] ⟨[(6,(.v (.one (.p (.int .i64 0))))),(5,(.v (.one (.p (.str (I.cut (α:=UInt8) s (Int.ofNat i) (I.add (Nat.cast i) 1))))))),(0,(.v (.one (.p (.str s))))),(3,(.v (.one (.p (.str out))))),(4,(.v (.one (.p (.int .i64 (Nat.cast i))))))],[],36,none⟩))) (.fin (.ret (.v (.one (.p (.str out))))) [])) (by kernel_rfl) ?_
  simp only [zk]
  refine⟨fun c1=>⟨?_,?_,?_⟩,fun c1=> ?_⟩
  · subst hI
    simp only [nrmA,nrmB] at c1
    simp only [nrmA,nrmB]
    omega
  · subst hI
    simp only [nrmA,nrmB] at c1
    simp only [nrmA,nrmB]
    omega
  · have hi:i<s.length:=by
      subst hI
      simp only [nrmA,nrmB] at c1
      omega
    generalize hc0:I.cut (α:=UInt8) s (Int.ofNat i) (I.add (↑i) 1)=c0
    have hc1:c0=[s.getD i 0]:=by
      rw [← hc0,hI,vV,ug]
      simp only [Int.ofNat_eq_natCast,Int.toNat_natCast,show((i:Int)+1).toNat=i+1 by omega]
      rw [List.drop_eq_getElem_cons hi,Nat.add_sub_cancel_left,List.take_succ_cons,List.take_zero]
      simp [hi]
    generalize hx:s.getD i 0=x at *
    have hxb:=x.toNat_lt
    have hcap: ∀ k:Nat,k<26→((([65,66,67,68,69,70,71,72,73,74,75,76,77,78,79,80,81,82,83,84,85,86,87,88,89,90]:Str).getD k 0).toNat=65+k∧((([97,98,99,100,101,102,103,104,105,106,107,108,109,110,111,112,113,114,115,116,117,118,119,120,121,122]:Str).drop k).take 1)=[UInt8.ofNat (97+k)]):=by decide+kernel
    refine zG hI zi mixed [] hX [0,3,4,5,6] (fun(g:Nat × Str)=>match g with|(k,c)=>k≤26∧c=[if 65≤x.toNat∧x.toNat<65+k then x+32 else x]) (fun(g:Nat × Str)=>match g with|(k,c)=>⟨[(0,.v (.one (.p (.str s)))),(3,.v (.one (.p (.str out)))),(4,.v (.one (.p (.int .i64 i)))),(5,.v (.one (.p (.str c)))),(6,.v (.one (.p (.int .i64 k))))],[],36,none⟩) (fun(g:Nat × Str)=>match g with|(k,c)=>26 - k) (0,c0) (by kernel_rfl) (by kernel_rfl) ?_ ?_
    · refine⟨Nat.zero_le _,?_⟩
      rw [hc1,if_neg (by omega)]
    rintro⟨k,c⟩ ⟨k1,k2⟩ B hB
    simp only at hB
    refine zh (let y0:=([97,98,99,100,101,102,103,104,105,106,107,108,109,110,111,112,113,114,115,116,117,118,119,120,121,122]:Str);let y1:=([65,66,67,68,69,70,71,72,73,74,75,76,77,78,79,80,81,82,83,84,85,86,87,88,89,90]:Str);let y2:=I.inr Go.IntKind.i64 (I.add (Nat.cast k) 1);.br (I.ilt (Nat.cast k) 26) (.need (I.inb (Nat.cast k) (I.len (α:=UInt8) y1)) (.need (I.inb (Nat.cast i) (I.len (α:=UInt8) s)) (.br (I.ieq (I.b2i (I.get (α:=UInt8) y1 0 (Nat.cast k))) (I.b2i (I.get (α:=UInt8) s 0 (Nat.cast i)))) (.need y2 (.need (I.cutb (Int.ofNat k) (I.add (Nat.cast k) 1) (I.len (α:=UInt8) y0)) (.need y2 (.need (B ⟨[(0,(.v (.one (.p (.str s))))),(3,(.v (.one (.p (.str out))))),(4,(.v (.one (.p (.int .i64 (Nat.cast i)))))),(5,(.v (.one (.p (.str (I.cut (α:=UInt8) y0 (Int.ofNat k) (I.add (Nat.cast k) 1))))))),(6,(.v (.one (.p (.int .i64 (I.add (Nat.cast k) 1))))))],[],36,none⟩) .qed)))) (.need y2 (.need (B ⟨[(0,(.v (.one (.p (.str s))))),(3,(.v (.one (.p (.str out))))),(4,(.v (.one (.p (.int .i64 (Nat.cast i)))))),(5,(.v (.one (.p (.str c))))),(6,(.v (.one (.p (.int .i64 (I.add (Nat.cast k) 1))))))],[],36,none⟩) .qed))))) (.need (I.few (I.add (I.len (α:=UInt8) out) (I.len (α:=UInt8) c)) 1000000000) (.need (I.inr Go.IntKind.i64 (I.add (Nat.cast i) 1)) (.need (A ⟨[(0,(.v (.one (.p (.str s))))),(3,(.v (.one (.p (.str (I.app (α:=UInt8) out c)))))),(4,(.v (.one (.p (.int .i64 (I.add (Nat.cast i) 1))))))],[],36,none⟩) .qed)))) (by kernel_rfl) ?_
    simp only [zk]
    subst hI
    simp only [nrmA,nrmB]
    rw [hx]
    generalize hCAP:([65,66,67,68,69,70,71,72,73,74,75,76,77,78,79,80,81,82,83,84,85,86,87,88,89,90]:Str)=CAP at *
    generalize hLOW:([97,98,99,100,101,102,103,104,105,106,107,108,109,110,111,112,113,114,115,116,117,118,119,120,121,122]:Str)=LOW at *
    have hol:out.length≤1000000:=by rw [h2,wC,List.length_take];omega
    have hc1l:c.length=1:=by rw [k2];rfl
    have hcl:CAP.length=26:=by rw [← hCAP];rfl
    have hll:LOW.length=26:=by rw [← hLOW];rfl
    have hcond:k<26→(CAP.getD k 0=x↔x.toNat=65+k):=fun h=>by rw [← UInt8.toNat_inj,(hcap k h).1];omega
    have heq:k<26→CAP.getD k 0=x→(LOW.drop k).take (((k:Int)+1).toNat - k)=[if 65≤x.toNat∧x.toNat<65+(k+1) then x+32 else x]:=fun h e=>by
      have e:=(hcond h).1 e
      rw [show((k:Int)+1).toNat - k=1 by omega,(hcap k h).2,if_pos (by omega)]
      congr 1
      rw [← UInt8.toNat_inj,UInt8.toNat_ofNat',UInt8.toNat_add,e]
      simp only [show(32:UInt8).toNat=32 from rfl]
      omega
    have hne:k<26→¬ CAP.getD k 0=x→c=[if 65≤x.toNat∧x.toNat<65+(k+1) then x+32 else x]:=fun h e=>by
      have e: ¬ x.toNat=65+k:=fun h'=>e ((hcond h).2 h')
      rw [k2]
      congr 1
      by_cases h1:65≤x.toNat∧x.toNat<65+k
      · rw [if_pos h1,if_pos (by omega)]
      · rw [if_neg h1,if_neg (by omega)]
    have hend: ¬ k<26→out++c=lowS (s.take (i+1)):=fun h=>by
      have hk:k=26:=by omega
      subst hk
      rw [k2,h2,List.take_succ_eq_append_getElem hi]
      unfold lowS
      rw [List.map_append]
      congr 1
      rw [← hx,show s.getD i 0=s[i] by simp [hi]]
      show _=[lowC s[i]]
      unfold lowC
      congr 1
      by_cases h1:65≤s[i].toNat∧s[i].toNat<65+26
      · rw [if_pos h1,if_pos (by omega)]
      · rw [if_neg h1,if_neg (by omega)]
    (repeat' (first|refine And.intro ?_ ?_|intro _))<;>first|omega|exact True.intro|exact False.elim ‹False›|skip
    all_goals first
      |omega
      |exact hB (k+1,_) ⟨by simp only;omega,heq (by omega) ‹_›⟩ (by simp only;omega)
      |exact hB (k+1,_) ⟨by simp only;omega,hne (by omega) ‹_›⟩ (by simp only;omega)
      |(rw [hend (by omega)];exact hA (i+1,_) ⟨by simp only;omega,rfl⟩ (by simp only;omega))
  · subst hI
    simp only [nrmA,nrmB] at c1
    simp only [nrmA,nrmB]
    rw [h2,List.take_of_length_le (by omega)]
def VD (I:Alg) (args:List D) (hp:List HO):Option CT:=match args,hp with
  |[.v (.one (.p (.str s)))],[]=>(fun(s:Str)=>(some (.one ⟨I.hid (s.length≤1000000),(.ret (.v (.one (.p (.str (I.hid (lowS s))))))),[]⟩):Option CT)) s
  |_,_=>none
theorem zdG:zo Tryz.prog 68 (VD alg):=by
  intro args hp r h
  unfold VD at h
  split at h
  · cases h;exact fun hn=>zmy _ hn
  · cases h
def wo:Know Tryz.prog:=⟨68,VD,zdG⟩
def x9:Know Tryz.prog:=⟨68,fun I=>zq I (VD I),zf zdG⟩
end Go.Proofs.YtcclfkakcgnacaaGreatDoor
namespace Go.Proofs.YtcclfkakcgnacaaGreatDoor
open Go Go.Sep Go.Ab
set_option maxRecDepth 100000
theorem Qb {p:UInt8→Bool} {s:Str} {i:Nat} (h:i≤(s.takeWhile p).length):(i<s.length∧p (s.getD i 0)=true)↔i<(s.takeWhile p).length:=by
  induction s generalizing i with
  |nil=>simp
  | cons c r ih=>
    by_cases hc:p c=true
    · simp only [List.takeWhile_cons,hc,if_true,List.length_cons] at h ⊢
      cases i with
      |zero=>simp [hc]
      | succ i=>
        have:=ih (i:=i) (by omega)
        simp only [List.getD_cons_succ]
        constructor
        · rintro⟨h1,h2⟩;have:=this.1 ⟨by omega,h2⟩;omega
        · intro h1;have:=this.2 (by omega);exact⟨by omega,this.2⟩
    · simp only [List.takeWhile_cons,hc,Bool.false_eq_true,if_false,List.length_nil] at h ⊢
      have:i=0:=by omega
      subst this
      simp [hc]
theorem Ut (p:UInt8→Bool) (s:Str):s.take (s.takeWhile p).length=s.takeWhile p:=by
  induction s with
  |nil=>simp
  |cons c r ih=>by_cases hc:p c=true<;>simp [List.takeWhile_cons,hc,ih]
theorem drop_tw (p:UInt8→Bool) (s:Str):s.drop (s.takeWhile p).length=s.dropWhile p:=by
  induction s with
  |nil=>simp
  |cons c r ih=>by_cases hc:p c=true<;>simp [List.takeWhile_cons,List.dropWhile_cons,hc,ih]
theorem zj4 (p:UInt8→Bool) (s:Str):(s.takeWhile p).length≤s.length:=(List.takeWhile_sublist p).length_le
theorem znv (p:UInt8→Bool) (s:Str):(s.dropWhile p).length≤s.length:=(List.dropWhile_sublist p).length_le
def isTk (c:UInt8):Bool:=tokB (c.toNat:Int)
def tokS (s:Str):Str:=s.takeWhile isTk
def tokE (s:Str):Str:=s.dropWhile isTk
theorem xZ (s:Str):(tokS s).length≤s.length:=zj4 _ _
theorem uU (s:Str):(tokE s).length≤s.length:=znv _ _
theorem zkE (s:Str):(tokS s).length+(tokE s).length=s.length:=by
  have:=congrArg List.length (List.takeWhile_append_dropWhile (p:=isTk) (l:=s))
  rw [List.length_append] at this;exact this
def skS (s:Str):Str:=Lib.trimLeftS s [32,9]
theorem vW (s:Str):(skS s).length≤s.length:=by
  unfold skS Lib.trimLeftS
  exact(List.dropWhile_sublist _).length_le
def zY (s:Str) (c:UInt8):Bool:=s.head? == some c
theorem Ry {s:Str} {c:UInt8} (h:zY s c=true):0<s.length:=by
  cases s with
  |nil=>simp [zY] at h
  |cons a r=>simp
theorem Wj {s:Str} {c:UInt8}:zY s c=true↔0<s.length∧s.getD 0 0=c:=by
  cases s with
  |nil=>simp [zY]
  |cons a r=>simp [zY]
theorem drop1 (s:Str):List.take (s.length - Int.toNat 1) (List.drop (Int.toNat 1) s)=s.drop 1:=by
  show List.take (s.length - 1) (List.drop 1 s)=s.drop 1
  exact List.take_of_length_le (by simp)
def quoF:Str→Option (Str × Str)
  |[]=>none
  |[x]=>if x=34 then some ([],[]) else none
  |x::y::r=>if x=34 then some ([],y::r) else if x=92 then(quoF r).map (fun p=>(y::p.1,p.2)) else(quoF (y::r)).map (fun p=>(x::p.1,p.2))
def quoV (s:Str):Str:=match quoF s with|some p=>p.1|none=>[]
def quoR (s:Str):Str:=match quoF s with|some p=>p.2|none=>[]
theorem VW: ∀ (s:Str) (p:Str × Str),quoF s=some p→p.1.length+p.2.length<s.length
  |[],p,h=>by simp [quoF] at h
  | [x],p,h=>by
    simp only [quoF] at h
    split at h
    · cases h;simp
    · cases h
  | x ::y::r,p,h=>by
    simp only [quoF] at h
    split at h
    · cases h;simp
    · split at h
      · rw [Option.map_eq_some_iff] at h
        obtain⟨q,hq,rfl⟩:=h
        have:=VW r q hq
        simp only [List.length_cons];omega
      · rw [Option.map_eq_some_iff] at h
        obtain⟨q,hq,rfl⟩:=h
        have:=VW (y::r) q hq
        simp only [List.length_cons] at this ⊢;omega
theorem zjl (s:Str):(quoR s).length≤s.length:=by
  unfold quoR
  split
  · rename_i p h;have:=VW _ _ h;omega
  · simp
theorem zjk (s:Str):(quoV s).length≤s.length:=by
  unfold quoV
  split
  · rename_i p h;have:=VW _ _ h;omega
  · simp
def parM (s:Str):Int × Fld × Str:=
  if tokS s=[] then(5,⟨[],[]⟩,tokE s)
  else if zY (tokE s) 61=false then(5,⟨[],[]⟩,tokE s)
  else if zY ((tokE s).drop 1) 34=true then
    if(quoF ((tokE s).drop 2)).isSome=true then(0,⟨lowS (tokS s),quoV ((tokE s).drop 2)⟩,quoR ((tokE s).drop 2)) else(14,⟨[],[]⟩,[])
  else if tokS ((tokE s).drop 1)=[] then(5,⟨[],[]⟩,tokE ((tokE s).drop 1))
  else(0,⟨lowS (tokS s),tokS ((tokE s).drop 1)⟩,tokE ((tokE s).drop 1))
theorem zd2 (s:Str):(parM s).2.2.length≤s.length∧(parM s).2.1.name.length≤s.length∧(parM s).2.1.value.length≤s.length:=by
  have h1:=uU s
  have h2:=uU ((tokE s).drop 1)
  have h3:=zjl ((tokE s).drop 2)
  have h4:=zjk ((tokE s).drop 2)
  have h5:=xZ s
  have h6:=xZ ((tokE s).drop 1)
  simp only [List.length_drop] at h2 h3 h4 h6
  unfold parM
  repeat' split
  all_goals simp only [List.length_nil,wC];omega
def getP (l:List Fld) (n:Str):Str × Bool:=match l.find? (fun f=>f.name == n) with|some f=>(f.value,true)|none=>([],false)
def medL:Nat→Str→List Fld→Int × List Fld × Str
  |0,s,ps=>(5,ps,s)
  | n +1,s,ps=>
    if zY s 59=true then
      if(parM (skS (s.drop 1))).1≠0 then((parM (skS (s.drop 1))).1,ps,(parM (skS (s.drop 1))).2.2)
      else if(getP ps (parM (skS (s.drop 1))).2.1.name).2=true then(9,ps,(parM (skS (s.drop 1))).2.2)
      else if ps.length=8 then(8,ps,(parM (skS (s.drop 1))).2.2)
      else medL n (skS (parM (skS (s.drop 1))).2.2) (ps++[(parM (skS (s.drop 1))).2.1])
    else if s=[] then(0,ps,s) else(5,ps,s)
def medB (w:Str) (s:Str):Int × Med × Str:=((medL ((skS s).length+1) (skS s) []).1,⟨w,(medL ((skS s).length+1) (skS s) []).2.1⟩,(medL ((skS s).length+1) (skS s) []).2.2)
def medA (s:Str):Int × Med × Str:=
  if tokS s=[] then(5,⟨[],[]⟩,tokE s)
  else if zY (tokE s) 47=true then
    if tokS ((tokE s).drop 1)=[] then(5,⟨[],[]⟩,tokE ((tokE s).drop 1))
    else medB (lowS (tokS s)++([47]++lowS (tokS ((tokE s).drop 1)))) (tokE ((tokE s).drop 1))
  else medB (lowS (tokS s)) (tokE s)
def xE (s:Str):Int × Med × Str:=medA (skS s)
def xY (s:Str):Med × Int:=if tZ s=false then(⟨[],[]⟩,3) else if(xE s).1=0 then((xE s).2.1,0) else(⟨[],[]⟩,(xE s).1)
theorem zbf (s:Str):(parM s).1=0∨(parM s).1=5∨(parM s).1=14:=by
  unfold parM
  repeat' split
  all_goals simp
end Go.Proofs.YtcclfkakcgnacaaGreatDoor
namespace Go.Proofs.YtcclfkakcgnacaaGreatDoor
open Go Go.Sep Go.Ab
set_option maxRecDepth 100000
theorem zgc (s:Str):Spc Tryz.prog 158 [.v (.one (.p (.str s))),.v (.one (.p (.str ([32,9]))))] [] (.ret (.v (.one (.p (.str ((skS s))))))) []:=by
  refine Spc.of_below ⟨_,Tryz.func158,by kernel_rfl,by kernel_rfl⟩ fun S bs w vs _ hM=> ?_
  obtain⟨v,r,rfl⟩: ∃ v r,vs=v::r:=by cases vs with|nil=>exact hM.elim|cons v r=>exact⟨v,r,rfl⟩
  obtain⟨h1,hM⟩:=hM
  obtain⟨v2,r2,rfl⟩: ∃ v r2,r=v::r2:=by cases r with|nil=>exact hM.elim|cons v r=>exact⟨v,r,rfl⟩
  obtain⟨h2,hM⟩:=hM
  obtain rfl:r2=[]:=by cases r2 with|nil=>rfl|cons v r=>exact hM.elim
  cases h1 with
  | str _ hl1=>
    cases h2 with
    | str _ hl2=>
      refine⟨.string (Sep.S (skS s)),.str _ (Nat.le_trans (vW _) hl1),?_⟩
      exact Tryz.strings_TrimLeft_laid (Sep.S s) (Sep.S [32,9]) w (by decide) (fun j b hb=>by
        have:=List.mem_of_getElem? hb
        rcases(by simpa [Sep.S] using this:b=32∨b=9) with rfl|rfl<;>decide)
def qB (I:Alg) (args:List D) (hp:List HO):Option CT:=match args,hp with
  |[.v (.one (.p (.str s))),.v (.one (.p (.str ([32,9]))))],[]=>(fun(s:Str)=>(some (.one ⟨I.hid (True),(.ret (.v (.one (.p (.str (I.hid ((skS s)))))))),[]⟩):Option CT)) s
  |_,_=>none
theorem Ur:zo Tryz.prog 158 (qB alg):=by
  intro args hp r h
  unfold qB at h
  split at h
  · cases h;exact fun hn=>zgc _
  · cases h
def zck:Know Tryz.prog:=⟨158,qB,Ur⟩
def zcj:Know Tryz.prog:=⟨158,fun I=>zq I (qB I),zf Ur⟩
theorem zlj (b:Bool) (c:Int) (hneed:b=false):Spc Tryz.prog 141 [.v (.one (.p (.bool b))),.v (.one (.p (.int .i64 c)))] [] (.ret (.tup [])) []:=by
  refine spcG zi mixed Tryz.func141 (by kernel_rfl) { keep:=some [0,1]} [] (by kernel_rfl) ?_
  intro I X hI hX
  refine zh (.br b (.fin (.pan (.ifc 145 .false [(.int .i64 c)])) []) (.fin (.ret (.tup [])) [])) (by kernel_rfl) ?_
  simp only [zk]
  subst hI
  simp only [nrmA,nrmB]
  (repeat' (first|refine And.intro ?_ ?_|intro _))<;>first|omega|exact True.intro|exact False.elim ‹False›|skip
  all_goals simp_all
theorem zli (b:Bool) (c:Int) (hneed:b=true):Spc Tryz.prog 141 [.v (.one (.p (.bool b))),.v (.one (.p (.int .i64 c)))] [] (.pan (.ifc 145 false [(.int .i64 c)])) []:=by
  refine spcG zi mixed Tryz.func141 (by kernel_rfl) { keep:=some [0,1]} [] (by kernel_rfl) ?_
  intro I X hI hX
  refine zh (.br b (.fin (.pan (.ifc 145 .false [(.int .i64 c)])) []) (.fin (.ret (.tup [])) [])) (by kernel_rfl) ?_
  simp only [zk]
  subst hI
  simp only [nrmA,nrmB]
  (repeat' (first|refine And.intro ?_ ?_|intro _))<;>first|omega|exact True.intro|exact False.elim ‹False›|skip
  all_goals simp_all
def VZ (I:Alg) (args:List D) (hp:List HO):Option CT:=match args,hp with
  |[.v (.one (.p (.bool b))),.v (.one (.p (.int .i64 c)))],[]=>(fun(b:Bool) (c:Int)=>(some (.br (I.hid (b)) (.one ⟨I.hid (b=true),(.pan (.ifc 145 false [(.int .i64 c)])),[]⟩) (.one ⟨I.hid (b=false),(.ret (.tup [])),[]⟩)):Option CT)) b c
  |_,_=>none
theorem zd6:zo Tryz.prog 141 (VZ alg):=by
  intro args hp r h
  unfold VZ at h
  split at h
  · cases h;exact⟨fun _ hn=>zli _ _ hn,fun _ hn=>zlj _ _ hn⟩
  · cases h
def wP:Know Tryz.prog:=⟨141,VZ,zd6⟩
def wO:Know Tryz.prog:=⟨141,fun I=>zq I (VZ I),zf zd6⟩
theorem zjs (s:Str):Spc Tryz.prog 136 [.v (.one (.ptr 0 0))] [.pack [.obj 149 [(.p (.str s))]]] (.ret (.tup [])) [.pack [.obj 149 [(.p (.str ((skS s))))]]]:=by
  refine spcG zi mixed Tryz.func136 (by kernel_rfl) { keep:=some [0]} [zck,zcj] (by kernel_rfl) ?_
  intro I X hI hX
  refine zh (.need (I.hid (α:=(Prop)) True) (.fin (.ret (.tup [])) [(.pack [(.obj 149 [(.p (.str (I.hid (α:=Str) (skS s))))])])])) (by kernel_rfl) ?_
  simp only [zk]
  subst hI
  simp only [nrmA,nrmB,nrlB,reduceCtorEq,HO.pack.injEq,HO.obj.injEq]
  try trivial
def Yc (I:Alg) (args:List D) (hp:List HO):Option CT:=match args,hp with
  |[.v (.one (.ptr 0 0))],[.pack [.obj 149 [(.p (.str s))]]]=>(fun(s:Str)=>(some (.one ⟨I.hid (True),(.ret (.tup [])),[.pack [.obj 149 [(.p (.str (I.hid ((skS s)))))]]]⟩):Option CT)) s
  |_,_=>none
theorem Rk:zo Tryz.prog 136 (Yc alg):=by
  intro args hp r h
  unfold Yc at h
  split at h
  · cases h;exact fun hn=>zjs _
  · cases h
def Yb:Know Tryz.prog:=⟨136,Yc,Rk⟩
def Ya:Know Tryz.prog:=⟨136,fun I=>zq I (Yc I),zf Rk⟩
theorem zmV (s:Str) (k:Int) (hneed:0≤k∧k≤255):Spc Tryz.prog 138 [.v (.one (.ptr 0 0)),.v (.one (.p (.int .u8 k)))] [.pack [.obj 149 [(.p (.str s))]]] (.ret (.v (.one (.p (.bool ((zY s (UInt8.ofNat k.toNat)))))))) [.pack [.obj 149 [(.p (.str ((if zY s (UInt8.ofNat k.toNat)=true then s.drop 1 else s))))]]]:=by
  generalize hr:zY s (UInt8.ofNat k.toNat)=r
  refine spcG zi mixed Tryz.func138 (by kernel_rfl) { keep:=some [0,1,4,5]} [] (by kernel_rfl) ?_
  intro I X hI hX
  refine zh (let y0:=I.ieq (I.b2i (I.get (α:=UInt8) s 0 0)) k;let y1:HO:=.pack [(.obj 149 [(.p (.str s))])];.br (I.bnot (I.seq s ([]:Str))) (.need (I.inb 0 (I.len (α:=UInt8) s)) (.br y0 (.need (I.cutb 1 (I.len (α:=UInt8) s) (I.len (α:=UInt8) s)) (.fin (.ret (.v (.one (.p (.bool y0))))) [(.pack [(.obj 149 [(.p (.str (I.cut (α:=UInt8) s 1 (I.len (α:=UInt8) s))))])])])) (.fin (.ret (.v (.one (.p (.bool y0))))) [y1]))) (.fin (.ret (.v (.one (.p (.bool Bool.false))))) [y1])) (by kernel_rfl) ?_
  simp only [zk]
  subst hI
  simp only [nrmA,nrmB,nrlB,reduceCtorEq,HO.pack.injEq,HO.obj.injEq]
  have hk:((UInt8.ofNat k.toNat).toNat:Int)=k:=by rw [UInt8.toNat_ofNat',Nat.mod_eq_of_lt (by omega)];omega
  have hk2: ∀ c:UInt8,(c.toNat:Int)=k↔c=UInt8.ofNat k.toNat:=fun c=>⟨fun h=>by rw [← h];simp,fun h=>by rw [h];exact hk⟩
  rw [drop1]
  have hs:s=[]↔s.length=0:=List.length_eq_zero_iff.symm
  rw [hs]
  cases r with
  | true=>
    obtain⟨h1,h2⟩:=Wj.1 hr
    have hkk:=(hk2 _).2 h2
    rw [hkk]
    (repeat' (first|refine And.intro ?_ ?_|intro _))<;>first|omega|exact True.intro|exact False.elim ‹False›|skip
    all_goals first|omega|(simp;done)|(simp_all;done)
  | false=>
    have h1:0<s.length→¬ ((s.getD 0 0).toNat:Int)=k:=fun h q=>by rw [Wj.2 ⟨h,(hk2 _).1 q⟩] at hr;cases hr
    (repeat' (first|refine And.intro ?_ ?_|intro _))<;>first|omega|exact True.intro|exact False.elim ‹False›|skip
    all_goals first|omega|(simp;done)|(exfalso;exact h1 (by omega) ‹_›)|(have:=h1 (by omega);simp_all;done)|trace_state
def VX (I:Alg) (args:List D) (hp:List HO):Option CT:=match args,hp with
  |[.v (.one (.ptr 0 0)),.v (.one (.p (.int .u8 k)))],[.pack [.obj 149 [(.p (.str s))]]]=>(fun(s:Str) (k:Int)=>(some (.one ⟨I.hid (0≤k∧k≤255),(.ret (.v (.one (.p (.bool (I.hid ((zY s (UInt8.ofNat k.toNat))))))))),[.pack [.obj 149 [(.p (.str (I.hid ((if zY s (UInt8.ofNat k.toNat)=true then s.drop 1 else s)))))]]]⟩):Option CT)) s k
  |_,_=>none
theorem zd3:zo Tryz.prog 138 (VX alg):=by
  intro args hp r h
  unfold VX at h
  split at h
  · cases h;exact fun hn=>zmV _ _ hn
  · cases h
def Z9:Know Tryz.prog:=⟨138,VX,zd3⟩
def Z8:Know Tryz.prog:=⟨138,fun I=>zq I (VX I),zf zd3⟩
theorem zmQ (s:Str) (hneed:s.length≤1000000∧¬ tokS s=[]):Spc Tryz.prog 137 [.v (.one (.ptr 0 0))] [.pack [.obj 149 [(.p (.str s))]]] (.ret (.v (.one (.p (.str ((tokS s))))))) [.pack [.obj 149 [(.p (.str ((tokE s))))]]]:=by
  obtain⟨hl,hne⟩:=hneed
  refine spcG zi mixed Tryz.func137 (by kernel_rfl) { keep:=some [0,2,3,4]} [ZM,Vp,wP,wO] (by kernel_rfl) ?_
  intro I X hI hX
  refine zh (.code 0 [1,1,0,0] ⟨[(3,(.v (.one (.p (.int .i64 0))))),(2,(.v (.one (.p (.str ([]:Str)))))),(0,(.v (.one (.ptr 0 0))))],[(.pack [(.obj 149 [(.p (.str s))])])],42,none⟩) (by kernel_rfl) ?_
  simp only [zk]
  refine zG hI zi mixed [ZM,Vp,wP,wO] hX [0,3] (fun(i:Nat)=>i≤(tokS s).length) (fun(i:Nat)=>⟨[(0,.v (.one (.ptr 0 0))),(3,.v (.one (.p (.int .i64 i))))],[.pack [.obj 149 [(.p (.str s))]]],42,none⟩) (fun(i:Nat)=>s.length - i) 0 (by kernel_rfl) (by kernel_rfl) ?_ ?_
  · exact Nat.zero_le _
  rintro i h1 A hA
  refine zh (let y0:HO:=.pack [(.obj 149 [(.p (.str (I.cut (α:=UInt8) s (Int.ofNat i) (I.len (α:=UInt8) s))))])];let y7:=I.cut (α:=UInt8) s 0 (Int.ofNat i);let y1:=I.seq y7 ([]:Str);let y2:=I.b2i (I.get (α:=UInt8) s 0 (Nat.cast i));let y3:=I.cutb (Int.ofNat i) (I.len (α:=UInt8) s) (I.len (α:=UInt8) s);let y4:=I.cutb 0 (Int.ofNat i) (I.len (α:=UInt8) s);let y5:=I.hid (α:=(Prop)) (Eq y1 Bool.false);let y6:=I.hid (α:=(Prop)) (Eq y1 Bool.true);.br (I.ilt (Nat.cast i) (I.len (α:=UInt8) s)) (.need (I.inb (Nat.cast i) (I.len (α:=UInt8) s)) (.need (I.hid (α:=(Prop)) (And (LE.le (0:Int) y2) (LE.le y2 (255:Int)))) (.br (I.hid (α:=Bool) (tokB y2)) (.need (I.inr Go.IntKind.i64 (I.add (Nat.cast i) 1)) (.need (A ⟨[(0,(.v (.one (.ptr 0 0)))),(3,(.v (.one (.p (.int .i64 (I.add (Nat.cast i) 1))))))],[(.pack [(.obj 149 [(.p (.str s))])])],42,none⟩) .qed)) (.need y4 (.need y3 (.br (I.hid (α:=Bool) y1) (.need y6 (.fin (.pan (.ifc 145 .false [(.int .i64 5)])) [y0])) (.need y5 (.fin (.ret (.v (.one (.p (.str y7))))) [y0])))))))) (.need y4 (.need y3 (.br (I.hid (α:=Bool) y1) (.need y6 (.fin (.pan (.ifc 145 .false [(.int .i64 5)])) [y0])) (.need y5 (.fin (.ret (.v (.one (.p (.str y7))))) [y0])))))) (by kernel_rfl) ?_
  simp only [zk]
  subst hI
  simp only [nrmA,nrmB,nrlB,reduceCtorEq,HO.pack.injEq,HO.obj.injEq]
  have hb:=wQ (s.getD i 0)
  have hs:=Qb (p:=isTk) (s:=s) h1
  have hle:=xZ s
  have ht:=Ut isTk s
  have hd:=drop_tw isTk s
  unfold isTk at hs
  change _↔i<(tokS s).length at hs
  change s.take (tokS s).length=tokS s at ht
  change s.drop (tokS s).length=tokE s at hd
  have hlen:=zkE s
  have hend: ¬ i<(tokS s).length→i=(tokS s).length:=fun h=>by omega
  generalize s.getD i 0=x at *
  have hgo:i<(tokS s).length→A ⟨[(0,.v (.one (.ptr 0 0))),(3,.v (.one (.p (.int .i64 (((i:Int)+1))))))],[.pack [.obj 149 [(.p (.str s))]]],42,none⟩:=fun h=>hA (i+1) (by omega) (by omega)
  by_cases hi:i<(tokS s).length
  · have hi2:=hs.2 hi
    clear hs hend ht hd hA
    (repeat' (first|refine And.intro ?_ ?_|intro _))<;>first|omega|exact True.intro|exact False.elim ‹False›|skip
    all_goals first
      |omega
      |exact hgo hi
      |(exfalso;simp_all;done)
  · have hx:i<s.length→tokB (x.toNat:Int)=true→False:=fun a b=>hi (hs.1 ⟨a,b⟩)
    have hi2:=hend hi
    clear hs hend hA hgo
    subst hi2
    rw [ht]
    have hcut:List.take (s.length - (tokS s).length) (List.drop (tokS s).length s)=tokE s:=by rw [hd];exact List.take_of_length_le (by omega)
    rw [hcut]
    (repeat' (first|refine And.intro ?_ ?_|intro _))<;>first|omega|exact True.intro|exact False.elim ‹False›|skip
    all_goals first
      |omega
      |(exfalso;exact hx (by omega) ‹_›)
      |(exfalso;exact hne ‹_›)
      |(simp [hne];done)
theorem zmP (s:Str) (hneed:s.length≤1000000∧tokS s=[]):Spc Tryz.prog 137 [.v (.one (.ptr 0 0))] [.pack [.obj 149 [(.p (.str s))]]] (.pan (.ifc 145 false [(.int .i64 5)])) [.pack [.obj 149 [(.p (.str ((tokE s))))]]]:=by
  obtain⟨hl,hne⟩:=hneed
  refine spcG zi mixed Tryz.func137 (by kernel_rfl) { keep:=some [0,2,3,4]} [ZM,Vp,wP,wO] (by kernel_rfl) ?_
  intro I X hI hX
  refine zh (.code 0 [1,1,0,0] ⟨[(3,(.v (.one (.p (.int .i64 0))))),(2,(.v (.one (.p (.str ([]:Str)))))),(0,(.v (.one (.ptr 0 0))))],[(.pack [(.obj 149 [(.p (.str s))])])],42,none⟩) (by kernel_rfl) ?_
  simp only [zk]
  refine zG hI zi mixed [ZM,Vp,wP,wO] hX [0,3] (fun(i:Nat)=>i≤(tokS s).length) (fun(i:Nat)=>⟨[(0,.v (.one (.ptr 0 0))),(3,.v (.one (.p (.int .i64 i))))],[.pack [.obj 149 [(.p (.str s))]]],42,none⟩) (fun(i:Nat)=>s.length - i) 0 (by kernel_rfl) (by kernel_rfl) ?_ ?_
  · exact Nat.zero_le _
  rintro i h1 A hA
  refine zh (let y0:HO:=.pack [(.obj 149 [(.p (.str (I.cut (α:=UInt8) s (Int.ofNat i) (I.len (α:=UInt8) s))))])];let y7:=I.cut (α:=UInt8) s 0 (Int.ofNat i);let y1:=I.seq y7 ([]:Str);let y2:=I.b2i (I.get (α:=UInt8) s 0 (Nat.cast i));let y3:=I.cutb (Int.ofNat i) (I.len (α:=UInt8) s) (I.len (α:=UInt8) s);let y4:=I.cutb 0 (Int.ofNat i) (I.len (α:=UInt8) s);let y5:=I.hid (α:=(Prop)) (Eq y1 Bool.false);let y6:=I.hid (α:=(Prop)) (Eq y1 Bool.true);.br (I.ilt (Nat.cast i) (I.len (α:=UInt8) s)) (.need (I.inb (Nat.cast i) (I.len (α:=UInt8) s)) (.need (I.hid (α:=(Prop)) (And (LE.le (0:Int) y2) (LE.le y2 (255:Int)))) (.br (I.hid (α:=Bool) (tokB y2)) (.need (I.inr Go.IntKind.i64 (I.add (Nat.cast i) 1)) (.need (A ⟨[(0,(.v (.one (.ptr 0 0)))),(3,(.v (.one (.p (.int .i64 (I.add (Nat.cast i) 1))))))],[(.pack [(.obj 149 [(.p (.str s))])])],42,none⟩) .qed)) (.need y4 (.need y3 (.br (I.hid (α:=Bool) y1) (.need y6 (.fin (.pan (.ifc 145 .false [(.int .i64 5)])) [y0])) (.need y5 (.fin (.ret (.v (.one (.p (.str y7))))) [y0])))))))) (.need y4 (.need y3 (.br (I.hid (α:=Bool) y1) (.need y6 (.fin (.pan (.ifc 145 .false [(.int .i64 5)])) [y0])) (.need y5 (.fin (.ret (.v (.one (.p (.str y7))))) [y0])))))) (by kernel_rfl) ?_
  simp only [zk]
  subst hI
  simp only [nrmA,nrmB,nrlB,reduceCtorEq,HO.pack.injEq,HO.obj.injEq]
  have hb:=wQ (s.getD i 0)
  have hs:=Qb (p:=isTk) (s:=s) h1
  have hd:=drop_tw isTk s
  unfold isTk at hs
  change _↔i<(tokS s).length at hs
  change s.drop (tokS s).length=tokE s at hd
  rw [hne] at h1 hs hd
  simp only [List.length_nil] at h1 hs hd
  have h0:i=0:=by omega
  subst h0
  generalize s.getD 0 0=x at *
  have hx:0<s.length→tokB (x.toNat:Int)=true→False:=fun a b=>absurd (hs.1 ⟨a,b⟩) (by omega)
  have hcut:List.take (s.length - 0) (List.drop 0 s)=tokE s:=by rw [hd];exact List.take_of_length_le (by have:=uU s;omega)
  clear hs hA
  simp only [Int.toNat_natCast,List.take_zero,hcut] at *
  (repeat' (first|refine And.intro ?_ ?_|intro _))<;>first|omega|exact True.intro|exact False.elim ‹False›|skip
  all_goals first
    |omega
    |(exfalso;exact hx (by omega) ‹_›)
    |(exfalso;rename_i hq;exact hq rfl)
    |(simp;done)
def Qz (I:Alg) (args:List D) (hp:List HO):Option CT:=match args,hp with
  |[.v (.one (.ptr 0 0))],[.pack [.obj 149 [(.p (.str s))]]]=>(fun(s:Str)=>(some (.br (I.hid (decide (tokS s=[]))) (.one ⟨I.hid (s.length≤1000000∧tokS s=[]),(.pan (.ifc 145 false [(.int .i64 5)])),[.pack [.obj 149 [(.p (.str (I.hid ((tokE s)))))]]]⟩) (.one ⟨I.hid (s.length≤1000000∧¬ tokS s=[]),(.ret (.v (.one (.p (.str (I.hid ((tokS s)))))))),[.pack [.obj 149 [(.p (.str (I.hid ((tokE s)))))]]]⟩)):Option CT)) s
  |_,_=>none
theorem zgV:zo Tryz.prog 137 (Qz alg):=by
  intro args hp r h
  unfold Qz at h
  split at h
  · cases h;exact⟨fun _ hn=>zmP _ hn,fun _ hn=>zmQ _ hn⟩
  · cases h
def X8:Know Tryz.prog:=⟨137,Qz,zgV⟩
def X7:Know Tryz.prog:=⟨137,fun I=>zq I (Qz I),zf zgV⟩
theorem zmS (s:Str) (hneed:s.length≤1000000∧(quoF s).isSome=true):Spc Tryz.prog 160 [.v (.one (.ptr 0 0))] [.pack [.obj 149 [(.p (.str s))]]] (.ret (.v (.one (.p (.str ((quoV s))))))) [.pack [.obj 149 [(.p (.str ((quoR s))))]]]:=by
  obtain⟨hl,hne⟩:=hneed
  refine spcG zi mixed Tryz.func160 (by kernel_rfl) { nr:=[3],keep:=some [0,2,3,4]} [wP,wO] (by kernel_rfl) ?_
  intro I X hI hX
  refine zh (.code 0 [1,1,0] ⟨[(3,(.v (.one (.row 1)))),(2,(.v (.one (.p (.str ([]:Str)))))),(0,(.v (.one (.ptr 0 0))))],[(.pack [(.obj 149 [(.p (.str s))])]),(.row .byte 5 ([]:Str))],53,none⟩) (by kernel_rfl) ?_
  simp only [zk]
  refine zG hI zi mixed [wP,wO] hX [0,3] (fun(g:Str × Str)=>match g with|(b,t)=>b.length+t.length≤s.length∧quoF s=(quoF t).map (fun p=>(b++p.1,p.2))) (fun(g:Str × Str)=>match g with|(b,t)=>⟨[(0,.v (.one (.ptr 0 0))),(3,.v (.one (.row 1)))],[.pack [.obj 149 [(.p (.str t))]],.row .byte 5 b],53,none⟩) (fun(g:Str × Str)=>match g with|(b,t)=>t.length) ([],s) (by kernel_rfl) (by kernel_rfl) ?_ ?_
  · exact⟨by simp,by simp⟩
  rintro⟨b,t⟩ ⟨h1,h2⟩ A hA
  refine zh (let y0:=I.cut (α:=UInt8) t 1 (I.len (α:=UInt8) t);let y1:=I.b2i (I.get (α:=UInt8) t 0 0);let y2:HO:=.pack [(.obj 149 [(.p (.str y0))])];let y3:=I.b2i (I.get (α:=UInt8) y0 0 0);.br (I.hid (α:=Bool) (I.seq t ([]:Str))) (.need (I.hid (α:=(Prop)) (Eq (I.seq t ([]:Str)) Bool.true)) (.fin (.pan (.ifc 145 .false [(.int .i64 14)])) [(.pack [(.obj 149 [(.p (.str t))])])])) (.need (I.hid (α:=(Prop)) (Eq (I.seq t ([]:Str)) Bool.false)) (.need (I.inb 0 (I.len (α:=UInt8) t)) (.need (I.cutb 1 (I.len (α:=UInt8) t) (I.len (α:=UInt8) t)) (.br (I.ieq y1 34) (.fin (.ret (.v (.one (.p (.str b))))) [y2]) (.br (I.ieq y1 92) (.br (I.hid (α:=Bool) (I.seq y0 ([]:Str))) (.need (I.hid (α:=(Prop)) (Eq (I.seq y0 ([]:Str)) Bool.true)) (.fin (.pan (.ifc 145 .false [(.int .i64 14)])) [y2])) (.need (I.hid (α:=(Prop)) (Eq (I.seq y0 ([]:Str)) Bool.false)) (.need (I.inb 0 (I.len (α:=UInt8) y0)) (.need (I.cutb 1 (I.len (α:=UInt8) y0) (I.len (α:=UInt8) y0)) (.need (I.inr Go.IntKind.u8 y3) (.need (I.few (I.add (I.len (α:=UInt8) b) (I.len (α:=UInt8) ([(I.i2b y3)]:Str))) 140737488355328) (.need (A ⟨[(0,(.v (.one (.ptr 0 0)))),(3,(.v (.one (.row 1))))],[(.pack [(.obj 149 [(.p (.str (I.cut (α:=UInt8) y0 1 (I.len (α:=UInt8) y0))))])]),(.row .byte 5 (I.app (α:=UInt8) b ([(I.i2b y3)]:Str)))],53,none⟩) .qed))))))) (.need (I.inr Go.IntKind.u8 y1) (.need (I.few (I.add (I.len (α:=UInt8) b) (I.len (α:=UInt8) ([(I.i2b y1)]:Str))) 140737488355328) (.need (A ⟨[(0,(.v (.one (.ptr 0 0)))),(3,(.v (.one (.row 1))))],[y2,(.row .byte 5 (I.app (α:=UInt8) b ([(I.i2b y1)]:Str)))],53,none⟩) .qed))))))))) (by kernel_rfl) ?_
  simp only [zk]
  subst hI
  simp only [nrmA,nrmB,nrlB,reduceCtorEq,HO.pack.injEq,HO.obj.injEq]
  have hb:=wQ (t.getD 0 0)
  rw [drop1]
  have hq: ∀ r:Str × Str,quoF s=some r→True:=fun _ _=>trivial
  cases t with
  | nil=>
    simp only [quoF,Option.map_none] at h2
    (repeat' (first|refine And.intro ?_ ?_|intro _))<;>first|omega|exact True.intro|exact False.elim ‹False›|skip
    all_goals first
      |omega
      |(simp_all;done)
  |cons x t=>
  cases t with
  | nil=>
    simp only [quoF] at h2
    have h34:((x.toNat:Int)=34)↔x=34:=vw x 34
    have h92:((x.toNat:Int)=92)↔x=92:=vw x 92
    simp only [List.getD_cons_zero,h34,h92,List.drop_succ_cons,List.drop_zero,List.length_cons,List.length_nil] at *
    have hgo: ¬ x=34→A ⟨[(0,.v (.one (.ptr 0 0))),(3,.v (.one (.row 1)))],[.pack [.obj 149 [(.p (.str ([])))]],.row .byte 5 ((b++[x]))],53,none⟩:=fun h=>hA (b++[x],[]) ⟨by simp;omega,by rw [h2,if_neg h];rfl⟩ (by simp)
    have hv:x=34→quoV s=b∧quoR s=[]:=fun h=>by unfold quoV quoR;rw [h2,if_pos h];simp
    clear hA
    (repeat' (first|refine And.intro ?_ ?_|intro _))<;>first|omega|exact True.intro|exact False.elim ‹False›|skip
    all_goals first
      |omega
      |exact(hv ‹_›).1.symm
      |exact(hv ‹_›).2.symm
      |exact hgo ‹_›
      |(simp_all;done)
  | cons y t=>
    simp only [quoF] at h2
    have h34:((x.toNat:Int)=34)↔x=34:=vw x 34
    have h92:((x.toNat:Int)=92)↔x=92:=vw x 92
    have hy:=wQ y
    have hyt:List.take (t.length+1 - Int.toNat 1) (List.drop (Int.toNat 1) (y::t))=t:=by simpa using drop1 (y::t)
    simp only [List.getD_cons_zero,h34,h92,List.drop_succ_cons,List.drop_zero,List.length_cons] at *
    have hgoY: ¬ x=34→x=92→A ⟨[(0,.v (.one (.ptr 0 0))),(3,.v (.one (.row 1)))],[.pack [.obj 149 [(.p (.str t))]],.row .byte 5 ((b++[y]))],53,none⟩:=fun h k=>hA (b++[y],t) ⟨by simp;omega,by rw [h2,if_neg h,if_pos k,Option.map_map];congr 1;funext p;simp⟩ (by simp;omega)
    have hgoX: ¬ x=34→¬ x=92→A ⟨[(0,.v (.one (.ptr 0 0))),(3,.v (.one (.row 1)))],[.pack [.obj 149 [(.p (.str ((y::t))))]],.row .byte 5 ((b++[x]))],53,none⟩:=fun h k=>hA (b++[x],y::t) ⟨by simp;omega,by rw [h2,if_neg h,if_neg k,Option.map_map];congr 1;funext p;simp⟩ (by simp)
    have hv:x=34→quoV s=b∧quoR s=y::t:=fun h=>by unfold quoV quoR;rw [h2,if_pos h];simp
    clear hA
    simp only [List.length_nil,Nat.zero_add]
    first|rw [hyt]|skip
    (repeat' (first|refine And.intro ?_ ?_|intro _))<;>first|omega|exact True.intro|exact False.elim ‹False›|skip
    all_goals first
      |omega
      |exact(hv ‹_›).1.symm
      |exact(hv ‹_›).2.symm
      |exact hgoX ‹_› ‹_›
      |exact hgoY ‹_› ‹_›
      |(simp_all;done)
theorem zmR (s:Str) (hneed:s.length≤1000000∧(quoF s).isSome=false):Spc Tryz.prog 160 [.v (.one (.ptr 0 0))] [.pack [.obj 149 [(.p (.str s))]]] (.pan (.ifc 145 false [(.int .i64 14)])) [.pack [.obj 149 [(.p (.str ([])))]]]:=by
  obtain⟨hl,hne⟩:=hneed
  refine spcG zi mixed Tryz.func160 (by kernel_rfl) { nr:=[3],keep:=some [0,2,3,4]} [wP,wO] (by kernel_rfl) ?_
  intro I X hI hX
  refine zh (.code 0 [1,1,0] ⟨[(3,(.v (.one (.row 1)))),(2,(.v (.one (.p (.str ([]:Str)))))),(0,(.v (.one (.ptr 0 0))))],[(.pack [(.obj 149 [(.p (.str s))])]),(.row .byte 5 ([]:Str))],53,none⟩) (by kernel_rfl) ?_
  simp only [zk]
  refine zG hI zi mixed [wP,wO] hX [0,3] (fun(g:Str × Str)=>match g with|(b,t)=>b.length+t.length≤s.length∧quoF s=(quoF t).map (fun p=>(b++p.1,p.2))) (fun(g:Str × Str)=>match g with|(b,t)=>⟨[(0,.v (.one (.ptr 0 0))),(3,.v (.one (.row 1)))],[.pack [.obj 149 [(.p (.str t))]],.row .byte 5 b],53,none⟩) (fun(g:Str × Str)=>match g with|(b,t)=>t.length) ([],s) (by kernel_rfl) (by kernel_rfl) ?_ ?_
  · exact⟨by simp,by simp⟩
  rintro⟨b,t⟩ ⟨h1,h2⟩ A hA
  refine zh (let y0:=I.cut (α:=UInt8) t 1 (I.len (α:=UInt8) t);let y1:=I.b2i (I.get (α:=UInt8) t 0 0);let y2:HO:=.pack [(.obj 149 [(.p (.str y0))])];let y3:=I.b2i (I.get (α:=UInt8) y0 0 0);.br (I.hid (α:=Bool) (I.seq t ([]:Str))) (.need (I.hid (α:=(Prop)) (Eq (I.seq t ([]:Str)) Bool.true)) (.fin (.pan (.ifc 145 .false [(.int .i64 14)])) [(.pack [(.obj 149 [(.p (.str t))])])])) (.need (I.hid (α:=(Prop)) (Eq (I.seq t ([]:Str)) Bool.false)) (.need (I.inb 0 (I.len (α:=UInt8) t)) (.need (I.cutb 1 (I.len (α:=UInt8) t) (I.len (α:=UInt8) t)) (.br (I.ieq y1 34) (.fin (.ret (.v (.one (.p (.str b))))) [y2]) (.br (I.ieq y1 92) (.br (I.hid (α:=Bool) (I.seq y0 ([]:Str))) (.need (I.hid (α:=(Prop)) (Eq (I.seq y0 ([]:Str)) Bool.true)) (.fin (.pan (.ifc 145 .false [(.int .i64 14)])) [y2])) (.need (I.hid (α:=(Prop)) (Eq (I.seq y0 ([]:Str)) Bool.false)) (.need (I.inb 0 (I.len (α:=UInt8) y0)) (.need (I.cutb 1 (I.len (α:=UInt8) y0) (I.len (α:=UInt8) y0)) (.need (I.inr Go.IntKind.u8 y3) (.need (I.few (I.add (I.len (α:=UInt8) b) (I.len (α:=UInt8) ([(I.i2b y3)]:Str))) 140737488355328) (.need (A ⟨[(0,(.v (.one (.ptr 0 0)))),(3,(.v (.one (.row 1))))],[(.pack [(.obj 149 [(.p (.str (I.cut (α:=UInt8) y0 1 (I.len (α:=UInt8) y0))))])]),(.row .byte 5 (I.app (α:=UInt8) b ([(I.i2b y3)]:Str)))],53,none⟩) .qed))))))) (.need (I.inr Go.IntKind.u8 y1) (.need (I.few (I.add (I.len (α:=UInt8) b) (I.len (α:=UInt8) ([(I.i2b y1)]:Str))) 140737488355328) (.need (A ⟨[(0,(.v (.one (.ptr 0 0)))),(3,(.v (.one (.row 1))))],[y2,(.row .byte 5 (I.app (α:=UInt8) b ([(I.i2b y1)]:Str)))],53,none⟩) .qed))))))))) (by kernel_rfl) ?_
  simp only [zk]
  subst hI
  simp only [nrmA,nrmB,nrlB,reduceCtorEq,HO.pack.injEq,HO.obj.injEq]
  have hb:=wQ (t.getD 0 0)
  rw [drop1]
  have hq: ∀ r:Str × Str,quoF s=some r→True:=fun _ _=>trivial
  cases t with
  | nil=>
    simp only [quoF,Option.map_none] at h2
    (repeat' (first|refine And.intro ?_ ?_|intro _))<;>first|omega|exact True.intro|exact False.elim ‹False›|skip
    all_goals first
      |omega
      |(simp_all;done)
  |cons x t=>
  cases t with
  | nil=>
    simp only [quoF] at h2
    have h34:((x.toNat:Int)=34)↔x=34:=vw x 34
    have h92:((x.toNat:Int)=92)↔x=92:=vw x 92
    simp only [List.getD_cons_zero,h34,h92,List.drop_succ_cons,List.drop_zero,List.length_cons,List.length_nil] at *
    have hgo: ¬ x=34→A ⟨[(0,.v (.one (.ptr 0 0))),(3,.v (.one (.row 1)))],[.pack [.obj 149 [(.p (.str ([])))]],.row .byte 5 ((b++[x]))],53,none⟩:=fun h=>hA (b++[x],[]) ⟨by simp;omega,by rw [h2,if_neg h];rfl⟩ (by simp)
    have hv:x=34→quoV s=b∧quoR s=[]:=fun h=>by unfold quoV quoR;rw [h2,if_pos h];simp
    clear hA
    (repeat' (first|refine And.intro ?_ ?_|intro _))<;>first|omega|exact True.intro|exact False.elim ‹False›|skip
    all_goals first
      |omega
      |exact(hv ‹_›).1.symm
      |exact(hv ‹_›).2.symm
      |exact hgo ‹_›
      |(simp_all;done)
  | cons y t=>
    simp only [quoF] at h2
    have h34:((x.toNat:Int)=34)↔x=34:=vw x 34
    have h92:((x.toNat:Int)=92)↔x=92:=vw x 92
    have hy:=wQ y
    have hyt:List.take (t.length+1 - Int.toNat 1) (List.drop (Int.toNat 1) (y::t))=t:=by simpa using drop1 (y::t)
    simp only [List.getD_cons_zero,h34,h92,List.drop_succ_cons,List.drop_zero,List.length_cons] at *
    have hgoY: ¬ x=34→x=92→A ⟨[(0,.v (.one (.ptr 0 0))),(3,.v (.one (.row 1)))],[.pack [.obj 149 [(.p (.str t))]],.row .byte 5 ((b++[y]))],53,none⟩:=fun h k=>hA (b++[y],t) ⟨by simp;omega,by rw [h2,if_neg h,if_pos k,Option.map_map];congr 1;funext p;simp⟩ (by simp;omega)
    have hgoX: ¬ x=34→¬ x=92→A ⟨[(0,.v (.one (.ptr 0 0))),(3,.v (.one (.row 1)))],[.pack [.obj 149 [(.p (.str ((y::t))))]],.row .byte 5 ((b++[x]))],53,none⟩:=fun h k=>hA (b++[x],y::t) ⟨by simp;omega,by rw [h2,if_neg h,if_neg k,Option.map_map];congr 1;funext p;simp⟩ (by simp)
    have hv:x=34→quoV s=b∧quoR s=y::t:=fun h=>by unfold quoV quoR;rw [h2,if_pos h];simp
    clear hA
    simp only [List.length_nil,Nat.zero_add]
    first|rw [hyt]|skip
    (repeat' (first|refine And.intro ?_ ?_|intro _))<;>first|omega|exact True.intro|exact False.elim ‹False›|skip
    all_goals first
      |omega
      |exact(hv ‹_›).1.symm
      |exact(hv ‹_›).2.symm
      |exact hgoX ‹_› ‹_›
      |exact hgoY ‹_› ‹_›
      |(simp_all;done)
def QA (I:Alg) (args:List D) (hp:List HO):Option CT:=match args,hp with
  |[.v (.one (.ptr 0 0))],[.pack [.obj 149 [(.p (.str s))]]]=>(fun(s:Str)=>(some (.br (I.hid ((quoF s).isSome)) (.one ⟨I.hid (s.length≤1000000∧(quoF s).isSome=true),(.ret (.v (.one (.p (.str (I.hid ((quoV s)))))))),[.pack [.obj 149 [(.p (.str (I.hid ((quoR s)))))]]]⟩) (.one ⟨I.hid (s.length≤1000000∧(quoF s).isSome=false),(.pan (.ifc 145 false [(.int .i64 14)])),[.pack [.obj 149 [(.p (.str (I.hid ([]))))]]]⟩)):Option CT)) s
  |_,_=>none
theorem zgY:zo Tryz.prog 160 (QA alg):=by
  intro args hp r h
  unfold QA at h
  split at h
  · cases h;exact⟨fun _ hn=>zmS _ hn,fun _ hn=>zmR _ hn⟩
  · cases h
def zgX:Know Tryz.prog:=⟨160,QA,zgY⟩
def zgW:Know Tryz.prog:=⟨160,fun I=>zq I (QA I),zf zgY⟩
theorem zmU (s:Str) (hneed:s.length≤1000000∧(parM s).1=0):Spc Tryz.prog 139 [.v (.one (.ptr 0 0))] [.pack [.obj 149 [(.p (.str s))]]] (.ret (.v (.agg [(.p (.str ((parM s).2.1.name))),(.p (.str ((parM s).2.1.value)))]))) [.pack [.obj 149 [(.p (.str ((parM s).2.2)))]]]:=by
  obtain⟨hl,hc⟩:=hneed
  generalize hr:parM s=r at hc
  obtain⟨c,⟨n,v⟩,z⟩:=r
  simp only at hc
  subst hc
  refine spcG zi mixed Tryz.func139 (by kernel_rfl) { keep:=some [0,2,3]} [uP,uO,wP,wO,Z9,Z8,X8,X7,zgX,zgW] (by kernel_rfl) ?_
  intro I X hI hX
  refine zh (let y2:=I.hid (α:=Str) (ite (Eq (zY (I.hid (α:=Str) (tokE s)) (UInt8.ofNat (Int.toNat (61:Int)))) Bool.true) (List.drop 1 (I.hid (α:=Str) (tokE s))) (I.hid (α:=Str) (tokE s)));let y0:=I.hid (α:=Str) (ite (Eq (zY y2 (UInt8.ofNat (Int.toNat (34:Int)))) Bool.true) (List.drop 1 y2) y2);let y1:=I.bnot (I.hid (α:=Bool) (zY (I.hid (α:=Str) (tokE s)) (UInt8.ofNat (Int.toNat (61:Int)))));let y3:HO:=.pack [(.obj 149 [(.p (.str (I.hid (α:=Str) (tokE y0))))])];let y4:=I.hid (α:=Str) (lowS (I.hid (α:=Str) (tokS s)));.br (I.hid (α:=Bool) (Decidable.decide (Eq (tokS s) ([]:Str)))) (.need (I.hid (α:=(Prop)) (And (LE.le (List.length s) 1000000) (Eq (tokS s) ([]:Str)))) (.fin (.pan (.ifc 145 .false [(.int .i64 5)])) [(.pack [(.obj 149 [(.p (.str (I.hid (α:=Str) (tokE s))))])])])) (.need (I.hid (α:=(Prop)) (And (LE.le (List.length s) 1000000) (Not (Eq (tokS s) ([]:Str))))) (.need (I.hid (α:=(Prop)) (LE.le (List.length (I.hid (α:=Str) (tokS s))) 1000000)) (.need (I.hid (α:=(Prop)) (And (LE.le (0:Int) (61:Int)) (LE.le (61:Int) (255:Int)))) (.br (I.hid (α:=Bool) y1) (.need (I.hid (α:=(Prop)) (Eq y1 Bool.true)) (.fin (.pan (.ifc 145 .false [(.int .i64 5)])) [(.pack [(.obj 149 [(.p (.str y2))])])])) (.need (I.hid (α:=(Prop)) (Eq y1 Bool.false)) (.need (I.hid (α:=(Prop)) (And (LE.le (0:Int) (34:Int)) (LE.le (34:Int) (255:Int)))) (.br (I.hid (α:=Bool) (zY y2 (UInt8.ofNat (Int.toNat (34:Int))))) (.br (I.hid (α:=Bool) (Option.isSome (quoF y0))) (.need (I.hid (α:=(Prop)) (And (LE.le (List.length y0) 1000000) (Eq (Option.isSome (quoF y0)) Bool.true))) (.fin (.ret (.v (.agg [(.p (.str y4)),(.p (.str (I.hid (α:=Str) (quoV y0))))]))) [(.pack [(.obj 149 [(.p (.str (I.hid (α:=Str) (quoR y0))))])])])) (.need (I.hid (α:=(Prop)) (And (LE.le (List.length y0) 1000000) (Eq (Option.isSome (quoF y0)) Bool.false))) (.fin (.pan (.ifc 145 .false [(.int .i64 14)])) [(.pack [(.obj 149 [(.p (.str (I.hid (α:=Str) ([]:Str))))])])]))) (.br (I.hid (α:=Bool) (Decidable.decide (Eq (tokS y0) ([]:Str)))) (.need (I.hid (α:=(Prop)) (And (LE.le (List.length y0) 1000000) (Eq (tokS y0) ([]:Str)))) (.fin (.pan (.ifc 145 .false [(.int .i64 5)])) [y3])) (.need (I.hid (α:=(Prop)) (And (LE.le (List.length y0) 1000000) (Not (Eq (tokS y0) ([]:Str))))) (.fin (.ret (.v (.agg [(.p (.str y4)),(.p (.str (I.hid (α:=Str) (tokS y0))))]))) [y3]))))))))))) (by kernel_rfl) ?_
  simp only [zk]
  subst hI
  simp only [nrmA,nrmB,nrlB,reduceCtorEq,HO.pack.injEq,HO.obj.injEq]
  unfold parM at hr
  have hl1:=xZ s
  have hl2:=uU s
  simp only [show UInt8.ofNat (Int.toNat 61)=61 from rfl,show UInt8.ofNat (Int.toNat 34)=34 from rfl] at *
  (repeat' (first|refine And.intro ?_ ?_|intro _))<;>first|omega|exact True.intro|exact False.elim ‹False›|skip
  all_goals first
    |omega
    |(simp_all;done)
    |(simp_all;omega)
theorem zmT (s:Str) (hneed:s.length≤1000000∧¬ (parM s).1=0):Spc Tryz.prog 139 [.v (.one (.ptr 0 0))] [.pack [.obj 149 [(.p (.str s))]]] (.pan (.ifc 145 false [(.int .i64 ((parM s).1))])) [.pack [.obj 149 [(.p (.str ((parM s).2.2)))]]]:=by
  obtain⟨hl,hc⟩:=hneed
  generalize hr:parM s=r at hc
  obtain⟨c,⟨n,v⟩,z⟩:=r
  simp only at hc
  refine spcG zi mixed Tryz.func139 (by kernel_rfl) { keep:=some [0,2,3]} [uP,uO,wP,wO,Z9,Z8,X8,X7,zgX,zgW] (by kernel_rfl) ?_
  intro I X hI hX
  refine zh (let y2:=I.hid (α:=Str) (ite (Eq (zY (I.hid (α:=Str) (tokE s)) (UInt8.ofNat (Int.toNat (61:Int)))) Bool.true) (List.drop 1 (I.hid (α:=Str) (tokE s))) (I.hid (α:=Str) (tokE s)));let y0:=I.hid (α:=Str) (ite (Eq (zY y2 (UInt8.ofNat (Int.toNat (34:Int)))) Bool.true) (List.drop 1 y2) y2);let y1:=I.bnot (I.hid (α:=Bool) (zY (I.hid (α:=Str) (tokE s)) (UInt8.ofNat (Int.toNat (61:Int)))));let y3:HO:=.pack [(.obj 149 [(.p (.str (I.hid (α:=Str) (tokE y0))))])];let y4:=I.hid (α:=Str) (lowS (I.hid (α:=Str) (tokS s)));.br (I.hid (α:=Bool) (Decidable.decide (Eq (tokS s) ([]:Str)))) (.need (I.hid (α:=(Prop)) (And (LE.le (List.length s) 1000000) (Eq (tokS s) ([]:Str)))) (.fin (.pan (.ifc 145 .false [(.int .i64 5)])) [(.pack [(.obj 149 [(.p (.str (I.hid (α:=Str) (tokE s))))])])])) (.need (I.hid (α:=(Prop)) (And (LE.le (List.length s) 1000000) (Not (Eq (tokS s) ([]:Str))))) (.need (I.hid (α:=(Prop)) (LE.le (List.length (I.hid (α:=Str) (tokS s))) 1000000)) (.need (I.hid (α:=(Prop)) (And (LE.le (0:Int) (61:Int)) (LE.le (61:Int) (255:Int)))) (.br (I.hid (α:=Bool) y1) (.need (I.hid (α:=(Prop)) (Eq y1 Bool.true)) (.fin (.pan (.ifc 145 .false [(.int .i64 5)])) [(.pack [(.obj 149 [(.p (.str y2))])])])) (.need (I.hid (α:=(Prop)) (Eq y1 Bool.false)) (.need (I.hid (α:=(Prop)) (And (LE.le (0:Int) (34:Int)) (LE.le (34:Int) (255:Int)))) (.br (I.hid (α:=Bool) (zY y2 (UInt8.ofNat (Int.toNat (34:Int))))) (.br (I.hid (α:=Bool) (Option.isSome (quoF y0))) (.need (I.hid (α:=(Prop)) (And (LE.le (List.length y0) 1000000) (Eq (Option.isSome (quoF y0)) Bool.true))) (.fin (.ret (.v (.agg [(.p (.str y4)),(.p (.str (I.hid (α:=Str) (quoV y0))))]))) [(.pack [(.obj 149 [(.p (.str (I.hid (α:=Str) (quoR y0))))])])])) (.need (I.hid (α:=(Prop)) (And (LE.le (List.length y0) 1000000) (Eq (Option.isSome (quoF y0)) Bool.false))) (.fin (.pan (.ifc 145 .false [(.int .i64 14)])) [(.pack [(.obj 149 [(.p (.str (I.hid (α:=Str) ([]:Str))))])])]))) (.br (I.hid (α:=Bool) (Decidable.decide (Eq (tokS y0) ([]:Str)))) (.need (I.hid (α:=(Prop)) (And (LE.le (List.length y0) 1000000) (Eq (tokS y0) ([]:Str)))) (.fin (.pan (.ifc 145 .false [(.int .i64 5)])) [y3])) (.need (I.hid (α:=(Prop)) (And (LE.le (List.length y0) 1000000) (Not (Eq (tokS y0) ([]:Str))))) (.fin (.ret (.v (.agg [(.p (.str y4)),(.p (.str (I.hid (α:=Str) (tokS y0))))]))) [y3]))))))))))) (by kernel_rfl) ?_
  simp only [zk]
  subst hI
  simp only [nrmA,nrmB,nrlB,reduceCtorEq,HO.pack.injEq,HO.obj.injEq]
  unfold parM at hr
  have hl1:=xZ s
  have hl2:=uU s
  simp only [show UInt8.ofNat (Int.toNat 61)=61 from rfl,show UInt8.ofNat (Int.toNat 34)=34 from rfl] at *
  (repeat' (first|refine And.intro ?_ ?_|intro _))<;>first|omega|exact True.intro|exact False.elim ‹False›|skip
  all_goals first
    |omega
    |(simp_all;done)
    |(simp_all;omega)
    |(by_cases hq:tokS (List.drop 1 (tokE s))=[]<;>simp_all;done)
def QD (I:Alg) (args:List D) (hp:List HO):Option CT:=match args,hp with
  |[.v (.one (.ptr 0 0))],[.pack [.obj 149 [(.p (.str s))]]]=>(fun(s:Str)=>(some (.br (I.hid (decide ((parM s).1=0))) (.one ⟨I.hid (s.length≤1000000∧(parM s).1=0),(.ret (.v (.agg [(.p (.str (I.hid ((parM s).2.1.name)))),(.p (.str (I.hid ((parM s).2.1.value))))]))),[.pack [.obj 149 [(.p (.str (I.hid ((parM s).2.2))))]]]⟩) (.one ⟨I.hid (s.length≤1000000∧¬ (parM s).1=0),(.pan (.ifc 145 false [(.int .i64 (I.hid ((parM s).1)))])),[.pack [.obj 149 [(.p (.str (I.hid ((parM s).2.2))))]]]⟩)):Option CT)) s
  |_,_=>none
theorem zgZ:zo Tryz.prog 139 (QD alg):=by
  intro args hp r h
  unfold QD at h
  split at h
  · cases h;exact⟨fun _ hn=>zmU _ hn,fun _ hn=>zmT _ hn⟩
  · cases h
def QC:Know Tryz.prog:=⟨139,QD,zgZ⟩
def QB:Know Tryz.prog:=⟨139,fun I=>zq I (QD I),zf zgZ⟩
end Go.Proofs.YtcclfkakcgnacaaGreatDoor
namespace Go.Proofs.YtcclfkakcgnacaaGreatDoor
open Go Go.Sep Go.Ab
set_option maxRecDepth 100000
theorem zm0 (a b n:Str):Spc Tryz.prog 162 [.v (.agg [(.p (.str a)),(.p (.str b))]),.v (.one (.ptr 0 0))] [.pack [.obj 9 [(.p (.str n))]]] (.ret (.v (.one (.p (.bool ((a == n))))))) [.pack [.obj 9 [(.p (.str n))]]]:=by
  refine spcG zi mixed Tryz.func162 (by kernel_rfl) { keep:=some [0,1,2,3]} [] (by kernel_rfl) ?_
  intro I X hI hX
  refine zh (.fin (.ret (.v (.one (.p (.bool (I.seq a n)))))) [(.pack [(.obj 9 [(.p (.str n))])])]) (by kernel_rfl) ?_
  simp only [zk]
  subst hI
  simp only [nrmA,nrmB,nrlB,reduceCtorEq,HO.pack.injEq,HO.obj.injEq]
  try trivial
def VY (I:Alg) (args:List D) (hp:List HO):Option CT:=match args,hp with
  |[.v (.agg [(.p (.str a)),(.p (.str b))]),.v (.one (.ptr 0 0))],[.pack [.obj 9 [(.p (.str n))]]]=>(fun(a b n:Str)=>(some (.one ⟨I.hid (True),(.ret (.v (.one (.p (.bool (I.hid ((a == n)))))))),[.pack [.obj 9 [(.p (.str n))]]]⟩):Option CT)) a b n
  |_,_=>none
theorem zd5:zo Tryz.prog 162 (VY alg):=by
  intro args hp r h
  unfold VY at h
  split at h
  · cases h;exact fun hn=>zm0 _ _ _
  · cases h
def QI:Know Tryz.prog:=⟨162,VY,zd5⟩
def zjr:Know Tryz.prog:=⟨162,fun I=>zq I (VY I),zf zd5⟩
def ixP (l:List Fld) (n:Str):Int:=if l.findIdx (fun f=>f.name == n)<l.length then(l.findIdx (fun f=>f.name == n):Int) else -1
set_option maxHeartbeats 1000000 in
theorem pIx_ (l:List Fld) (n:Str) (hneed:l.length≤1000000):Spc Tryz.prog 161 [.v (.one (.p (.list .fld l))),.v (.one (.fn 162 [.ptr 0 0]))] [.pack [.obj 9 [(.p (.str n))]]] (.ret (.v (.one (.p (.int .i64 ((ixP l n))))))) [.pack [.obj 9 [(.p (.str n))]]]:=by
  refine spcG zi mixed Tryz.func161 (by kernel_rfl) { keep:=some [0,1,4,5,7,8]} [QI] (by kernel_rfl) ?_
  intro I X hI hX
  refine zh (.code 0 [1,0,1,0] ⟨[(8,(.v (.one (.p (.int .i64 0))))),(7,(.v (.one (.p (.int .i64 (I.len (α:=Fld) l)))))),(4,(.v (.one (.p (.int .i64 0))))),(0,(.v (.one (.p (.list .fld l))))),(1,(.v (.one (.fn 162 [(.ptr 0 0)]))))],[(.pack [(.obj 9 [(.p (.str n))])])],19,none⟩) (by kernel_rfl) ?_
  simp only [zk]
  refine zG hI zi mixed [QI] hX [0,1,7,8] (fun(i:Nat)=>i≤l.length∧i≤l.findIdx (fun f=>f.name == n)) (fun(i:Nat)=>⟨[(0,.v (.one (.p (.list .fld l)))),(1,.v (.one (.fn 162 [.ptr 0 0]))),(7,.v (.one (.p (.int .i64 ((I.len (α:=Fld) l)))))),(8,.v (.one (.p (.int .i64 i))))],[.pack [.obj 9 [(.p (.str n))]]],19,none⟩) (fun(i:Nat)=>l.length - i) 0 (by kernel_rfl) (by kernel_rfl) ?_ ?_
  · exact⟨Nat.zero_le _,Nat.zero_le _⟩
  rintro i ⟨h1,h2⟩ A hA
  refine zh (let y0:HO:=.pack [(.obj 9 [(.p (.str n))])];let y1:=I.inb (Nat.cast i) (I.len (α:=Fld) l);.br (I.ilt (Nat.cast i) (I.len (α:=Fld) l)) (.need y1 (.need y1 (.need (I.hid (α:=(Prop)) True) (.br (I.hid (α:=Bool) (BEq.beq (Fld.name (I.get (α:=Fld) l (Fld.mk ([]:Str) ([]:Str)) (Nat.cast i))) n)) (.fin (.ret (.v (.one (.p (.int .i64 (Nat.cast i)))))) [y0]) (.need (I.inr Go.IntKind.i64 (I.add (Nat.cast i) 1)) (.need (A ⟨[(0,(.v (.one (.p (.list .fld l))))),(1,(.v (.one (.fn 162 [(.ptr 0 0)])))),(7,(.v (.one (.p (.int .i64 (I.len (α:=Fld) l)))))),(8,(.v (.one (.p (.int .i64 (I.add (Nat.cast i) 1))))))],[y0],19,none⟩) .qed)))))) (.fin (.ret (.v (.one (.p (.int .i64 (Neg.neg (1:Int))))))) [y0])) (by kernel_rfl) ?_
  simp only [zk]
  subst hI
  simp only [nrmA,nrmB,nrlB,reduceCtorEq,HO.pack.injEq,HO.obj.injEq]
  have hfl:l.findIdx (fun f=>f.name == n)≤l.length:=List.findIdx_le_length
  have hyes:i<l.length→(l.getD i ⟨[],[]⟩).name=n→ixP l n=i:=fun h hid=>by
    have h0:l.findIdx (fun f=>f.name == n)≤i:=by
      refine Nat.le_of_not_lt fun hlt=> ?_
      have:=List.not_of_lt_findIdx hlt
      rw [List.getD_eq_getElem?_getD,List.getElem?_eq_getElem h] at hid
      simp only [Option.getD_some] at hid
      rw [hid] at this;simp at this
    unfold ixP
    rw [if_pos (by omega)];omega
  have hno:i<l.length→¬ (l.getD i ⟨[],[]⟩).name=n→i+1≤l.findIdx (fun f=>f.name == n):=fun h hid=>by
    refine Nat.lt_of_le_of_ne h2 fun e=>hid ?_
    have hlt:l.findIdx (fun f=>f.name == n)<l.length:=by omega
    have:=List.findIdx_getElem (xs:=l) (p:=fun f=>f.name == n) (w:=hlt)
    have h9:l.getD i ⟨[],[]⟩=l[l.findIdx (fun f=>f.name == n)]:=by simp [e,List.getD_eq_getElem?_getD,hlt]
    rw [h9];simpa using this
  have hend: ¬ i<l.length→ixP l n= -1:=fun h=>by unfold ixP;rw [if_neg (by omega)]
  generalize l.getD i ⟨[],[]⟩=x at *
  (repeat' (first|refine And.intro ?_ ?_|intro _))<;>first|omega|exact True.intro|exact False.elim ‹False›|skip
  all_goals first
    |omega
    |(exact(hyes (by omega) ‹_›).symm)
    |(exact hA (i+1) ⟨by omega,hno (by omega) ‹_›⟩ (by omega))
    |(exact(hend (by omega)).symm)
def zd4 (I:Alg) (args:List D) (hp:List HO):Option CT:=match args,hp with
  |[.v (.one (.p (.list .fld l))),.v (.one (.fn 162 [.ptr 0 0]))],[.pack [.obj 9 [(.p (.str n))]]]=>(fun(l:List Fld) (n:Str)=>(some (.one ⟨I.hid (l.length≤1000000),(.ret (.v (.one (.p (.int .i64 (I.hid ((ixP l n)))))))),[.pack [.obj 9 [(.p (.str n))]]]⟩):Option CT)) l n
  |_,_=>none
theorem zke:zo Tryz.prog 161 (zd4 alg):=by
  intro args hp r h
  unfold zd4 at h
  split at h
  · cases h;exact fun hn=>pIx_ _ _ hn
  · cases h
def zmZ:Know Tryz.prog:=⟨161,zd4,zke⟩
def zmY:Know Tryz.prog:=⟨161,fun I=>zq I (zd4 I),zf zke⟩
theorem zne (l:List Fld) (n:Str): -1≤ixP l n∧ixP l n<l.length:=by unfold ixP;split<;>omega
theorem zlN (l:List Fld) (n:Str):getP l n=if 0≤ixP l n then((l.getD (ixP l n).toNat ⟨[],[]⟩).value,true) else([],false):=by
  unfold getP ixP
  rw [List.find?_eq_getElem?_findIdx]
  by_cases h:l.findIdx (fun f=>f.name == n)<l.length
  · rw [if_pos h,if_pos (by omega),List.getElem?_eq_getElem h]
    simp [List.getD_eq_getElem?_getD,h]
  · rw [if_neg h,if_neg (by omega),List.getElem?_eq_none (by omega)]
theorem zn3 (w:Str) (l:List Fld) (n:Str) (hneed:l.length≤1000000):Spc Tryz.prog 140 [.v (.agg [(.p (.str w)),(.p (.list .fld l))]),.v (.one (.p (.str n)))] [] (.ret (.tup [(.one (.p (.str ((getP l n).1)))),(.one (.p (.bool ((getP l n).2))))])) []:=by
  rw [zlN]
  have hx:=zne l n
  refine spcG zi mixed Tryz.func140 (by kernel_rfl) { keep:=some [0,1,2,3,4,5,6]} [QI,zjr,zmZ,zmY] (by kernel_rfl) ?_
  intro I X hI hX
  refine zh (let y0:=I.inb (I.hid (α:=Int) (ixP l n)) (I.len (α:=Fld) l);.need (I.hid (α:=(Prop)) (LE.le (List.length l) 1000000)) (.br (I.ilt (I.hid (α:=Int) (ixP l n)) 0) (.fin (.ret (.tup [(.one (.p (.str ([]:Str)))),(.one (.p (.bool Bool.false)))])) []) (.need y0 (.need y0 (.fin (.ret (.tup [(.one (.p (.str (Fld.value (I.get (α:=Fld) l (Fld.mk ([]:Str) ([]:Str)) (I.hid (α:=Int) (ixP l n))))))),(.one (.p (.bool Bool.true)))])) []))))) (by kernel_rfl) ?_
  simp only [zk]
  subst hI
  simp only [nrmA,nrmB]
  (repeat' (first|refine And.intro ?_ ?_|intro _))<;>first|omega|exact True.intro|exact False.elim ‹False›|skip
  all_goals first
    |omega
    |(rw [if_pos (by omega)])
    |(rw [if_neg (by omega)])
def QH (I:Alg) (args:List D) (hp:List HO):Option CT:=match args,hp with
  |[.v (.agg [(.p (.str w)),(.p (.list .fld l))]),.v (.one (.p (.str n)))],[]=>(fun(w:Str) (l:List Fld) (n:Str)=>(some (.one ⟨I.hid (l.length≤1000000),(.ret (.tup [(.one (.p (.str (I.hid ((getP l n).1))))),(.one (.p (.bool (I.hid ((getP l n).2)))))])),[]⟩):Option CT)) w l n
  |_,_=>none
theorem zg1:zo Tryz.prog 140 (QH alg):=by
  intro args hp r h
  unfold QH at h
  split at h
  · cases h;exact fun hn=>zn3 _ _ _ hn
  · cases h
def QG:Know Tryz.prog:=⟨140,QH,zg1⟩
def QF:Know Tryz.prog:=⟨140,fun I=>zq I (QH I),zf zg1⟩
def cfgM:Cfg:= { sl:=[⟨115,1,.fld,some 135⟩]}
set_option maxHeartbeats 4000000 in
theorem zmX (s:Str) (hneed:s.length≤1000000∧(xE s).1=0):Spc Tryz.prog 113 [.v (.one (.ptr 0 0))] [.pack [.obj 149 [(.p (.str s))]]] (.ret (.v (.agg [(.p (.str ((xE s).2.1.word))),(.p (.list .fld ((xE s).2.1.params)))]))) [.pack [.obj 149 [(.p (.str ((xE s).2.2)))]]]:=by
  obtain⟨hl,hc⟩:=hneed
  generalize hr:xE s=r at hc
  obtain⟨c,⟨w,ps⟩,z⟩:=r
  simp only at hc
  subst hc
  refine spcG zi mixed Tryz.func113 (by kernel_rfl) { cfgM with lend:=[140],keep:=some [0,2,3,4,6]} [uP,uO,wP,wO,Yb,Ya,Z9,Z8,X8,X7,QC,QB,QG,QF] (by kernel_rfl) ?_
  intro I X hI hX
  refine zh (let y11:=I.hid (α:=Str) (tokE (I.hid (α:=Str) (skS s)));let y0:=I.hid (α:=Str) (ite (Eq (zY y11 (UInt8.ofNat (Int.toNat (47:Int)))) Bool.true) (List.drop 1 y11) y11);let y12:=I.hid (α:=Str) (tokS (I.hid (α:=Str) (skS s)));let y1:=I.few (I.add (I.len (α:=UInt8) (I.hid (α:=Str) (lowS y12))) (I.len (α:=UInt8) (I.app (α:=UInt8) ([47]:Str) (I.hid (α:=Str) (lowS (I.hid (α:=Str) (tokS y0))))))) 1000000000;let y2:HO:=.obj 115 [(.p (.str (I.app (α:=UInt8) (I.hid (α:=Str) (lowS y12)) (I.app (α:=UInt8) ([47]:Str) (I.hid (α:=Str) (lowS (I.hid (α:=Str) (tokS y0)))))))),.nilS];let y3:=I.few (I.add (I.len (α:=UInt8) ([47]:Str)) (I.len (α:=UInt8) (I.hid (α:=Str) (lowS (I.hid (α:=Str) (tokS y0)))))) 1000000000;let y4:HO:=.pack [(.obj 149 [(.p (.str (I.hid (α:=Str) (skS (I.hid (α:=Str) (tokE y0))))))])];let y5:=I.hid (α:=(Prop)) (LE.le (List.length (I.hid (α:=Str) (tokS y0))) 1000000);let y6:HO:=.obj 115 [(.p (.str ([]:Str))),.nilS];let y7:=I.hid (α:=(Prop)) (And (LE.le (List.length y0) 1000000) (Not (Eq (tokS y0) ([]:Str))));let y8:=I.hid (α:=(Prop)) (And (LE.le (List.length y0) 1000000) (Eq (tokS y0) ([]:Str)));let y9:=I.hid (α:=Bool) (Decidable.decide (Eq (tokS y0) ([]:Str)));let y10:HO:=.pack [(.obj 149 [(.p (.str (I.hid (α:=Str) (tokE y0))))])];.need (I.hid (α:=(Prop)) True) (.br (I.hid (α:=Bool) (Decidable.decide (Eq (tokS (I.hid (α:=Str) (skS s))) ([]:Str)))) (.need (I.hid (α:=(Prop)) (And (LE.le (List.length (I.hid (α:=Str) (skS s))) 1000000) (Eq (tokS (I.hid (α:=Str) (skS s))) ([]:Str)))) (.fin (.pan (.ifc 145 .false [(.int .i64 5)])) [(.pack [(.obj 149 [(.p (.str y11))])])])) (.need (I.hid (α:=(Prop)) (And (LE.le (List.length (I.hid (α:=Str) (skS s))) 1000000) (Not (Eq (tokS (I.hid (α:=Str) (skS s))) ([]:Str))))) (.need (I.hid (α:=(Prop)) (LE.le (List.length y12) 1000000)) (.need (I.hid (α:=(Prop)) (And (LE.le (0:Int) (47:Int)) (LE.le (47:Int) (255:Int)))) (.br (I.hid (α:=Bool) (zY y11 (UInt8.ofNat (Int.toNat (47:Int))))) (.both (.br y9 (.need y8 (.fin (.pan (.ifc 145 .false [(.int .i64 5)])) [y10])) (.need y7 (.need y5 (.need y3 (.need y1 (.need (I.hid (α:=(Prop)) True) (.code 0 [1,1,1,1,0,1,0] ⟨[(3,(.v (.one (.ptr 2 0)))),(2,(.v (.one (.ptr 1 0)))),(0,(.v (.one (.ptr 0 0))))],[y4,y6,y2],60,none⟩))))))) (.br y9 (.need y8 (.fin (.pan (.ifc 145 .false [(.int .i64 5)])) [y10])) (.need y7 (.both (.need y5 (.need y3 (.need y1 (.need (I.hid (α:=(Prop)) True) (.code 0 [1,1,1,1,0,1,0] ⟨[(3,(.v (.one (.ptr 2 0)))),(2,(.v (.one (.ptr 1 0)))),(0,(.v (.one (.ptr 0 0))))],[y4,y6,y2],60,none⟩))))) (.need y5 (.need y3 (.need y1 (.need (I.hid (α:=(Prop)) True) (.code 0 [1,1,1,1,0,1,0] ⟨[(3,(.v (.one (.ptr 2 0)))),(2,(.v (.one (.ptr 1 0)))),(0,(.v (.one (.ptr 0 0))))],[y4,y6,y2],60,none⟩))))))))) (.need (I.hid (α:=(Prop)) True) (.code 0 [1,1,1,1,0,1,0] ⟨[(3,(.v (.one (.ptr 2 0)))),(2,(.v (.one (.ptr 1 0)))),(0,(.v (.one (.ptr 0 0))))],[(.pack [(.obj 149 [(.p (.str (I.hid (α:=Str) (skS y0))))])]),y6,(.obj 115 [(.p (.str (I.hid (α:=Str) (lowS y12)))),.nilS])],60,none⟩)))))))) (by kernel_rfl) ?_
  simp only [zk]
  have hh: ∀ {α:Type} (x:α),I.hid x=x:=by subst hI;intros;rfl
  have key : ∀ (w0 t0:Str),t0.length≤1000000→((medL (t0.length+1) t0 []).1,(⟨w0,(medL (t0.length+1) t0 []).2.1⟩:Med),(medL (t0.length+1) t0 []).2.2)=(0,⟨w,ps⟩,z)→Ok Tryz.prog X (fun o h=>o=AOut.ret (D.v (V0.agg [C.p (P.str w),C.p (P.list U.fld ps)]))∧h=[HO.pack [HO.obj 149 [C.p (P.str z)]]]) (leaf I tab { cfgM with lend:=[140],keep:=some [0,2,3,4,6]} [⟨yH Tryz.f113,finK I tab { cfgM with lend:=[140],keep:=some [0,2,3,4,6]} 1 Tryz.f113⟩] 0 [1,1,1,1,0,1,0] ⟨[(3,.v (.one (.ptr 2 0))),(2,.v (.one (.ptr 1 0))),(0,.v (.one (.ptr 0 0)))],[.pack [.obj 149 [(.p (.str t0))]],.obj 115 [(.p (.str ([]))),.nilS],.obj 115 [(.p (.str w0)),.nilS]],60,none⟩):=by
    intro w0 t0 ht0 hm
    simp only [Prod.mk.injEq,Med.mk.injEq] at hm
    obtain⟨hm1,⟨rfl,hm2⟩,hm3⟩:=hm
    refine zG hI zi mixed [uP,uO,wP,wO,Yb,Ya,Z9,Z8,X8,X7,QC,QB,QG,QF] hX [0,2,3] (fun(g:Str × List Fld)=>match g with|(t,l)=>t.length≤1000000∧l.length≤8∧∃ n,t.length<n∧medL n t l=(0,ps,z)) (fun(g:Str × List Fld)=>match g with|(t,l)=>⟨[(0,.v (.one (.ptr 0 0))),(2,.v (.one (.ptr 1 0))),(3,.v (.one (.ptr 2 0)))],[.pack [.obj 149 [(.p (.str t))]],.pack [.obj 115 [(.p (.str ([]))),(.row 1)],.row .fld 135 ([])],.pack [.obj 115 [(.p (.str w0)),(.row 1)],.row .fld 135 l]],60,none⟩) (fun(g:Str × List Fld)=>match g with|(t,l)=>t.length) (t0,[]) (by kernel_rfl) (by kernel_rfl) ?_ ?_
    · exact⟨ht0,by simp,t0.length+1,by omega,by rw [← hm1,← hm2,← hm3]⟩
    rintro⟨t,l⟩ ⟨ht,hl8,n,hn,hm⟩ A hA
    clear hm1 hm2 hm3 hr
    simp only at hA
    refine zh (let y0:=I.hid (α:=Str) (ite (Eq (zY t (UInt8.ofNat (Int.toNat (59:Int)))) Bool.true) (List.drop 1 t) t);let y1:=I.hid (α:=Str) (Fld.name (Prod.fst (Prod.snd (parM (I.hid (α:=Str) (skS y0))))));let y2:=I.hid (α:=Str) (Prod.snd (Prod.snd (parM (I.hid (α:=Str) (skS y0)))));let y3:=I.hid (α:=Str) (Fld.value (Prod.fst (Prod.snd (parM (I.hid (α:=Str) (skS y0))))));let y4:=I.hid (α:=Bool) (Prod.snd (getP l y1));let y5:HO:=.pack [(.obj 149 [(.p (.str y2))])];let y6:HO:=.pack [(.obj 149 [(.p (.str y0))])];.need (I.hid (α:=(Prop)) (And (LE.le (0:Int) (59:Int)) (LE.le (59:Int) (255:Int)))) (.br (I.hid (α:=Bool) (zY t (UInt8.ofNat (Int.toNat (59:Int))))) (.need (I.hid (α:=(Prop)) True) (.br (I.hid (α:=Bool) (Decidable.decide (Eq (Prod.fst (parM (I.hid (α:=Str) (skS y0)))) (0:Int)))) (.need (I.hid (α:=(Prop)) (And (LE.le (List.length (I.hid (α:=Str) (skS y0))) 1000000) (Eq (Prod.fst (parM (I.hid (α:=Str) (skS y0)))) (0:Int)))) (.need (I.hid (α:=(Prop)) (LE.le (List.length l) 1000000)) (.br (I.hid (α:=Bool) y4) (.need (I.hid (α:=(Prop)) (Eq y4 Bool.true)) (.fin (.pan (.ifc 145 .false [(.int .i64 9)])) [y5])) (.need (I.hid (α:=(Prop)) (Eq y4 Bool.false)) (.br (I.hid (α:=Bool) (I.ieq (I.len (α:=Fld) l) 8)) (.need (I.hid (α:=(Prop)) (Eq (I.ieq (I.len (α:=Fld) l) 8) Bool.true)) (.fin (.pan (.ifc 145 .false [(.int .i64 8)])) [y5])) (.need (I.hid (α:=(Prop)) (Eq (I.ieq (I.len (α:=Fld) l) 8) Bool.false)) (.need (I.few (I.add (I.len (α:=Fld) l) (I.len (α:=Fld) ([(Fld.mk y1 y3)]:List Fld))) 100000000) (.need (I.hid (α:=(Prop)) True) (.need (A ⟨[(0,(.v (.one (.ptr 0 0)))),(2,(.v (.one (.ptr 1 0)))),(3,(.v (.one (.ptr 2 0))))],[(.pack [(.obj 149 [(.p (.str (I.hid (α:=Str) (skS y2))))])]),(.pack [(.obj 115 [(.p (.str ([]:Str))),(.row 1)]),(.row .fld 135 ([]:List Fld))]),(.pack [(.obj 115 [(.p (.str w0)),(.row 1)]),(.row .fld 135 (I.app (α:=Fld) l ([(Fld.mk y1 y3)]:List Fld)))])],60,none⟩) .qed))))))))) (.need (I.hid (α:=(Prop)) (And (LE.le (List.length (I.hid (α:=Str) (skS y0))) 1000000) (Not (Eq (Prod.fst (parM (I.hid (α:=Str) (skS y0)))) (0:Int))))) (.fin (.pan (.ifc 145 .false [(.int .i64 (I.hid (α:=Int) (Prod.fst (parM (I.hid (α:=Str) (skS y0))))))])) [y5])))) (.br (I.hid (α:=Bool) (I.bnot (I.seq y0 ([]:Str)))) (.need (I.hid (α:=(Prop)) (Eq (I.bnot (I.seq y0 ([]:Str))) Bool.true)) (.fin (.pan (.ifc 145 .false [(.int .i64 5)])) [y6])) (.need (I.hid (α:=(Prop)) (Eq (I.bnot (I.seq y0 ([]:Str))) Bool.false)) (.fin (.ret (.v (.agg [(.p (.str w0)),(.p (.list .fld l))]))) [y6]))))) (by kernel_rfl) ?_
    simp only [zk]
    cases n with
    |zero=>omega
    |succ n=>
    simp only [medL] at hm
    have hgo:=hA (skS (parM (skS (t.drop 1))).2.2,l++[(parM (skS (t.drop 1))).2.1])
    have hpl:=zd2 (skS (t.drop 1))
    have hpc:=zbf (skS (t.drop 1))
    have hsl:=vW (t.drop 1)
    have hsr:=vW (parM (skS (t.drop 1))).2.2
    rw [List.length_drop] at hsl
    clear hA
    simp only [hh,show UInt8.ofNat (Int.toNat 59)=59 from rfl]
    subst hI
    by_cases h59:zY t 59=true
    · have hpos:=Ry h59
      simp only [h59,if_true] at hm ⊢
      have hgo2:(parM (skS (t.drop 1))).1=0→(getP l (parM (skS (t.drop 1))).2.1.name).2=false→¬ l.length=8→_:=fun h1 h2 h3=>hgo ⟨by simp only;omega,by simp only [List.length_append,List.length_cons,List.length_nil];omega,n,by simp only;omega,by
        rw [if_neg (fun h=>h h1),if_neg (by rw [h2];exact Bool.false_ne_true),if_neg h3] at hm;exact hm⟩ (by simp only;omega)
      clear hgo
      simp only at hgo2
      generalize parM (skS (t.drop 1))=p at *
      obtain⟨pc,⟨pn,pv⟩,pr⟩:=p
      simp only at hgo2 hm hpl hpc hsl hsr ⊢
      simp only [nrmA,nrmB,nrlB,reduceCtorEq,List.length_cons,List.length_nil]
      (repeat' (first|refine And.intro ?_ ?_|intro _))<;>first|omega|exact True.intro|exact False.elim ‹False›|skip
      all_goals first
        |omega
        |assumption
        | (by_cases hpz:pc=0
           · exact hpz
           · rw [if_pos hpz] at hm;simp only [Prod.mk.injEq] at hm;exact hm.1)
        |exact hgo2 ‹_› ‹_› (by omega)
        |(exfalso;rw [if_neg (fun h=>h ‹pc=0›),if_neg (by rw [‹(getP l pn).2=false›];exact Bool.false_ne_true),if_pos (by omega)] at hm;simp_all;done)
        |(rw [if_neg (fun h=>h ‹pc=0›),if_neg (by rw [‹(getP l pn).2=false›];exact Bool.false_ne_true),if_pos (by omega)] at hm;simp_all;done)
        |(exfalso;simp_all;done)
        |(simp_all;done)
    · have h59:zY t 59=false:=by simpa using h59
      simp only [h59,Bool.false_eq_true,if_false] at hm ⊢
      simp only [nrmA,nrmB,nrlB,reduceCtorEq,List.length_cons,List.length_nil]
      (repeat' (first|refine And.intro ?_ ?_|intro _))<;>first|omega|exact True.intro|exact False.elim ‹False›|skip
      all_goals first
        |omega
        |(exfalso;simp_all;done)
        |(simp_all;done)
        |(by_cases hte:t=[]<;>simp_all;done)
  have hl1:=vW s
  have hl2:=uU (skS s)
  have hl3:=xZ (skS s)
  simp only [hh,show UInt8.ofNat (Int.toNat 47)=47 from rfl,decide_eq_true_eq,decide_eq_false_iff_not]
  unfold xE medA at hr
  generalize skS s=t at *
  have hl4:=xZ ((tokE t).drop 1)
  have hl5:=uU ((tokE t).drop 1)
  rw [List.length_drop] at hl4 hl5
  (repeat' (first|refine And.intro ?_ ?_|intro _))
  all_goals try first|trivial|assumption|omega|(exfalso;simp_all;done)|(subst hI;(try(simp only [nrmA,nrmB,nrlB,reduceCtorEq,List.length_cons,List.length_nil,wC]))<;>first|omega|(simp_all [wC];done)|(simp_all [wC];omega))
  all_goals(have happ: ∀ a b:Str,I.app (α:=UInt8) a b=a++b:=by subst hI;intros;rfl)
  all_goals try simp only [happ]
  all_goals first
    | (rename_i q1 q2 q3
       rw [if_neg q1,if_pos q2] at hr
       simp only [q2,if_true] at q3 ⊢
       rw [if_neg q3] at hr
       have hsk:=vW (tokE ((tokE t).drop 1))
       exact key _ _ (by omega) hr)
    | (rename_i q1 q2
       rw [if_neg q1,if_neg (by simp [q2])] at hr
       simp only [q2,Bool.false_eq_true,if_false] at ⊢
       have hsk:=vW (tokE t)
       exact key _ _ (by omega) hr)
set_option maxHeartbeats 4000000 in
theorem zmW (s:Str) (hneed:s.length≤1000000∧¬ (xE s).1=0):Spc Tryz.prog 113 [.v (.one (.ptr 0 0))] [.pack [.obj 149 [(.p (.str s))]]] (.pan (.ifc 145 false [(.int .i64 ((xE s).1))])) [.pack [.obj 149 [(.p (.str ((xE s).2.2)))]]]:=by
  obtain⟨hl,hc⟩:=hneed
  generalize hr:xE s=r at hc
  obtain⟨c,⟨w,ps⟩,z⟩:=r
  simp only at hc
  refine spcG zi mixed Tryz.func113 (by kernel_rfl) { cfgM with lend:=[140],keep:=some [0,2,3,4,6]} [uP,uO,wP,wO,Yb,Ya,Z9,Z8,X8,X7,QC,QB,QG,QF] (by kernel_rfl) ?_
  intro I X hI hX
  refine zh (let y11:=I.hid (α:=Str) (tokE (I.hid (α:=Str) (skS s)));let y0:=I.hid (α:=Str) (ite (Eq (zY y11 (UInt8.ofNat (Int.toNat (47:Int)))) Bool.true) (List.drop 1 y11) y11);let y12:=I.hid (α:=Str) (tokS (I.hid (α:=Str) (skS s)));let y1:=I.few (I.add (I.len (α:=UInt8) (I.hid (α:=Str) (lowS y12))) (I.len (α:=UInt8) (I.app (α:=UInt8) ([47]:Str) (I.hid (α:=Str) (lowS (I.hid (α:=Str) (tokS y0))))))) 1000000000;let y2:HO:=.obj 115 [(.p (.str (I.app (α:=UInt8) (I.hid (α:=Str) (lowS y12)) (I.app (α:=UInt8) ([47]:Str) (I.hid (α:=Str) (lowS (I.hid (α:=Str) (tokS y0)))))))),.nilS];let y3:=I.few (I.add (I.len (α:=UInt8) ([47]:Str)) (I.len (α:=UInt8) (I.hid (α:=Str) (lowS (I.hid (α:=Str) (tokS y0)))))) 1000000000;let y4:HO:=.pack [(.obj 149 [(.p (.str (I.hid (α:=Str) (skS (I.hid (α:=Str) (tokE y0))))))])];let y5:=I.hid (α:=(Prop)) (LE.le (List.length (I.hid (α:=Str) (tokS y0))) 1000000);let y6:HO:=.obj 115 [(.p (.str ([]:Str))),.nilS];let y7:=I.hid (α:=(Prop)) (And (LE.le (List.length y0) 1000000) (Not (Eq (tokS y0) ([]:Str))));let y8:=I.hid (α:=(Prop)) (And (LE.le (List.length y0) 1000000) (Eq (tokS y0) ([]:Str)));let y9:=I.hid (α:=Bool) (Decidable.decide (Eq (tokS y0) ([]:Str)));let y10:HO:=.pack [(.obj 149 [(.p (.str (I.hid (α:=Str) (tokE y0))))])];.need (I.hid (α:=(Prop)) True) (.br (I.hid (α:=Bool) (Decidable.decide (Eq (tokS (I.hid (α:=Str) (skS s))) ([]:Str)))) (.need (I.hid (α:=(Prop)) (And (LE.le (List.length (I.hid (α:=Str) (skS s))) 1000000) (Eq (tokS (I.hid (α:=Str) (skS s))) ([]:Str)))) (.fin (.pan (.ifc 145 .false [(.int .i64 5)])) [(.pack [(.obj 149 [(.p (.str y11))])])])) (.need (I.hid (α:=(Prop)) (And (LE.le (List.length (I.hid (α:=Str) (skS s))) 1000000) (Not (Eq (tokS (I.hid (α:=Str) (skS s))) ([]:Str))))) (.need (I.hid (α:=(Prop)) (LE.le (List.length y12) 1000000)) (.need (I.hid (α:=(Prop)) (And (LE.le (0:Int) (47:Int)) (LE.le (47:Int) (255:Int)))) (.br (I.hid (α:=Bool) (zY y11 (UInt8.ofNat (Int.toNat (47:Int))))) (.both (.br y9 (.need y8 (.fin (.pan (.ifc 145 .false [(.int .i64 5)])) [y10])) (.need y7 (.need y5 (.need y3 (.need y1 (.need (I.hid (α:=(Prop)) True) (.code 0 [1,1,1,1,0,1,0] ⟨[(3,(.v (.one (.ptr 2 0)))),(2,(.v (.one (.ptr 1 0)))),(0,(.v (.one (.ptr 0 0))))],[y4,y6,y2],60,none⟩))))))) (.br y9 (.need y8 (.fin (.pan (.ifc 145 .false [(.int .i64 5)])) [y10])) (.need y7 (.both (.need y5 (.need y3 (.need y1 (.need (I.hid (α:=(Prop)) True) (.code 0 [1,1,1,1,0,1,0] ⟨[(3,(.v (.one (.ptr 2 0)))),(2,(.v (.one (.ptr 1 0)))),(0,(.v (.one (.ptr 0 0))))],[y4,y6,y2],60,none⟩))))) (.need y5 (.need y3 (.need y1 (.need (I.hid (α:=(Prop)) True) (.code 0 [1,1,1,1,0,1,0] ⟨[(3,(.v (.one (.ptr 2 0)))),(2,(.v (.one (.ptr 1 0)))),(0,(.v (.one (.ptr 0 0))))],[y4,y6,y2],60,none⟩))))))))) (.need (I.hid (α:=(Prop)) True) (.code 0 [1,1,1,1,0,1,0] ⟨[(3,(.v (.one (.ptr 2 0)))),(2,(.v (.one (.ptr 1 0)))),(0,(.v (.one (.ptr 0 0))))],[(.pack [(.obj 149 [(.p (.str (I.hid (α:=Str) (skS y0))))])]),y6,(.obj 115 [(.p (.str (I.hid (α:=Str) (lowS y12)))),.nilS])],60,none⟩)))))))) (by kernel_rfl) ?_
  simp only [zk]
  have hh: ∀ {α:Type} (x:α),I.hid x=x:=by subst hI;intros;rfl
  have key : ∀ (w0 t0:Str),t0.length≤1000000→((medL (t0.length+1) t0 []).1,(⟨w0,(medL (t0.length+1) t0 []).2.1⟩:Med),(medL (t0.length+1) t0 []).2.2)=(c,⟨w,ps⟩,z)→Ok Tryz.prog X (fun o h=>o=AOut.pan (C.ifc 145 false [P.int IntKind.i64 c])∧h=[HO.pack [HO.obj 149 [C.p (P.str z)]]]) (leaf I tab { cfgM with lend:=[140],keep:=some [0,2,3,4,6]} [⟨yH Tryz.f113,finK I tab { cfgM with lend:=[140],keep:=some [0,2,3,4,6]} 1 Tryz.f113⟩] 0 [1,1,1,1,0,1,0] ⟨[(3,.v (.one (.ptr 2 0))),(2,.v (.one (.ptr 1 0))),(0,.v (.one (.ptr 0 0)))],[.pack [.obj 149 [(.p (.str t0))]],.obj 115 [(.p (.str ([]))),.nilS],.obj 115 [(.p (.str w0)),.nilS]],60,none⟩):=by
    intro w0 t0 ht0 hm
    simp only [Prod.mk.injEq,Med.mk.injEq] at hm
    obtain⟨hm1,⟨rfl,hm2⟩,hm3⟩:=hm
    refine zG hI zi mixed [uP,uO,wP,wO,Yb,Ya,Z9,Z8,X8,X7,QC,QB,QG,QF] hX [0,2,3] (fun(g:Str × List Fld)=>match g with|(t,l)=>t.length≤1000000∧l.length≤8∧∃ n,t.length<n∧medL n t l=(c,ps,z)) (fun(g:Str × List Fld)=>match g with|(t,l)=>⟨[(0,.v (.one (.ptr 0 0))),(2,.v (.one (.ptr 1 0))),(3,.v (.one (.ptr 2 0)))],[.pack [.obj 149 [(.p (.str t))]],.pack [.obj 115 [(.p (.str ([]))),(.row 1)],.row .fld 135 ([])],.pack [.obj 115 [(.p (.str w0)),(.row 1)],.row .fld 135 l]],60,none⟩) (fun(g:Str × List Fld)=>match g with|(t,l)=>t.length) (t0,[]) (by kernel_rfl) (by kernel_rfl) ?_ ?_
    · exact⟨ht0,by simp,t0.length+1,by omega,by rw [← hm1,← hm2,← hm3]⟩
    rintro⟨t,l⟩ ⟨ht,hl8,n,hn,hm⟩ A hA
    clear hm1 hm2 hm3 hr
    simp only at hA
    refine zh (let y0:=I.hid (α:=Str) (ite (Eq (zY t (UInt8.ofNat (Int.toNat (59:Int)))) Bool.true) (List.drop 1 t) t);let y1:=I.hid (α:=Str) (Fld.name (Prod.fst (Prod.snd (parM (I.hid (α:=Str) (skS y0))))));let y2:=I.hid (α:=Str) (Prod.snd (Prod.snd (parM (I.hid (α:=Str) (skS y0)))));let y3:=I.hid (α:=Str) (Fld.value (Prod.fst (Prod.snd (parM (I.hid (α:=Str) (skS y0))))));let y4:=I.hid (α:=Bool) (Prod.snd (getP l y1));let y5:HO:=.pack [(.obj 149 [(.p (.str y2))])];let y6:HO:=.pack [(.obj 149 [(.p (.str y0))])];.need (I.hid (α:=(Prop)) (And (LE.le (0:Int) (59:Int)) (LE.le (59:Int) (255:Int)))) (.br (I.hid (α:=Bool) (zY t (UInt8.ofNat (Int.toNat (59:Int))))) (.need (I.hid (α:=(Prop)) True) (.br (I.hid (α:=Bool) (Decidable.decide (Eq (Prod.fst (parM (I.hid (α:=Str) (skS y0)))) (0:Int)))) (.need (I.hid (α:=(Prop)) (And (LE.le (List.length (I.hid (α:=Str) (skS y0))) 1000000) (Eq (Prod.fst (parM (I.hid (α:=Str) (skS y0)))) (0:Int)))) (.need (I.hid (α:=(Prop)) (LE.le (List.length l) 1000000)) (.br (I.hid (α:=Bool) y4) (.need (I.hid (α:=(Prop)) (Eq y4 Bool.true)) (.fin (.pan (.ifc 145 .false [(.int .i64 9)])) [y5])) (.need (I.hid (α:=(Prop)) (Eq y4 Bool.false)) (.br (I.hid (α:=Bool) (I.ieq (I.len (α:=Fld) l) 8)) (.need (I.hid (α:=(Prop)) (Eq (I.ieq (I.len (α:=Fld) l) 8) Bool.true)) (.fin (.pan (.ifc 145 .false [(.int .i64 8)])) [y5])) (.need (I.hid (α:=(Prop)) (Eq (I.ieq (I.len (α:=Fld) l) 8) Bool.false)) (.need (I.few (I.add (I.len (α:=Fld) l) (I.len (α:=Fld) ([(Fld.mk y1 y3)]:List Fld))) 100000000) (.need (I.hid (α:=(Prop)) True) (.need (A ⟨[(0,(.v (.one (.ptr 0 0)))),(2,(.v (.one (.ptr 1 0)))),(3,(.v (.one (.ptr 2 0))))],[(.pack [(.obj 149 [(.p (.str (I.hid (α:=Str) (skS y2))))])]),(.pack [(.obj 115 [(.p (.str ([]:Str))),(.row 1)]),(.row .fld 135 ([]:List Fld))]),(.pack [(.obj 115 [(.p (.str w0)),(.row 1)]),(.row .fld 135 (I.app (α:=Fld) l ([(Fld.mk y1 y3)]:List Fld)))])],60,none⟩) .qed))))))))) (.need (I.hid (α:=(Prop)) (And (LE.le (List.length (I.hid (α:=Str) (skS y0))) 1000000) (Not (Eq (Prod.fst (parM (I.hid (α:=Str) (skS y0)))) (0:Int))))) (.fin (.pan (.ifc 145 .false [(.int .i64 (I.hid (α:=Int) (Prod.fst (parM (I.hid (α:=Str) (skS y0))))))])) [y5])))) (.br (I.hid (α:=Bool) (I.bnot (I.seq y0 ([]:Str)))) (.need (I.hid (α:=(Prop)) (Eq (I.bnot (I.seq y0 ([]:Str))) Bool.true)) (.fin (.pan (.ifc 145 .false [(.int .i64 5)])) [y6])) (.need (I.hid (α:=(Prop)) (Eq (I.bnot (I.seq y0 ([]:Str))) Bool.false)) (.fin (.ret (.v (.agg [(.p (.str w0)),(.p (.list .fld l))]))) [y6]))))) (by kernel_rfl) ?_
    simp only [zk]
    cases n with
    |zero=>omega
    |succ n=>
    simp only [medL] at hm
    have hgo:=hA (skS (parM (skS (t.drop 1))).2.2,l++[(parM (skS (t.drop 1))).2.1])
    have hpl:=zd2 (skS (t.drop 1))
    have hpc:=zbf (skS (t.drop 1))
    have hsl:=vW (t.drop 1)
    have hsr:=vW (parM (skS (t.drop 1))).2.2
    rw [List.length_drop] at hsl
    clear hA
    simp only [hh,show UInt8.ofNat (Int.toNat 59)=59 from rfl]
    subst hI
    by_cases h59:zY t 59=true
    · have hpos:=Ry h59
      simp only [h59,if_true] at hm ⊢
      have hgo2:(parM (skS (t.drop 1))).1=0→(getP l (parM (skS (t.drop 1))).2.1.name).2=false→¬ l.length=8→_:=fun h1 h2 h3=>hgo ⟨by simp only;omega,by simp only [List.length_append,List.length_cons,List.length_nil];omega,n,by simp only;omega,by
        rw [if_neg (fun h=>h h1),if_neg (by rw [h2];exact Bool.false_ne_true),if_neg h3] at hm;exact hm⟩ (by simp only;omega)
      clear hgo
      simp only at hgo2
      generalize parM (skS (t.drop 1))=p at *
      obtain⟨pc,⟨pn,pv⟩,pr⟩:=p
      simp only at hgo2 hm hpl hpc hsl hsr ⊢
      simp only [nrmA,nrmB,nrlB,reduceCtorEq,List.length_cons,List.length_nil]
      (repeat' (first|refine And.intro ?_ ?_|intro _))<;>first|omega|exact True.intro|exact False.elim ‹False›|skip
      all_goals first
        |omega
        |assumption
        | (by_cases hpz:pc=0
           · exact hpz
           · rw [if_pos hpz] at hm;simp only [Prod.mk.injEq] at hm;exact hm.1)
        |exact hgo2 ‹_› ‹_› (by omega)
        |(exfalso;rw [if_neg (fun h=>h ‹pc=0›),if_neg (by rw [‹(getP l pn).2=false›];exact Bool.false_ne_true),if_pos (by omega)] at hm;simp_all;done)
        |(rw [if_neg (fun h=>h ‹pc=0›),if_neg (by rw [‹(getP l pn).2=false›];exact Bool.false_ne_true),if_pos (by omega)] at hm;simp_all;done)
        |(exfalso;simp_all;done)
        |(simp_all;done)
    · have h59:zY t 59=false:=by simpa using h59
      simp only [h59,Bool.false_eq_true,if_false] at hm ⊢
      simp only [nrmA,nrmB,nrlB,reduceCtorEq,List.length_cons,List.length_nil]
      (repeat' (first|refine And.intro ?_ ?_|intro _))<;>first|omega|exact True.intro|exact False.elim ‹False›|skip
      all_goals first
        |omega
        |(exfalso;simp_all;done)
        |(simp_all;done)
        |(by_cases hte:t=[]<;>simp_all;done)
  have hl1:=vW s
  have hl2:=uU (skS s)
  have hl3:=xZ (skS s)
  simp only [hh,show UInt8.ofNat (Int.toNat 47)=47 from rfl,decide_eq_true_eq,decide_eq_false_iff_not]
  unfold xE medA at hr
  generalize skS s=t at *
  have hl4:=xZ ((tokE t).drop 1)
  have hl5:=uU ((tokE t).drop 1)
  rw [List.length_drop] at hl4 hl5
  (repeat' (first|refine And.intro ?_ ?_|intro _))
  all_goals try first|trivial|assumption|omega|(exfalso;simp_all;done)|(subst hI;(try(simp only [nrmA,nrmB,nrlB,reduceCtorEq,List.length_cons,List.length_nil,wC]))<;>first|omega|(simp_all [wC];done)|(simp_all [wC];omega))
  all_goals(have happ: ∀ a b:Str,I.app (α:=UInt8) a b=a++b:=by subst hI;intros;rfl)
  all_goals try simp only [happ]
  all_goals first
    | (rename_i q1 q2 q3
       rw [if_neg q1,if_pos q2] at hr
       simp only [q2,if_true] at q3 ⊢
       rw [if_neg q3] at hr
       have hsk:=vW (tokE ((tokE t).drop 1))
       exact key _ _ (by omega) hr)
    | (rename_i q1 q2
       rw [if_neg q1,if_neg (by simp [q2])] at hr
       simp only [q2,Bool.false_eq_true,if_false] at ⊢
       have hsk:=vW (tokE t)
       exact key _ _ (by omega) hr)
def QE (I:Alg) (args:List D) (hp:List HO):Option CT:=match args,hp with
  |[.v (.one (.ptr 0 0))],[.pack [.obj 149 [(.p (.str s))]]]=>(fun(s:Str)=>(some (.br (I.hid (decide ((xE s).1=0))) (.one ⟨I.hid (s.length≤1000000∧(xE s).1=0),(.ret (.v (.agg [(.p (.str (I.hid ((xE s).2.1.word)))),(.p (.list .fld (I.hid ((xE s).2.1.params))))]))),[.pack [.obj 149 [(.p (.str (I.hid ((xE s).2.2))))]]]⟩) (.one ⟨I.hid (s.length≤1000000∧¬ (xE s).1=0),(.pan (.ifc 145 false [(.int .i64 (I.hid ((xE s).1)))])),[.pack [.obj 149 [(.p (.str (I.hid ((xE s).2.2))))]]]⟩)):Option CT)) s
  |_,_=>none
theorem zg0:zo Tryz.prog 113 (QE alg):=by
  intro args hp r h
  unfold QE at h
  split at h
  · cases h;exact⟨fun _ hn=>zmX _ hn,fun _ hn=>zmW _ hn⟩
  · cases h
def zlh:Know Tryz.prog:=⟨113,QE,zg0⟩
def zlg:Know Tryz.prog:=⟨113,fun I=>zq I (QE I),zf zg0⟩
end Go.Proofs.YtcclfkakcgnacaaGreatDoor
namespace Go.Proofs.YtcclfkakcgnacaaGreatDoor
open Go Go.Sep Go.Ab
set_option maxRecDepth 100000
theorem zm2 (w:Str) (l:List Fld) (n:Int) (s:Str):SpcD Tryz.prog 112 [.ptr 0 0,.ptr 1 0] .ret [.obj 115 [.p (.str w),.p (.list .fld l)],.obj 3 [.p (.int .i64 n)],.pack [.obj 149 [.p (.str s)]]] .ret [.obj 115 [.p (.str w),.p (.list .fld l)],.obj 3 [.p (.int .i64 n)],.obj 149 [.p (.str s)]]:=by
  refine XU zi mixed Tryz.func112 (by kernel_rfl) { flat:=true} [] (rest:=_) rfl (by kernel_rfl) ?_
  intro I X hI hX
  refine zh (.fin (.ret (.tup [])) [(.obj 115 [(.p (.str w)),(.p (.list .fld l))]),(.obj 3 [(.p (.int .i64 n))]),(.obj 149 [(.p (.str s))])]) (by kernel_rfl) ?_
  simp only [zk]
  try trivial
theorem zm1 (w:Str) (n k:Int) (s:Str):SpcD Tryz.prog 112 [.ptr 0 0,.ptr 1 0] (.pan (.ifc 145 false [.int .i64 k])) [.obj 115 [.p (.str w),.nilS],.obj 3 [.p (.int .i64 n)],.pack [.obj 149 [.p (.str s)]]] .ret [.obj 115 [.p (.str []),.nilS],.obj 3 [.p (.int .i64 k)],.obj 149 [.p (.str s)]]:=by
  refine XU zi mixed Tryz.func112 (by kernel_rfl) { flat:=true} [] (rest:=_) rfl (by kernel_rfl) ?_
  intro I X hI hX
  refine zh (.fin (.ret (.tup [])) [(.obj 115 [(.p (.str ([]:Str))),.nilS]),(.obj 3 [(.p (.int .i64 k))]),(.obj 149 [(.p (.str s))])]) (by kernel_rfl) ?_
  simp only [zk]
  try trivial
def zn4:Door Tryz.prog where
  g:=112
  c :=fun _ m caps hp=>match m,caps,hp with
    |.ret,[.ptr 0 0,.ptr 1 0],[.obj 115 [.p (.str w),.p (.list .fld l)],.obj 3 [.p (.int .i64 n)],.pack [.obj 149 [.p (.str s)]]]=>some (True,.ret,[.obj 115 [.p (.str w),.p (.list .fld l)],.obj 3 [.p (.int .i64 n)],.obj 149 [.p (.str s)]])
    |.pan (.ifc 145 false [.int .i64 k]),[.ptr 0 0,.ptr 1 0],[.obj 115 [.p (.str w),.nilS],.obj 3 [.p (.int .i64 n)],.pack [.obj 149 [.p (.str s)]]]=>some (True,.ret,[.obj 115 [.p (.str []),.nilS],.obj 3 [.p (.int .i64 k)],.obj 149 [.p (.str s)]])
    |_,_,_=>none
  ok:=by
    intro m caps hp p m' hp' h _
    split at h
    · cases h;exact zm2 _ _ _ _
    · cases h;exact zm1 _ _ _ _
    · cases h
theorem zlf (s:Str) (hneed:s.length≤1000000):Spc Tryz.prog 85 [.v (.one (.p (.str s)))] [] (.ret (.tup [(.agg [(.p (.str ((xY s).1.word))),(.p (.list .fld ((xY s).1.params)))]),(.one (.p (.int .i64 ((xY s).2))))])) []:=by
  generalize hr:xY s=r
  obtain⟨⟨w,ps⟩,c⟩:=r
  unfold xY at hr
  refine zmt zi mixed Tryz.func85 (by kernel_rfl) { cfgM with keep:=some [0,2,3,4]} [WV,WU,zlh,zlg] zn4 (by kernel_rfl) ?_
  intro I X hI hX
  refine zh (.need (I.hid (α:=(Prop)) (LE.le (List.length s) 1000000)) (.br (I.bnot (I.hid (α:=Bool) (tZ s))) (.fin (.ret (.tup [(.agg [(.p (.str ([]:Str))),(.p (.list .fld ([]:List Fld)))]),(.one (.p (.int .i64 3)))])) []) (.br (I.hid (α:=Bool) (Decidable.decide (Eq (Prod.fst (xE s)) (0:Int)))) (.need (I.hid (α:=(Prop)) (And (LE.le (List.length s) 1000000) (Eq (Prod.fst (xE s)) (0:Int)))) (.need True (.fin (.ret (.tup [(.agg [(.p (.str (I.hid (α:=Str) (Go.Ab.Med.word (Prod.fst (Prod.snd (xE s))))))),(.p (.list .fld (I.hid (α:=(List Fld)) (Go.Ab.Med.params (Prod.fst (Prod.snd (xE s)))))))]),(.one (.p (.int .i64 0)))])) []))) (.need (I.hid (α:=(Prop)) (And (LE.le (List.length s) 1000000) (Not (Eq (Prod.fst (xE s)) (0:Int))))) (.need True (.fin (.ret (.tup [(.agg [(.p (.str ([]:Str))),(.p (.list .fld ([]:List Fld)))]),(.one (.p (.int .i64 (I.hid (α:=Int) (Prod.fst (xE s))))))])) [])))))) (by kernel_rfl) ?_
  simp only [zk]
  subst hI
  simp only [nrmA,nrmB,nrlB,reduceCtorEq,V0.agg.injEq]
  (repeat' (first|refine And.intro ?_ ?_|intro _))<;>first|omega|exact True.intro|exact False.elim ‹False›|skip
  all_goals first|(simp_all;done)|trace_state
def Xn (I:Alg) (args:List D) (hp:List HO):Option CT:=match args,hp with
  |[.v (.one (.p (.str s)))],[]=>(fun(s:Str)=>(some (.one ⟨I.hid (s.length≤1000000),(.ret (.tup [(.agg [(.p (.str (I.hid ((xY s).1.word)))),(.p (.list .fld (I.hid ((xY s).1.params))))]),(.one (.p (.int .i64 (I.hid ((xY s).2)))))])),[]⟩):Option CT)) s
  |_,_=>none
theorem zbh:zo Tryz.prog 85 (Xn alg):=by
  intro args hp r h
  unfold Xn at h
  split at h
  · cases h;exact fun hn=>zlf _ hn
  · cases h
def uI:Know Tryz.prog:=⟨85,Xn,zbh⟩
def uH:Know Tryz.prog:=⟨85,fun I=>zq I (Xn I),zf zbh⟩
end Go.Proofs.YtcclfkakcgnacaaGreatDoor
namespace Go.Proofs.YtcclfkakcgnacaaGreatDoor
open Go Go.Sep Go.Ab
set_option maxRecDepth 100000
end Go.Proofs.YtcclfkakcgnacaaGreatDoor
namespace Go.Proofs.YtcclfkakcgnacaaGreatDoor
open Go Go.Sep Go.Ab
set_option maxRecDepth 100000
end Go.Proofs.YtcclfkakcgnacaaGreatDoor
namespace Go.Proofs.YtcclfkakcgnacaaGreatDoor
open Go Go.Sep Go.Ab
set_option maxRecDepth 100000
def qx (l:List Fld):Bool:=decide (100<l.length)||l.any fun f=>decide (1000<f.name.length+f.value.length)
theorem zno (l:List Fld) (hneed: ∀ f ∈ l,f.name.length≤140737488355328∧f.value.length≤140737488355328):Spc Tryz.prog 24 [.v (.one (.p (.list .fld l)))] [] (.ret (.v (.one (.p (.bool (qx l)))))) []:=by
  generalize hr:qx l=r
  refine spcG zi mixed Tryz.func24 (by kernel_rfl) { keep:=some [0,2,3]} [] (by kernel_rfl) ?_
  intro I X hI hX
  refine zh (.br (I.ilt 100 (I.len (α:=Fld) l)) (.fin (.ret (.v (.one (.p (.bool Bool.true))))) []) (.code 0 [1,1,0,1,0] ⟨[(3,(.v (.one (.p (.int .i64 0))))),(2,(.v (.one (.p (.val (.bool .false)))))),(0,(.v (.one (.p (.list .fld l)))))],[],27,none⟩)) (by kernel_rfl) ?_
  simp only [zk]
  refine⟨fun c1=> ?_,fun c1=> ?_⟩
  · subst hI
    simp only [nrmA,nrmB] at c1
    simp only [nrmA,nrmB]
    rw [← hr,qx,decide_eq_true (by omega),Bool.true_or]
  have hl:l.length≤100:=by
    subst hI
    simp only [nrmA,nrmB] at c1
    omega
  have hr2:(l.any fun f=>decide (1000<f.name.length+f.value.length))=r:=by rw [← hr,qx,decide_eq_false (by omega),Bool.false_or]
  refine zG hI zi mixed [] hX [0,3] (fun(i:Nat)=>i≤l.length∧((l.drop i).any fun f=>decide (1000<f.name.length+f.value.length))=r) (fun(i:Nat)=>⟨[(0,.v (.one (.p (.list .fld l)))),(3,.v (.one (.p (.int .i64 i))))],[],27,none⟩) (fun(i:Nat)=>l.length - i) 0 (by kernel_rfl) (by kernel_rfl) ?_ ?_
  · exact⟨Nat.zero_le _,hr2⟩
  rintro i ⟨h1,h2⟩ A hA
  refine zh (let y0:=I.add (I.len (α:=UInt8) (Fld.name (I.get (α:=Fld) l (Fld.mk ([]:Str) ([]:Str)) (Nat.cast i)))) (I.len (α:=UInt8) (Fld.value (I.get (α:=Fld) l (Fld.mk ([]:Str) ([]:Str)) (Nat.cast i))));let y1:=I.inb (Nat.cast i) (I.len (α:=Fld) l);.br (I.ilt (Nat.cast i) (I.len (α:=Fld) l)) (.need y1 (.need y1 (.need y1 (.need y1 (.need (I.inr Go.IntKind.i64 y0) (.br (I.ilt 1000 y0) (.fin (.ret (.v (.one (.p (.bool Bool.true))))) []) (.need (I.inr Go.IntKind.i64 (I.add (Nat.cast i) 1)) (.need (A ⟨[(0,(.v (.one (.p (.list .fld l))))),(3,(.v (.one (.p (.int .i64 (I.add (Nat.cast i) 1))))))],[],27,none⟩) .qed)))))))) (.fin (.ret (.v (.one (.p (.bool Bool.false))))) [])) (by kernel_rfl) ?_
  simp only [zk]
  subst hI
  simp only [nrmA,nrmB]
  have hd:i<l.length→((l.drop i).any fun f=>decide (1000<f.name.length+f.value.length))=(decide (1000<(l.getD i ⟨[],[]⟩).name.length+(l.getD i ⟨[],[]⟩).value.length)||((l.drop (i+1)).any fun f=>decide (1000<f.name.length+f.value.length))):=fun h=>by
    rw [List.drop_eq_getElem_cons h,List.any_cons];simp [h]
  have hxl:i<l.length→(l.getD i ⟨[],[]⟩).name.length≤140737488355328∧(l.getD i ⟨[],[]⟩).value.length≤140737488355328:=fun h=>hneed _ (by
    rw [show l.getD i ⟨[],[]⟩=l[i] by simp [h]]
    exact List.getElem_mem h)
  generalize l.getD i ⟨[],[]⟩=x at *
  (repeat' (first|refine And.intro ?_ ?_|intro _))<;>first|omega|exact True.intro|exact False.elim ‹False›|skip
  all_goals first
    |(have:=hxl (by omega);omega)
    |(rw [← h2,hd (by omega),decide_eq_true (by omega),Bool.true_or])
    |(refine hA (i+1) ⟨by omega,?_⟩ (by omega);rw [← h2,hd (by omega),decide_eq_false (by omega),Bool.false_or])
    |(rw [← h2,List.drop_of_length_le (by omega)];rfl)
def Ue (I:Alg) (args:List D) (hp:List HO):Option CT:=match args,hp with
  |[.v (.one (.p (.list .fld l)))],[]=>(fun(l:List Fld)=>(some (.one ⟨I.hid (∀ f ∈ l,f.name.length≤140737488355328∧f.value.length≤140737488355328),(.ret (.v (.one (.p (.bool (I.hid (qx l))))))),[]⟩):Option CT)) l
  |_,_=>none
theorem zeD:zo Tryz.prog 24 (Ue alg):=by
  intro args hp r h
  unfold Ue at h
  split at h
  · cases h;exact fun hn=>zno _ hn
  · cases h
def zeC:Know Tryz.prog:=⟨24,Ue,zeD⟩
def zeB:Know Tryz.prog:=⟨24,fun I=>zq I (Ue I),zf zeD⟩
end Go.Proofs.YtcclfkakcgnacaaGreatDoor
namespace Go.Proofs.YtcclfkakcgnacaaGreatDoor
open Go Go.Sep Go.Ab
set_option maxRecDepth 100000
end Go.Proofs.YtcclfkakcgnacaaGreatDoor
namespace Go.Proofs.YtcclfkakcgnacaaGreatDoor
open Go Go.Sep Go.Ab
set_option maxRecDepth 100000
def valsF (l:List Fld) (n:Str):List Str:=(l.filter fun f=>decide (lowS f.name=lowS n)).map (·.value)
theorem zop (l:List Fld) (n:Str) (hneed:l.length≤1000∧n.length≤1000000∧∀ f ∈ l,f.name.length≤1000000∧f.value.length≤1000000):Spc Tryz.prog 109 [.v (.one (.p (.list .fld l))),.v (.one (.p (.str n)))] [] (.ret (.v (.one (.row 0)))) [.row .str 9 ((valsF l n))]:=by
  refine spcG zi mixed Tryz.func109 (by kernel_rfl) { nr:=[5],keep:=some [0,1,4,5,7,8,9,10]} [uP,uO] (by kernel_rfl) ?_
  intro I X hI hX
  refine zh (.code 0 [1,1,0,1,0] ⟨[(10,(.v (.one (.p (.int .i64 0))))),(9,(.v (.one (.p (.int .i64 (I.len (α:=Fld) l)))))),(8,(.v (.one (.p (.list .fld l))))),(5,(.v (.one (.row 0)))),(4,(.v (.one .nilS))),(0,(.v (.one (.p (.list .fld l))))),(1,(.v (.one (.p (.str n)))))],[(.row .str 9 ([]:List (Str)))],27,none⟩) (by kernel_rfl) ?_
  simp only [zk]
  refine zG hI zi mixed [uP,uO] hX [0,1,5,8,9,10] (fun(g:Nat × List Str)=>match g with|(i,o)=>i≤l.length∧o=valsF (l.take i) n) (fun(g:Nat × List Str)=>match g with|(i,o)=>⟨[(0,.v (.one (.p (.list .fld l)))),(1,.v (.one (.p (.str n)))),(5,.v (.one (.row 0))),(8,.v (.one (.p (.list .fld l)))),(9,.v (.one (.p (.int .i64 ((I.len (α:=Fld) l)))))),(10,.v (.one (.p (.int .i64 i))))],[.row .str 9 o],27,none⟩) (fun(g:Nat × List Str)=>match g with|(i,o)=>l.length - i) (0,[]) (by kernel_rfl) (by kernel_rfl) ?_ ?_
  · exact⟨Nat.zero_le _,rfl⟩
  rintro⟨i,o⟩ ⟨h1,h2⟩ A hA
  simp only at hA
  refine zh (let y0:=I.get (α:=Fld) l (Fld.mk ([]:Str) ([]:Str)) (Nat.cast i);let y1:=I.inr Go.IntKind.i64 (I.add (Nat.cast i) 1);let y2:=I.inb (Nat.cast i) (I.len (α:=Fld) l);.br (I.ilt (Nat.cast i) (I.len (α:=Fld) l)) (.need y2 (.need y2 (.need (I.hid (α:=(Prop)) (LE.le (List.length (Fld.name y0)) 1000000)) (.need (I.hid (α:=(Prop)) (LE.le (List.length n) 1000000)) (.br (I.seq (I.hid (α:=Str) (lowS (Fld.name y0))) (I.hid (α:=Str) (lowS n))) (.need (I.few (I.add (I.len (α:=Str) o) (I.len (α:=Str) ([(Fld.value y0)]:List (Str)))) 100000000) (.need y1 (.need (A ⟨[(0,(.v (.one (.p (.list .fld l))))),(1,(.v (.one (.p (.str n))))),(5,(.v (.one (.row 0)))),(8,(.v (.one (.p (.list .fld l))))),(9,(.v (.one (.p (.int .i64 (I.len (α:=Fld) l)))))),(10,(.v (.one (.p (.int .i64 (I.add (Nat.cast i) 1))))))],[(.row .str 9 (I.app (α:=Str) o ([(Fld.value y0)]:List (Str))))],27,none⟩) .qed))) (.need y1 (.need (A ⟨[(0,(.v (.one (.p (.list .fld l))))),(1,(.v (.one (.p (.str n))))),(5,(.v (.one (.row 0)))),(8,(.v (.one (.p (.list .fld l))))),(9,(.v (.one (.p (.int .i64 (I.len (α:=Fld) l)))))),(10,(.v (.one (.p (.int .i64 (I.add (Nat.cast i) 1))))))],[(.row .str 9 o)],27,none⟩) .qed))))))) (.fin (.ret (.v (.one (.row 0)))) [(.row .str 9 o)])) (by kernel_rfl) ?_
  simp only [zk]
  subst hI
  simp only [nrmA,nrmB]
  have hx:i<l.length→(l.getD i ⟨[],[]⟩) ∈ l:=fun h=>by rw [show l.getD i ⟨[],[]⟩=l[i] by simp [h]];exact List.getElem_mem h
  have hs:i<l.length→valsF (l.take (i+1)) n=if lowS (l.getD i ⟨[],[]⟩).name=lowS n then o++[(l.getD i ⟨[],[]⟩).value] else o:=fun h=>by
    rw [show l.getD i ⟨[],[]⟩=l[i] by simp [h],List.take_succ_eq_append_getElem h,h2]
    unfold valsF
    rw [List.filter_append,List.map_append]
    by_cases hc:lowS l[i].name=lowS n<;>simp [hc]
  have hol:o.length≤i:=by
    rw [h2]
    unfold valsF
    rw [List.length_map]
    exact Nat.le_trans (List.length_filter_le _ _) (by rw [List.length_take];omega)
  have hn:=fun h=>hneed.2.2 _ (hx h)
  generalize l.getD i ⟨[],[]⟩=x at *
  simp only [List.length_cons,List.length_nil]
  (repeat' (first|refine And.intro ?_ ?_|intro _))<;>first|omega|exact True.intro|exact False.elim ‹False›|skip
  all_goals first
    |(have:=hn (by omega);omega)
    |exact hA (i+1,_) ⟨by simp only;omega,by simp only;rw [hs (by omega),if_pos (by assumption)]⟩ (by simp only;omega)
    |exact hA (i+1,_) ⟨by simp only;omega,by simp only;rw [hs (by omega),if_neg (by assumption)]⟩ (by simp only;omega)
    |(rw [h2,List.take_of_length_le (by omega)])
def zaq (I:Alg) (args:List D) (hp:List HO):Option CT:=match args,hp with
  |[.v (.one (.p (.list .fld l))),.v (.one (.p (.str n)))],[]=>(fun(l:List Fld) (n:Str)=>(some (.one ⟨I.hid (l.length≤1000∧n.length≤1000000∧∀ f ∈ l,f.name.length≤1000000∧f.value.length≤1000000),(.ret (.v (.one (.row 0)))),[.row .str 9 (I.hid ((valsF l n)))]⟩):Option CT)) l n
  |_,_=>none
theorem zhW:zo Tryz.prog 109 (zaq alg):=by
  intro args hp r h
  unfold zaq at h
  split at h
  · cases h;exact fun hn=>zop _ _ hn
  · cases h
def zlU:Know Tryz.prog:=⟨109,zaq,zhW⟩
def zlT:Know Tryz.prog:=⟨109,fun I=>zq I (zaq I),zf zhW⟩
theorem zf6 (l:List Fld) (n:Str) (hneed:l.length≤1000∧n.length≤1000000∧∀ f ∈ l,f.name.length≤1000000∧f.value.length≤1000000):Spc Tryz.prog 45 [.v (.one (.p (.list .fld l))),.v (.one (.p (.str n)))] [] (.ret (.v (.one (.row 0)))) [.row .str 9 ((valsF l n))]:=by
  refine spcG zi mixed Tryz.func45 (by kernel_rfl) { nr:=[5],keep:=some [0,1,4,5,6]} [wo,x9] (by kernel_rfl) ?_
  intro I X hI hX
  refine zh (.code 0 [1,1,0,1,0] ⟨[(6,(.v (.one (.p (.int .i64 0))))),(5,(.v (.one (.row 0)))),(4,(.v (.one .nilS))),(0,(.v (.one (.p (.list .fld l))))),(1,(.v (.one (.p (.str n)))))],[(.row .str 9 ([]:List (Str)))],31,none⟩) (by kernel_rfl) ?_
  simp only [zk]
  refine zG hI zi mixed [wo,x9] hX [0,1,5,6] (fun(g:Nat × List Str)=>match g with|(i,o)=>i≤l.length∧o=valsF (l.take i) n) (fun(g:Nat × List Str)=>match g with|(i,o)=>⟨[(0,.v (.one (.p (.list .fld l)))),(1,.v (.one (.p (.str n)))),(5,.v (.one (.row 0))),(6,.v (.one (.p (.int .i64 i))))],[.row .str 9 o],31,none⟩) (fun(g:Nat × List Str)=>match g with|(i,o)=>l.length - i) (0,[]) (by kernel_rfl) (by kernel_rfl) ?_ ?_
  · exact⟨Nat.zero_le _,rfl⟩
  rintro⟨i,o⟩ ⟨h1,h2⟩ A hA
  simp only at hA
  refine zh (let y0:=I.get (α:=Fld) l (Fld.mk ([]:Str) ([]:Str)) (Nat.cast i);let y1:=I.inb (Nat.cast i) (I.len (α:=Fld) l);let y2:=I.inr Go.IntKind.i64 (I.add (Nat.cast i) 1);.br (I.ilt (Nat.cast i) (I.len (α:=Fld) l)) (.need y1 (.need y1 (.need (I.hid (α:=(Prop)) (LE.le (List.length (Fld.name y0)) 1000000)) (.need (I.hid (α:=(Prop)) (LE.le (List.length n) 1000000)) (.br (I.seq (I.hid (α:=Str) (lowS (Fld.name y0))) (I.hid (α:=Str) (lowS n))) (.need y1 (.need y1 (.need (I.few (I.add (I.len (α:=Str) o) (I.len (α:=Str) ([(Fld.value y0)]:List (Str)))) 100000000) (.need y2 (.need (A ⟨[(0,(.v (.one (.p (.list .fld l))))),(1,(.v (.one (.p (.str n))))),(5,(.v (.one (.row 0)))),(6,(.v (.one (.p (.int .i64 (I.add (Nat.cast i) 1))))))],[(.row .str 9 (I.app (α:=Str) o ([(Fld.value y0)]:List (Str))))],31,none⟩) .qed))))) (.need y2 (.need (A ⟨[(0,(.v (.one (.p (.list .fld l))))),(1,(.v (.one (.p (.str n))))),(5,(.v (.one (.row 0)))),(6,(.v (.one (.p (.int .i64 (I.add (Nat.cast i) 1))))))],[(.row .str 9 o)],31,none⟩) .qed))))))) (.fin (.ret (.v (.one (.row 0)))) [(.row .str 9 o)])) (by kernel_rfl) ?_
  simp only [zk]
  subst hI
  simp only [nrmA,nrmB]
  have hx:i<l.length→(l.getD i ⟨[],[]⟩) ∈ l:=fun h=>by rw [show l.getD i ⟨[],[]⟩=l[i] by simp [h]];exact List.getElem_mem h
  have hs:i<l.length→valsF (l.take (i+1)) n=if lowS (l.getD i ⟨[],[]⟩).name=lowS n then o++[(l.getD i ⟨[],[]⟩).value] else o:=fun h=>by
    rw [show l.getD i ⟨[],[]⟩=l[i] by simp [h],List.take_succ_eq_append_getElem h,h2]
    unfold valsF
    rw [List.filter_append,List.map_append]
    by_cases hc:lowS l[i].name=lowS n<;>simp [hc]
  have hol:o.length≤i:=by
    rw [h2]
    unfold valsF
    rw [List.length_map]
    exact Nat.le_trans (List.length_filter_le _ _) (by rw [List.length_take];omega)
  have hn:=fun h=>hneed.2.2 _ (hx h)
  generalize l.getD i ⟨[],[]⟩=x at *
  simp only [List.length_cons,List.length_nil]
  (repeat' (first|refine And.intro ?_ ?_|intro _))<;>first|omega|exact True.intro|exact False.elim ‹False›|skip
  all_goals first
    |(have:=hn (by omega);omega)
    |exact hA (i+1,_) ⟨by simp only;omega,by simp only;rw [hs (by omega),if_pos (by assumption)]⟩ (by simp only;omega)
    |exact hA (i+1,_) ⟨by simp only;omega,by simp only;rw [hs (by omega),if_neg (by assumption)]⟩ (by simp only;omega)
    |(rw [h2,List.take_of_length_le (by omega)])
def qy (I:Alg) (args:List D) (hp:List HO):Option CT:=match args,hp with
  |[.v (.one (.p (.list .fld l))),.v (.one (.p (.str n)))],[]=>(fun(l:List Fld) (n:Str)=>(some (.one ⟨I.hid (l.length≤1000∧n.length≤1000000∧∀ f ∈ l,f.name.length≤1000000∧f.value.length≤1000000),(.ret (.v (.one (.row 0)))),[.row .str 9 (I.hid ((valsF l n)))]⟩):Option CT)) l n
  |_,_=>none
theorem Um:zo Tryz.prog 45 (qy alg):=by
  intro args hp r h
  unfold qy at h
  split at h
  · cases h;exact fun hn=>zf6 _ _ hn
  · cases h
def zci:Know Tryz.prog:=⟨45,qy,Um⟩
def zch:Know Tryz.prog:=⟨45,fun I=>zq I (qy I),zf Um⟩
end Go.Proofs.YtcclfkakcgnacaaGreatDoor
namespace Go.Proofs.YtcclfkakcgnacaaGreatDoor
open Go Go.Sep Go.Ab
set_option maxRecDepth 100000
def oneF (l:List Str):Str × Int:=if l.length=0 then([],10) else if l.length=1 then(l.getD 0 [],0) else([],9)
theorem zoo (l:List Fld) (n:Str) (hneed:l.length≤1000∧n.length≤1000000∧∀ f ∈ l,f.name.length≤1000000∧f.value.length≤1000000):Spc Tryz.prog 78 [.v (.one (.p (.list .fld l))),.v (.one (.p (.str n)))] [] (.ret (.tup [(.one (.p (.str ((oneF (valsF l n)).1)))),(.one (.p (.int .i64 ((oneF (valsF l n)).2))))])) []:=by
  generalize hr:oneF (valsF l n)=r
  obtain⟨a,d⟩:=r
  refine spcG zi mixed Tryz.func78 (by kernel_rfl) { keep:=some [0,1,4,5,6,11]} [zlU,zlT] (by kernel_rfl) ?_
  intro I X hI hX
  refine zh (let y0:=I.len (α:=Str) (I.hid (α:=(List (Str))) (valsF l n));.need (I.hid (α:=(Prop)) (And (LE.le (List.length l) 1000) (And (LE.le (List.length n) 1000000) (∀ (f:Fld),f ∈ l→List.length f.name≤1000000∧List.length f.value≤1000000)))) (.br (I.ieq y0 0) (.fin (.ret (.tup [(.one (.p (.str ([]:Str)))),(.one (.p (.int .i64 10)))])) []) (.br (I.ieq y0 1) (.need (I.inb 0 y0) (.need (I.inb 0 y0) (.fin (.ret (.tup [(.one (.p (.str (I.get (α:=Str) (I.hid (α:=(List (Str))) (valsF l n)) ([]:Str) 0)))),(.one (.p (.int .i64 0)))])) []))) (.fin (.ret (.tup [(.one (.p (.str ([]:Str)))),(.one (.p (.int .i64 9)))])) [])))) (by kernel_rfl) ?_
  simp only [zk]
  subst hI
  simp only [nrmA,nrmB]
  unfold oneF at hr
  (repeat' (first|refine And.intro ?_ ?_|intro _))<;>first|omega|exact True.intro|exact False.elim ‹False›|skip
  all_goals first
    |assumption
    |exact(hneed.2.2 _ (by assumption)).1
    |exact(hneed.2.2 _ (by assumption)).2
    |(rw [if_pos (by omega)] at hr;cases hr;rfl)
    |(rw [if_neg (by omega),if_pos (by omega)] at hr;cases hr;rfl)
    |(rw [if_neg (by omega),if_neg (by omega)] at hr;cases hr;rfl)
def zao (I:Alg) (args:List D) (hp:List HO):Option CT:=match args,hp with
  |[.v (.one (.p (.list .fld l))),.v (.one (.p (.str n)))],[]=>(fun(l:List Fld) (n:Str)=>(some (.one ⟨I.hid (l.length≤1000∧n.length≤1000000∧∀ f ∈ l,f.name.length≤1000000∧f.value.length≤1000000),(.ret (.tup [(.one (.p (.str (I.hid ((oneF (valsF l n)).1))))),(.one (.p (.int .i64 (I.hid ((oneF (valsF l n)).2)))))])),[]⟩):Option CT)) l n
  |_,_=>none
theorem zhV:zo Tryz.prog 78 (zao alg):=by
  intro args hp r h
  unfold zao at h
  split at h
  · cases h;exact fun hn=>zoo _ _ hn
  · cases h
def zhU:Know Tryz.prog:=⟨78,zao,zhV⟩
def zhT:Know Tryz.prog:=⟨78,fun I=>zq I (zao I),zf zhV⟩
theorem zm3 (l:List Fld) (n:Str) (hneed:l.length≤1000∧n.length≤1000000∧∀ f ∈ l,f.name.length≤1000000∧f.value.length≤1000000):Spc Tryz.prog 20 [.v (.one (.p (.list .fld l))),.v (.one (.p (.str n)))] [] (.ret (.tup [(.one (.p (.str ((oneF (valsF l n)).1)))),(.one (.p (.int .i64 ((oneF (valsF l n)).2))))])) []:=by
  generalize hr:oneF (valsF l n)=r
  obtain⟨a,d⟩:=r
  refine spcG zi mixed Tryz.func20 (by kernel_rfl) { keep:=some [0,1,4,5,6]} [zci,zch] (by kernel_rfl) ?_
  intro I X hI hX
  refine zh (let y0:=I.len (α:=Str) (I.hid (α:=(List (Str))) (valsF l n));.need (I.hid (α:=(Prop)) (And (LE.le (List.length l) 1000) (And (LE.le (List.length n) 1000000) (∀ (f:Fld),f ∈ l→List.length f.name≤1000000∧List.length f.value≤1000000)))) (.br (I.ieq y0 0) (.fin (.ret (.tup [(.one (.p (.str ([]:Str)))),(.one (.p (.int .i64 10)))])) []) (.br (I.ilt 1 y0) (.fin (.ret (.tup [(.one (.p (.str ([]:Str)))),(.one (.p (.int .i64 9)))])) []) (.need (I.inb 0 y0) (.need (I.inb 0 y0) (.fin (.ret (.tup [(.one (.p (.str (I.get (α:=Str) (I.hid (α:=(List (Str))) (valsF l n)) ([]:Str) 0)))),(.one (.p (.int .i64 0)))])) [])))))) (by kernel_rfl) ?_
  simp only [zk]
  subst hI
  simp only [nrmA,nrmB]
  unfold oneF at hr
  (repeat' (first|refine And.intro ?_ ?_|intro _))<;>first|omega|exact True.intro|exact False.elim ‹False›|skip
  all_goals first
    |assumption
    |exact(hneed.2.2 _ (by assumption)).1
    |exact(hneed.2.2 _ (by assumption)).2
    |(rw [if_pos (by omega)] at hr;cases hr;rfl)
    |(rw [if_neg (by omega),if_pos (by omega)] at hr;cases hr;rfl)
    |(rw [if_neg (by omega),if_neg (by omega)] at hr;cases hr;rfl)
def V4 (I:Alg) (args:List D) (hp:List HO):Option CT:=match args,hp with
  |[.v (.one (.p (.list .fld l))),.v (.one (.p (.str n)))],[]=>(fun(l:List Fld) (n:Str)=>(some (.one ⟨I.hid (l.length≤1000∧n.length≤1000000∧∀ f ∈ l,f.name.length≤1000000∧f.value.length≤1000000),(.ret (.tup [(.one (.p (.str (I.hid ((oneF (valsF l n)).1))))),(.one (.p (.int .i64 (I.hid ((oneF (valsF l n)).2)))))])),[]⟩):Option CT)) l n
  |_,_=>none
theorem zd8:zo Tryz.prog 20 (V4 alg):=by
  intro args hp r h
  unfold V4 at h
  split at h
  · cases h;exact fun hn=>zm3 _ _ hn
  · cases h
def zT:Know Tryz.prog:=⟨20,V4,zd8⟩
def zS:Know Tryz.prog:=⟨20,fun I=>zq I (V4 I),zf zd8⟩
end Go.Proofs.YtcclfkakcgnacaaGreatDoor
namespace Go.Proofs.YtcclfkakcgnacaaGreatDoor
open Go Go.Sep Go.Ab
set_option maxRecDepth 100000
def numG (base:Int):Int→Str→Int × Bool
  |n,[]=>(n,true)
  |n,c::l=>if hexK c.toNat<0∨base≤hexK c.toNat then(0,false) else numG base (n * base+hexK c.toNat) l
def numA (s:Str) (base most:Int):Int × Bool:=if s=[]∨most<s.length then(0,false) else numG base 0 s
def top9:Nat→Nat
  |0=>0
  |i+1=>16 * top9 i+15
theorem zcl {i:Nat} (h:i≤9):top9 i≤68719476735:=(by decide: ∀ i:Fin 10,top9 i.1≤68719476735) ⟨i,by omega⟩
theorem UW {base n:Int} {s:Str} {i:Nat} (h:i<s.length):numG base n (s.drop i)=if hexK (s.getD i 0).toNat<0∨base≤hexK (s.getD i 0).toNat then(0,false) else numG base (n * base+hexK (s.getD i 0).toNat) (s.drop (i+1)):=by
  rw [List.drop_eq_getElem_cons h,numG];simp [h]
theorem zcP {k:Int} (hk:0≤k∧k≤255): -1≤hexK k∧hexK k≤15:=zjW (p:=fun k=> -1≤hexK k∧hexK k≤15) (by decide+kernel) hk
theorem zfS {k:Int} (hk:0≤k∧k≤255):([48,49,50,51,52,53,54,55,56,57]:Str).contains (UInt8.ofNat k.toNat)=decide (0≤hexK k∧hexK k<10):=
  zjW (p:=fun k=>([48,49,50,51,52,53,54,55,56,57]:Str).contains (UInt8.ofNat k.toNat)=decide (0≤hexK k∧hexK k<10)) (by decide+kernel) hk
theorem zjw {k:Int} (hk:0≤k∧k≤255):(∀ j:Fin 16,lowC (UInt8.ofNat k.toNat)=([48,49,50,51,52,53,54,55,56,57,97,98,99,100,101,102]:Str).getD j.1 0→hexK k=(j.1:Int))∧((∀ j:Fin 16,¬ lowC (UInt8.ofNat k.toNat)=([48,49,50,51,52,53,54,55,56,57,97,98,99,100,101,102]:Str).getD j.1 0)→hexK k= -1):=
  zjW (p:=fun k=>(∀ j:Fin 16,lowC (UInt8.ofNat k.toNat)=([48,49,50,51,52,53,54,55,56,57,97,98,99,100,101,102]:Str).getD j.1 0→hexK k=(j.1:Int))∧((∀ j:Fin 16,¬ lowC (UInt8.ofNat k.toNat)=([48,49,50,51,52,53,54,55,56,57,97,98,99,100,101,102]:Str).getD j.1 0)→hexK k= -1)) (by decide+kernel) hk
theorem zha (s:Str):Spc Tryz.prog 111 [.v (.one (.p (.str s))),.v (.one (.p (.int .i64 10))),.v (.one (.p (.int .i64 9)))] [] (.ret (.tup [(.one (.p (.int .i64 ((numA s 10 9).1)))),(.one (.p (.bool ((numA s 10 9).2))))])) []:=by
  generalize hr:numA s 10 9=r
  refine spcG zi mixed Tryz.func111 (by kernel_rfl) { keep:=some [0,1,2,6,7,8,9,10,20,21]} [zeq,zep] (by kernel_rfl) ?_
  intro I X hI hX
  refine zh (.br (I.seq s ([]:Str)) (.fin (.ret (.tup [(.one (.p (.int .i64 0))),(.one (.p (.bool Bool.false)))])) []) (.br (I.ilt 9 (I.len (α:=UInt8) s)) (.fin (.ret (.tup [(.one (.p (.int .i64 0))),(.one (.p (.bool Bool.false)))])) []) (.code 0 [1,1,1,0,1,0] ⟨[(21,(.v (.one (.p (.int .i64 0))))),(20,(.v (.one (.p (.int .i64 (I.len (α:=UInt8) s)))))),(8,(.v (.one (.p (.int .i64 0))))),(7,(.v (.one (.p (.val (.bool .false)))))),(6,(.v (.one (.p (.int .i64 0))))),(0,(.v (.one (.p (.str s))))),(1,(.v (.one (.p (.int .i64 10))))),(2,(.v (.one (.p (.int .i64 9)))))],[],42,none⟩))) (by kernel_rfl) ?_
  simp only [zk]
  have hne:s≠[]→¬ (9:Int)<s.length→numG 10 0 s=r:=fun h1 h2=>by rw [← hr,numA,if_neg (fun h=>by rcases h with h|h;exact h1 h;exact h2 h)]
  have hyes:(s=[]∨(9:Int)<s.length)→r=(0,false):=fun h=>by rw [← hr,numA,if_pos h]
  refine⟨fun c1=> ?_,fun c1=>⟨fun c2=> ?_,fun c2=> ?_⟩⟩
  · subst hI
    simp only [nrmA,nrmB] at c1
    rw [hyes (.inl c1)]
    simp
  · subst hI
    simp only [nrmA,nrmB] at c2
    rw [hyes (.inr c2)]
    simp
  have d1:s≠[]:=by
    subst hI
    simp only [nrmA,nrmB] at c1
    exact c1
  have d2:s.length≤9:=by
    subst hI
    simp only [nrmA,nrmB] at c2
    omega
  refine zG hI zi mixed [zeq,zep] hX [0,1,2,8,20,21] (fun(g:Nat × Int)=>match g with|(i,n)=>i≤s.length∧0≤n∧n≤top9 i∧numG 10 n (s.drop i)=r) (fun(g:Nat × Int)=>match g with|(i,n)=>⟨[(0,.v (.one (.p (.str s)))),(1,.v (.one (.p (.int .i64 10)))),(2,.v (.one (.p (.int .i64 9)))),(8,.v (.one (.p (.int .i64 n)))),(20,.v (.one (.p (.int .i64 ((I.len (α:=UInt8) s)))))),(21,.v (.one (.p (.int .i64 i))))],[],42,none⟩) (fun(g:Nat × Int)=>match g with|(i,n)=>s.length - i) (0,0) (by kernel_rfl) (by kernel_rfl) ?_ ?_
  · exact⟨Nat.zero_le _,Int.le_refl _,Int.le_refl _,hne d1 (by omega)⟩
  rintro⟨i,n⟩ ⟨h1,h2,h3,h4⟩ A hA
  simp only at hA
  refine zh (let y0:=I.b2i (I.get (α:=UInt8) s 0 (Nat.cast i));let y1:=I.add (I.mul n 10) (I.hid (α:=Int) (hexK y0));.br (I.ilt (Nat.cast i) (I.len (α:=UInt8) s)) (.need (I.inb (Nat.cast i) (I.len (α:=UInt8) s)) (.need (I.hid (α:=(Prop)) (And (LE.le (0:Int) y0) (LE.le y0 (255:Int)))) (.br (I.ilt (I.hid (α:=Int) (hexK y0)) 0) (.fin (.ret (.tup [(.one (.p (.int .i64 0))),(.one (.p (.bool Bool.false)))])) []) (.br (I.ile 10 (I.hid (α:=Int) (hexK y0))) (.fin (.ret (.tup [(.one (.p (.int .i64 0))),(.one (.p (.bool Bool.false)))])) []) (.need (I.inr Go.IntKind.i64 (I.mul n 10)) (.need (I.inr Go.IntKind.i64 y1) (.need (I.inr Go.IntKind.i64 (I.add (Nat.cast i) 1)) (.need (A ⟨[(0,(.v (.one (.p (.str s))))),(1,(.v (.one (.p (.int .i64 10))))),(2,(.v (.one (.p (.int .i64 9))))),(8,(.v (.one (.p (.int .i64 y1))))),(20,(.v (.one (.p (.int .i64 (I.len (α:=UInt8) s)))))),(21,(.v (.one (.p (.int .i64 (I.add (Nat.cast i) 1))))))],[],42,none⟩) .qed)))))))) (.fin (.ret (.tup [(.one (.p (.int .i64 n))),(.one (.p (.bool Bool.true)))])) [])) (by kernel_rfl) ?_
  simp only [zk]
  subst hI
  simp only [nrmA,nrmB]
  have hb:=wQ (s.getD i 0)
  have hk:=zcP hb
  have hd:i<s.length→_:=fun h=>UW (base:=10) (n:=n) h
  have ht:i≤9:=by omega
  have ht:=zcl ht
  have ht2:top9 (i+1)=16 * top9 i+15:=rfl
  generalize s.getD i 0=x at *
  generalize hexK (x.toNat:Int)=k at *
  (repeat' (first|refine And.intro ?_ ?_|intro _))<;>first|omega|exact True.intro|exact False.elim ‹False›|skip
  all_goals first
    |omega
    |(rw [← h4,hd (by omega),if_pos (.inl (by omega))])
    |(rw [← h4,hd (by omega),if_pos (.inr (by omega))])
    |(refine hA (i+1,_) ⟨by simp only;omega,by simp only;omega,by simp only;omega,?_⟩ (by simp only;omega);rw [← h4,hd (by omega),if_neg (by omega)])
    |(rw [← h4,List.drop_of_length_le (by omega)];rfl)
def qP (I:Alg) (args:List D) (hp:List HO):Option CT:=match args,hp with
  |[.v (.one (.p (.str s))),.v (.one (.p (.int .i64 10))),.v (.one (.p (.int .i64 9)))],[]=>(fun(s:Str)=>(some (.one ⟨I.hid (True),(.ret (.tup [(.one (.p (.int .i64 (I.hid ((numA s 10 9).1))))),(.one (.p (.bool (I.hid ((numA s 10 9).2)))))])),[]⟩):Option CT)) s
  |_,_=>none
theorem UU:zo Tryz.prog 111 (qP alg):=by
  intro args hp r h
  unfold qP at h
  split at h
  · cases h;exact fun hn=>zha _
  · cases h
def YK:Know Tryz.prog:=⟨111,qP,UU⟩
def YJ:Know Tryz.prog:=⟨111,fun I=>zq I (qP I),zf UU⟩
theorem zg9 (s:Str):Spc Tryz.prog 111 [.v (.one (.p (.str s))),.v (.one (.p (.int .i64 16))),.v (.one (.p (.int .i64 6)))] [] (.ret (.tup [(.one (.p (.int .i64 ((numA s 16 6).1)))),(.one (.p (.bool ((numA s 16 6).2))))])) []:=by
  generalize hr:numA s 16 6=r
  refine spcG zi mixed Tryz.func111 (by kernel_rfl) { keep:=some [0,1,2,6,7,8,9,10,20,21]} [zeq,zep,YK,YJ] (by kernel_rfl) ?_
  intro I X hI hX
  refine zh (.br (I.seq s ([]:Str)) (.fin (.ret (.tup [(.one (.p (.int .i64 0))),(.one (.p (.bool Bool.false)))])) []) (.br (I.ilt 6 (I.len (α:=UInt8) s)) (.fin (.ret (.tup [(.one (.p (.int .i64 0))),(.one (.p (.bool Bool.false)))])) []) (.code 0 [1,1,1,0,1,0] ⟨[(21,(.v (.one (.p (.int .i64 0))))),(20,(.v (.one (.p (.int .i64 (I.len (α:=UInt8) s)))))),(8,(.v (.one (.p (.int .i64 0))))),(7,(.v (.one (.p (.val (.bool .false)))))),(6,(.v (.one (.p (.int .i64 0))))),(0,(.v (.one (.p (.str s))))),(1,(.v (.one (.p (.int .i64 16))))),(2,(.v (.one (.p (.int .i64 6)))))],[],42,none⟩))) (by kernel_rfl) ?_
  simp only [zk]
  have hne:s≠[]→¬ (6:Int)<s.length→numG 16 0 s=r:=fun h1 h2=>by rw [← hr,numA,if_neg (fun h=>by rcases h with h|h;exact h1 h;exact h2 h)]
  have hyes:(s=[]∨(6:Int)<s.length)→r=(0,false):=fun h=>by rw [← hr,numA,if_pos h]
  refine⟨fun c1=> ?_,fun c1=>⟨fun c2=> ?_,fun c2=> ?_⟩⟩
  · subst hI
    simp only [nrmA,nrmB] at c1
    rw [hyes (.inl c1)]
    simp
  · subst hI
    simp only [nrmA,nrmB] at c2
    rw [hyes (.inr c2)]
    simp
  have d1:s≠[]:=by
    subst hI
    simp only [nrmA,nrmB] at c1
    exact c1
  have d2:s.length≤6:=by
    subst hI
    simp only [nrmA,nrmB] at c2
    omega
  refine zG hI zi mixed [zeq,zep,YK,YJ] hX [0,1,2,8,20,21] (fun(g:Nat × Int)=>match g with|(i,n)=>i≤s.length∧0≤n∧n≤top9 i∧numG 16 n (s.drop i)=r) (fun(g:Nat × Int)=>match g with|(i,n)=>⟨[(0,.v (.one (.p (.str s)))),(1,.v (.one (.p (.int .i64 16)))),(2,.v (.one (.p (.int .i64 6)))),(8,.v (.one (.p (.int .i64 n)))),(20,.v (.one (.p (.int .i64 ((I.len (α:=UInt8) s)))))),(21,.v (.one (.p (.int .i64 i))))],[],42,none⟩) (fun(g:Nat × Int)=>match g with|(i,n)=>s.length - i) (0,0) (by kernel_rfl) (by kernel_rfl) ?_ ?_
  · exact⟨Nat.zero_le _,Int.le_refl _,Int.le_refl _,hne d1 (by omega)⟩
  rintro⟨i,n⟩ ⟨h1,h2,h3,h4⟩ A hA
  simp only at hA
  refine zh (let y0:=I.b2i (I.get (α:=UInt8) s 0 (Nat.cast i));let y1:=I.add (I.mul n 16) (I.hid (α:=Int) (hexK y0));.br (I.ilt (Nat.cast i) (I.len (α:=UInt8) s)) (.need (I.inb (Nat.cast i) (I.len (α:=UInt8) s)) (.need (I.hid (α:=(Prop)) (And (LE.le (0:Int) y0) (LE.le y0 (255:Int)))) (.br (I.ilt (I.hid (α:=Int) (hexK y0)) 0) (.fin (.ret (.tup [(.one (.p (.int .i64 0))),(.one (.p (.bool Bool.false)))])) []) (.br (I.ile 16 (I.hid (α:=Int) (hexK y0))) (.fin (.ret (.tup [(.one (.p (.int .i64 0))),(.one (.p (.bool Bool.false)))])) []) (.need (I.inr Go.IntKind.i64 (I.mul n 16)) (.need (I.inr Go.IntKind.i64 y1) (.need (I.inr Go.IntKind.i64 (I.add (Nat.cast i) 1)) (.need (A ⟨[(0,(.v (.one (.p (.str s))))),(1,(.v (.one (.p (.int .i64 16))))),(2,(.v (.one (.p (.int .i64 6))))),(8,(.v (.one (.p (.int .i64 y1))))),(20,(.v (.one (.p (.int .i64 (I.len (α:=UInt8) s)))))),(21,(.v (.one (.p (.int .i64 (I.add (Nat.cast i) 1))))))],[],42,none⟩) .qed)))))))) (.fin (.ret (.tup [(.one (.p (.int .i64 n))),(.one (.p (.bool Bool.true)))])) [])) (by kernel_rfl) ?_
  simp only [zk]
  subst hI
  simp only [nrmA,nrmB]
  have hb:=wQ (s.getD i 0)
  have hk:=zcP hb
  have hd:i<s.length→_:=fun h=>UW (base:=16) (n:=n) h
  have ht:i≤9:=by omega
  have ht:=zcl ht
  have ht2:top9 (i+1)=16 * top9 i+15:=rfl
  generalize s.getD i 0=x at *
  generalize hexK (x.toNat:Int)=k at *
  (repeat' (first|refine And.intro ?_ ?_|intro _))<;>first|omega|exact True.intro|exact False.elim ‹False›|skip
  all_goals first
    |omega
    |(rw [← h4,hd (by omega),if_pos (.inl (by omega))])
    |(rw [← h4,hd (by omega),if_pos (.inr (by omega))])
    |(refine hA (i+1,_) ⟨by simp only;omega,by simp only;omega,by simp only;omega,?_⟩ (by simp only;omega);rw [← h4,hd (by omega),if_neg (by omega)])
    |(rw [← h4,List.drop_of_length_le (by omega)];rfl)
def qO (I:Alg) (args:List D) (hp:List HO):Option CT:=match args,hp with
  |[.v (.one (.p (.str s))),.v (.one (.p (.int .i64 16))),.v (.one (.p (.int .i64 6)))],[]=>(fun(s:Str)=>(some (.one ⟨I.hid (True),(.ret (.tup [(.one (.p (.int .i64 (I.hid ((numA s 16 6).1))))),(.one (.p (.bool (I.hid ((numA s 16 6).2)))))])),[]⟩):Option CT)) s
  |_,_=>none
theorem UR:zo Tryz.prog 111 (qO alg):=by
  intro args hp r h
  unfold qO at h
  split at h
  · cases h;exact fun hn=>zg9 _
  · cases h
def zcB:Know Tryz.prog:=⟨111,qO,UR⟩
def zcA:Know Tryz.prog:=⟨111,fun I=>zq I (qO I),zf UR⟩
theorem znj (k:Int) (hneed:0≤k∧k≤255):Spc Tryz.prog 44 [.v (.one (.p (.int .u8 k)))] [] (.ret (.v (.one (.p (.int .i64 (hexK k)))))) []:=by
  generalize hr:hexK k=r
  obtain⟨f1,f2⟩:=zjw hneed
  rw [hr] at f1 f2
  refine spcG zi mixed Tryz.func44 (by kernel_rfl) { keep:=some [0,2,3,4,5]} [wo,x9] (by kernel_rfl) ?_
  intro I X hI hX
  refine zh (.need (I.inr Go.IntKind.u8 k) (.need (I.hid (α:=(Prop)) (LE.le (List.length ([(I.i2b k)]:Str)) 1000000)) (.code 0 [1,1,1,0,1,0] ⟨[(5,(.v (.one (.p (.int .i64 0))))),(4,(.v (.one (.p (.str (I.hid (α:=Str) (lowS ([(I.i2b k)]:Str)))))))),(3,(.v (.one (.p (.str ([48,49,50,51,52,53,54,55,56,57,97,98,99,100,101,102]:Str)))))),(2,(.v (.one (.p (.int .i64 0))))),(0,(.v (.one (.p (.int .u8 k)))))],[(.row .byte 5 ([(I.i2b k)]:Str))],22,none⟩))) (by kernel_rfl) ?_
  simp only [zk]
  refine⟨(by rw [hI];simp only [nrmA,nrmB];omega),(by rw [hI,zdd];simp),?_⟩
  generalize hu:I.hid (lowS [I.i2b k])=u
  have hu1:u=[lowC (UInt8.ofNat k.toNat)]:=by rw [← hu,hI];rfl
  generalize lowC (UInt8.ofNat k.toNat)=x at *
  refine zG hI zi mixed [wo,x9] hX [0,3,4,5] (fun(j:Nat)=>j≤16∧∀ j':Fin 16,j'.1<j→¬ x=([48,49,50,51,52,53,54,55,56,57,97,98,99,100,101,102]:Str).getD j'.1 0) (fun(j:Nat)=>⟨[(0,.v (.one (.p (.int .u8 k)))),(3,.v (.one (.p (.str ([48,49,50,51,52,53,54,55,56,57,97,98,99,100,101,102]))))),(4,.v (.one (.p (.str u)))),(5,.v (.one (.p (.int .i64 j))))],[],22,none⟩) (fun(j:Nat)=>16 - j) 0 (by kernel_rfl) (by kernel_rfl) ?_ ?_
  · exact⟨Nat.zero_le _,fun _ h=>absurd h (Nat.not_lt_zero _)⟩
  rintro j ⟨h1,h2⟩ A hA
  refine zh (let y0:=([48,49,50,51,52,53,54,55,56,57,97,98,99,100,101,102]:Str);let y1:=I.inr Go.IntKind.i64 (I.add (Nat.cast j) 1);.br (I.ilt (Nat.cast j) 16) (.need y1 (.need (I.cutb (Int.ofNat j) (I.add (Nat.cast j) 1) (I.len (α:=UInt8) y0)) (.br (I.seq u (I.cut (α:=UInt8) y0 (Int.ofNat j) (I.add (Nat.cast j) 1))) (.fin (.ret (.v (.one (.p (.int .i64 (Nat.cast j)))))) []) (.need y1 (.need (A ⟨[(0,(.v (.one (.p (.int .u8 k))))),(3,(.v (.one (.p (.str y0))))),(4,(.v (.one (.p (.str u))))),(5,(.v (.one (.p (.int .i64 (I.add (Nat.cast j) 1))))))],[],22,none⟩) .qed))))) (.fin (.ret (.v (.one (.p (.int .i64 (Neg.neg (1:Int))))))) [])) (by kernel_rfl) ?_
  simp only [zk]
  subst hI
  simp only [nrmA,nrmB]
  generalize hH:([48,49,50,51,52,53,54,55,56,57,97,98,99,100,101,102]:Str)=H at *
  have hHl:H.length=16:=by rw [← hH];rfl
  have hcut:j<16→(H.drop j).take (((j:Int)+1).toNat - j)=[H.getD j 0]:=fun h=>by
    rw [show((j:Int)+1).toNat - j=1 by omega,List.drop_eq_getElem_cons (by omega),List.take_succ_cons,List.take_zero]
    simp [hHl,h]
  have hq:j<16→(u=(H.drop j).take (((j:Int)+1).toNat - j)↔x=H.getD j 0):=fun h=>by
    rw [hcut h,hu1];simp
  (repeat' (first|refine And.intro ?_ ?_|intro _))<;>first|omega|exact True.intro|exact False.elim ‹False›|skip
  all_goals first
    |omega
    |exact(f1 ⟨j,by omega⟩ ((hq (by omega)).1 ‹_›)).symm
    | (refine hA (j+1) ⟨by omega,fun j' hj'=> ?_⟩ (by omega)
       rcases Nat.lt_or_ge j'.1 j with hlt|hge
       · exact h2 j' hlt
       · rw [show j'.1=j by omega];exact fun e=>‹¬ u=_› ((hq (by omega)).2 e))
    |exact(f2 fun j'=>h2 j' (by have:=j'.2;omega)).symm
def V9 (I:Alg) (args:List D) (hp:List HO):Option CT:=match args,hp with
  |[.v (.one (.p (.int .u8 k)))],[]=>(fun(k:Int)=>(some (.one ⟨I.hid (0≤k∧k≤255),(.ret (.v (.one (.p (.int .i64 (I.hid (hexK k))))))),[]⟩):Option CT)) k
  |_,_=>none
theorem zeu:zo Tryz.prog 44 (V9 alg):=by
  intro args hp r h
  unfold V9 at h
  split at h
  · cases h;exact fun hn=>znj _ hn
  · cases h
def zet:Know Tryz.prog:=⟨44,V9,zeu⟩
def zes:Know Tryz.prog:=⟨44,fun I=>zq I (V9 I),zf zeu⟩
end Go.Proofs.YtcclfkakcgnacaaGreatDoor
namespace Go.Proofs.YtcclfkakcgnacaaGreatDoor
open Go Go.Sep Go.Ab
set_option maxRecDepth 100000
theorem zg7 (s:Str):Spc Tryz.prog 19 [.v (.one (.p (.str s)))] [] (.ret (.tup [(.one (.p (.int .i64 ((numA s 10 9).1)))),(.one (.p (.bool ((numA s 10 9).2))))])) []:=by
  generalize hr:numA s 10 9=r
  refine spcG zi mixed Tryz.func19 (by kernel_rfl) { keep:=some [0,2,3,4,5]} [zg6,zg5,zet,zes] (by kernel_rfl) ?_
  intro I X hI hX
  refine zh (.br (I.ilt (I.len (α:=UInt8) s) 1) (.fin (.ret (.tup [(.one (.p (.int .i64 0))),(.one (.p (.bool Bool.false)))])) []) (.br (I.ilt 9 (I.len (α:=UInt8) s)) (.fin (.ret (.tup [(.one (.p (.int .i64 0))),(.one (.p (.bool Bool.false)))])) []) (.code 0 [1,1,1,0,1,0] ⟨[(5,(.v (.one (.p (.int .i64 0))))),(4,(.v (.one (.p (.int .i64 0))))),(3,(.v (.one (.p (.val (.bool .false)))))),(2,(.v (.one (.p (.int .i64 0))))),(0,(.v (.one (.p (.str s)))))],[],33,none⟩))) (by kernel_rfl) ?_
  simp only [zk]
  have hne:s≠[]→¬ (9:Int)<s.length→numG 10 0 s=r:=fun h1 h2=>by rw [← hr,numA,if_neg (fun h=>by rcases h with h|h;exact h1 h;exact h2 h)]
  have hyes:(s=[]∨(9:Int)<s.length)→r=(0,false):=fun h=>by rw [← hr,numA,if_pos h]
  refine⟨fun c1=> ?_,fun c1=>⟨fun c2=> ?_,fun c2=> ?_⟩⟩
  · subst hI
    simp only [nrmA,nrmB] at c1
    rw [hyes (.inl (List.eq_nil_of_length_eq_zero (by omega)))]
    simp
  · subst hI
    simp only [nrmA,nrmB] at c2
    rw [hyes (.inr c2)]
    simp
  have d1:s≠[]:=by
    subst hI
    simp only [nrmA,nrmB] at c1
    rintro rfl
    simp at c1
  have d2:s.length≤9:=by
    subst hI
    simp only [nrmA,nrmB] at c2
    omega
  refine zG hI zi mixed [zg6,zg5,zet,zes] hX [0,4,5] (fun(g:Nat × Int)=>match g with|(i,n)=>i≤s.length∧0≤n∧n≤top9 i∧numG 10 n (s.drop i)=r) (fun(g:Nat × Int)=>match g with|(i,n)=>⟨[(0,.v (.one (.p (.str s)))),(4,.v (.one (.p (.int .i64 n)))),(5,.v (.one (.p (.int .i64 i))))],[],33,none⟩) (fun(g:Nat × Int)=>match g with|(i,n)=>s.length - i) (0,0) (by kernel_rfl) (by kernel_rfl) ?_ ?_
  · exact⟨Nat.zero_le _,Int.le_refl _,Int.le_refl _,hne d1 (by omega)⟩
  rintro⟨i,n⟩ ⟨h1,h2,h3,h4⟩ A hA
  simp only at hA
  refine zh (let y0:=I.b2i (I.get (α:=UInt8) s 0 (Nat.cast i));let y1:=I.add (I.mul 10 n) (I.hid (α:=Int) (hexK y0));let y2:=([48,49,50,51,52,53,54,55,56,57]:Str);let y3:=I.inb (Nat.cast i) (I.len (α:=UInt8) s);.br (I.ilt (Nat.cast i) (I.len (α:=UInt8) s)) (.need y3 (.need (I.hid (α:=(Prop)) (And (LE.le (List.length y2) 1000000) (And (LE.le (0:Int) y0) (LE.le y0 (255:Int))))) (.br (I.bnot (I.hid (α:=Bool) (List.contains y2 (UInt8.ofNat (Int.toNat y0))))) (.fin (.ret (.tup [(.one (.p (.int .i64 0))),(.one (.p (.bool Bool.false)))])) []) (.need (I.inr Go.IntKind.i64 (I.mul 10 n)) (.need y3 (.need (I.hid (α:=(Prop)) (And (LE.le (0:Int) y0) (LE.le y0 (255:Int)))) (.need (I.inr Go.IntKind.i64 y1) (.need (I.inr Go.IntKind.i64 (I.add (Nat.cast i) 1)) (.need (A ⟨[(0,(.v (.one (.p (.str s))))),(4,(.v (.one (.p (.int .i64 y1))))),(5,(.v (.one (.p (.int .i64 (I.add (Nat.cast i) 1))))))],[],33,none⟩) .qed))))))))) (.fin (.ret (.tup [(.one (.p (.int .i64 n))),(.one (.p (.bool Bool.true)))])) [])) (by kernel_rfl) ?_
  simp only [zk]
  subst hI
  simp only [nrmA,nrmB]
  have hb:=wQ (s.getD i 0)
  have hk:=zcP hb
  have hdg:=zfS hb
  rw [Int.toNat_natCast,UInt8.ofNat_toNat] at hdg
  have hd:i<s.length→_:=fun h=>UW (base:=10) (n:=n) h
  have ht:i≤9:=by omega
  have ht:=zcl ht
  have ht2:top9 (i+1)=16 * top9 i+15:=rfl
  generalize s.getD i 0=x at *
  try rw [hdg]
  generalize hexK (x.toNat:Int)=k at *
  simp only [Int.mul_comm 10 n,decide_eq_true_eq,decide_eq_false_iff_not]
  (repeat' (first|refine And.intro ?_ ?_|intro _))<;>first|omega|exact True.intro|exact False.elim ‹False›|skip
  all_goals first
    |omega
    |decide
    |(rw [← h4,hd (by omega),if_pos (by omega)])
    |(refine hA (i+1,_) ⟨by simp only;omega,by simp only;omega,by simp only;omega,?_⟩ (by simp only;omega);rw [← h4,hd (by omega),if_neg (by omega)])
    |(rw [← h4,List.drop_of_length_le (by omega)];rfl)
def qM (I:Alg) (args:List D) (hp:List HO):Option CT:=match args,hp with
  |[.v (.one (.p (.str s)))],[]=>(fun(s:Str)=>(some (.one ⟨I.hid (True),(.ret (.tup [(.one (.p (.int .i64 (I.hid ((numA s 10 9).1))))),(.one (.p (.bool (I.hid ((numA s 10 9).2)))))])),[]⟩):Option CT)) s
  |_,_=>none
theorem UO:zo Tryz.prog 19 (qM alg):=by
  intro args hp r h
  unfold qM at h
  split at h
  · cases h;exact fun hn=>zg7 _
  · cases h
def zM:Know Tryz.prog:=⟨19,qM,UO⟩
def zL:Know Tryz.prog:=⟨19,fun I=>zq I (qM I),zf UO⟩
theorem zjT (s:Str):Spc Tryz.prog 83 [.v (.one (.p (.str s)))] [] (.ret (.tup [(.one (.p (.int .i64 ((numA s 10 9).1)))),(.one (.p (.bool ((numA s 10 9).2))))])) []:=by
  refine spcG zi mixed Tryz.func83 (by kernel_rfl) { keep:=some [0,2,3]} [YK,YJ,zcB,zcA] (by kernel_rfl) ?_
  intro I X hI hX
  refine zh (.need (I.hid (α:=(Prop)) True) (.fin (.ret (.tup [(.one (.p (.int .i64 (I.hid (α:=Int) (Prod.fst (numA s (10:Int) (9:Int))))))),(.one (.p (.bool (I.hid (α:=Bool) (Prod.snd (numA s (10:Int) (9:Int)))))))])) [])) (by kernel_rfl) ?_
  simp only [zk]
  subst hI
  simp only [nrmA,nrmB]
  try trivial
def Yn (I:Alg) (args:List D) (hp:List HO):Option CT:=match args,hp with
  |[.v (.one (.p (.str s)))],[]=>(fun(s:Str)=>(some (.one ⟨I.hid (True),(.ret (.tup [(.one (.p (.int .i64 (I.hid ((numA s 10 9).1))))),(.one (.p (.bool (I.hid ((numA s 10 9).2)))))])),[]⟩):Option CT)) s
  |_,_=>none
theorem RY:zo Tryz.prog 83 (Yn alg):=by
  intro args hp r h
  unfold Yn at h
  split at h
  · cases h;exact fun hn=>zjT _
  · cases h
def Ym:Know Tryz.prog:=⟨83,Yn,RY⟩
def Yl:Know Tryz.prog:=⟨83,fun I=>zq I (Yn I),zf RY⟩
end Go.Proofs.YtcclfkakcgnacaaGreatDoor
namespace Go.Proofs.YtcclfkakcgnacaaGreatDoor
open Go Go.Sep Go.Ab
set_option maxRecDepth 100000
theorem znE (l:Str) (hneed:l.length≤100000000):Spc Tryz.prog 65 [.v (.one (.p (.list .byte l)))] [] (.ret (.v (.one (.row 0)))) [.row .byte 5 l]:=by
  refine spcG zi mixed Tryz.func65 (by kernel_rfl) { keep:=some [0,2]} [] (by kernel_rfl) ?_
  intro I X hI hX
  refine zh (let y0:=I.few (I.add (I.len (α:=UInt8) ([]:Str)) (I.len (α:=UInt8) l)) 140737488355328;let y1:HO:=.row .byte 5 (I.app (α:=UInt8) ([]:Str) l);.br (I.ieq (I.len (α:=UInt8) l) 0) (.both (.fin (.ret (.v (.one (.row 0)))) [(.row .byte 5 ([]:Str))]) (.need y0 (.fin (.ret (.v (.one (.row 0)))) [y1]))) (.need y0 (.fin (.ret (.v (.one (.row 0)))) [y1]))) (by kernel_rfl) ?_
  simp only [zk]
  subst hI
  dsimp only [alg]
  have h2:((([]:Str).length:Nat):Int)+((l.length:Nat):Int)≤140737488355328:=by simp;omega
  refine⟨fun h=>⟨⟨trivial,?_⟩,h2,trivial,rfl⟩,fun h=>⟨h2,trivial,rfl⟩⟩
  have:l=[]:=List.eq_nil_of_length_eq_zero (by have:=eq_of_beq h;omega)
  subst this;rfl
def Uh (I:Alg) (args:List D) (hp:List HO):Option CT:=match args,hp with
  |[.v (.one (.p (.list .byte l)))],[]=>(fun(l:Str)=>(some (.one ⟨I.hid (l.length≤100000000),(.ret (.v (.one (.row 0)))),[.row .byte 5 l]⟩):Option CT)) l
  |_,_=>none
theorem zeX:zo Tryz.prog 65 (Uh alg):=by
  intro args hp r h
  unfold Uh at h
  split at h
  · cases h;exact fun hn=>znE _ hn
  · cases h
def zeW:Know Tryz.prog:=⟨65,Uh,zeX⟩
def zeV:Know Tryz.prog:=⟨65,fun I=>zq I (Uh I),zf zeX⟩
theorem zfk (x y:Str):Spc Tryz.prog 16 [.v (.one (.p (.list .byte x))),.v (.one (.p (.list .byte y)))] [] (.ret (.v (.one (.p (.bool (x == y)))))) []:=by
  refine spcG zi mixed Tryz.func16 (by kernel_rfl) { keep:=some [0,1,4]} [] (by kernel_rfl) ?_
  intro I X hI hX
  refine zh (.fin (.ret (.v (.one (.p (.bool (I.seq x y)))))) []) (by kernel_rfl) ?_
  simp only [zk]
  subst hI
  exact⟨rfl,trivial⟩
def rD (I:Alg) (args:List D) (hp:List HO):Option CT:=match args,hp with
  |[.v (.one (.p (.list .byte x))),.v (.one (.p (.list .byte y)))],[]=>(fun(x y:Str)=>(some (.one ⟨I.hid (True),(.ret (.v (.one (.p (.bool (I.hid (x == y))))))),[]⟩):Option CT)) x y
  |_,_=>none
theorem WM:zo Tryz.prog 16 (rD alg):=by
  intro args hp r h
  unfold rD at h
  split at h
  · cases h;exact fun hn=>zfk _ _
  · cases h
def yF:Know Tryz.prog:=⟨16,rD,WM⟩
def yE:Know Tryz.prog:=⟨16,fun I=>zq I (rD I),zf WM⟩
end Go.Proofs.YtcclfkakcgnacaaGreatDoor
namespace Go.Proofs.YtcclfkakcgnacaaGreatDoor
open Go Go.Sep Go.Ab
def upl0:Upl:=⟨0,0,[],[],0⟩
def atU (l:List Upl) (id:Int):Nat:=l.findIdx fun u=>u.id == id
def yJ (l:List Upl) (id:Int):Upl:=l.getD (atU l id) upl0
def yI:List Upl→Int
  |[]=>0
  |u::l=>u.bytes.length+yI l
def creC (l:List Upl) (size:Int) (m:Str):Int:=
  if size< -1 then 1 else if 2000<size∨100<m.length then 4 else if tZ m=false∨¬ Lib.trimS m [32,9]=m then 3 else if l.length=12 then 8 else 0
def creL (l:List Upl) (n size:Int) (m:Str):List Upl:=if creC l size m=0 then l++[⟨n+1,size,m,[],0⟩] else l
def creN (l:List Upl) (n size:Int) (m:Str):Int:=if creC l size m=0 then n+1 else n
def creI (l:List Upl) (n size:Int) (m:Str):Int:=if creC l size m=0 then n+1 else 0
def appC (l:List Upl) (id off:Int) (b:Str):Int:=
  if l.length≤atU l id then 10
  else if ¬ (yJ l id).sent=0 then 19
  else if ¬ off=(yJ l id).bytes.length then 17
  else if 2000<(yJ l id).bytes.length+b.length∨0≤(yJ l id).size∧(yJ l id).size<(yJ l id).bytes.length+b.length then 4
  else if 6000<yI l+b.length then 16 else 0
def appL (l:List Upl) (id off:Int) (b:Str):List Upl:=if appC l id off b=0 then l.set (atU l id) { yJ l id with bytes:=(yJ l id).bytes++b} else l
def decC (l:List Upl) (id size:Int):Int:=
  if l.length≤atU l id then 10
  else if 0≤(yJ l id).size then 18
  else if size<0 then 1
  else if 2000<size∨size<(yJ l id).bytes.length then 4 else 0
def decL (l:List Upl) (id size:Int):List Upl:=if decC l id size=0 then l.set (atU l id) { yJ l id with size:=size} else l
def droC (l:List Upl) (id:Int):Int:=if l.length≤atU l id then 10 else 0
def droL (l:List Upl) (id:Int):List Upl:=l.eraseIdx (atU l id)
def begC (l:List Upl) (id:Int):Int:=
  if l.length≤atU l id then 10
  else if ¬ (yJ l id).sent=0 then 19
  else if ¬ (yJ l id).size=(yJ l id).bytes.length then 14 else 0
def begL (l:List Upl) (id:Int):List Upl:=if begC l id=0 then l.set (atU l id) { yJ l id with sent:=1} else l
def endC (l:List Upl) (id:Int):Int:=
  if l.length≤atU l id then 10
  else if ¬ (yJ l id).sent=1 then 19 else 0
def endL (l:List Upl) (id:Int):List Upl:=if endC l id=0 then l.set (atU l id) { yJ l id with sent:=2} else l
structure znM (u:Upl):Prop where
  bl:u.bytes.length≤2000
  s1: -1≤u.size
  s2:u.size≤2000
  nl:u.note.length≤100
  bs:0≤u.size→(u.bytes.length:Int)≤u.size
  t0:0≤u.sent
  t2:u.sent≤2
  wh:u.sent≠0→u.size=u.bytes.length
structure zu (l:List Upl) (n:Int):Prop where
  n0:0≤n
  cnt:l.length≤12
  srt:l.Pairwise fun a b=>a.id<b.id
  ids: ∀ u ∈ l,1≤u.id∧u.id≤n
  each: ∀ u ∈ l,znM u
  tot:yI l≤6000
theorem Zt:zu [] 0:=⟨by decide,by decide,List.Pairwise.nil,fun _ h=>by simp at h,fun _ h=>by simp at h,by decide⟩
theorem ZJ (l:List Upl) (id:Int):atU l id≤l.length:=List.findIdx_le_length
theorem wV {l:List Upl} {id:Int} (h:atU l id<l.length):yJ l id=l[atU l id]:=by unfold yJ;simp [h]
theorem vG {l:List Upl} {id:Int} (h:atU l id<l.length):yJ l id ∈ l:=by rw [wV h];exact List.getElem_mem h
theorem YS {l:List Upl} {id:Int} (h:atU l id<l.length):(yJ l id).id=id:=by
  rw [wV h]
  have h2:(l[atU l id].id == id)=true:=List.findIdx_getElem (p:=fun u:Upl=>u.id == id) (w:=h)
  simpa using h2
theorem zf7 (a b:List Upl):yI (a++b)=yI a+yI b:=by
  induction a with
  |nil=>simp [yI]
  |cons u a ih=>simp only [List.cons_append,yI,ih];omega
theorem uq: ∀ l:List Upl,0≤yI l
  |[]=>by decide
  |u::l=>by have:=uq l;simp only [yI];omega
theorem zaQ: ∀ {l:List Upl} {i:Nat} {u:Upl} (h:i<l.length),yI (l.set i u)=yI l - l[i].bytes.length+u.bytes.length
  |v::l,0,u,h=>by simp only [List.set_cons_zero,yI,List.getElem_cons_zero];omega
  | v::l,i+1,u,h=>by
    have:=zaQ (l:=l) (i:=i) (u:=u) (by simpa using h)
    simp only [List.set_cons_succ,yI,List.getElem_cons_succ,this];omega
theorem Un: ∀ (l:List Upl) (i:Nat),yI (l.eraseIdx i)≤yI l
  |[],_=>by simp [yI]
  |v::l,0=>by simp only [List.eraseIdx_cons_zero,yI];omega
  |v::l,i+1=>by have:=Un l i;simp only [List.eraseIdx_cons_succ,yI];omega
theorem Qm {l:List Upl} {n:Int} (h:zu l n) {i:Nat} (hi:i<l.length) {u:Upl} (hid:u.id=l[i].id) (hu:znM u) (ht:yI l - l[i].bytes.length+u.bytes.length≤6000):zu (l.set i u) n:=by
  refine⟨h.n0,by rw [List.length_set];exact h.cnt,?_,fun v hv=> ?_,fun v hv=> ?_,by rw [zaQ hi];exact ht⟩
  · have h1:=List.pairwise_map (f:=fun u:Upl=>u.id) (R:=(· < ·)) (l:=l)
    have h2:=List.pairwise_map (f:=fun u:Upl=>u.id) (R:=(· < ·)) (l:=l.set i u)
    rw [List.map_set,hid] at h2
    have e:(l.map fun u:Upl=>u.id).set i l[i].id=l.map fun u:Upl=>u.id:=by
      have:=List.set_getElem_self (show i<(l.map fun u:Upl=>u.id).length by simpa using hi)
      simpa using this
    rw [e] at h2
    exact h2.1 (h1.2 h.srt)
  · rcases List.mem_or_eq_of_mem_set hv with hv|rfl
    · exact h.ids v hv
    · rw [hid];exact h.ids _ (List.getElem_mem hi)
  · rcases List.mem_or_eq_of_mem_set hv with hv|rfl
    · exact h.each v hv
    · exact hu
theorem znA {l:List Upl} {n:Int} (h:zu l n) (size:Int) (m:Str):zu (creL l n size m) (creN l n size m):=by
  unfold creL creN
  split
  · rename_i hc
    unfold creC at hc
    split at hc
    · cases hc
    split at hc
    · cases hc
    split at hc
    · cases hc
    split at hc
    · cases hc
    have hcnt:=h.cnt
    have hn:=h.n0
    refine⟨by omega,by simp;omega,?_,fun u hu=> ?_,fun u hu=> ?_,?_⟩
    · rw [List.pairwise_append]
      refine⟨h.srt,by simp,fun a ha b hb=> ?_⟩
      simp only [List.mem_singleton] at hb
      subst hb
      have:=(h.ids a ha).2
      show a.id<n+1
      omega
    · rcases List.mem_append.1 hu with hu|hu
      · have:=h.ids u hu;omega
      · simp only [List.mem_singleton] at hu;subst hu;exact⟨by show 1≤n+1;omega,by show n+1≤n+1;omega⟩
    · rcases List.mem_append.1 hu with hu|hu
      · exact h.each u hu
      · simp only [List.mem_singleton] at hu;subst hu
        exact⟨by simp,by simp only;omega,by simp only;omega,by simp only;omega,fun _=>by simpa,by simp,by simp,fun h=>absurd rfl h⟩
    · rw [zf7];have:=h.tot;simp [yI];omega
  · exact h
theorem znK {l:List Upl} {n:Int} (h:zu l n) (id off:Int) (b:Str):zu (appL l id off b) n:=by
  unfold appL
  split
  · rename_i hc
    unfold appC at hc
    split at hc
    · cases hc
    rename_i h1
    have hi:atU l id<l.length:=by omega
    have hu:=h.each _ (vG hi)
    split at hc
    · cases hc
    split at hc
    · cases hc
    split at hc
    · cases hc
    split at hc
    · cases hc
    rename_i h2 h3 h4 h5
    refine Qm h hi (by show(yJ l id).id=_;rw [wV hi]) ?_ ?_
    · refine⟨?_,hu.s1,hu.s2,hu.nl,?_,hu.t0,hu.t2,fun hs=>absurd (by simpa using h2) hs⟩
      · show((yJ l id).bytes++b).length≤2000;rw [List.length_append];omega
      · intro hs;show((((yJ l id).bytes++b).length:Nat):Int)≤(yJ l id).size;rw [List.length_append]
        have hs:0≤(yJ l id).size:=hs
        omega
    · show yI l - _+((((yJ l id).bytes++b).length:Nat):Int)≤6000
      rw [List.length_append,← wV hi];omega
  · exact h
theorem zny {l:List Upl} {n:Int} (h:zu l n) (id size:Int):zu (decL l id size) n:=by
  unfold decL
  split
  · rename_i hc
    unfold decC at hc
    split at hc
    · cases hc
    rename_i h1
    have hi:atU l id<l.length:=by omega
    have hu:=h.each _ (vG hi)
    split at hc
    · cases hc
    split at hc
    · cases hc
    split at hc
    · cases hc
    rename_i h2 h3 h4
    refine Qm h hi (by show(yJ l id).id=_;rw [wV hi]) ?_ ?_
    · refine⟨hu.bl,by show -1≤size;omega,by show size≤2000;omega,hu.nl,fun _=>by show(((yJ l id).bytes.length:Nat):Int)≤size;omega,hu.t0,hu.t2,fun hs=> ?_⟩
      have:=hu.wh hs
      omega
    · show yI l - _+(((yJ l id).bytes.length:Nat):Int)≤6000
      rw [← wV hi];have:=h.tot;omega
  · exact h
theorem znw {l:List Upl} {n:Int} (h:zu l n) (id:Int):zu (droL l id) n:=by
  unfold droL
  have hs:=List.eraseIdx_sublist l (atU l id)
  refine⟨h.n0,Nat.le_trans hs.length_le h.cnt,h.srt.sublist hs,fun u hu=>h.ids u (hs.subset hu),fun u hu=>h.each u (hs.subset hu),Int.le_trans (Un _ _) h.tot⟩
theorem znI {l:List Upl} {n:Int} (h:zu l n) (id:Int):zu (begL l id) n:=by
  unfold begL
  split
  · rename_i hc
    unfold begC at hc
    split at hc
    · cases hc
    rename_i h1
    have hi:atU l id<l.length:=by omega
    have hu:=h.each _ (vG hi)
    split at hc
    · cases hc
    split at hc
    · cases hc
    rename_i h2 h3
    refine Qm h hi (by show(yJ l id).id=_;rw [wV hi]) ⟨hu.bl,hu.s1,hu.s2,hu.nl,hu.bs,by show(0:Int)≤1;decide,by show(1:Int)≤2;decide,fun _=>by simpa using h3⟩ ?_
    show yI l - _+(((yJ l id).bytes.length:Nat):Int)≤6000
    rw [← wV hi];have:=h.tot;omega
  · exact h
theorem znu {l:List Upl} {n:Int} (h:zu l n) (id:Int):zu (endL l id) n:=by
  unfold endL
  split
  · rename_i hc
    unfold endC at hc
    split at hc
    · cases hc
    rename_i h1
    have hi:atU l id<l.length:=by omega
    have hu:=h.each _ (vG hi)
    split at hc
    · cases hc
    rename_i h2
    refine Qm h hi (by show(yJ l id).id=_;rw [wV hi]) ⟨hu.bl,hu.s1,hu.s2,hu.nl,hu.bs,by show(0:Int)≤2;decide,by show(2:Int)≤2;decide,fun _=>hu.wh (by simp only [Decidable.not_not] at h2;omega)⟩ ?_
    show yI l - _+(((yJ l id).bytes.length:Nat):Int)≤6000
    rw [← wV hi];have:=h.tot;omega
  · exact h
theorem zou {l:List Upl} (h:l.Pairwise fun a b=>a.id<b.id) {i:Nat} (hi:i<l.length):atU l l[i].id=i:=by
  unfold atU
  rw [List.findIdx_eq hi]
  refine⟨by simp,fun j hj=> ?_⟩
  have:=List.pairwise_iff_getElem.1 h j i (by omega) hi hj
  simp only [beq_eq_false_iff_ne,ne_eq]
  omega
theorem zhS {l:List Upl} (h:l.Pairwise fun a b=>a.id<b.id) (id:Int):(l.filter fun u=> !(u.id == id))=droL l id:=by
  induction l with
  |nil=>simp [droL]
  | cons u l ih=>
    have h:=List.pairwise_cons.1 h
    unfold droL atU at *
    rw [List.filter_cons,List.findIdx_cons]
    by_cases hu:u.id=id
    · have e:(u.id == id)=true:=by simpa using hu
      rw [e]
      simp only [Bool.not_true,Bool.false_eq_true,if_false,cond_true,List.eraseIdx_cons_zero]
      refine List.filter_eq_self.2 fun v hv=> ?_
      have:=h.1 v hv
      simp;omega
    · have e:(u.id == id)=false:=by simpa using hu
      rw [e]
      simp only [Bool.not_false,if_true,cond_false,List.eraseIdx_cons_succ,ih h.2]
end Go.Proofs.YtcclfkakcgnacaaGreatDoor
