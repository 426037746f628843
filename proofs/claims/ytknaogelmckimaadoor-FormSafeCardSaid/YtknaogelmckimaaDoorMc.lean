/- Texts of this proof, one behind the other: AbP AbO ShpE Tab Evt InZ Shelf Lib ChrA ChrB ChrC LnL Fnd FldA FldB FldG FldD FldE ParL Base SeekL SeekM FrmL ChrD FrmA ParA ParC ParD FrmB. -/
import Derived.Deep.LoopGhost
import Derived.Recover
import Derived.KernelRfl
import Derived.Test.YtknaogelmckimaaDoorProg
import Derived.WalkKit
import Derived.WideShapes
import Derived.ChangeArms
import Derived.SizedLaws
import Derived.Shelf.Strings.SlTrimAscii
import Derived.Shelf.Strings.Trim
import Derived.Shelf.Small.Utf8
import Derived.Shelf.Small.Strs
import Derived.Shelf.Strings.Search1
import Derived.Shelf.Strings.Search2
import Derived.Shelf.Strings.Cut
import Derived.Shelf.LaysM
import Derived.Shelf.Strings.Shaped
import Derived.Shelf.Unicode.Decode
import Derived.Shelf.Strings.Runes
import Derived.Shelf.Strings.AsciiSet
import Derived.Shelf.Unicode.DecodeSlow
import Derived.Shelf.Unicode.DecodeAny
import Derived.Shelf.Unicode.DecodeLast
import Derived.Below
import Derived.Test.YtknaogelmckimaaDoorMb
set_option linter.all false
namespace Go.Ab
open Go Go.Sep
variable [Facts]
theorem zdc {α:Type} (x:α):alg.hid x=x:=rfl
theorem zc9 (k:IntKind) (x y:Int):alg.shl k x y=k.wrap (x * 2 ^ (min y.toNat k.bits)):=rfl
theorem zc8 (x y:Int):alg.shr x y=x.fdiv (2 ^ (min y.toNat 64)):=rfl
theorem zaz (op:BinOp) (k:IntKind) (x y:Int):alg.bits op k x y=k.wrap (match op with
    |.and=>(BitVec.ofInt k.bits x&&& BitVec.ofInt k.bits y).toNat
    |.or=>(BitVec.ofInt k.bits x|||BitVec.ofInt k.bits y).toNat
    |_=>(BitVec.ofInt k.bits x ^^^ BitVec.ofInt k.bits y).toNat:Nat):=rfl
theorem zb9:IntKind.i64.min= -9223372036854775808:=by decide
theorem zca:IntKind.i64.max=9223372036854775807:=by decide
theorem zec:IntKind.u8.min=0:=by decide
theorem zed:IntKind.u8.max=255:=by decide
theorem Uh (c:UInt8):UInt8.ofNat ((c.toNat:Int)).toNat=c:=by simp
theorem vH (c d:UInt8):((c.toNat:Int)=(d.toNat:Int))↔c=d:=by
  constructor
  · intro h;exact UInt8.toNat_inj.1 (by omega)
  · intro h;rw [h]
structure CR where
  need:Prop
  out:AOut
  hp:List HO
inductive CT where
  |one (r:CR)
  |br (b:Bool) (t f:CT)
def CT.Good (Pr:Program) (f:Nat) (args:List D) (hp:List HO):CT→Prop
  |.one r=>r.need→Spc Pr f args hp r.out r.hp
  |.br b t e=>(b=true→t.Good Pr f args hp)∧(b=false→e.Good Pr f args hp)
def CT.map (g:CR→CR):CT→CT
  |.one r=>.one (g r)
  |.br b t e=>.br b (t.map g) (e.map g)
def CT.mapO (g:CR→Option CR):CT→Option CT
  |.one r=>match g r with|some r=>some (.one r)|none=>none
  |.br b t e=>match t.mapO g,e.mapO g with|some t,some e=>some (.br b t e)|_,_=>none
def CT.tree (k:CR→Tree):CT→Tree
  |.one r=>k r
  |.br b t e=>.br b (t.tree k) (e.tree k)
theorem CT.Good.map {Pr:Program} {f f':Nat} {args args':List D} {hp hp':List HO} {g:CR→CR} (h: ∀ r:CR,(r.need→Spc Pr f args hp r.out r.hp)→(g r).need→Spc Pr f' args' hp' (g r).out (g r).hp): ∀ {c:CT},c.Good Pr f args hp→(c.map g).Good Pr f' args' hp'
  |.one r,hc=>h r hc
  |.br _ _ _,hc=>⟨fun e=>CT.Good.map h (hc.1 e),fun e=>CT.Good.map h (hc.2 e)⟩
theorem CT.Good.mapO {Pr:Program} {f f':Nat} {args args':List D} {hp hp':List HO} {g:CR→Option CR} (h: ∀ r r':CR,g r=some r'→(r.need→Spc Pr f args hp r.out r.hp)→r'.need→Spc Pr f' args' hp' r'.out r'.hp): ∀ {c c':CT},c.mapO g=some c'→c.Good Pr f args hp→c'.Good Pr f' args' hp'
  | .one r,c',e,hc=>by
    simp only [CT.mapO] at e
    split at e
    · rename_i r' hr;cases e;exact h r r' hr hc
    · cases e
  | .br b t f,c',e,hc=>by
    simp only [CT.mapO] at e
    split at e
    · rename_i t' f' ht hf;cases e;exact⟨fun e=>CT.Good.mapO h ht (hc.1 e),fun e=>CT.Good.mapO h hf (hc.2 e)⟩
    · cases e
structure Know (Pr:Program) where
  f:Nat
  c:Alg→List D→List HO→Option CT
  ok: ∀ args hp r,c alg args hp=some r→r.Good Pr f args hp
def zeg:List D→List Nat
  |[]=>[]
  |d::ds=>zdu d++zeg ds
def WZ (hp:List HO) (args:List D):List Nat:=gather hp 60 (zeg args) []
def frameC (c:List D→List HO→Option CT) (args:List D) (hp:List HO):Option CT:=
  match wu (WZ hp args) hp with
  |none=>none
  | some (os,hpr)=>match c (args.map (D.ren fun q=>idx q (WZ hp args) 0)) (os.map (HO.ren fun q=>idx q (WZ hp args) 0)) with
    |none=>none
    |some r=>some (r.map fun r=>⟨r.need,r.out.ren (ZK (WZ hp args) hp.length),vX (ZK (WZ hp args) hp.length) (WZ hp args) r.hp hpr⟩)
def Y9 (I:Alg) (c:List D→List HO→Option CT):Nat→List D→List HO→Option CT
  |0,args,hp=>frameC c args hp
  | n + 1,args,hp=>match nth hp n with
    | some (.row u E l)=>(match Y9 I c n (args.map (D.frz I n u l)) (setN (hp.map (HO.frz I n u l)) n .gone) with
      | some r=>r.mapO fun r=>(match noLA r.out,Ui r.hp with
        |true,true=>some ⟨r.need,r.out,setN r.hp n (.row u E l)⟩
        |_,_=>none)
      |none=>none)
    |_=>Y9 I c n args hp
def zC (I:Alg) (c:List D→List HO→Option CT) (args:List D) (hp:List HO):Option CT:=Y9 I c hp.length args hp
def ask {Pr:Program} (I:Alg):List (Know Pr)→Nat→List D→List HO→Option CT
  |[],_,_,_=>none
  | k::r,f,args,hp=>match Nat.beq k.f f with
    |true=>(match frameC (k.c I) args hp with|some x=>some x|none=>ask I r f args hp)
    |false=>ask I r f args hp
def drive (q:Nat→List D→List HO→Option CT):Tree→Tree
  |.need p t=>.need p (drive q t)
  |.br b t f=>.br b (drive q t) (drive q f)
  | .call f args hp k=>WA hp fun hp=>match q f args hp with
    |some r=>r.tree fun r=>.need r.need (WA r.hp fun h=>drive q (k r.out h))
    |none=>.call f args hp fun o h=>drive q (k o h)
  |.code c st k=>.code c st k
  |.fin o hp=>.fin o hp
  |.both t f=>.both (drive q t) (drive q f)
  |.qed=>.qed
  |.stop n=>.stop n
def zy (Pr:Program) (f:Nat) (c:List D→List HO→Option CT):Prop:=∀ args hp r,c args hp=some r→r.Good Pr f args hp
section
variable {Pr:Program} {T:Tab} {X:Ctx} {G:AOut→List HO→Prop} {a:Act} {w:World}
theorem Xf {f:Nat} {c:List D→List HO→Option CT} (h:zy Pr f c):zy Pr f (frameC c):=by
  intro args hp r hr
  unfold frameC at hr
  split at hr
  · cases hr
  · rename_i os hpr ht
    split at hr
    · cases hr
    · rename_i r0 hc
      cases hr
      exact CT.Good.map (g:=fun r=>⟨r.need,r.out.ren (ZK (WZ hp args) hp.length),vX (ZK (WZ hp args) hp.length) (WZ hp args) r.hp hpr⟩) (fun r hs hn=>(hs hn).frame _ ht rfl rfl) (h _ _ _ hc)
theorem uX {f:Nat} {c:List D→List HO→Option CT} (h:zy Pr f c): ∀ n,zy Pr f (Y9 alg c n)
  |0=>Xf h
  | n + 1 =>by
    intro args hp r hr
    unfold Y9 at hr
    split at hr
    · rename_i u E l ho
      rw [zK] at ho
      split at hr
      · rename_i r0 hc
        refine CT.Good.mapO (fun r r' hrr hs hn=> ?_) hr (uX h n _ _ _ hc)
        split at hrr
        · rename_i h1 h2
          cases hrr
          exact Spc.zgo (hs hn) ho rfl rfl h1 h2
        · cases hrr
      · cases hr
    · exact uX h n _ _ _ hr
theorem zf {f:Nat} {c:List D→List HO→Option CT} (h:zy Pr f c):zy Pr f (zC alg c):=fun args hp=>uX h hp.length args hp
theorem uw: ∀ {kn:List (Know Pr)} {f:Nat},zy Pr f (ask alg kn f)
  |[],f=>fun args hp r hr=>by cases hr
  | k ::r,f=>fun args hp x hr=>by
    unfold ask at hr
    split at hr
    · rename_i hb
      obtain rfl:=Nat.eq_of_beq_eq_true hb
      split at hr
      · rename_i y hy;cases hr;exact Xf k.ok args hp _ hy
      · exact uw args hp x hr
    · exact uw args hp x hr
theorem CT.yM {f:Nat} {args:List D} {hp:List HO} {k:AOut→List HO→Tree} {k':AOut→List HO→Tree} (ih: ∀ o h,(k' o h).ok Pr X G→(k o h).ok Pr X G): ∀ {c:CT},c.Good Pr f args hp→(c.tree fun r=>.need r.need (k' r.out r.hp)).ok Pr X G→∃ out hp',Spc Pr f args hp out hp'∧(k out hp').ok Pr X G
  |.one r,hc,h=>⟨r.out,r.hp,hc h.1,ih _ _ h.2⟩
  | .br b t e,hc,h=>by
    cases b with
    |true=>exact CT.yM ih (hc.1 rfl) (h.1 rfl)
    |false=>exact CT.yM ih (hc.2 rfl) (h.2 rfl)
theorem Zd {q:Nat→List D→List HO→Option CT} (hq: ∀ f,zy Pr f (q f)): ∀ {t:Tree},(drive q t).ok Pr X G→t.ok Pr X G:=by
  intro t
  induction t with
  |need p t ih=>exact fun h=>⟨h.1,ih h.2⟩
  |br b t f ih1 ih2=>exact fun h=>⟨fun e=>ih1 (h.1 e),fun e=>ih2 (h.2 e)⟩
  | call f args hp k ih=>
    intro h
    simp only [drive,Xh] at h
    split at h
    · rename_i r hr;exact CT.yM (k':=fun o h=>drive q (k o h)) (fun o h=>ih o h) (hq f args hp r hr) h
    · obtain⟨o,hp',h1,h2⟩:=h;exact⟨o,hp',h1,ih _ _ h2⟩
  |code c st k ih=>exact fun h=>h
  |fin o hp=>exact fun h=>h
  |both t f ih1 ih2=>exact fun h=>⟨ih1 h.1,ih2 h.2⟩
  |qed=>exact fun h=>h
  |stop n=>exact fun h=>h
structure Rt where
  B:Code
  K:AEx→St→Tree
def uM (fn:Func):Code:=match fn.body with|some c=>c|none=>.skip
def loopBody:Code→Code
  |.loop b=>b
  |c=>c
def cAt:List Nat→Code→Code
  |[],c=>c
  | n::p,c=>match c with
    |.seq a b=>(match n with|0=>cAt p a|_=>cAt p b)
    |.cond _ t e=>(match n with|0=>cAt p t|_=>cAt p e)
    |.block _ b=>cAt p b
    |c=>c
def kAt (I:Alg) (T:Tab) (cfg:Cfg):List Nat→Code→(AEx→St→Tree)→AEx→St→Tree
  |[],_,K=>K
  | n ::p,c,K=>match c with
    |.seq a b=>(match n with|0=>kAt I T cfg p a (fun e st=>match e with|.normal=>vc I T cfg b K st|e=>K e st)|_=>kAt I T cfg p b K)
    |.cond _ t e=>(match n with|0=>kAt I T cfg p t K|_=>kAt I T cfg p e K)
    | .block id b=>kAt I T cfg p b (fun e st=>match e with
      |.exit j=>(match Nat.beq j id with|true=>K .normal st|false=>K (.exit j) st)
      |e=>K e st)
    |_=>K
def rtAt:Nat→List Rt→Rt
  |_,[]=>⟨.skip,fun _ _=>.stop 50⟩
  |0,r::_=>r
  |n+1,_::l=>rtAt n l
def leaf (I:Alg) (T:Tab) (cfg:Cfg) (R:List Rt) (i:Nat) (p:List Nat) (st:St):Tree:=
  .code (cAt p (rtAt i R).B) st (kAt I T cfg p (rtAt i R).B (rtAt i R).K)
def zgv (I:Alg) (T:Tab) (cfg:Cfg) (c:Code) (K:AEx→St→Tree) (st:St):Tree:=
  match c with
  |.region _ ops draw=>regT I T cfg ops draw K (st.tidy cfg.keep)
  |c=>vc I T cfg c K st
def go (I:Alg) (T:Tab) (cfg:Cfg) (kn:List (Know Pr)) (R:List Rt) (i:Nat) (p:List Nat) (st:St):Tree:=
  drive (ask I kn) (zgv I T cfg (cAt p (rtAt i R).B) (kAt I T cfg p (rtAt i R).B (rtAt i R).K) st)
def cutM (cfg:Cfg) (k0:Nat) (dom:List Nat) (st:St):Option St:=St.cut cfg.fsl k0 dom (qc cfg.mv st)
def zfY (cfg:Cfg) (k0:Nat) (dom:List Nat) (A:St→Prop) (k:AEx→St→Tree):AEx→St→Tree:=fun e st=>
  match e with
  |.normal=>(match cutM cfg k0 dom st with|some s=>.need (A s) .qed|none=>.stop 19)
  |e=>k e st
def round (I:Alg) (T:Tab) (cfg:Cfg) (k0:Nat) (dom:List Nat) (A:St→Prop) (R:List Rt) (i:Nat) (p:List Nat):Rt:=
  ⟨loopBody (cAt p (rtAt i R).B),zfY cfg k0 dom A (kAt I T cfg p (rtAt i R).B (rtAt i R).K)⟩
inductive PT where
  |need (p:Prop) (t:PT)
  |br (b:Bool) (t f:PT)
  |code (i:Nat) (p:List Nat) (st:St)
  |fin (o:AOut) (hp:List HO)
  |both (t f:PT)
  |qed
  |stop (n:Nat)
def PT.inst (I:Alg) (T:Tab) (cfg:Cfg) (R:List Rt):PT→Tree
  |.need p t=>.need p (t.inst I T cfg R)
  |.br b t f=>.br b (t.inst I T cfg R) (f.inst I T cfg R)
  |.code i p st=>leaf I T cfg R i p st
  |.fin o hp=>.fin o hp
  |.both t f=>.both (t.inst I T cfg R) (f.inst I T cfg R)
  |.qed=>.qed
  |.stop n=>.stop n
theorem zi {I:Alg} {cfg:Cfg} {kn:List (Know Pr)} {R:List Rt} {i:Nat} {p:List Nat} {st:St} (pt:PT) (h:go I T cfg kn R i p st=pt.inst I T cfg R) (k:Ok Pr X G (pt.inst I T cfg R)):Ok Pr X G (go I T cfg kn R i p st):=h▸k
theorem UD {I:Alg} {cfg:Cfg} {R:List Rt} {p:Prop} {t:PT}:Ok Pr X G (PT.inst I T cfg R (.need p t))↔p∧Ok Pr X G (t.inst I T cfg R):=ze0
theorem zb5 {I:Alg} {cfg:Cfg} {R:List Rt} {b:Bool} {t f:PT}:Ok Pr X G (PT.inst I T cfg R (.br b t f))↔(b=true→Ok Pr X G (t.inst I T cfg R))∧(b=false→Ok Pr X G (f.inst I T cfg R)):=zg4
theorem UF {I:Alg} {cfg:Cfg} {R:List Rt} {t f:PT}:Ok Pr X G (PT.inst I T cfg R (.both t f))↔Ok Pr X G (t.inst I T cfg R)∧Ok Pr X G (f.inst I T cfg R):=ze1
theorem QM {I:Alg} {cfg:Cfg} {R:List Rt} {o:AOut} {hp:List HO}:Ok Pr X G (PT.inst I T cfg R (.fin o hp))↔G o hp:=zgh
theorem QK {I:Alg} {cfg:Cfg} {R:List Rt}:Ok Pr X G (PT.inst I T cfg R .qed)↔True:=zgg
theorem UC {I:Alg} {cfg:Cfg} {R:List Rt} {n:Nat}:Ok Pr X G (PT.inst I T cfg R (.stop n))↔False:=zeZ
theorem UE {I:Alg} {cfg:Cfg} {R:List Rt} {i:Nat} {p:List Nat} {st:St}:Ok Pr X G (PT.inst I T cfg R (.code i p st))↔Ok Pr X G (leaf I T cfg R i p st):=Iff.rfl
def qQ (cfg:Cfg):Code→Bool
  |.region id _ _=>memN id cfg.seam
  |_=>false
theorem spcG {P:Program} {T:Tab} (hT:T.fits P) (hm:P.follows .mixedOrders=true) {f:Nat} {fn:Func} (hf:P.funcs[f]? =some fn) (hn:(fn.name == "runtime.NumGoroutine")=false) (cfg:Cfg) (kn:List (Know P)) {args:List D} {hp:List HO} {out:AOut} {hp':List HO}
    (hb:(fn.body.isSome&& !qQ cfg (uM fn)&&Nat.ble args.length fn.ntmps)=true)
    (h: ∀ (I:Alg) (X:Ctx),I=alg→X.bs0.length=hp.length→Ok P X (fun o h=>o=out∧h=hp') (go I T cfg kn [⟨uM fn,finK I T cfg hp.length fn⟩] 0 [] { env:=XL 0 args,hp:=hp,n:=fn.ntmps})):Spc P f args hp out hp':=by
  simp only [Bool.and_eq_true,Bool.not_eq_true'] at hb
  refine zaD hT hm hf hn (cfg:=cfg) hb.1.1 hb.2 fun I X hI hX=> ?_
  subst hI
  have h1:=(h alg X rfl hX).out
  have h2:=Zd (fun f=>uw) h1
  have hs:=hb.1.2
  unfold funT
  unfold uM at h2 hs
  cases hbd:fn.body with
  |none=>rw [hbd] at hb;cases hb.1.1
  | some c=>
    rw [hbd] at h2 hs
    simp only [rtAt,cAt,kAt] at h2
    simp only at hs ⊢
    cases c<;>first|exact h2|skip
    simp only [qQ] at hs
    simp only [vc,hs]
    exact h2
theorem vZ (hT:T.fits Pr) (hm:Pr.follows .mixedOrders=true) {cfg:Cfg} {c:Code} {K:AEx→St→Tree} {st:St} (h:(zgv alg T cfg c K st).ok Pr X G) (hn:Now X st a w):c.wp Pr (Post X fun e st'=>(K e st').ok Pr X G) a w:=by
  cases c with
  |region id ops draw=>exact XV hT hm h (hn.tidy cfg.keep)
  |_=>exact Qb hT hm (cfg:=cfg) h hn
theorem ZI {cfg:Cfg} {k0:Nat} (hk:X.bs0.length=k0) {dom:List Nat} {st s:St} (hc:cutM cfg k0 dom st=some s) (hn:Now X st a w):Now X s a w:=by
  obtain⟨S,K,hH,hE⟩:=hn
  obtain⟨K',h1,h2⟩:=vY cfg.mv hH hE
  exact zcR hk hc ⟨S,K',h1,h2⟩
theorem zF {I:Alg} (hI:I=alg) (hT:T.fits Pr) (hm:Pr.follows .mixedOrders=true) {cfg:Cfg} (kn:List (Know Pr)) {R:List Rt} {i:Nat} {p:List Nat} {st:St} {k0:Nat} (hk:X.bs0.length=k0) (dom:List Nat) {ι:Type} (Inv:ι→Prop) (Iv:ι→St) (μ:ι→Nat) (g0:ι)
    (hc:(match cAt p (rtAt i R).B with|.loop b=> !qQ cfg b|_=>false)=true) (h0:cutM cfg k0 dom st=some (Iv g0)) (hg0:Inv g0)
    (hr: ∀ (g:ι),Inv g→∀ (A:St→Prop),(∀ g',Inv g'→μ g'<μ g→A (Iv g'))→Ok Pr X G (go I T cfg kn (round I T cfg k0 dom A R i p::R) 0 [] (Iv g))):Ok Pr X G (leaf I T cfg R i p st):=by
  subst hI
  constructor
  unfold leaf
  intro S K a w hH hE
  obtain⟨b,hb⟩: ∃ b,cAt p (rtAt i R).B=.loop b:=by
    cases h:cAt p (rtAt i R).B<;>rw [h] at hc<;>first|exact⟨_,rfl⟩|cases hc
  rw [hb]
  refine wp_loop_ghost (fun n a w=>∃ g,Inv g∧μ g=n∧Now X (Iv g) a w) (μ g0) ⟨g0,hg0,rfl,ZI hk h0 ⟨S,K,hH,hE⟩⟩ ?_
  rintro n a w ⟨g,hg,rfl,hn⟩
  have h1:=(hr g hg (fun s=>∃ g',Inv g'∧μ g'<μ g∧s=Iv g') (fun g' hi hl=>⟨g',hi,hl,rfl⟩)).out
  have h2:=Zd (fun f=>uw) h1
  simp only [rtAt,cAt,kAt,round,hb,loopBody] at h2
  refine wp_mono (vZ hT hm h2 hn) fun e a' w' hq=> ?_
  obtain⟨e',st',h1,S',K',hH',hE',hem⟩:=hq
  generalize kAt alg T cfg p (rtAt i R).B (rtAt i R).K=k at h1
  have keep: ∀ {e:Exit} {e':AEx},(∀ (h:e'=.normal),False)→EM S' (K'.map CO.base) e e'→(k e' st').ok Pr X G→Post X (fun e st'=>(k e st').ok Pr X G) e a' w':=fun {e e'} _ hem h=>⟨e',st',h,S',K',hH',hE',hem⟩
  cases e' with
  | normal=>
    cases e with
    | normal=>
      have h1:((match cutM cfg k0 dom st' with|some s=>Tree.need (∃ g',Inv g'∧μ g'<μ g∧s=Iv g') .qed|none=>.stop 19):Tree).ok Pr X G:=h1
      split at h1
      · rename_i s hs
        obtain⟨⟨g',hi,hlt,rfl⟩,_⟩:=h1
        exact⟨μ g',hlt,g',hi,rfl,ZI hk hs ⟨S',K',hH',hE'⟩⟩
      · exact h1.elim
    |exit i=>exact hem.elim
    |goto l=>exact hem.elim
    |ret=>exact hem.elim
    |panic ch=>exact hem.elim
    |outgrown=>exact hem.elim
  | exit j=>cases e with
    |exit i=>exact keep (fun h=>by cases h) hem h1
    |normal=>exact hem.elim
    |goto l=>exact hem.elim
    |ret=>exact hem.elim
    |panic ch=>exact hem.elim
    |outgrown=>exact hem.elim
  | ret=>cases e with
    |ret=>exact keep (fun h=>by cases h) hem h1
    |normal=>exact hem.elim
    |goto l=>exact hem.elim
    |exit j=>exact hem.elim
    |panic ch=>exact hem.elim
    |outgrown=>exact hem.elim
  | pan c=>cases e with
    |panic ch=>exact keep (fun h=>by cases h) hem h1
    |normal=>exact hem.elim
    |goto l=>exact hem.elim
    |exit j=>exact hem.elim
    |ret=>exact hem.elim
    |outgrown=>exact hem.elim
theorem seam {I:Alg} (hI:I=alg) (hT:T.fits Pr) (hm:Pr.follows .mixedOrders=true) {cfg:Cfg} (kn:List (Know Pr)) {R:List Rt} {i:Nat} {p:List Nat} {st:St} {k0:Nat} (hk:X.bs0.length=k0) (dom:List Nat) (st1:St)
    (h0:cutM cfg k0 dom st=some st1) (hr:Ok Pr X G (go I T cfg kn R i p st1)):Ok Pr X G (leaf I T cfg R i p st):=by
  subst hI
  constructor
  intro S K a w hH hE
  exact vZ hT hm (Zd (fun f=>uw) hr.out) (ZI hk h0 ⟨S,K,hH,hE⟩)
end
inductive AM where
  |ret
  |pan (c:C)
def MAM (S:Frz) (bs:List Value):AM→FrameMode→Prop
  |.ret,u=>u=.returning
  |.pan c,u=>∃ v,u=.panicking [{ v:=v,recovered:=false}]∧MC S bs c v
def SpcD (Pr:Program) (g:Nat) (caps:List Cap) (m:AM) (hp:List HO) (m':AM) (hp':List HO):Prop:=
  (∃ fn,Pr.funcs[g]? =some fn∧(fn.name == "runtime.NumGoroutine")=false∧fn.body.isNone=false)∧
  ∀ (S:Frz) (K:List CO) (fr:List Chunk) (w:World) (vs:List Value) (u:FrameMode),HR S (K.map CO.base) hp K→uO S (K.map CO.base) caps vs→At w (frzC S::(CO.zk K++fr))→MAM S (K.map CO.base) m u→
    CallsD Pr g vs.toArray u w fun e u' w'=>(∃ v,e=.returned v)∧∃ S' K',S.le S'∧Ext (K.map CO.base) (K'.map CO.base)∧HR S' (K'.map CO.base) hp' K'∧At w' (frzC S'::(CO.zk K'++fr))∧MAM S' (K'.map CO.base) m' (settle u')
structure Door (Pr:Program) where
  g:Nat
  c:Alg→AM→List Cap→List HO→Option (Prop × AM × List HO)
  ok: ∀ m caps hp p m' hp',c alg m caps hp=some (p,m',hp')→p→SpcD Pr g caps m hp m' hp'
def AM.out:AM→AEx
  |.ret=>.ret
  |.pan c=>.pan c
def zgi:AEx→Option AM
  |.normal=>some .ret
  |.ret=>some .ret
  |.pan c=>some (.pan c)
  |.exit _=>none
def zgC {Pr:Program} (I:Alg) (T:Tab) (cfg:Cfg) (k0:Nat) (fn:Func) (dk:Door Pr) (e:AEx) (st:St):Tree:=
  match st.df with
  |none=>zdX I T cfg k0 fn e st
  | some (g,caps)=>match Nat.beq g dk.g,zgi e with
    | true,some m=>(match dk.c I m caps st.hp with
      |some (p,m',hp')=>.need p (zdX I T cfg k0 fn m'.out { st with hp:=hp',df:=none})
      |none=>.stop 91)
    |_,_=>.stop 92
section
variable {Pr:Program} {T:Tab} {a:Act} {w:World}
theorem zbf {g:Nat} {fn:Func} (hfn:Pr.funcs[g]? =some fn) (hname:(fn.name == "runtime.NumGoroutine")=false) (hbody:fn.body.isNone=false) (args:Array Value):(callFunc g args).run Pr w=.ok (.enter g args) w:=by
  have hname': ¬ fn.name= "runtime.NumGoroutine" :=by simpa using hname
  have hbody': ¬ fn.body=none:=by cases hb:fn.body with|none=>rw [hb] at hbody;cases hbody|some c=>simp
  simp [callFunc,program,hfn,Sem.run]
  rw [if_neg hname',if_neg hbody']
theorem zgX {P:Program} {T:Tab} (hT:T.fits P) (hm:P.follows .mixedOrders=true) {f:Nat} {fn:Func} (hf:P.funcs[f]? =some fn) (hn:(fn.name == "runtime.NumGoroutine")=false) (cfg:Cfg) (kn:List (Know P)) (dk:Door P) {args:List D} {hp:List HO} {out:AOut} {hp':List HO}
    (hb:(fn.body.isSome&& !qQ cfg (uM fn)&&Nat.ble args.length fn.ntmps)=true)
    (h: ∀ (I:Alg) (X:Ctx),I=alg→X.bs0.length=hp.length→Ok P X (fun o h=>o=out∧h=hp') (go I T cfg kn [⟨uM fn,zgC I T cfg hp.length fn dk⟩] 0 [] { env:=XL 0 args,hp:=hp,n:=fn.ntmps})):Spc P f args hp out hp':=by
  simp only [Bool.and_eq_true,Bool.not_eq_true'] at hb
  obtain⟨⟨hb1,hb2⟩,hb3⟩:=hb
  obtain⟨c,hc⟩:=Option.isSome_iff_exists.1 hb1
  have hbo:uM fn=c:=by unfold uM;rw [hc]
  refine⟨⟨fn,hf,hn,by rw [hc];rfl⟩,fun S K fr w vs hHR hargs hat=> ?_⟩
  have h1:=(h alg ⟨S,K.map CO.base,fr⟩ rfl (by simp [hHR.1])).out
  have h2:=Zd (fun f=>uw) h1
  simp only [rtAt,cAt,kAt,hbo] at h2
  have hal:=hargs.length
  have hle:=Nat.le_of_ble_eq_true hb3
  have hnow:Now ⟨S,K.map CO.base,fr⟩ { env:=XL 0 args,hp:=hp,n:=fn.ntmps} { tmps:=vs.toArray++Array.replicate (fn.ntmps - vs.toArray.size) undef,defers:=[]} w:=by
    refine⟨S,K,⟨Frz.le.refl S,Ext.refl _,hHR,hat⟩,⟨?_,rfl,fun t d hd=> ?_⟩⟩
    · simp [hal];omega
    · obtain⟨_,v,h1,h2⟩:=sJ hargs hd
      simp only [Nat.sub_zero] at h1
      have hlt:=(List.getElem?_eq_some_iff.1 h1).1
      have e:(vs.toArray++Array.replicate (fn.ntmps - vs.toArray.size) undef).getD t undef=v:=by
        rw [Array.getD_eq_getD_getElem?,Array.getElem?_append_left (by simpa using hlt)]
        simp [h1]
      rw [e];exact h2
  refine calls_of_wp_defers hf hc (wp_mono (vZ hT hm h2 hnow) fun e a w' hq=> ?_)
  obtain⟨e',st',hk,S',K',hH,hE,hem⟩:=hq
  have hlen:(K.map CO.base).length=hp.length:=by simp [hHR.1]
  unfold zgC at hk
  split at hk
  · rename_i hdf
    have hd:a.defers=[]:=by have:=hE.defers;rw [hdf] at this;exact this
    have hfin:=Td (X:=⟨S,K.map CO.base,fr⟩) hT hlen hk hH hE hem
    cases e with
    |normal=>show Leaves P fn a.tmps _ a.defers .returning w';rw [hd];exact hfin
    |ret=>show Leaves P fn a.tmps _ a.defers .returning w';rw [hd];exact hfin
    |panic ch=>show Leaves P fn a.tmps _ a.defers (.panicking ch) w';rw [hd];exact hfin
    |exit i=>exact hfin.elim
    |goto l=>exact hfin.elim
    |outgrown=>exact hfin.elim
  · rename_i g caps hdf
    split at hk
    · rename_i m hg hmo
      have hg:=Nat.eq_of_beq_eq_true hg
      split at hk
      · rename_i p m' hp2 hc2
        obtain⟨hpn,hk⟩:=hk
        have hds:=hE.defers
        rw [hdf] at hds
        obtain⟨us,hcap,hds⟩:=hds
        have hspec:=dk.ok _ _ _ _ _ _ hc2 hpn
        rw [← hg] at hspec
        obtain⟨⟨gn,hgn,hgname,hgbody⟩,hspec⟩:=hspec
        have key: ∀ u,MAM S' (K'.map CO.base) m u→u≠ .run→Leaves P fn a.tmps (fun e w'=>∃ S' K',S.le S'∧Ext (K.map CO.base) (K'.map CO.base)∧HR S' (K'.map CO.base) hp' K'∧At w' (frzC S'::(CO.zk K'++fr))∧EOut S' (K'.map CO.base) out e) a.defers u w':=by
          intro u hu hrun
          rw [hds]
          refine⟨hrun,_,_,g,us.toArray,rfl,?_,CallsD.mono (hspec S' K' fr w' us u hH.2.2.1 hcap hH.2.2.2 hu) ?_⟩
          · simp only [invoke,Array.empty_append]
            exact zbf hgn hgname hgbody _
          · rintro e2 u' w2 ⟨⟨v,rfl⟩,S2,K2,hle2,hex2,hHR2,hat2,hm2⟩
            simp only
            have hH2:Heap ⟨S,K.map CO.base,fr⟩ hp2 S2 K2 w2:=⟨hH.1.trans hle2,hH.2.1.trans hex2,hHR2,hat2⟩
            have hE2:Env S2 (K2.map CO.base) { st' with hp:=hp2,df:=none} { a with defers:=[]}:=⟨hE.size,rfl,fun t d hd=>(hE.slots t d hd).mono hle2 hex2⟩
            cases m' with
            | ret=>
              have:settle u'=.returning:=hm2
              rw [this]
              exact Td (X:=⟨S,K.map CO.base,fr⟩) (e:=.ret) hT hlen hk hH2 hE2 trivial
            | pan c=>
              obtain⟨v2,h5,h6⟩:=hm2
              rw [h5]
              exact Td (X:=⟨S,K.map CO.base,fr⟩) (e:=.panic _) hT hlen hk hH2 hE2 ⟨v2,rfl,h6⟩
        cases e with
        |normal=>cases e'<;>first|exact hem.elim|(cases hmo;exact key .returning rfl (by simp))
        |ret=>cases e'<;>first|exact hem.elim|(cases hmo;exact key .returning rfl (by simp))
        |panic ch=>cases e'<;>first|exact hem.elim|(cases hmo;exact key (.panicking ch) (by obtain⟨v,h1,h2⟩:=hem;exact⟨v,by rw [h1],h2⟩) (by simp))
        |exit i=>cases e'<;>first|exact hem.elim|(cases hmo;done)
        |goto l=>cases e'<;>exact hem.elim
        |outgrown=>cases e'<;>exact hem.elim
      · exact hk.elim
    · exact hk.elim
def recC:AM→C
  |.ret=>.p (.val .nilIface)
  |.pan c=>c
theorem XR {P:Program} {T:Tab} (hT:T.fits P) (hm:P.follows .mixedOrders=true) {f:Nat} {fn:Func} (hf:P.funcs[f]? =some fn) (hn:(fn.name == "runtime.NumGoroutine")=false) (cfg:Cfg) (kn:List (Know P))
    {id t t2 ty0 ty1:Nat} {pos0 pos1:String} {af0 af1:Array Edge} {rest:Code}
    (hb:fn.body=some (.seq (.region id #[⟨some t,.call ⟨.builtin .recover,#[],#[]⟩,ty0,pos0,af0,none⟩,⟨some t2,.assign (.tmp t),ty1,pos1,af1,none⟩] false) rest))
    {m:AM} {caps:List Cap} {hp hp':List HO}
    (hbb:(Nat.blt t fn.ntmps&&Nat.blt t2 fn.ntmps&& !Nat.beq t t2&&Nat.ble caps.length fn.ntmps&& !qQ cfg rest)=true)
    (h: ∀ (I:Alg) (X:Ctx),I=alg→X.bs0.length=hp.length→Ok P X (fun o h=>o=.ret (.tup [])∧h=hp') (go I T cfg kn [⟨uM fn,finK I T cfg hp.length fn⟩] 0 [1] (({ env:=XL 0 (caps.map dP),hp:=hp,n:=fn.ntmps}:St).put (some t) (.v (.one (recC m))) |>.put (some t2) (.v (.one (recC m)))))):SpcD P f caps m hp .ret hp':=by
  simp only [Bool.and_eq_true,Bool.not_eq_true'] at hbb
  obtain⟨⟨⟨⟨ht,ht2⟩,hne⟩,hle⟩,hseam⟩:=hbb
  have ht:t<fn.ntmps:=by simpa using ht
  have ht2:t2<fn.ntmps:=by simpa using ht2
  have hne:t≠t2:=Nat.ne_of_beq_eq_false hne
  have hle:=Nat.le_of_ble_eq_true hle
  refine⟨⟨fn,hf,hn,by rw [hb];rfl⟩,fun S K fr w vs u hHR hcap hat hmode=> ?_⟩
  have h1:=(h alg ⟨S,K.map CO.base,fr⟩ rfl (by simp [hHR.1])).out
  have h2:=Zd (fun f=>uw) h1
  have hbo:uM fn=.seq (.region id #[⟨some t,.call ⟨.builtin .recover,#[],#[]⟩,ty0,pos0,af0,none⟩,⟨some t2,.assign (.tmp t),ty1,pos1,af1,none⟩] false) rest:=by unfold uM;rw [hb]
  simp only [rtAt,hbo,cAt,kAt] at h2
  have hal:=hcap.mds.length
  rw [List.length_map] at hal
  have hlen:(K.map CO.base).length=hp.length:=by simp [hHR.1]
  refine callsD_of_wpS hf hb fun c₀ cs hu=> ?_
  obtain⟨x,u1,hrec,hx,hset⟩: ∃ x u1,(match recoverD (c₀::cs) with|some (v,cs')=>(v,cs')|none=>(.nilIface,c₀::cs))=(x,{ c₀ with mode:=u1}::cs)∧MC S (K.map CO.base) (recC m) x∧settle u1=.returning:=by
    cases m with
    | ret=>
      have hmode:u=.returning:=hmode
      subst hmode
      refine⟨.nilIface,.returning,?_,.val _ rfl,rfl⟩
      simp only [recoverD,hu]
      cases c₀;simp at hu;subst hu;rfl
    | pan c=>
      obtain⟨v,rfl,hv⟩:=hmode
      refine⟨v,.panicking [{ v:=v,recovered:=true}],?_,hv,rfl⟩
      simp [recoverD,hu]
  have hnow:Now ⟨S,K.map CO.base,fr⟩ (({ env:=XL 0 (caps.map dP),hp:=hp,n:=fn.ntmps}:St).put (some t) (.v (.one (recC m))) |>.put (some t2) (.v (.one (recC m)))) (({ tmps:=vs.toArray++Array.replicate (fn.ntmps - vs.toArray.size) undef,defers:=[]}:Act).put (some t) x |>.put (some t2) x) w:=by
    have hE0:Env S (K.map CO.base) { env:=XL 0 (caps.map dP),hp:=hp,n:=fn.ntmps} { tmps:=vs.toArray++Array.replicate (fn.ntmps - vs.toArray.size) undef,defers:=[]}:=by
      refine⟨?_,rfl,fun t d hd=> ?_⟩
      · simp [hal];omega
      · obtain⟨_,v,h1,h2⟩:=sJ hcap.mds hd
        simp only [Nat.sub_zero] at h1
        have hlt:=(List.getElem?_eq_some_iff.1 h1).1
        have e:(vs.toArray++Array.replicate (fn.ntmps - vs.toArray.size) undef).getD t undef=v:=by
          rw [Array.getD_eq_getD_getElem?,Array.getElem?_append_left (by simpa using hlt)]
          simp [h1]
        rw [e];exact h2
    exact⟨S,K,by rw [xR,xR];exact⟨Frz.le.refl S,Ext.refl _,hHR,hat⟩,(hE0.put (some t) (d:=.v (.one (recC m))) hx).put (some t2) (d:=.v (.one (recC m))) hx⟩
  have hw:=vZ hT hm h2 hnow
  refine wpS_seq (wpS_region ?_)
  have hsz:t<(vs.toArray++Array.replicate (fn.ntmps - vs.toArray.size) undef).size:=by simp [hal];omega
  have hev:({ tmps:=(vs.toArray++Array.replicate (fn.ntmps - vs.toArray.size) undef).setIfInBounds t x,defers:=[]}:Act).eval (.tmp t)=x:=by
    simp only [Act.eval]
    rw [Array.getD_eq_getD_getElem?,Array.getElem?_setIfInBounds_self_of_lt hsz];rfl
  have hgoal:rest.wpS P (bodyPostS P fn c₀ cs fun e u' w'=>(∃ v,e=.returned v)∧∃ S' K',S.le S'∧Ext (K.map CO.base) (K'.map CO.base)∧HR S' (K'.map CO.base) hp' K'∧At w' (frzC S'::(CO.zk K'++fr))∧MAM S' (K'.map CO.base) .ret (settle u'))
      (({ tmps:=vs.toArray++Array.replicate (fn.ntmps - vs.toArray.size) undef,defers:=[]}:Act).put (some t) x |>.put (some t2) x) ({ c₀ with mode:=u1}::cs) w:=by
    refine wpS_of_wp (wp_mono hw fun e a' w' hq=> ?_)
    obtain⟨e',st',hk,S',K',hH,hE,hem⟩:=hq
    unfold finK at hk
    split at hk
    case h_2=>exact hk.elim
    rename_i hdf
    have hd:a'.defers=[]:=by have:=hE.defers;rw [hdf] at this;exact this
    have hfin:=Td (X:=⟨S,K.map CO.base,fr⟩) hT hlen hk hH hE hem
    cases e with
    |normal=>obtain⟨v,hv,S2,K2,h5,h6,h7,h8,_⟩:=hfin;exact⟨hd,u1,rfl,v,hv,⟨v,rfl⟩,S2,K2,h5,h6,h7,h8,hset⟩
    |ret=>obtain⟨v,hv,S2,K2,h5,h6,h7,h8,_⟩:=hfin;exact⟨hd,u1,rfl,v,hv,⟨v,rfl⟩,S2,K2,h5,h6,h7,h8,hset⟩
    |panic ch=>obtain⟨S2,K2,h5,h6,h7,h8,h9⟩:=hfin;exact h9.elim
    |exit i=>exact hfin.elim
    |goto l=>exact hfin.elim
    |outgrown=>exact hfin.elim
  clear hnow hw
  generalize vs.toArray++Array.replicate (fn.ntmps - vs.toArray.size) undef=tm at hev hgoal hsz ⊢
  have hr0: ∀ (a:Act),(execOp a.eval ⟨some t,.call ⟨.builtin .recover,#[],#[]⟩,ty0,pos0,af0,none⟩).run P w=.ok .recover w:=by
    intro a;simp [execOp,Go.resolve,invoke,builtin]
  simp only [List.size_toArray,List.length_cons,List.length_nil,Nat.zero_add,Nat.reduceAdd,List.range_succ_eq_map,List.range_zero,List.map_cons,List.map_nil]
  simp only [wpOpsS,List.getElem?_toArray,List.getElem?_cons_zero,List.getElem?_cons_succ,Region.wanted,if_true,hr0]
  cases hq:recoverD (c₀::cs) with
  | none=>
    rw [hq] at hrec
    simp only [Prod.mk.injEq] at hrec
    obtain⟨rfl,hcs⟩:=hrec
    simp only [Act.put,execOp,Sem.run_pure,hev,Oper.upon,Exit.thenS]
    rw [hcs]
    exact hgoal
  | some y=>
    obtain⟨y,cs'⟩:=y
    rw [hq] at hrec
    simp only [Prod.mk.injEq] at hrec
    obtain⟨rfl,rfl⟩:=hrec
    simp only [Act.put,execOp,Sem.run_pure,hev,Oper.upon,Exit.thenS]
    exact hgoal
end
theorem nrmA:type_of% (And.intro @RZ <| And.intro @zdb <| And.intro @xQ <| And.intro @uy <| And.intro @RV <| And.intro @RU <| And.intro @zda <| And.intro @zay <| And.intro @VU <| And.intro @VW <| And.intro @VX <| And.intro @VY <| And.intro @ZM <| And.intro @uG <| And.intro @XE <| And.intro @RY <| And.intro @XB <| And.intro @zL <| And.intro @ZN <| And.intro @xP <| And.intro @XD <| And.intro @RS <| And.intro @XC <| And.intro @RX <| And.intro @uD <| And.intro @Zn <| And.intro @uz <| And.intro @uF <| And.intro @VT <| And.intro @ZL <| And.intro @zdc <| And.intro @zc9 <| And.intro @zc8 <| @zaz):=And.intro @RZ <| And.intro @zdb <| And.intro @xQ <| And.intro @uy <| And.intro @RV <| And.intro @RU <| And.intro @zda <| And.intro @zay <| And.intro @VU <| And.intro @VW <| And.intro @VX <| And.intro @VY <| And.intro @ZM <| And.intro @uG <| And.intro @XE <| And.intro @RY <| And.intro @XB <| And.intro @zL <| And.intro @ZN <| And.intro @xP <| And.intro @XD <| And.intro @RS <| And.intro @XC <| And.intro @RX <| And.intro @uD <| And.intro @Zn <| And.intro @uz <| And.intro @uF <| And.intro @VT <| And.intro @ZL <| And.intro @zdc <| And.intro @zc9 <| And.intro @zc8 <| @zaz
theorem nrmB:type_of% (And.intro @decide_eq_true_eq <| And.intro @decide_eq_false_iff_not <| And.intro @beq_iff_eq.{0} <| And.intro @beq_eq_false_iff_ne.{0} <| And.intro @Bool.not_eq_true' <| And.intro @Bool.not_eq_false' <| And.intro @Bool.and_eq_true <| And.intro @Bool.and_true <| And.intro @Bool.true_and <| And.intro @and_true <| And.intro @true_and <| And.intro @ne_eq.{1} <| And.intro @Int.toNat_zero <| And.intro @Nat.sub_zero <| And.intro @List.drop_zero.{0} <| And.intro @zb9 <| And.intro @zca <| And.intro @zec <| And.intro @zed <| And.intro @Uh <| And.intro @vH <| And.intro @Int.toNat_natCast <| And.intro @Int.ofNat_eq_natCast <| And.intro @UInt8.ofNat_toNat <| And.intro @AOut.ret.injEq <| And.intro @AOut.pan.injEq <| And.intro @C.ifc.injEq <| And.intro @D.v.injEq <| And.intro @D.tup.injEq <| And.intro @V0.one.injEq <| And.intro @C.p.injEq <| And.intro @P.bool.injEq <| And.intro @P.int.injEq <| And.intro @P.str.injEq <| And.intro @Bool.false_eq_true <| And.intro @Bool.true_eq_false <| And.intro @imp_false <| And.intro @Decidable.not_not <| And.intro @not_true_eq_false <| @not_false_eq_true):=And.intro @decide_eq_true_eq <| And.intro @decide_eq_false_iff_not <| And.intro @beq_iff_eq.{0} <| And.intro @beq_eq_false_iff_ne.{0} <| And.intro @Bool.not_eq_true' <| And.intro @Bool.not_eq_false' <| And.intro @Bool.and_eq_true <| And.intro @Bool.and_true <| And.intro @Bool.true_and <| And.intro @and_true <| And.intro @true_and <| And.intro @ne_eq.{1} <| And.intro @Int.toNat_zero <| And.intro @Nat.sub_zero <| And.intro @List.drop_zero.{0} <| And.intro @zb9 <| And.intro @zca <| And.intro @zec <| And.intro @zed <| And.intro @Uh <| And.intro @vH <| And.intro @Int.toNat_natCast <| And.intro @Int.ofNat_eq_natCast <| And.intro @UInt8.ofNat_toNat <| And.intro @AOut.ret.injEq <| And.intro @AOut.pan.injEq <| And.intro @C.ifc.injEq <| And.intro @D.v.injEq <| And.intro @D.tup.injEq <| And.intro @V0.one.injEq <| And.intro @C.p.injEq <| And.intro @P.bool.injEq <| And.intro @P.int.injEq <| And.intro @P.str.injEq <| And.intro @Bool.false_eq_true <| And.intro @Bool.true_eq_false <| And.intro @imp_false <| And.intro @Decidable.not_not <| And.intro @not_true_eq_false <| @not_false_eq_true
theorem nrlB:type_of% (And.intro @List.cons.injEq.{0} <| And.intro @P.list.injEq <| And.intro @HO.row.injEq <| And.intro @heq_eq_eq.{1} <| And.intro @false_and <| @and_false):=And.intro @List.cons.injEq.{0} <| And.intro @P.list.injEq <| And.intro @HO.row.injEq <| And.intro @heq_eq_eq.{1} <| And.intro @false_and <| @and_false
theorem zq:type_of% (And.intro @UD <| And.intro @zb5 <| And.intro @UF <| And.intro @QM <| And.intro @QK <| And.intro @UC <| @UE):=And.intro @UD <| And.intro @zb5 <| And.intro @UF <| And.intro @QM <| And.intro @QK <| And.intro @UC <| @UE
end Go.Ab
namespace Go.Ab
open Go Go.Sep Go.RowKit
variable [Facts]
def Holds (W:World):Prop:=∀ w:World,(∀ (k:Nat) (o:Obj),W.heap[k]? =some o→w.heap[k]? =some o)→Facts.p w
def frzW (W:World) (hF:Holds W):Frz:=⟨fun k=>W.heap[k]?,W.os,W.tape,W.output,fun w hw=>hF w hw.2.2.2⟩
theorem zfp (W:World) (hF:Holds W):At W [frzC (frzW W hF)]:=
  ⟨fun k=>(W.heap[k]?).isSome=true,fun k=>(W.heap[k]?).isSome=true,fun _=>False,fun k=>by simp,fun _ _ h=>h,⟨fun _=>Iff.rfl,rfl,rfl,rfl,fun _ _ h=>h⟩,fun _ h=>h⟩
theorem Wv {W w:World} {hF:Holds W} (h:(frzW W hF).on w):Below W.heap.size W w:=by
  obtain⟨h1,h2,h3,h4⟩:=h
  have hb: ∀ k,k<W.heap.size→w.heap[k]? =W.heap[k]? :=fun k hk=>by
    have:W.heap[k]? =some W.heap[k]:=by simp [hk]
    rw [h4 k _ this,this]
  refine⟨h1,h2,h3,?_,hb⟩
  rcases Nat.lt_or_ge w.heap.size W.heap.size with hlt|hge
  · have:=hb w.heap.size hlt
    simp at this
    omega
  · exact hge
theorem zfo {W:World} {hF:Holds W} {size:Nat} {v:Value} {n:Nat} {cs:List Value} (h:Rd W size v n cs):RdS (frzW W hF) size v n cs:=by
  intro w hw
  obtain⟨ao,cap,e,h1,h2,h4,h3,hc⟩:=h
  refine⟨ao,cap,e,h1,h2,h4,h3,fun j u hu=> ?_⟩
  obtain⟨hs,hcell⟩:=hc j u hu
  exact⟨hs,((Wv hw).cell (block_lt hcell)).trans hcell⟩
theorem Spc.law {Pr:Program} {f:Nat} {args:List D} {hp':List HO} {W:World} {hF:Holds W} {vs:List Value} (h:Spc Pr f args [] (.ret (.v (.one (.p (.bool true))))) hp') (ha:MDs (frzW W hF) [] args vs):
    Calls Pr f vs.toArray W fun e w'=>e=.returned (.bool true)∧Below W.heap.size W w':=by
  refine(h.2 (frzW W hF) [] [] W vs ⟨rfl,fun i o c h=>by simp at h⟩ ha (zfp W hF)).mono fun e w' he=> ?_
  obtain⟨S',K',hle,_,_,hat,ho⟩:=he
  refine⟨?_,Wv ((At.frz hat).mono hle)⟩
  cases e with
  |returned v=>cases ho;rfl
  |panicked ch=>exact ho.elim
  |outgrown=>exact ho.elim
theorem zfd {W:World} {hF:Holds W} {v:Value} {u:U} {R:Sep.Rel u.den} (hR: ∀ cs x,R W cs x→MPs (frzW W hF) (enc alg u x) cs) {xs:List u.den} (h:RSl u.size R W [v] xs):MD (frzW W hF) [] (.v (.one (.p (.list u xs)))) v:=by
  obtain⟨v',vs,e,hr,hx⟩:=h
  cases e
  have hlen:=hr.len
  obtain⟨ao,cap,rfl,_⟩:=id hr
  refine MP.list u xs ao cap vs hlen (zfo hr) fun i x j p v hi hj hv=> ?_
  have hm:=hR _ _ (hx i x hi)
  obtain⟨v',h1,h2⟩:=hm.get hj
  rw [List.getElem?_take] at h1
  split at h1
  · rw [List.getElem?_drop,hv] at h1
    cases h1;exact h2
  · cases h1
end Go.Ab
namespace Go.Proofs.YtknaogelmckimaaDoor
open Go Go.Ab
def lnS (l:Ln):HO:=.pack [.obj 106 [.row 1,.p (.bool l.cr),.p (.int .i64 l.code)],.row .byte 5 l.b]
def skO (m:Str) (n:Int) (bs:List Int):HO:=.pack [.obj 84 [.row 1,.row 2,.p (.int .i64 n)],.row .byte 5 m,.row .int 3 bs]
def fmS:Fm→List HO
  |⟨m,n,bs,p,none,f,pa,sk,co,out⟩=>[.obj 55 [.ptr 1 0,.p (.int .i64 p),.p (.val (.pointer none)),.row 2,.p (.int .i64 pa),.p (.int .i64 sk),.p (.int .i64 co),.row 3],skO m n bs,.row .fld 67 f,.row .evt 63 out]
  |⟨m,n,bs,p,some l,f,pa,sk,co,out⟩=>[.obj 55 [.ptr 1 0,.p (.int .i64 p),.ptr 2 0,.row 3,.p (.int .i64 pa),.p (.int .i64 sk),.p (.int .i64 co),.row 4],skO m n bs,lnS l,.row .fld 67 f,.row .evt 63 out]
def shapes:Gh→List HO
  |.fm f=>fmS f
  |_=>[]
def lnU:HO→Option Ln
  |.pack [.obj t [.row 1,.p (.bool cr),.p (.int .i64 co)],.row .byte e b]=>match Nat.beq t 106,Nat.beq e 5 with|true,true=>some ⟨b,cr,co⟩|_,_=>none
  |_=>none
theorem zgl {o:HO} {l:Ln} (h:lnU o=some l):o=lnS l:=by
  unfold lnU at h
  split at h
  · split at h
    · rename_i h1 h2;cases h;rw [Nat.eq_of_beq_eq_true h1,Nat.eq_of_beq_eq_true h2];rfl
    · cases h
  · cases h
def evU:HO→Option (List Evt)
  |.row .evt e l=>match Nat.beq e 63 with|true=>some l|false=>none
  |_=>none
theorem zey {o:HO} {l:List Evt} (h:evU o=some l):o=.row .evt 63 l:=by
  unfold evU at h
  split at h
  · split at h
    · rename_i h1;cases h;rw [Nat.eq_of_beq_eq_true h1]
    · cases h
  · cases h
def flU:HO→Option (List Fld)
  |.row .fld e l=>match Nat.beq e 67 with|true=>some l|false=>none
  |_=>none
theorem zev {o:HO} {l:List Fld} (h:flU o=some l):o=.row .fld 67 l:=by
  unfold flU at h
  split at h
  · split at h
    · rename_i h1;cases h;rw [Nat.eq_of_beq_eq_true h1]
    · cases h
  · cases h
def skU:HO→Option (Str × Int × List Int)
  |.pack [.obj t [.row 1,.row 2,.p (.int .i64 n)],.row .byte e m,.row .int e2 bs]=>match Nat.beq t 84,Nat.beq e 5,Nat.beq e2 3 with|true,true,true=>some (m,n,bs)|_,_,_=>none
  |_=>none
theorem zee {o:HO} {x:Str × Int × List Int} (h:skU o=some x):o=skO x.1 x.2.1 x.2.2:=by
  unfold skU at h
  split at h
  · split at h
    · rename_i h1 h2 h3;cases h;rw [Nat.eq_of_beq_eq_true h1,Nat.eq_of_beq_eq_true h2,Nat.eq_of_beq_eq_true h3];rfl
    · cases h
  · cases h
def fmU:List HO→Option Fm
  | .obj t [.ptr 1 0,.p (.int .i64 p),.p (.val (.pointer none)),.row 2,.p (.int .i64 pa),.p (.int .i64 sk),.p (.int .i64 co),.row 3]::r=>(match Nat.beq t 55,r with
    |true,[a,b,c]=>(match skU a,flU b,evU c with|some x,some f,some out=>some ⟨x.1,x.2.1,x.2.2,p,none,f,pa,sk,co,out⟩|_,_,_=>none)
    |_,_=>none)
  | .obj t [.ptr 1 0,.p (.int .i64 p),.ptr 2 0,.row 3,.p (.int .i64 pa),.p (.int .i64 sk),.p (.int .i64 co),.row 4]::r=>(match Nat.beq t 55,r with
    |true,[a,l,b,c]=>(match skU a,lnU l,flU b,evU c with|some x,some ln,some f,some out=>some ⟨x.1,x.2.1,x.2.2,p,some ln,f,pa,sk,co,out⟩|_,_,_,_=>none)
    |_,_=>none)
  |_=>none
theorem zgx {l:List HO} {q:Fm} (h:fmU l=some q):l=fmS q:=by
  unfold fmU at h
  split at h
  · split at h
    · rename_i h1;split at h
      · rename_i h2 h3 h4;cases h;rw [Nat.eq_of_beq_eq_true h1,zee h2,zev h3,zey h4];rfl
      · cases h
    · cases h
  · split at h
    · rename_i h1;split at h
      · rename_i h2 h5 h3 h4;cases h;rw [Nat.eq_of_beq_eq_true h1,zee h2,zgl h5,zev h3,zey h4];rfl
      · cases h
    · cases h
  · cases h
def shapeOf (l:List HO):Option Gh:=match fmU l with|some f=>some (.fm f)|none=>none
theorem zaF (l:List HO) (g:Gh) (h:shapeOf l=some g):shapes g=l:=by
  unfold shapeOf at h
  split at h
  · rename_i q hq;cases h;exact(zgx hq).symm
  · cases h
end Go.Proofs.YtknaogelmckimaaDoor
namespace Go.Proofs.YtknaogelmckimaaDoor
open Go Go.Ab
instance facts:Facts:= { p:=fun w=>True,sh:=shapes,ab:=shapeOf,abok:=zaF}
def tabT:TT:=
 (.node (.node (.node (.node (.node (.node (.node (.node .nil 0 ⟨.other,1,0,none,none⟩
 .nil) 1 ⟨.other,1,8,(some [.val .nilFunc]),none⟩
 .nil) 2 ⟨.int .i64,1,8,(some [.int .i64 0]),none⟩
 (.node .nil 3 ⟨.int .i64,1,8,(some [.int .i64 0]),none⟩
 .nil)) 4 ⟨.bool,1,1,(some [.bool false]),none⟩
 (.node (.node .nil 5 ⟨.int .u8,1,1,(some [.int .u8 0]),none⟩
 .nil) 6 ⟨.int .u8,1,1,(some [.int .u8 0]),none⟩
 (.node .nil 9 ⟨.str,1,16,(some [.str []]),none⟩
 .nil))) 10 ⟨.str,1,16,(some [.str []]),none⟩
 (.node (.node (.node (.node .nil 11 ⟨.str,1,16,(some [.str []]),none⟩
 .nil) 12 ⟨.int .u64,1,8,(some [.int .u64 0]),none⟩
 .nil) 15 ⟨.ptr,1,8,(some [.val (.pointer none)]),none⟩
 (.node .nil 16 ⟨.ptr,1,8,(some [.val (.pointer none)]),none⟩
 .nil)) 17 ⟨.ptr,1,8,(some [.val (.pointer none)]),none⟩
 (.node (.node .nil 20 ⟨.iface,1,16,(some [.val .nilIface]),none⟩
 .nil) 21 ⟨.int .i32,1,4,(some [.int .i32 0]),none⟩
 (.node .nil 22 ⟨.slice 5,1,24,(some [.list .byte []]),(some .byte)⟩
 .nil)))) 23 ⟨.slice 3,1,24,(some [.list .int []]),(some .int)⟩
 (.node (.node (.node (.node (.node .nil 24 ⟨.other,1,8,(some [.val .nilFunc]),none⟩
 .nil) 25 ⟨.ptr,1,8,(some [.val (.pointer none)]),none⟩
 .nil) 26 ⟨.other,1,0,none,none⟩
 (.node .nil 27 ⟨.other,1,8,(some [.val .nilFunc]),none⟩
 .nil)) 28 ⟨.slice 63,1,24,(some [.list .evt []]),(some .evt)⟩
 (.node (.node .nil 29 ⟨.slice 22,1,24,(some [.list .bytes []]),(some .bytes)⟩
 .nil) 30 ⟨.other,1,8,(some [.val .nilFunc]),none⟩
 (.node .nil 31 ⟨.other,1,8,(some [.val .nilFunc]),none⟩
 .nil))) 32 ⟨.other,1,8,(some [.val .nilFunc]),none⟩
 (.node (.node (.node (.node .nil 33 ⟨.other,1,8,(some [.val .nilFunc]),none⟩
 .nil) 34 ⟨.other,1,8,(some [.val .nilFunc]),none⟩
 .nil) 35 ⟨.other,1,8,(some [.val .nilFunc]),none⟩
 (.node .nil 36 ⟨.slice 67,1,24,(some [.list .fld []]),(some .fld)⟩
 .nil)) 37 ⟨.other,1,8,(some [.val .nilFunc]),none⟩
 (.node (.node .nil 38 ⟨.struct [(0,9),(1,9),(2,9),(3,22)],4,72,(some [.str [],.str [],.str [],.list .byte []]),none⟩
 .nil) 39 ⟨.struct [(0,9),(1,9),(2,9),(3,22)],4,72,(some [.str [],.str [],.str [],.nl []]),none⟩
 (.node .nil 40 ⟨.other,1,0,none,none⟩
 .nil))))) 41 ⟨.other,1,8,(some [.val .nilFunc]),none⟩
 (.node (.node (.node (.node (.node (.node .nil 42 ⟨.other,1,8,(some [.val .nilFunc]),none⟩
 .nil) 43 ⟨.other,1,8,(some [.val .nilFunc]),none⟩
 .nil) 44 ⟨.other,1,8,(some [.val .nilFunc]),none⟩
 (.node .nil 45 ⟨.slice 9,1,24,(some [.list .str []]),(some .str)⟩
 .nil)) 46 ⟨.other,1,8,(some [.val .nilFunc]),none⟩
 (.node (.node .nil 47 ⟨.other,1,8,(some [.val .nilFunc]),none⟩
 .nil) 48 ⟨.slice 39,1,24,(some [.list .prt []]),(some .prt)⟩
 (.node .nil 49 ⟨.other,1,0,none,none⟩
 .nil))) 50 ⟨.other,1,8,(some [.val .nilFunc]),none⟩
 (.node (.node (.node (.node .nil 51 ⟨.ptr,1,8,(some [.val (.pointer none)]),none⟩
 .nil) 52 ⟨.other,1,8,(some [.val .nilFunc]),none⟩
 .nil) 53 ⟨.ptr,1,8,(some [.val (.pointer none)]),none⟩
 (.node .nil 54 ⟨.struct [(0,51),(1,3),(2,53),(3,36),(4,3),(5,3),(6,3),(7,28)],8,96,(some [.val (.pointer none),.int .i64 0,.val (.pointer none),.list .fld [],.int .i64 0,.int .i64 0,.int .i64 0,.list .evt []]),none⟩
 .nil)) 55 ⟨.struct [(0,51),(1,3),(2,53),(3,36),(4,3),(5,3),(6,3),(7,28)],8,96,(some [.val (.pointer none),.int .i64 0,.val (.pointer none),.list .fld [],.int .i64 0,.int .i64 0,.int .i64 0,.list .evt []]),none⟩
 (.node (.node .nil 56 ⟨.other,1,0,none,none⟩
 .nil) 57 ⟨.other,1,8,(some [.val .nilFunc]),none⟩
 (.node .nil 58 ⟨.int .u64,1,8,(some [.int .u64 0]),none⟩
 .nil)))) 59 ⟨.other,1,8,(some [.val .nilFunc]),none⟩
 (.node (.node (.node (.node (.node .nil 60 ⟨.struct [(0,9),(1,9),(2,3),(3,36),(4,3)],5,72,(some [.str [],.str [],.int .i64 0,.list .fld [],.int .i64 0]),none⟩
 .nil) 61 ⟨.struct [(0,9),(1,9),(2,3),(3,36),(4,3)],5,72,(some [.str [],.str [],.int .i64 0,.list .fld [],.int .i64 0]),none⟩
 .nil) 62 ⟨.struct [(0,3),(1,61),(6,22),(7,39),(11,3)],12,184,(some [.int .i64 0,.str [],.str [],.int .i64 0,.list .fld [],.int .i64 0,.list .byte [],.str [],.str [],.str [],.nl [],.int .i64 0]),none⟩
 (.node .nil 63 ⟨.struct [(0,3),(1,61),(6,22),(7,39),(11,3)],12,184,(some [.int .i64 0,.str [],.str [],.int .i64 0,.list .fld [],.int .i64 0,.list .byte [],.str [],.str [],.str [],.nl [],.int .i64 0]),none⟩
 .nil)) 64 ⟨.other,1,8,(some [.val .nilFunc]),none⟩
 (.node (.node .nil 65 ⟨.other,1,8,(some [.val .nilFunc]),none⟩
 .nil) 66 ⟨.struct [(0,9),(1,9)],2,32,(some [.str [],.str []]),none⟩
 (.node .nil 67 ⟨.struct [(0,9),(1,9)],2,32,(some [.str [],.str []]),none⟩
 .nil))) 68 ⟨.other,1,0,none,none⟩
 (.node (.node (.node (.node .nil 69 ⟨.other,1,8,(some [.val .nilFunc]),none⟩
 .nil) 70 ⟨.slice 98,1,24,(some [.list .fld []]),(some .fld)⟩
 .nil) 71 ⟨.struct [(0,9),(1,70)],2,40,(some [.str [],.list .fld []]),none⟩
 (.node .nil 72 ⟨.struct [(0,9),(1,70)],2,40,(some [.str [],.list .fld []]),none⟩
 .nil)) 73 ⟨.other,1,0,none,none⟩
 (.node (.node .nil 74 ⟨.other,1,8,(some [.val .nilFunc]),none⟩
 .nil) 75 ⟨.other,1,0,none,none⟩
 (.node .nil 76 ⟨.other,1,8,(some [.val .nilFunc]),none⟩
 .nil)))))) 77 ⟨.other,1,8,(some [.val .nilFunc]),none⟩
 (.node (.node (.node (.node (.node (.node (.node .nil 78 ⟨.other,1,8,(some [.val .nilFunc]),none⟩
 .nil) 79 ⟨.other,1,8,(some [.val .nilFunc]),none⟩
 .nil) 80 ⟨.other,1,8,(some [.val .nilFunc]),none⟩
 (.node .nil 81 ⟨.ptr,1,8,(some [.val (.pointer none)]),none⟩
 .nil)) 82 ⟨.other,1,8,(some [.val .nilFunc]),none⟩
 (.node (.node .nil 83 ⟨.struct [(0,22),(1,23),(2,3)],3,56,(some [.list .byte [],.list .int [],.int .i64 0]),none⟩
 .nil) 84 ⟨.struct [(0,22),(1,23),(2,3)],3,56,(some [.list .byte [],.list .int [],.int .i64 0]),none⟩
 (.node .nil 85 ⟨.other,1,8,(some [.val .nilFunc]),none⟩
 .nil))) 86 ⟨.other,1,8,(some [.val .nilFunc]),none⟩
 (.node (.node (.node (.node .nil 87 ⟨.other,1,0,none,none⟩
 .nil) 88 ⟨.other,1,8,(some [.val .nilFunc]),none⟩
 .nil) 89 ⟨.other,1,8,(some [.val .nilFunc]),none⟩
 (.node .nil 90 ⟨.other,1,8,(some [.val .nilFunc]),none⟩
 .nil)) 91 ⟨.int .i64,1,8,(some [.int .i64 0]),none⟩
 (.node (.node .nil 92 ⟨.other,1,0,none,none⟩
 .nil) 93 ⟨.ptr,1,8,(some [.val (.pointer none)]),none⟩
 (.node .nil 94 ⟨.struct [(0,9)],1,16,(some [.str []]),none⟩
 .nil)))) 95 ⟨.struct [(0,9)],1,16,(some [.str []]),none⟩
 (.node (.node (.node (.node (.node .nil 96 ⟨.other,1,8,(some [.val .nilFunc]),none⟩
 .nil) 97 ⟨.other,1,8,(some [.val .nilFunc]),none⟩
 .nil) 98 ⟨.struct [(0,9),(1,9)],2,32,(some [.str [],.str []]),none⟩
 (.node .nil 99 ⟨.other,1,8,(some [.val .nilFunc]),none⟩
 .nil)) 100 ⟨.other,1,8,(some [.val .nilFunc]),none⟩
 (.node (.node .nil 101 ⟨.other,1,8,(some [.val .nilFunc]),none⟩
 .nil) 102 ⟨.other,1,8,(some [.val .nilFunc]),none⟩
 (.node .nil 103 ⟨.other,1,8,(some [.val .nilFunc]),none⟩
 .nil))) 104 ⟨.other,1,8,(some [.val .nilFunc]),none⟩
 (.node (.node (.node (.node .nil 105 ⟨.struct [(0,22),(1,4),(2,3)],3,40,(some [.list .byte [],.bool false,.int .i64 0]),none⟩
 .nil) 106 ⟨.struct [(0,22),(1,4),(2,3)],3,40,(some [.list .byte [],.bool false,.int .i64 0]),none⟩
 .nil) 107 ⟨.other,1,8,(some [.val .nilFunc]),none⟩
 (.node .nil 108 ⟨.other,1,0,none,none⟩
 .nil)) 109 ⟨.other,1,8,(some [.val .nilFunc]),none⟩
 (.node (.node .nil 110 ⟨.other,1,8,(some [.val .nilFunc]),none⟩
 .nil) 111 ⟨.other,1,8,(some [.val .nilFunc]),none⟩
 (.node .nil 112 ⟨.other,1,8,(some [.val .nilFunc]),none⟩
 .nil))))) 113 ⟨.other,1,8,(some [.val .nilFunc]),none⟩
 (.node (.node (.node (.node (.node (.node .nil 114 ⟨.other,1,8,(some [.val .nilFunc]),none⟩
 .nil) 115 ⟨.array 256 4,256,256,none,none⟩
 .nil) 116 ⟨.array 256 4,256,256,none,none⟩
 (.node .nil 117 ⟨.other,1,0,none,none⟩
 .nil)) 118 ⟨.other,1,8,(some [.val .nilFunc]),none⟩
 (.node (.node .nil 119 ⟨.other,1,8,(some [.val .nilFunc]),none⟩
 .nil) 120 ⟨.ptr,1,8,(some [.val (.pointer none)]),none⟩
 (.node .nil 121 ⟨.other,1,0,none,none⟩
 .nil))) 122 ⟨.other,1,8,(some [.val .nilFunc]),none⟩
 (.node (.node (.node (.node .nil 123 ⟨.other,1,8,(some [.val .nilFunc]),none⟩
 .nil) 124 ⟨.other,1,0,none,none⟩
 .nil) 125 ⟨.other,1,8,(some [.val .nilFunc]),none⟩
 (.node .nil 126 ⟨.other,1,8,(some [.val .nilFunc]),none⟩
 .nil)) 127 ⟨.other,1,8,(some [.val .nilFunc]),none⟩
 (.node (.node .nil 128 ⟨.other,1,8,(some [.val .nilFunc]),none⟩
 .nil) 129 ⟨.other,1,8,(some [.val .nilFunc]),none⟩
 (.node .nil 130 ⟨.array 256 5,256,256,none,none⟩
 .nil)))) 131 ⟨.struct [(0,5),(1,5)],2,2,(some [.int .u8 0,.int .u8 0]),none⟩
 (.node (.node (.node (.node (.node .nil 132 ⟨.struct [(0,5),(1,5)],2,2,(some [.int .u8 0,.int .u8 0]),none⟩
 .nil) 133 ⟨.array 16 132,32,32,(some [.int .u8 0,.int .u8 0,.int .u8 0,.int .u8 0,.int .u8 0,.int .u8 0,.int .u8 0,.int .u8 0,.int .u8 0,.int .u8 0,.int .u8 0,.int .u8 0,.int .u8 0,.int .u8 0,.int .u8 0,.int .u8 0,.int .u8 0,.int .u8 0,.int .u8 0,.int .u8 0,.int .u8 0,.int .u8 0,.int .u8 0,.int .u8 0,.int .u8 0,.int .u8 0,.int .u8 0,.int .u8 0,.int .u8 0,.int .u8 0,.int .u8 0,.int .u8 0]),none⟩
 .nil) 134 ⟨.other,1,8,(some [.val .nilFunc]),none⟩
 (.node .nil 135 ⟨.other,1,8,(some [.val .nilFunc]),none⟩
 .nil)) 136 ⟨.int .u32,1,4,(some [.int .u32 0]),none⟩
 (.node (.node .nil 137 ⟨.other,1,0,none,none⟩
 .nil) 138 ⟨.other,1,8,(some [.val .nilFunc]),none⟩
 (.node .nil 141 ⟨.array 0 16,0,0,(some []),none⟩
 .nil))) 144 ⟨.int .u8,1,1,(some [.int .u8 0]),none⟩
 (.node (.node (.node (.node .nil 145 ⟨.int .u8,1,1,(some [.int .u8 0]),none⟩
 .nil) 146 ⟨.other,1,8,(some [.val .nilFunc]),none⟩
 .nil) 147 ⟨.ptr,1,8,(some [.val (.pointer none)]),none⟩
 (.node .nil 148 ⟨.int .i32,1,4,(some [.int .i32 0]),none⟩
 .nil)) 149 ⟨.int .i32,1,4,(some [.int .i32 0]),none⟩
 (.node (.node .nil 150 ⟨.struct [(0,12),(1,12),(2,136),(3,144),(4,5),(5,5),(6,145),(7,146),(8,147),(9,148),(10,149)],11,48,(some [.int .u64 0,.int .u64 0,.int .u32 0,.int .u8 0,.int .u8 0,.int .u8 0,.int .u8 0,.val .nilFunc,.val (.pointer none),.int .i32 0,.int .i32 0]),none⟩
 .nil) 151 ⟨.struct [(0,12),(1,12),(2,136),(3,144),(4,5),(5,5),(6,145),(7,146),(8,147),(9,148),(10,149)],11,48,(some [.int .u64 0,.int .u64 0,.int .u32 0,.int .u8 0,.int .u8 0,.int .u8 0,.int .u8 0,.val .nilFunc,.val (.pointer none),.int .i32 0,.int .i32 0]),none⟩
 (.node .nil 152 ⟨.other,1,8,none,none⟩
 .nil)))))))
def tab:Tab:=tabT.get
theorem zl:tab.fits Tryd.prog:=Tab.zfA (by kernel_rfl)
theorem mixed:Tryd.prog.follows .mixedOrders=true:=by kernel_rfl
end Go.Proofs.YtknaogelmckimaaDoor
namespace Go.Proofs.YtknaogelmckimaaDoor
open Go Go.Sep Go.Ab
def hd0:Hd:=⟨[],[],0,[],0⟩
def prt0:Prt:=⟨[],[],[],[]⟩
def evB (b:Str):Evt:=⟨2,hd0,b,prt0,0⟩
def evE:Evt:=⟨3,hd0,[],prt0,0⟩
def evF (c:Int):Evt:=⟨4,hd0,[],prt0,c⟩
def Zx (out:List Evt) (e:Evt):List Evt:=
  match out.getLast? with
  |some x=>if e.kind=2∧x.kind=2 then out.dropLast++[evB (x.bytes++e.bytes)] else out++[e]
  |none=>out++[e]
def yI (l:List Evt):List Evt:=l.foldl Zx []
theorem wo (z:List Evt) (x e:Evt):Zx (z++[x]) e=if e.kind=2∧x.kind=2 then z++[evB (x.bytes++e.bytes)] else z++[x]++[e]:=by
  unfold Zx
  simp
theorem uY (e:Evt):Zx [] e=[e]:=rfl
end Go.Proofs.YtknaogelmckimaaDoor
namespace Go.Ab
open Go Go.Sep
variable [Facts]
def wfI (n:Int):Prop:= -9223372036854775808≤n∧n≤9223372036854775807
def wfS {α:Type} (s:List α):Prop:=s.length≤140737488355328
def zdj (f:Fld):Prop:=wfS f.name∧wfS f.value
def wfHd (h:Hd):Prop:=wfS h.method∧wfS h.target∧wfI h.minor∧(wfS h.fields∧∀ f ∈ h.fields,zdj f)∧wfI h.length
def zfT (p:Prt):Prop:=wfS p.name∧wfS p.file∧wfS p.type∧wfS p.bytes
def wfZ:(u:U)→u.den→Prop
  |.byte,_=>True
  |.int,n=>wfI n
  |.str,(s:Str)=>wfS s
  |.fld,f=>zdj f
  |.bytes,(b:Str)=>wfS b
  |.hd,h=>wfHd h
  |.prt,p=>zfT p
  |.evt,(e:Evt)=>wfI e.kind∧wfHd e.head∧wfS e.bytes∧zfT e.part∧wfI e.code
  |.upl,(x:Upl)=>wfI x.id∧wfI x.size∧wfS x.note∧wfS x.bytes∧wfI x.sent
  |.ent,(e:Ent)=>wfI e.kind∧wfI e.id∧wfI e.n∧wfS e.text
  |.stp,(e:Stp)=>wfI e.kind∧wfI e.conn∧wfI e.n∧wfS e.bytes
  |.ask,(a:Ask)=>wfHd a.h∧wfS a.body
  |.cal,(c:Cal)=>wfI c.conn∧wfS c.b
  |.lst,(e:Lst)=>wfI e.op∧wfI e.n∧wfS e.b
  |.sst,(e:Sst)=>wfI e.op∧wfI e.id∧wfI e.n∧wfS e.text
  |.rpl,(r:Rpl)=>wfI r.status∧(wfS r.fields∧∀ f ∈ r.fields,zdj f)∧wfS r.body
  |.med,(m:Med)=>wfS m.word∧(wfS m.params∧∀ f ∈ m.params,zdj f)
  |_,_=>True
abbrev Small {H:Type} (Pr:Program) (t:TypeId) (d:DataW H):Prop:=(d.weights Pr t).all (· ≤reachBytes)=true
section
variable {H:Type} {hsh:TypeId × Value→H} {Pr:Program} {w:World} {hF:Holds w} {base:Nat} {spare:Nat→Bool} {held:Bool}
def rX (hsh:TypeId × Value→H) (Pr:Program) (w:World) (hF:Holds w) (base:Nat) (spare:Nat→Bool) (held:Bool) (t:TypeId) (Q:List P→Prop):Prop:=
  ∀ fuel cs y,DataW.trod hsh Pr w base spare held fuel t cs=some y→Small Pr t y.1→∃ ps,MPs (frzW w hF) ps cs∧Q ps
theorem rX.mono {t:TypeId} {Q Q':List P→Prop} (h:rX hsh Pr w hF base spare held t Q) (hq: ∀ ps,Q ps→Q' ps):rX hsh Pr w hF base spare held t Q':=by
  intro fuel cs y hy hs
  obtain⟨ps,h1,h2⟩:=h fuel cs y hy hs
  exact⟨ps,h1,hq _ h2⟩
def QU (u:U) (ps:List P):Prop:=∃ x:u.den,ps=enc alg u x∧wfZ u x
def QL (u:U) (ps:List P):Prop:=∃ l:List u.den,ps=[.list u l]∧wfS l∧∀ x ∈ l,wfZ u x
theorem Qm {n:Nat} (h:n≤reachBytes):n≤140737488355328:=Nat.le_trans h (by decide)
theorem op_str {t:TypeId} (ht:Pr.underlying t=some .string):rX hsh Pr w hF base spare held t (QU .str):=by
  intro fuel cs y h hs
  obtain⟨s,rfl,hy,hl⟩:=DataW.trod_string ht h
  have e:Sep.S s.data.toList=s:=by cases s;rfl
  refine⟨[.str s.data.toList],⟨by rw [← e];exact .str _ (by simpa using hl),trivial⟩,s.data.toList,rfl,?_⟩
  rw [hy] at hs
  simp only [Small,DataW.weights,List.all_cons,List.all_nil,Bool.and_true,decide_eq_true_eq] at hs
  exact Qm hs
def elemsOf:DataW H→List (DataW H)
  |.slice es _=>es
  |_=>[]
theorem TU {α:Type} {t e:TypeId} {size:Nat} {R:Sep.Rel α} (ht:Pr.underlying t=some (.slice e)) (hs:Pr.cellsOf e=size) {fuel:Nat} {cs:List Value} {y:DataW H × List MemPlace}
    (h:DataW.trod hsh Pr w base spare held fuel t cs=some y) (he: ∀ n ci z,z.1 ∈ elemsOf y.1→DataW.trod hsh Pr w base spare held n e ci=some z→∃ x,R w ci x):
    ∃ xs,RSl size R w cs xs∧xs.length=(elemsOf y.1).length:=by
  rcases DataW.trod_slice ht h with⟨rfl,rfl⟩|⟨a,len,cap,elems,rest,n,_,rfl,rfl,_,hl,hm,hlen,hel,_,_⟩
  · exact⟨[],⟨_,[],rfl,⟨none,0,rfl,Nat.le_refl _,Nat.zero_le _,fun _=>rfl,by simp,fun j u h=>by simp at h⟩,fun i x h=>by simp at h⟩,rfl⟩
  · subst hs
    have each: ∀ i,i<len→∃ ci:List Value,ci.length=Pr.cellsOf e∧(∀ j u,ci[j]? =some u→w.cell? ((a.add (i * Pr.cellsOf e)).add j)=some u)∧∃ x,R w ci x:=by
      intro i hi
      have h1:=hel i hi
      rw [List.getElem?_eq_getElem (by omega),Option.bind_eq_some_iff] at h1
      obtain⟨ci,hci,hy⟩:=h1
      obtain⟨h2,h3⟩:=cells?_get hci
      exact⟨ci,h2,h3,he n ci _ (List.mem_map_of_mem (List.getElem_mem _)) hy⟩
    have all: ∀ m,m≤len→∃ (vs:List Value) (xs:List α),xs.length=m∧vs.length=m * Pr.cellsOf e∧(∀ j u,vs[j]? =some u→w.cell? (a.add j)=some u)∧∀ i x,xs[i]? =some x→R w ((vs.drop (i * Pr.cellsOf e)).take (Pr.cellsOf e)) x:=by
      intro m
      induction m with
      |zero=>intro _;exact⟨[],[],rfl,by simp,fun j u h=>by simp at h,fun i x h=>by simp at h⟩
      | succ m ih=>
        intro hm'
        obtain⟨vs,xs,h1,h2,h3,h4⟩:=ih (by omega)
        obtain⟨ci,c1,c2,x,c3⟩:=each m (by omega)
        refine⟨vs++ci,xs++[x],by simp [h1],by simp [h2,c1,Nat.succ_mul],fun j u hj=> ?_,fun i z hi=> ?_⟩
        · rcases Nat.lt_or_ge j vs.length with hj1|hj1
          · rw [List.getElem?_append_left hj1] at hj;exact h3 j u hj
          · rw [List.getElem?_append_right hj1] at hj
            have h5:=c2 _ _ hj
            rw [Addr.add_add,h2,show m * Pr.cellsOf e+(j - m * Pr.cellsOf e)=j by omega] at h5
            exact h5
        · rcases Nat.lt_or_ge i xs.length with hi1|hi1
          · rw [List.getElem?_append_left hi1] at hi
            have h5:=h4 i z hi
            have h6:i * Pr.cellsOf e+Pr.cellsOf e≤vs.length:=by rw [h2,← Nat.succ_mul];exact Nat.mul_le_mul_right _ (by omega)
            rw [List.drop_append_of_le_length (by omega),List.take_append_of_le_length (by simp;omega)]
            exact h5
          · rw [List.getElem?_append_right hi1] at hi
            have hi2:i=m:=by
              have:=(List.getElem?_eq_some_iff.1 hi).1
              simp at this;omega
            subst hi2
            rw [h1,Nat.sub_self] at hi
            simp at hi
            subst hi
            rw [← h2,List.drop_left,List.take_of_length_le (by omega)]
            exact c3
    obtain⟨vs,xs,h1,h2,h3,h4⟩:=all len (Nat.le_refl _)
    refine⟨xs,⟨_,vs,rfl,⟨some a,cap,by rw [h1],by omega,hm,(fun h=>by cases h),by rw [h1];exact h2,fun j u hj=> ?_⟩,h4⟩,by simp [elemsOf,h1,hlen]⟩
    have hsp:a.spot=none:=by
      cases hv:vs with
      |nil=>rw [hv] at hj;simp at hj
      | cons u0 r=>
        have:=h3 0 u0 (by rw [hv];rfl)
        rw [show a.add 0=a by simp [Addr.add]] at this
        exact zeK this
    exact⟨⟨a,rfl,hsp⟩,by rw [← ZO hsp];exact h3 j u hj⟩
theorem weightsAll_mem {e:TypeId}: ∀ {es:List (DataW H)} {d:DataW H},d ∈ es→∀ n ∈ d.weights Pr e,n ∈ DataW.weightsAll Pr e es
  | x::es,d,hd,n,hn=>by
    simp only [DataW.weightsAll,List.mem_append]
    rcases List.mem_cons.1 hd with rfl|hd
    · exact .inl hn
    · exact .inr (weightsAll_mem hd n hn)
theorem zaE {t e:TypeId} (ht:Pr.underlying t=some (.slice e)) {d z:DataW H} (h:Small Pr t d) (hz:z ∈ elemsOf d):Small Pr e z:=by
  cases d<;>simp only [elemsOf,List.not_mem_nil] at hz
  refine List.all_eq_true.2 fun n hn=>List.all_eq_true.1 h n ?_
  simp only [DataW.weights,ht,List.mem_cons,List.mem_append]
  exact .inr (.inl (weightsAll_mem hz n hn))
theorem zbq {t e:TypeId} (ht:Pr.underlying t=some (.slice e)) (hb:Nat.blt 0 (Pr.bytesOf e)=true) {d:DataW H} (h:Small Pr t d):(elemsOf d).length≤140737488355328:=by
  cases d<;>simp only [elemsOf]<;>try exact Nat.zero_le _
  rename_i es ss
  have h1:=List.all_eq_true.1 h ((es.length+ss.length) * Pr.bytesOf e) (by simp [DataW.weights,ht])
  have hb:0<Pr.bytesOf e:=by simpa [Nat.blt_eq] using hb
  refine Qm (Nat.le_trans (Nat.le_trans (Nat.le_add_right _ ss.length) (Nat.le_mul_of_pos_right _ hb)) (by simpa using h1))
theorem op_list {t e:TypeId} {u:U} (ht:Pr.underlying t=some (.slice e)) (hc:Pr.cellsOf e=u.size) (hb:Nat.blt 0 (Pr.bytesOf e)=true) (he:rX hsh Pr w hF base spare held e (QU u)):
    rX hsh Pr w hF base spare held t (QL u):=by
  intro fuel cs y h hs
  obtain⟨l,hl,hlen⟩:=TU (R:=fun _ cs (x:u.den)=>MPs (frzW w hF) (enc alg u x) cs∧wfZ u x) ht hc h (fun n ci z hz ht'=>by
    obtain⟨ps,h1,x,rfl,hx⟩:=he n ci z ht' (zaE ht hs hz)
    exact⟨x,h1,hx⟩)
  have hl':=hl
  obtain⟨v,vs,rfl,_,hx⟩:=hl
  refine⟨[.list u l],⟨zfd (fun _ _ h=>h.1) hl',trivial⟩,l,rfl,by unfold wfS;rw [hlen];exact zbq ht hb hs,fun x hm=> ?_⟩
  obtain⟨i,hi⟩:=List.getElem?_of_mem hm
  exact(hx i x hi).2
def QAll:List (List P→Prop)→List P→Prop
  |[],ps=>ps=[]
  |Q::Qs,ps=>∃ a b,ps=a++b∧Q a∧QAll Qs b
def lays (Pr:Program):Nat→List Field→Nat→Bool
  |o,[],n=>Nat.beq o n
  |o,f::fs,n=>Nat.beq f.offset o&&lays Pr (o+Pr.cellsOf f.type) fs n
def TN (hsh:TypeId × Value→H) (Pr:Program) (w:World) (hF:Holds w) (base:Nat) (spare:Nat→Bool) (held:Bool):List Field→List (List P→Prop)→Prop
  |[],[]=>True
  |f::fs,Q::Qs=>rX hsh Pr w hF base spare held f.type Q∧TN hsh Pr w hF base spare held fs Qs
  |_,_=>False
theorem TN.nil:TN hsh Pr w hF base spare held [] []:=trivial
theorem TN.cons {f:Field} {fs:List Field} {Q:List P→Prop} {Qs:List (List P→Prop)} (h:rX hsh Pr w hF base spare held f.type Q) (k:TN hsh Pr w hF base spare held fs Qs):TN hsh Pr w hF base spare held (f::fs) (Q::Qs):=⟨h,k⟩
theorem MPs.append {S:Frz}: ∀ {a b:List P} {x y:List Value},MPs S a x→MPs S b y→MPs S (a++b) (x++y)
  |[],_,[],_,_,h=>h
  |_::_,_,_::_,_,h,k=>⟨h.1,MPs.append h.2 k⟩
theorem Ug {cs:List Value}: ∀ (fs:List Field) (Qs:List (List P→Prop)) (o:Nat),lays Pr o fs cs.length=true→TN hsh Pr w hF base spare held fs Qs→
    (∀ f ∈ fs,∃ n z,DataW.trod hsh Pr w base spare held n f.type ((cs.drop f.offset).take (Pr.cellsOf f.type))=some z∧Small Pr f.type z.1)→∃ ps,MPs (frzW w hF) ps (cs.drop o)∧QAll Qs ps
  | [],[],o,hl,_,_=>by
    have:=Nat.eq_of_beq_eq_true hl
    exact⟨[],by rw [List.drop_of_length_le (by omega)];trivial,rfl⟩
  | f::fs,Q::Qs,o,hl,hq,hz=>by
    simp only [lays,Bool.and_eq_true] at hl
    have ho:=Nat.eq_of_beq_eq_true hl.1
    obtain⟨n,z,h1,h2⟩:=hz f (by simp)
    rw [ho] at h1
    obtain⟨p1,m1,q1⟩:=hq.1 n _ z h1 h2
    obtain⟨p2,m2,q2⟩:=Ug fs Qs _ hl.2 hq.2 (fun g hg=>hz g (by simp [hg]))
    refine⟨p1++p2,?_,p1,p2,rfl,q1,q2⟩
    have:=m1.append m2
    rwa [← List.drop_drop,List.take_append_drop] at this
  |[],_::_,_,_,h,_=>h.elim
  |_::_,[],_,_,h,_=>h.elim
theorem op_struct {t:TypeId} {fs:Array Field} {Qs:List (List P→Prop)} (ht:Pr.underlying t=some (.struct fs)) (hl:lays Pr 0 fs.toList (Pr.cellsOf t)=true) (hq:TN hsh Pr w hF base spare held fs.toList Qs):
    rX hsh Pr w hF base spare held t (QAll Qs):=by
  intro fuel cs y h hs
  obtain⟨xs,n,_,rfl,hcl,hxl,hf⟩:=DataW.trod_struct ht h
  have:=Ug fs.toList Qs 0 (by rw [hcl];exact hl) hq (fun f hfm=>by
    obtain⟨i,hi⟩:=List.getElem?_of_mem hfm
    have hi':fs[i]? =some f:=by simpa using hi
    have hlt:i<xs.length:=by rw [hxl];exact(Array.getElem?_eq_some_iff.1 hi').1
    refine⟨n,xs[i],by rw [hf i f hi',List.getElem?_eq_getElem hlt],List.all_eq_true.2 fun k hk=>List.all_eq_true.1 hs k ?_⟩
    simp only [DataW.weights,ht]
    exact DataW.weights_mem_each (j:=i) (t:=f.type) (by simp [hi']) (by simp [hlt]) k hk)
  simpa using this
theorem q_fld (ps:List P) (h:QAll [QU .str,QU .str] ps):QU .fld ps:=by
  obtain⟨_,_,rfl,⟨a,rfl,ha⟩,_,_,rfl,⟨b,rfl,hb⟩,rfl⟩:=h
  exact⟨(⟨a,b⟩:Fld),rfl,ha,hb⟩
theorem z_one {t:TypeId} {v:Value} {d:DataW H} {ps:List MemPlace} {Q:List P→Prop} (hr:v.oneCell'=true) (h:DataW.Trod hsh Pr w base spare held t v d ps) (hs:Small Pr t d) (ho:rX hsh Pr w hF base spare held t Q): ∃ qs,MPs (frzW w hF) qs [v]∧Q qs:=by
  obtain⟨fuel,hf⟩:=h
  have hc:v.cells.toList=[v]:=by cases v<;>first|rfl|cases hr
  rw [hc] at hf
  exact ho fuel _ _ hf hs
theorem small_nth {ts:List TypeId} {ds:List (DataW H)} (h:(DataW.weightsEach Pr ts ds).all (· ≤reachBytes)=true) {j:Nat} {t:TypeId} {d:DataW H} (ht:ts[j]? =some t) (hd:ds[j]? =some d):Small Pr t d:=
  List.all_eq_true.2 fun n hn=>List.all_eq_true.1 h n (DataW.weights_mem_each ht hd n hn)
end
end Go.Ab
namespace Go.Proofs
open Go.Shelf
def Tryd.SE:Go.Shelf.Ren:=⟨fun|161=>83|231=>74|227=>76|233=>77|235=>79|228=>87|197=>88|151=>89|260=>93|152=>94|137=>92|119=>98|224=>99|225=>100|217=>97|266=>102|n=>n,fun|9=>9|4=>4|3=>3|5=>5|117=>117|116=>116|0=>0|124=>120|105=>124|21=>21|119=>130|46=>58|139=>133|138=>132|n=>n,fun|3=>0|4=>1|n=>n⟩
theorem Tryd.lays161:Go.Proofs.Lays.n161 Tryd.prog Tryd.SE:= {
  mixed:=by kernel_rfl
  f119:=Tryd.func98.trans (congrArg some (by kernel_rfl))
  f137:=Tryd.func92.trans (congrArg some (by kernel_rfl))
  f151:=Tryd.func89.trans (congrArg some (by kernel_rfl))
  f152:=Tryd.func94.trans (congrArg some (by kernel_rfl))
  f161:=Tryd.func83.trans (congrArg some (by kernel_rfl))
  f197:=Tryd.func88.trans (congrArg some (by kernel_rfl))
  f217:=Tryd.func97.trans (congrArg some (by kernel_rfl))
  f224:=Tryd.func99.trans (congrArg some (by kernel_rfl))
  f225:=Tryd.func100.trans (congrArg some (by kernel_rfl))
  f227:=Tryd.func76.trans (congrArg some (by kernel_rfl))
  f228:=Tryd.func87.trans (congrArg some (by kernel_rfl))
  f231:=Tryd.func74.trans (congrArg some (by kernel_rfl))
  f233:=Tryd.func77.trans (congrArg some (by kernel_rfl))
  f235:=Tryd.func79.trans (congrArg some (by kernel_rfl))
  f260:=Tryd.func93.trans (congrArg some (by kernel_rfl))
  f266:=Tryd.func102.trans (congrArg some (by kernel_rfl))
  t0:=Tryd.underlying0
  a0:=Tryd.isAgg0
  z0:=Tryd.sizeOf0
  v0:=Tryd.zeroValue0
  t3:=Tryd.underlying3
  a3:=Tryd.isAgg3
  z3:=Tryd.sizeOf3
  v3:=Tryd.zeroValue3
  t4:=Tryd.underlying4
  a4:=Tryd.isAgg4
  z4:=Tryd.sizeOf4
  v4:=Tryd.zeroValue4
  t5:=Tryd.underlying5
  a5:=Tryd.isAgg5
  z5:=Tryd.sizeOf5
  v5:=Tryd.zeroValue5
  t9:=Tryd.underlying9
  a9:=Tryd.isAgg9
  z9:=Tryd.sizeOf9
  v9:=Tryd.zeroValue9
  t21:=Tryd.underlying21
  a21:=Tryd.isAgg21
  z21:=Tryd.sizeOf21
  v21:=Tryd.zeroValue21
  t46:=Tryd.underlying58
  a46:=Tryd.isAgg58
  z46:=Tryd.sizeOf58
  v46:=Tryd.zeroValue58
  t105:=Tryd.underlying124
  a105:=Tryd.isAgg124
  z105:=Tryd.sizeOf124
  v105:=Tryd.zeroValue124
  t116:=Tryd.underlying116
  a116:=Tryd.isAgg116
  z116:=Tryd.sizeOf116
  t117:=Tryd.underlying117
  a117:=Tryd.isAgg117
  z117:=Tryd.sizeOf117
  v117:=Tryd.zeroValue117
  t119:=Tryd.underlying130
  a119:=Tryd.isAgg130
  z119:=Tryd.sizeOf130
  t124:=Tryd.underlying120
  a124:=Tryd.isAgg120
  z124:=Tryd.sizeOf120
  v124:=Tryd.zeroValue120
  t138:=Tryd.underlying132
  a138:=Tryd.isAgg132
  z138:=Tryd.sizeOf132
  v138:=Tryd.zeroValue132
  t139:=Tryd.underlying133
  a139:=Tryd.isAgg133
  z139:=Tryd.sizeOf133
  v139:=Tryd.zeroValue133
  g3:=by kernel_rfl
  g4:=by kernel_rfl}
def Tryd.SG:Go.Shelf.Ren:=⟨fun|160=>59|232=>75|231=>74|227=>76|234=>78|233=>77|236=>80|235=>79|228=>87|271=>90|151=>89|197=>88|120=>95|152=>94|260=>93|137=>92|119=>98|224=>99|225=>100|217=>97|266=>102|n=>n,fun|9=>9|4=>4|3=>3|5=>5|117=>117|116=>116|0=>0|124=>120|21=>21|105=>124|46=>58|119=>130|139=>133|138=>132|n=>n,fun|3=>0|4=>1|n=>n⟩
theorem Tryd.lays160:Go.Proofs.Lays.n160 Tryd.prog Tryd.SG:= {
  mixed:=by kernel_rfl
  f119:=Tryd.func98.trans (congrArg some (by kernel_rfl))
  f120:=Tryd.func95.trans (congrArg some (by kernel_rfl))
  f137:=Tryd.func92.trans (congrArg some (by kernel_rfl))
  f151:=Tryd.func89.trans (congrArg some (by kernel_rfl))
  f152:=Tryd.func94.trans (congrArg some (by kernel_rfl))
  f160:=Tryd.func59.trans (congrArg some (by kernel_rfl))
  f197:=Tryd.func88.trans (congrArg some (by kernel_rfl))
  f217:=Tryd.func97.trans (congrArg some (by kernel_rfl))
  f224:=Tryd.func99.trans (congrArg some (by kernel_rfl))
  f225:=Tryd.func100.trans (congrArg some (by kernel_rfl))
  f227:=Tryd.func76.trans (congrArg some (by kernel_rfl))
  f228:=Tryd.func87.trans (congrArg some (by kernel_rfl))
  f231:=Tryd.func74.trans (congrArg some (by kernel_rfl))
  f232:=Tryd.func75.trans (congrArg some (by kernel_rfl))
  f233:=Tryd.func77.trans (congrArg some (by kernel_rfl))
  f234:=Tryd.func78.trans (congrArg some (by kernel_rfl))
  f235:=Tryd.func79.trans (congrArg some (by kernel_rfl))
  f236:=Tryd.func80.trans (congrArg some (by kernel_rfl))
  f260:=Tryd.func93.trans (congrArg some (by kernel_rfl))
  f266:=Tryd.func102.trans (congrArg some (by kernel_rfl))
  f271:=Tryd.func90.trans (congrArg some (by kernel_rfl))
  t0:=Tryd.underlying0
  a0:=Tryd.isAgg0
  z0:=Tryd.sizeOf0
  v0:=Tryd.zeroValue0
  t3:=Tryd.underlying3
  a3:=Tryd.isAgg3
  z3:=Tryd.sizeOf3
  v3:=Tryd.zeroValue3
  t4:=Tryd.underlying4
  a4:=Tryd.isAgg4
  z4:=Tryd.sizeOf4
  v4:=Tryd.zeroValue4
  t5:=Tryd.underlying5
  a5:=Tryd.isAgg5
  z5:=Tryd.sizeOf5
  v5:=Tryd.zeroValue5
  t9:=Tryd.underlying9
  a9:=Tryd.isAgg9
  z9:=Tryd.sizeOf9
  v9:=Tryd.zeroValue9
  t21:=Tryd.underlying21
  a21:=Tryd.isAgg21
  z21:=Tryd.sizeOf21
  v21:=Tryd.zeroValue21
  t46:=Tryd.underlying58
  a46:=Tryd.isAgg58
  z46:=Tryd.sizeOf58
  v46:=Tryd.zeroValue58
  t105:=Tryd.underlying124
  a105:=Tryd.isAgg124
  z105:=Tryd.sizeOf124
  v105:=Tryd.zeroValue124
  t116:=Tryd.underlying116
  a116:=Tryd.isAgg116
  z116:=Tryd.sizeOf116
  t117:=Tryd.underlying117
  a117:=Tryd.isAgg117
  z117:=Tryd.sizeOf117
  v117:=Tryd.zeroValue117
  t119:=Tryd.underlying130
  a119:=Tryd.isAgg130
  z119:=Tryd.sizeOf130
  t124:=Tryd.underlying120
  a124:=Tryd.isAgg120
  z124:=Tryd.sizeOf120
  v124:=Tryd.zeroValue120
  t138:=Tryd.underlying132
  a138:=Tryd.isAgg132
  z138:=Tryd.sizeOf132
  v138:=Tryd.zeroValue132
  t139:=Tryd.underlying133
  a139:=Tryd.isAgg133
  z139:=Tryd.sizeOf133
  v139:=Tryd.zeroValue133
  g3:=by kernel_rfl
  g4:=by kernel_rfl}
def Tryd.SH:Go.Shelf.Ren:=⟨fun|137=>92|217=>97|266=>102|n=>n,fun|9=>9|5=>5|3=>3|n=>n,fun|n=>n⟩
theorem Tryd.lays137:Go.Proofs.Lays.n137 Tryd.prog Tryd.SH:= {
  mixed:=by kernel_rfl
  f137:=Tryd.func92.trans (congrArg some (by kernel_rfl))
  f217:=Tryd.func97.trans (congrArg some (by kernel_rfl))
  f266:=Tryd.func102.trans (congrArg some (by kernel_rfl))
  t3:=Tryd.underlying3
  a3:=Tryd.isAgg3
  z3:=Tryd.sizeOf3
  v3:=Tryd.zeroValue3
  t5:=Tryd.underlying5
  a5:=Tryd.isAgg5
  z5:=Tryd.sizeOf5
  v5:=Tryd.zeroValue5
  t9:=Tryd.underlying9
  a9:=Tryd.isAgg9
  z9:=Tryd.sizeOf9
  v9:=Tryd.zeroValue9}
def Tryd.SC:Go.Shelf.Ren:=⟨fun|219=>96|217=>97|225=>100|224=>99|267=>101|266=>102|314=>103|n=>n,fun|9=>9|3=>3|4=>4|5=>5|46=>58|146=>137|51=>136|n=>n,fun|1=>2|n=>n⟩
theorem Tryd.lays219:Go.Proofs.Lays.n219 Tryd.prog Tryd.SC:= {
  mixed:=by kernel_rfl
  f217:=Tryd.func97.trans (congrArg some (by kernel_rfl))
  f219:=Tryd.func96.trans (congrArg some (by kernel_rfl))
  f224:=Tryd.func99.trans (congrArg some (by kernel_rfl))
  f225:=Tryd.func100.trans (congrArg some (by kernel_rfl))
  f266:=Tryd.func102.trans (congrArg some (by kernel_rfl))
  f267:=Tryd.func101.trans (congrArg some (by kernel_rfl))
  f314:=Tryd.func103.trans (congrArg some (by kernel_rfl))
  t3:=Tryd.underlying3
  a3:=Tryd.isAgg3
  z3:=Tryd.sizeOf3
  v3:=Tryd.zeroValue3
  t4:=Tryd.underlying4
  a4:=Tryd.isAgg4
  z4:=Tryd.sizeOf4
  v4:=Tryd.zeroValue4
  t5:=Tryd.underlying5
  a5:=Tryd.isAgg5
  z5:=Tryd.sizeOf5
  v5:=Tryd.zeroValue5
  t9:=Tryd.underlying9
  a9:=Tryd.isAgg9
  z9:=Tryd.sizeOf9
  v9:=Tryd.zeroValue9
  t46:=Tryd.underlying58
  a46:=Tryd.isAgg58
  z46:=Tryd.sizeOf58
  v46:=Tryd.zeroValue58
  t51:=Tryd.underlying136
  a51:=Tryd.isAgg136
  z51:=Tryd.sizeOf136
  v51:=Tryd.zeroValue136
  t146:=Tryd.underlying137
  a146:=Tryd.isAgg137
  z146:=Tryd.sizeOf137
  v146:=Tryd.zeroValue137
  g1:=by kernel_rfl}
open Go.RowKit in
theorem Tryd.strings_IndexByte (s:ByteArray) (c:Int) (w:World):
    Calls Tryd.prog 92 #[.string s,.int .u8 c] w fun e w'=>e=.returned (.int .i64 (Lib.indexByte s.data.toList c.toNat.toUInt8))∧w'=w:=Any.strings_IndexByte Tryd.lays137 s c w
open Go.RowKit Go.Lib in
theorem Tryd.stringslite_Index_one (s:ByteArray) (c:UInt8) (w:World):
    Calls Tryd.prog 96 #[.string s,.string ⟨#[c]⟩] w fun e w'=>e=.returned (.int .i64 (Lib.indexByte s.data.toList c))∧w'=w:=Any.stringslite_Index_one Tryd.lays219 s c w
theorem Tryd.strings_Trim_laid (s cutset:ByteArray) (w:World) (hs:s.size≤9223372036854775807) (hcs:cutset.size<4294967281) (hascii: ∀ (j:Nat) b,cutset.data.toList[j]? =some b→b.toNat<128):
    Calls Tryd.prog 59 #[.string s,.string cutset] w fun e w'=>e=.returned (.string ⟨(Lib.trimS s.data.toList cutset.data.toList).toArray⟩)∧Go.RowKit.Below w.heap.size w w':=Any.strings_Trim_laid Tryd.lays160 (by kernel_rfl) s cutset w hs hcs hascii
theorem Tryd.strings_TrimLeft_laid (s cutset:ByteArray) (w:World) (hcs:cutset.size<4294967281) (hascii: ∀ (j:Nat) b,cutset.data.toList[j]? =some b→b.toNat<128):
    Calls Tryd.prog 83 #[.string s,.string cutset] w fun e w'=>e=.returned (.string ⟨(Lib.trimLeftS s.data.toList cutset.data.toList).toArray⟩)∧Go.RowKit.Below w.heap.size w w':=Any.strings_TrimLeft_laid Tryd.lays161 (by kernel_rfl) s cutset w hcs hascii
end Go.Proofs
namespace Go.Ab
open Go Go.Sep
variable [Facts]
theorem RI {w w':World} (h:RowKit.Below w.heap.size w w'):Keeps (fun k=>k<w.heap.size) w w':=⟨h.1,h.2,h.3,h.4,h.5⟩
theorem Spc.of_below {Pr:Program} {f:Nat} {args:List D} {hp:List HO} {d:D} (hf: ∃ fn,Pr.funcs[f]? =some fn∧(fn.name == "runtime.NumGoroutine")=false∧fn.body.isNone=false)
    (h: ∀ (S:Frz) (bs:List Value) (w:World) (vs:List Value),Facts.p w→MDs S bs args vs→∃ v,MD S bs d v∧Calls Pr f vs.toArray w fun e w'=>e=.returned v∧RowKit.Below w.heap.size w w'):Spc Pr f args hp (.ret d) hp:=by
  refine⟨hf,fun S K fr w vs hH hM hA=> ?_⟩
  obtain⟨v,hv,hc⟩:=h S _ w vs (At.frz hA).facts hM
  refine hc.mono fun e w' he=> ?_
  obtain⟨he,hb⟩:=he
  subst he
  exact⟨S,K,Frz.le.refl S,Ext.refl _,hH,hA.keep (RI hb),hv⟩
end Go.Ab
namespace Go.Proofs.YtknaogelmckimaaDoor
open Go Go.Sep Go.Ab
set_option maxRecDepth 100000
theorem Qd (s cs:Str):(Lib.trimS s cs).length≤s.length:=by
  unfold Lib.trimS Lib.trimLeftS Lib.trimRightS
  refine Nat.le_trans (List.dropWhile_sublist _).length_le ?_
  rw [List.length_reverse]
  exact Nat.le_trans (List.dropWhile_sublist _).length_le (by rw [List.length_reverse];exact Nat.le_refl _)
theorem ZY: ∀ (s:Str) (c:UInt8),-1≤Lib.indexByte s c∧Lib.indexByte s c<s.length
  |[],c=>by simp [Lib.indexByte]
  | b ::l,c=>by
    have:=ZY l c
    unfold Lib.indexByte
    rw [List.length_cons]
    split
    · omega
    · split
      · omega
      · omega
theorem zgU (s:Str):Spc Tryd.prog 59 [.v (.one (.p (.str s))),.v (.one (.p (.str ([32,9]))))] [] (.ret (.v (.one (.p (.str (Lib.trimS s [32,9])))))) []:=by
  refine Spc.of_below ⟨_,Tryd.func59,by kernel_rfl,by kernel_rfl⟩ fun S bs w vs _ hM=> ?_
  obtain⟨v,r,rfl⟩: ∃ v r,vs=v::r:=by cases vs with|nil=>exact hM.elim|cons v r=>exact⟨v,r,rfl⟩
  obtain⟨h1,hM⟩:=hM
  obtain⟨v2,r2,rfl⟩: ∃ v r2,r=v::r2:=by cases r with|nil=>exact hM.elim|cons v r=>exact⟨v,r,rfl⟩
  obtain⟨h2,hM⟩:=hM
  obtain rfl:r2=[]:=by cases r2 with|nil=>rfl|cons v r=>exact hM.elim
  cases h1 with
  | str _ hl1=>
    cases h2 with
    | str _ hl2=>
      refine⟨.string (Sep.S (Lib.trimS s [32,9])),.str _ (Nat.le_trans (Qd _ _) hl1),?_⟩
      exact Tryd.strings_Trim_laid (Sep.S s) (Sep.S [32,9]) w (by have:=hl1;unfold maxLen at this;exact this) (by decide) (fun j b hb=>by
        have:=List.mem_of_getElem? hb
        rcases(by simpa [Sep.S] using this:b=32∨b=9) with rfl|rfl<;>decide)
def WW (I:Alg) (args:List D) (hp:List HO):Option CT:=match args,hp with
  |[.v (.one (.p (.str s))),.v (.one (.p (.str ([32,9]))))],[]=>(fun(s:Str)=>(some (.one ⟨I.hid (True),(.ret (.v (.one (.p (.str (I.hid (Lib.trimS s [32,9]))))))),[]⟩):Option CT)) s
  |_,_=>none
theorem zbn:zy Tryd.prog 59 (WW alg):=by
  intro args hp r h
  unfold WW at h
  split at h
  · cases h;exact fun hn=>zgU _
  · cases h
def zeH:Know Tryd.prog:=⟨59,WW,zbn⟩
def zeG:Know Tryd.prog:=⟨59,fun I=>zC I (WW I),zf zbn⟩
theorem zaZ (s:Str) (k:Int):Spc Tryd.prog 92 [.v (.one (.p (.str s))),.v (.one (.p (.int .u8 k)))] [] (.ret (.v (.one (.p (.int .i64 (Lib.indexByte s k.toNat.toUInt8)))))) []:=by
  refine Spc.of_below ⟨_,Tryd.func92,by kernel_rfl,by kernel_rfl⟩ fun S bs w vs _ hM=> ?_
  obtain⟨v,r,rfl⟩: ∃ v r,vs=v::r:=by cases vs with|nil=>exact hM.elim|cons v r=>exact⟨v,r,rfl⟩
  obtain⟨h1,hM⟩:=hM
  obtain⟨v2,r2,rfl⟩: ∃ v r2,r=v::r2:=by cases r with|nil=>exact hM.elim|cons v r=>exact⟨v,r,rfl⟩
  obtain⟨h2,hM⟩:=hM
  obtain rfl:r2=[]:=by cases r2 with|nil=>rfl|cons v r=>exact hM.elim
  cases h1 with
  | str _ hl1=>
    cases h2 with
    | int _ _=>
      refine⟨.int .i64 (Lib.indexByte s k.toNat.toUInt8),.int _ _,?_⟩
      refine(Tryd.strings_IndexByte (Sep.S s) k w).mono fun e w' h=> ?_
      obtain⟨he,rfl⟩:=h
      exact⟨he,RowKit.Below.refl _ _⟩
def wU (I:Alg) (args:List D) (hp:List HO):Option CT:=match args,hp with
  |[.v (.one (.p (.str s))),.v (.one (.p (.int .u8 k)))],[]=>(fun(s:Str) (k:Int)=>(some (.one ⟨I.hid (True),(.ret (.v (.one (.p (.int .i64 (I.hid (Lib.indexByte s k.toNat.toUInt8))))))),[]⟩):Option CT)) s k
  |_,_=>none
theorem Z4:zy Tryd.prog 92 (wU alg):=by
  intro args hp r h
  unfold wU at h
  split at h
  · cases h;exact fun hn=>zaZ _ _
  · cases h
def UJ:Know Tryd.prog:=⟨92,wU,Z4⟩
def UI:Know Tryd.prog:=⟨92,fun I=>zC I (wU I),zf Z4⟩
theorem zfc (s:Str) (c:UInt8):Spc Tryd.prog 96 [.v (.one (.p (.str s))),.v (.one (.p (.str ([c]))))] [] (.ret (.v (.one (.p (.int .i64 (Lib.indexByte s c)))))) []:=by
  refine Spc.of_below ⟨_,Tryd.func96,by kernel_rfl,by kernel_rfl⟩ fun S bs w vs _ hM=> ?_
  obtain⟨v,r,rfl⟩: ∃ v r,vs=v::r:=by cases vs with|nil=>exact hM.elim|cons v r=>exact⟨v,r,rfl⟩
  obtain⟨h1,hM⟩:=hM
  obtain⟨v2,r2,rfl⟩: ∃ v r2,r=v::r2:=by cases r with|nil=>exact hM.elim|cons v r=>exact⟨v,r,rfl⟩
  obtain⟨h2,hM⟩:=hM
  obtain rfl:r2=[]:=by cases r2 with|nil=>rfl|cons v r=>exact hM.elim
  cases h1 with
  | str _ hl1=>
    cases h2 with
    | str _ _=>
      refine⟨.int .i64 (Lib.indexByte s c),.int _ _,?_⟩
      refine(Tryd.stringslite_Index_one (Sep.S s) c w).mono fun e w' h=> ?_
      obtain⟨he,rfl⟩:=h
      exact⟨he,RowKit.Below.refl _ _⟩
def qP (I:Alg) (args:List D) (hp:List HO):Option CT:=match args,hp with
  |[.v (.one (.p (.str s))),.v (.one (.p (.str ([c]))))],[]=>(fun(s:Str) (c:UInt8)=>(some (.one ⟨I.hid (True),(.ret (.v (.one (.p (.int .i64 (I.hid (Lib.indexByte s c))))))),[]⟩):Option CT)) s c
  |_,_=>none
theorem UK:zy Tryd.prog 96 (qP alg):=by
  intro args hp r h
  unfold qP at h
  split at h
  · cases h;exact fun hn=>zfc _ _
  · cases h
def zb7:Know Tryd.prog:=⟨96,qP,UK⟩
def zb6:Know Tryd.prog:=⟨96,fun I=>zC I (qP I),zf UK⟩
end Go.Proofs.YtknaogelmckimaaDoor
namespace Go.Proofs.YtknaogelmckimaaDoor
open Go Go.Sep Go.Ab
set_option maxRecDepth 100000
def lowK (k:Int):Int:=if 65≤k∧k≤90 then k+32 else k
def rV (k:Int):Bool:=decide (48≤k∧k≤57)
def vC (k:Int):Bool:=decide (97≤lowK k∧lowK k≤122)
def marks:Str:=[33,35,36,37,38,39,42,43,45,46,94,95,96,124,126]
def tokB (k:Int):Bool:=rV k||(vC k||decide (0≤Lib.indexByte marks k.toNat.toUInt8))
def vK (k:Int):Bool:=decide (k=9∨32≤k∧k≠127)
def hexK (k:Int):Int:=if rV k then k - 48 else if vC k&&decide (lowK k≤102) then lowK k - 97+10 else -1
theorem zgT (n:Int) (h:0≤n∧n≤255):IntKind.u8.wrap n=n:=by
  unfold IntKind.wrap
  simp only [show IntKind.u8.signed=false by decide,show IntKind.u8.bits=8 by decide,Bool.false_and,Bool.false_eq_true,if_false]
  omega
theorem wrap64 (n:Int) (h: -9223372036854775808≤n∧n≤9223372036854775807):IntKind.i64.wrap n=n:=by
  unfold IntKind.wrap
  simp only [show IntKind.i64.signed=true by decide,show IntKind.i64.bits=64 by decide]
  split<;>simp_all<;>omega
theorem zbX {k:Int} (h:0≤k∧k≤255):0≤lowK k∧lowK k≤255:=by unfold lowK;split<;>omega
theorem zgI (k:Int):Spc Tryd.prog 70 [.v (.one (.p (.int .u8 k)))] [] (.ret (.v (.one (.p (.bool (rV k)))))) []:=by
  refine spcG zl mixed Tryd.func70 (by kernel_rfl) { keep:=some [0,2]} [] (by kernel_rfl) ?_
  intro I X hI hX
  refine zi (.br (I.ile 48 k) (.fin (.ret (.v (.one (.p (.bool (I.ile k 57)))))) []) (.fin (.ret (.v (.one (.p (.bool Bool.false))))) [])) (by kernel_rfl) ?_
  simp only [zq]
  subst hI
  simp only [nrmA,nrmB]
  unfold rV
  exact⟨fun h=>decide_eq_decide.2 (by omega),fun h=>(decide_eq_false (by omega)).symm⟩
def YJ (I:Alg) (args:List D) (hp:List HO):Option CT:=match args,hp with
  |[.v (.one (.p (.int .u8 k)))],[]=>(fun(k:Int)=>(some (.one ⟨I.hid (True),(.ret (.v (.one (.p (.bool (I.hid (rV k))))))),[]⟩):Option CT)) k
  |_,_=>none
theorem zal:zy Tryd.prog 70 (YJ alg):=by
  intro args hp r h
  unfold YJ at h
  split at h
  · cases h;exact fun hn=>zgI _
  · cases h
def zak:Know Tryd.prog:=⟨70,YJ,zal⟩
def zaj:Know Tryd.prog:=⟨70,fun I=>zC I (YJ I),zf zal⟩
theorem zgj (k:Int) (hneed:0≤k∧k≤255):Spc Tryd.prog 72 [.v (.one (.p (.int .u8 k)))] [] (.ret (.v (.one (.p (.int .u8 (lowK k)))))) []:=by
  refine spcG zl mixed Tryd.func72 (by kernel_rfl) { keep:=some [0,2]} [] (by kernel_rfl) ?_
  intro I X hI hX
  refine zi (.br (I.ile 65 k) (.br (I.ile k 90) (.need (I.inr Go.IntKind.u8 (I.add k 32)) (.fin (.ret (.v (.one (.p (.int .u8 (I.add k 32)))))) [])) (.fin (.ret (.v (.one (.p (.int .u8 k))))) [])) (.fin (.ret (.v (.one (.p (.int .u8 k))))) [])) (by kernel_rfl) ?_
  simp only [zq]
  subst hI
  simp only [nrmA,nrmB]
  unfold lowK
  (repeat' (first|refine And.intro ?_ ?_|intro _))<;>first|omega|exact True.intro|exact False.elim ‹False›|skip
def Yv (I:Alg) (args:List D) (hp:List HO):Option CT:=match args,hp with
  |[.v (.one (.p (.int .u8 k)))],[]=>(fun(k:Int)=>(some (.one ⟨I.hid (0≤k∧k≤255),(.ret (.v (.one (.p (.int .u8 (I.hid (lowK k))))))),[]⟩):Option CT)) k
  |_,_=>none
theorem QD:zy Tryd.prog 72 (Yv alg):=by
  intro args hp r h
  unfold Yv at h
  split at h
  · cases h;exact fun hn=>zgj _ hn
  · cases h
def Yu:Know Tryd.prog:=⟨72,Yv,QD⟩
def Yt:Know Tryd.prog:=⟨72,fun I=>zC I (Yv I),zf QD⟩
theorem ze9 (k:Int) (hneed:0≤k∧k≤255):Spc Tryd.prog 71 [.v (.one (.p (.int .u8 k)))] [] (.ret (.v (.one (.p (.bool (vC k)))))) []:=by
  refine spcG zl mixed Tryd.func71 (by kernel_rfl) { keep:=some [0,2]} [Yu,Yt] (by kernel_rfl) ?_
  intro I X hI hX
  refine zi (let y0:=I.hid (α:=(Prop)) (And (LE.le (0:Int) k) (LE.le k (255:Int)));.need y0 (.br (I.ile 97 (I.hid (α:=Int) (lowK k))) (.need y0 (.fin (.ret (.v (.one (.p (.bool (I.ile (I.hid (α:=Int) (lowK k)) 122)))))) [])) (.fin (.ret (.v (.one (.p (.bool Bool.false))))) []))) (by kernel_rfl) ?_
  simp only [zq]
  subst hI
  simp only [nrmA,nrmB]
  unfold vC
  (repeat' (first|refine And.intro ?_ ?_|intro _))<;>first|omega|exact True.intro|exact False.elim ‹False›|skip
  all_goals first|exact decide_eq_decide.2 (by omega)|exact(decide_eq_false (by omega)).symm|exact(decide_eq_true (by omega)).symm|(rw [show(k == 127)=decide (k=127) from rfl,← decide_not];exact decide_eq_decide.2 (by omega))
def qN (I:Alg) (args:List D) (hp:List HO):Option CT:=match args,hp with
  |[.v (.one (.p (.int .u8 k)))],[]=>(fun(k:Int)=>(some (.one ⟨I.hid (0≤k∧k≤255),(.ret (.v (.one (.p (.bool (I.hid (vC k))))))),[]⟩):Option CT)) k
  |_,_=>none
theorem Ut:zy Tryd.prog 71 (qN alg):=by
  intro args hp r h
  unfold qN at h
  split at h
  · cases h;exact fun hn=>ze9 _ hn
  · cases h
def Us:Know Tryd.prog:=⟨71,qN,Ut⟩
def Ur:Know Tryd.prog:=⟨71,fun I=>zC I (qN I),zf Ut⟩
theorem zfV (k:Int) (hneed:0≤k∧k≤255):Spc Tryd.prog 84 [.v (.one (.p (.int .u8 k)))] [] (.ret (.v (.one (.p (.bool (tokB k)))))) []:=by
  refine spcG zl mixed Tryd.func84 (by kernel_rfl) { keep:=some [0,2]} [UJ,UI,zak,zaj,Us,Ur] (by kernel_rfl) ?_
  intro I X hI hX
  refine zi (.need (I.hid (α:=(Prop)) True) (.br (I.hid (α:=Bool) (rV k)) (.fin (.ret (.v (.one (.p (.bool Bool.true))))) []) (.need (I.hid (α:=(Prop)) (And (LE.le (0:Int) k) (LE.le k (255:Int)))) (.br (I.hid (α:=Bool) (vC k)) (.fin (.ret (.v (.one (.p (.bool Bool.true))))) []) (.need (I.hid (α:=(Prop)) True) (.fin (.ret (.v (.one (.p (.bool (I.ile 0 (I.hid (α:=Int) (Go.Lib.indexByte ([33,35,36,37,38,39,42,43,45,46,94,95,96,124,126]:Str) (Nat.toUInt8 (Int.toNat k)))))))))) [])))))) (by kernel_rfl) ?_
  simp only [zq]
  subst hI
  simp only [nrmA,nrmB]
  unfold tokB marks
  (repeat' (first|refine And.intro ?_ ?_|intro _))<;>first|omega|exact True.intro|exact False.elim ‹False›|skip
  all_goals simp [*]
def Yi (I:Alg) (args:List D) (hp:List HO):Option CT:=match args,hp with
  |[.v (.one (.p (.int .u8 k)))],[]=>(fun(k:Int)=>(some (.one ⟨I.hid (0≤k∧k≤255),(.ret (.v (.one (.p (.bool (I.hid (tokB k))))))),[]⟩):Option CT)) k
  |_,_=>none
theorem Qe:zy Tryd.prog 84 (Yi alg):=by
  intro args hp r h
  unfold Yi at h
  split at h
  · cases h;exact fun hn=>zfV _ hn
  · cases h
def vT:Know Tryd.prog:=⟨84,Yi,Qe⟩
def ql:Know Tryd.prog:=⟨84,fun I=>zC I (Yi I),zf Qe⟩
theorem zdk (k:Int):Spc Tryd.prog 37 [.v (.one (.p (.int .u8 k)))] [] (.ret (.v (.one (.p (.bool (vK k)))))) []:=by
  refine spcG zl mixed Tryd.func37 (by kernel_rfl) { keep:=some [0,2]} [] (by kernel_rfl) ?_
  intro I X hI hX
  refine zi (.br (I.ieq k 9) (.fin (.ret (.v (.one (.p (.bool Bool.true))))) []) (.br (I.ile 32 k) (.fin (.ret (.v (.one (.p (.bool (I.bnot (I.ieq k 127))))))) []) (.fin (.ret (.v (.one (.p (.bool Bool.false))))) []))) (by kernel_rfl) ?_
  simp only [zq]
  subst hI
  simp only [nrmA,nrmB]
  unfold vK
  (repeat' (first|refine And.intro ?_ ?_|intro _))<;>first|omega|exact True.intro|exact False.elim ‹False›|skip
  all_goals first|exact decide_eq_decide.2 (by omega)|exact(decide_eq_false (by omega)).symm|exact(decide_eq_true (by omega)).symm|(rw [show(k == 127)=decide (k=127) from rfl,← decide_not];exact decide_eq_decide.2 (by omega))
def tV (I:Alg) (args:List D) (hp:List HO):Option CT:=match args,hp with
  |[.v (.one (.p (.int .u8 k)))],[]=>(fun(k:Int)=>(some (.one ⟨I.hid (True),(.ret (.v (.one (.p (.bool (I.hid (vK k))))))),[]⟩):Option CT)) k
  |_,_=>none
theorem XQ:zy Tryd.prog 37 (tV alg):=by
  intro args hp r h
  unfold tV at h
  split at h
  · cases h;exact fun hn=>zdk _
  · cases h
def xZ:Know Tryd.prog:=⟨37,tV,XQ⟩
def tN:Know Tryd.prog:=⟨37,fun I=>zC I (tV I),zf XQ⟩
theorem zfa (k:Int):Spc Tryd.prog 38 [.v (.one (.p (.int .u8 k)))] [] (.ret (.v (.one (.p (.bool (vK k)))))) []:=by
  refine spcG zl mixed Tryd.func38 (by kernel_rfl) { keep:=some [0,2]} [] (by kernel_rfl) ?_
  intro I X hI hX
  refine zi (.br (I.ieq k 9) (.fin (.ret (.v (.one (.p (.bool Bool.true))))) []) (.br (I.ilt 31 k) (.fin (.ret (.v (.one (.p (.bool (I.bnot (I.ieq k 127))))))) []) (.fin (.ret (.v (.one (.p (.bool Bool.false))))) []))) (by kernel_rfl) ?_
  simp only [zq]
  subst hI
  simp only [nrmA,nrmB]
  unfold vK
  (repeat' (first|refine And.intro ?_ ?_|intro _))<;>first|omega|exact True.intro|exact False.elim ‹False›|skip
  all_goals first|exact decide_eq_decide.2 (by omega)|exact(decide_eq_false (by omega)).symm|exact(decide_eq_true (by omega)).symm|(rw [show(k == 127)=decide (k=127) from rfl,← decide_not];exact decide_eq_decide.2 (by omega))
def qO (I:Alg) (args:List D) (hp:List HO):Option CT:=match args,hp with
  |[.v (.one (.p (.int .u8 k)))],[]=>(fun(k:Int)=>(some (.one ⟨I.hid (True),(.ret (.v (.one (.p (.bool (I.hid (vK k))))))),[]⟩):Option CT)) k
  |_,_=>none
theorem UB:zy Tryd.prog 38 (qO alg):=by
  intro args hp r h
  unfold qO at h
  split at h
  · cases h;exact fun hn=>zfa _
  · cases h
def UA:Know Tryd.prog:=⟨38,qO,UB⟩
def Uz:Know Tryd.prog:=⟨38,fun I=>zC I (qO I),zf UB⟩
theorem hex_ (k:Int) (hneed:0≤k∧k≤255):Spc Tryd.prog 55 [.v (.one (.p (.int .u8 k)))] [] (.ret (.v (.one (.p (.int .i64 (hexK k)))))) []:=by
  refine spcG zl mixed Tryd.func55 (by kernel_rfl) { keep:=some [0,2]} [zak,zaj,Yu,Yt,Us,Ur] (by kernel_rfl) ?_
  intro I X hI hX
  refine zi (let y0:=I.hid (α:=(Prop)) (And (LE.le (0:Int) k) (LE.le k (255:Int)));let y1:=I.add (I.wrap Go.IntKind.i64 (I.sub (I.hid (α:=Int) (lowK k)) 97)) 10;.need (I.hid (α:=(Prop)) True) (.br (I.hid (α:=Bool) (rV k)) (.need (I.inr Go.IntKind.u8 (I.sub k 48)) (.fin (.ret (.v (.one (.p (.int .i64 (I.wrap Go.IntKind.i64 (I.sub k 48))))))) [])) (.need y0 (.br (I.hid (α:=Bool) (vC k)) (.need y0 (.br (I.ile (I.hid (α:=Int) (lowK k)) 102) (.need y0 (.need (I.inr Go.IntKind.u8 (I.sub (I.hid (α:=Int) (lowK k)) 97)) (.need (I.inr Go.IntKind.i64 y1) (.fin (.ret (.v (.one (.p (.int .i64 y1))))) [])))) (.fin (.ret (.v (.one (.p (.int .i64 (Neg.neg (1:Int))))))) []))) (.fin (.ret (.v (.one (.p (.int .i64 (Neg.neg (1:Int))))))) []))))) (by kernel_rfl) ?_
  simp only [zq]
  subst hI
  simp only [nrmA,nrmB]
  (repeat' (first|refine And.intro ?_ ?_|intro _))<;>first|omega|exact True.intro|exact False.elim ‹False›|skip
  all_goals first
    |(have:=of_decide_eq_true ‹rV k=true›;omega)
    |(have:=of_decide_eq_true ‹rV k=true›;unfold hexK;rw [if_pos ‹rV k=true›,wrap64 _ (by omega)])
    |(have:=of_decide_eq_true ‹vC k=true›;omega)
    |(have:=of_decide_eq_true ‹vC k=true›;rw [wrap64 _ (by omega)];omega)
    |(have:=of_decide_eq_true ‹vC k=true›;rw [wrap64 _ (by omega)];unfold hexK;simp [*])
    |(unfold hexK;simp [*])
def QO (I:Alg) (args:List D) (hp:List HO):Option CT:=match args,hp with
  |[.v (.one (.p (.int .u8 k)))],[]=>(fun(k:Int)=>(some (.one ⟨I.hid (0≤k∧k≤255),(.ret (.v (.one (.p (.int .i64 (I.hid (hexK k))))))),[]⟩):Option CT)) k
  |_,_=>none
theorem zep:zy Tryd.prog 55 (QO alg):=by
  intro args hp r h
  unfold QO at h
  split at h
  · cases h;exact fun hn=>hex_ _ hn
  · cases h
def zeo:Know Tryd.prog:=⟨55,QO,zep⟩
def zen:Know Tryd.prog:=⟨55,fun I=>zC I (QO I),zf zep⟩
end Go.Proofs.YtknaogelmckimaaDoor
namespace Go.Proofs.YtknaogelmckimaaDoor
open Go Go.Sep Go.Ab
set_option maxRecDepth 100000
def tokA (s:Str):Bool:=s.all fun c=>tokB (c.toNat:Int)
def xE (s:Str):Bool:=s.all fun c=>vK (c.toNat:Int)
theorem xC (c:UInt8):0≤(c.toNat:Int)∧(c.toNat:Int)≤255:=by have:=c.toNat_lt;omega
theorem VS {p:UInt8→Bool} {s:Str} {i:Nat} (h:i<s.length):(s.drop i).all p=(p (s.getD i 0)&&(s.drop (i+1)).all p):=by
  rw [List.drop_eq_getElem_cons h,List.all_cons];simp [h]
theorem zfR (s:Str) (hneed:s.length≤1000000):Spc Tryd.prog 58 [.v (.one (.p (.str s))),.v (.one (.fn 84 []))] [] (.ret (.v (.one (.p (.bool (tokA s)))))) []:=by
  generalize hr:tokA s=r
  refine spcG zl mixed Tryd.func58 (by kernel_rfl) { keep:=some [0,1,4,5,7,8]} [vT] (by kernel_rfl) ?_
  intro I X hI hX
  refine zi (.code 0 [1,0,1,0] ⟨[(8,(.v (.one (.p (.int .i64 0))))),(7,(.v (.one (.p (.int .i64 (I.len (α:=UInt8) s)))))),(4,(.v (.one (.p (.val (.bool .false)))))),(0,(.v (.one (.p (.str s))))),(1,(.v (.one (.fn 84 []))))],[],18,none⟩) (by kernel_rfl) ?_
  simp only [zq]
  refine zF hI zl mixed [vT] hX [0,1,7,8] (fun(i:Nat)=>i≤s.length∧tokA (s.drop i)=r) (fun(i:Nat)=>⟨[(0,.v (.one (.p (.str s)))),(1,.v (.one (.fn 84 []))),(7,.v (.one (.p (.int .i64 ((I.len (α:=UInt8) s)))))),(8,.v (.one (.p (.int .i64 i))))],[],18,none⟩) (fun(i:Nat)=>s.length - i) 0 (by kernel_rfl) (by kernel_rfl) ?_ ?_
  · exact⟨Nat.zero_le _,hr⟩
  rintro i ⟨h1,h2⟩ A hA
  refine zi (let y0:=I.b2i (I.get (α:=UInt8) s 0 (Nat.cast i));.br (I.ilt (Nat.cast i) (I.len (α:=UInt8) s)) (.need (I.inb (Nat.cast i) (I.len (α:=UInt8) s)) (.need (I.hid (α:=(Prop)) (And (LE.le (0:Int) y0) (LE.le y0 (255:Int)))) (.br (I.bnot (I.hid (α:=Bool) (tokB y0))) (.fin (.ret (.v (.one (.p (.bool Bool.false))))) []) (.need (I.inr Go.IntKind.i64 (I.add (Nat.cast i) 1)) (.need (A ⟨[(0,(.v (.one (.p (.str s))))),(1,(.v (.one (.fn 84 [])))),(7,(.v (.one (.p (.int .i64 (I.len (α:=UInt8) s)))))),(8,(.v (.one (.p (.int .i64 (I.add (Nat.cast i) 1))))))],[],18,none⟩) .qed))))) (.fin (.ret (.v (.one (.p (.bool Bool.true))))) [])) (by kernel_rfl) ?_
  simp only [zq]
  subst hI
  simp only [nrmA,nrmB]
  have hb:=xC (s.getD i 0)
  have hd:i<s.length→tokA (s.drop i)=(tokB (s.getD i 0).toNat&&tokA (s.drop (i+1))):=fun h=>VS h
  generalize s.getD i 0=x at *
  (repeat' (first|refine And.intro ?_ ?_|intro _))<;>first|omega|exact True.intro|exact False.elim ‹False›|skip
  all_goals first
    |(rw [← h2,hd (by omega)];simp [*];done)
    |(refine hA (i+1) ⟨by omega,?_⟩ (by omega);rw [← h2,hd (by omega)];simp [*];done)
    |(rw [← h2,List.drop_of_length_le (by omega)];rfl)
def Zk (I:Alg) (args:List D) (hp:List HO):Option CT:=match args,hp with
  |[.v (.one (.p (.str s))),.v (.one (.fn 84 []))],[]=>(fun(s:Str)=>(some (.one ⟨I.hid (s.length≤1000000),(.ret (.v (.one (.p (.bool (I.hid (tokA s))))))),[]⟩):Option CT)) s
  |_,_=>none
theorem TL:zy Tryd.prog 58 (Zk alg):=by
  intro args hp r h
  unfold Zk at h
  split at h
  · cases h;exact fun hn=>zfR _ hn
  · cases h
def Zj:Know Tryd.prog:=⟨58,Zk,TL⟩
def Zi:Know Tryd.prog:=⟨58,fun I=>zC I (Zk I),zf TL⟩
theorem zd9 (s:Str) (hneed:s.length≤1000000):Spc Tryd.prog 58 [.v (.one (.p (.str s))),.v (.one (.fn 37 []))] [] (.ret (.v (.one (.p (.bool (xE s)))))) []:=by
  generalize hr:xE s=r
  refine spcG zl mixed Tryd.func58 (by kernel_rfl) { keep:=some [0,1,4,5,7,8]} [xZ,Zj,Zi] (by kernel_rfl) ?_
  intro I X hI hX
  refine zi (.code 0 [1,0,1,0] ⟨[(8,(.v (.one (.p (.int .i64 0))))),(7,(.v (.one (.p (.int .i64 (I.len (α:=UInt8) s)))))),(4,(.v (.one (.p (.val (.bool .false)))))),(0,(.v (.one (.p (.str s))))),(1,(.v (.one (.fn 37 []))))],[],18,none⟩) (by kernel_rfl) ?_
  simp only [zq]
  refine zF hI zl mixed [xZ,Zj,Zi] hX [0,1,7,8] (fun(i:Nat)=>i≤s.length∧xE (s.drop i)=r) (fun(i:Nat)=>⟨[(0,.v (.one (.p (.str s)))),(1,.v (.one (.fn 37 []))),(7,.v (.one (.p (.int .i64 ((I.len (α:=UInt8) s)))))),(8,.v (.one (.p (.int .i64 i))))],[],18,none⟩) (fun(i:Nat)=>s.length - i) 0 (by kernel_rfl) (by kernel_rfl) ?_ ?_
  · exact⟨Nat.zero_le _,hr⟩
  rintro i ⟨h1,h2⟩ A hA
  refine zi (.br (I.ilt (Nat.cast i) (I.len (α:=UInt8) s)) (.need (I.inb (Nat.cast i) (I.len (α:=UInt8) s)) (.need (I.hid (α:=(Prop)) True) (.br (I.bnot (I.hid (α:=Bool) (vK (I.b2i (I.get (α:=UInt8) s 0 (Nat.cast i)))))) (.fin (.ret (.v (.one (.p (.bool Bool.false))))) []) (.need (I.inr Go.IntKind.i64 (I.add (Nat.cast i) 1)) (.need (A ⟨[(0,(.v (.one (.p (.str s))))),(1,(.v (.one (.fn 37 [])))),(7,(.v (.one (.p (.int .i64 (I.len (α:=UInt8) s)))))),(8,(.v (.one (.p (.int .i64 (I.add (Nat.cast i) 1))))))],[],18,none⟩) .qed))))) (.fin (.ret (.v (.one (.p (.bool Bool.true))))) [])) (by kernel_rfl) ?_
  simp only [zq]
  subst hI
  simp only [nrmA,nrmB]
  have hb:=xC (s.getD i 0)
  have hd:i<s.length→xE (s.drop i)=(vK (s.getD i 0).toNat&&xE (s.drop (i+1))):=fun h=>VS h
  generalize s.getD i 0=x at *
  (repeat' (first|refine And.intro ?_ ?_|intro _))<;>first|omega|exact True.intro|exact False.elim ‹False›|skip
  all_goals first
    |(rw [← h2,hd (by omega)];simp [*];done)
    |(refine hA (i+1) ⟨by omega,?_⟩ (by omega);rw [← h2,hd (by omega)];simp [*];done)
    |(rw [← h2,List.drop_of_length_le (by omega)];rfl)
def rG (I:Alg) (args:List D) (hp:List HO):Option CT:=match args,hp with
  |[.v (.one (.p (.str s))),.v (.one (.fn 37 []))],[]=>(fun(s:Str)=>(some (.one ⟨I.hid (s.length≤1000000),(.ret (.v (.one (.p (.bool (I.hid (xE s))))))),[]⟩):Option CT)) s
  |_,_=>none
theorem WV:zy Tryd.prog 58 (rG alg):=by
  intro args hp r h
  unfold rG at h
  split at h
  · cases h;exact fun hn=>zd9 _ hn
  · cases h
def WU:Know Tryd.prog:=⟨58,rG,WV⟩
def WT:Know Tryd.prog:=⟨58,fun I=>zC I (rG I),zf WV⟩
def V4 (s:Str):Bool:=decide (s≠[])&&tokA s
theorem zdF (s:Str) (hneed:s.length≤1000000):Spc Tryd.prog 82 [.v (.one (.p (.str s)))] [] (.ret (.v (.one (.p (.bool (V4 s)))))) []:=by
  refine spcG zl mixed Tryd.func82 (by kernel_rfl) { keep:=some [0,2]} [vT,ql,Zj,Zi,WU,WT] (by kernel_rfl) ?_
  intro I X hI hX
  refine zi (.br (I.bnot (I.seq s ([]:Str))) (.need (I.hid (α:=(Prop)) (LE.le (List.length s) 1000000)) (.fin (.ret (.v (.one (.p (.bool (I.hid (α:=Bool) (tokA s))))))) [])) (.fin (.ret (.v (.one (.p (.bool Bool.false))))) [])) (by kernel_rfl) ?_
  simp only [zq]
  subst hI
  simp only [nrmA,nrmB]
  unfold V4
  (repeat' (first|refine And.intro ?_ ?_|intro _))<;>first|omega|exact True.intro|exact False.elim ‹False›|skip
  all_goals simp [*]
def sO (I:Alg) (args:List D) (hp:List HO):Option CT:=match args,hp with
  |[.v (.one (.p (.str s)))],[]=>(fun(s:Str)=>(some (.one ⟨I.hid (s.length≤1000000),(.ret (.v (.one (.p (.bool (I.hid (V4 s))))))),[]⟩):Option CT)) s
  |_,_=>none
theorem Wl:zy Tryd.prog 82 (sO alg):=by
  intro args hp r h
  unfold sO at h
  split at h
  · cases h;exact fun hn=>zdF _ hn
  · cases h
def zaY:Know Tryd.prog:=⟨82,sO,Wl⟩
def zaX:Know Tryd.prog:=⟨82,fun I=>zC I (sO I),zf Wl⟩
theorem zaW (s:Str) (hneed:s.length≤1000000):Spc Tryd.prog 39 [.v (.one (.p (.str s)))] [] (.ret (.v (.one (.p (.bool (xE s)))))) []:=by
  refine spcG zl mixed Tryd.func39 (by kernel_rfl) { keep:=some [0,2]} [xZ,tN,Zj,Zi,WU,WT] (by kernel_rfl) ?_
  intro I X hI hX
  refine zi (.need (I.hid (α:=(Prop)) (LE.le (List.length s) 1000000)) (.fin (.ret (.v (.one (.p (.bool (I.hid (α:=Bool) (xE s))))))) [])) (by kernel_rfl) ?_
  simp only [zq]
  subst hI
  simp only [nrmA,nrmB]
  exact hneed
def wR (I:Alg) (args:List D) (hp:List HO):Option CT:=match args,hp with
  |[.v (.one (.p (.str s)))],[]=>(fun(s:Str)=>(some (.one ⟨I.hid (s.length≤1000000),(.ret (.v (.one (.p (.bool (I.hid (xE s))))))),[]⟩):Option CT)) s
  |_,_=>none
theorem ZX:zy Tryd.prog 39 (wR alg):=by
  intro args hp r h
  unfold wR at h
  split at h
  · cases h;exact fun hn=>zaW _ hn
  · cases h
def tq:Know Tryd.prog:=⟨39,wR,ZX⟩
def uZ:Know Tryd.prog:=⟨39,fun I=>zC I (wR I),zf ZX⟩
theorem zhe {p:Int→Prop} [∀ k,Decidable (p k)] (h: ∀ n:Fin 256,p (n.1:Int)) {k:Int} (hk:0≤k∧k≤255):p k:=by
  have:=h ⟨k.toNat,by omega⟩
  rwa [show((k.toNat:Nat):Int)=k by omega] at this
theorem zbv (s:Str) (hneed:s.length≤1000000):Spc Tryd.prog 19 [.v (.one (.p (.str s)))] [] (.ret (.v (.one (.p (.bool (xE s)))))) []:=by
  generalize hr:xE s=r
  refine spcG zl mixed Tryd.func19 (by kernel_rfl) { keep:=some [0,2,3]} [UA,Uz] (by kernel_rfl) ?_
  intro I X hI hX
  refine zi (.code 0 [1,0,1,0] ⟨[(3,(.v (.one (.p (.int .i64 0))))),(2,(.v (.one (.p (.val (.bool .false)))))),(0,(.v (.one (.p (.str s)))))],[],15,none⟩) (by kernel_rfl) ?_
  simp only [zq]
  refine zF hI zl mixed [UA,Uz] hX [0,3] (fun(i:Nat)=>i≤s.length∧xE (s.drop i)=r) (fun(i:Nat)=>⟨[(0,.v (.one (.p (.str s)))),(3,.v (.one (.p (.int .i64 i))))],[],15,none⟩) (fun(i:Nat)=>s.length - i) 0 (by kernel_rfl) (by kernel_rfl) ?_ ?_
  · exact⟨Nat.zero_le _,hr⟩
  rintro i ⟨h1,h2⟩ A hA
  refine zi (.br (I.ilt (Nat.cast i) (I.len (α:=UInt8) s)) (.need (I.inb (Nat.cast i) (I.len (α:=UInt8) s)) (.need (I.hid (α:=(Prop)) True) (.br (I.bnot (I.hid (α:=Bool) (vK (I.b2i (I.get (α:=UInt8) s 0 (Nat.cast i)))))) (.fin (.ret (.v (.one (.p (.bool Bool.false))))) []) (.need (I.inr Go.IntKind.i64 (I.add (Nat.cast i) 1)) (.need (A ⟨[(0,(.v (.one (.p (.str s))))),(3,(.v (.one (.p (.int .i64 (I.add (Nat.cast i) 1))))))],[],15,none⟩) .qed))))) (.fin (.ret (.v (.one (.p (.bool Bool.true))))) [])) (by kernel_rfl) ?_
  simp only [zq]
  subst hI
  simp only [nrmA,nrmB]
  have hb:=xC (s.getD i 0)
  have hd:i<s.length→xE (s.drop i)=(vK (s.getD i 0).toNat&&xE (s.drop (i+1))):=fun h=>VS h
  generalize s.getD i 0=x at *
  (repeat' (first|refine And.intro ?_ ?_|intro _))<;>first|omega|exact True.intro|exact False.elim ‹False›|skip
  all_goals first
    |(rw [← h2,hd (by omega)];simp [*];done)
    |(refine hA (i+1) ⟨by omega,?_⟩ (by omega);rw [← h2,hd (by omega)];simp [*];done)
    |(rw [← h2,List.drop_of_length_le (by omega)];rfl)
def vW (I:Alg) (args:List D) (hp:List HO):Option CT:=match args,hp with
  |[.v (.one (.p (.str s)))],[]=>(fun(s:Str)=>(some (.one ⟨I.hid (s.length≤1000000),(.ret (.v (.one (.p (.bool (I.hid (xE s))))))),[]⟩):Option CT)) s
  |_,_=>none
theorem YU:zy Tryd.prog 19 (vW alg):=by
  intro args hp r h
  unfold vW at h
  split at h
  · cases h;exact fun hn=>zbv _ hn
  · cases h
def vV:Know Tryd.prog:=⟨19,vW,YU⟩
def vU:Know Tryd.prog:=⟨19,fun I=>zC I (vW I),zf YU⟩
end Go.Proofs.YtknaogelmckimaaDoor
namespace Go.Proofs.YtknaogelmckimaaDoor
open Go Go.Sep Go.Ab
set_option maxRecDepth 100000
def lowC (x:UInt8):UInt8:=if 65≤x.toNat∧x.toNat≤90 then x+32 else x
def lowS (s:Str):Str:=s.map lowC
theorem yU (s:Str):(lowS s).length=s.length:=by simp [lowS]
theorem zaS (x:UInt8):((lowC x).toNat:Int)=lowK x.toNat:=by
  unfold lowC lowK
  have:=x.toNat_lt
  split
  · rw [if_pos (by omega),UInt8.toNat_add]
    simp only [show(32:UInt8).toNat=32 from rfl]
    omega
  · rw [if_neg (by omega)]
theorem ze6 (x:UInt8):UInt8.ofNat (lowK x.toNat).toNat=lowC x:=by
  rw [← zaS,Int.toNat_natCast,UInt8.ofNat_toNat]
theorem zgO (s:Str):Spc Tryd.prog 40 [.v (.one (.p (.str s)))] [] (.ret (.v (.one (.p (.str (Lib.trimS s [32,9])))))) []:=by
  refine spcG zl mixed Tryd.func40 (by kernel_rfl) { keep:=some [0,2]} [zeH,zeG] (by kernel_rfl) ?_
  intro I X hI hX
  refine zi (.need (I.hid (α:=(Prop)) True) (.fin (.ret (.v (.one (.p (.str (I.hid (α:=Str) (Go.Lib.trimS s ([32,9]:Str)))))))) [])) (by kernel_rfl) ?_
  simp only [zq]
  subst hI
  simp only [nrmA,nrmB]
  try trivial
def YM (I:Alg) (args:List D) (hp:List HO):Option CT:=match args,hp with
  |[.v (.one (.p (.str s)))],[]=>(fun(s:Str)=>(some (.one ⟨I.hid (True),(.ret (.v (.one (.p (.str (I.hid (Lib.trimS s [32,9]))))))),[]⟩):Option CT)) s
  |_,_=>none
theorem zau:zy Tryd.prog 40 (YM alg):=by
  intro args hp r h
  unfold YM at h
  split at h
  · cases h;exact fun hn=>zgO _
  · cases h
def zat:Know Tryd.prog:=⟨40,YM,zau⟩
def zas:Know Tryd.prog:=⟨40,fun I=>zC I (YM I),zf zau⟩
theorem zfO (s:Str) (hneed:s.length≤1000000):Spc Tryd.prog 64 [.v (.one (.p (.str s)))] [] (.ret (.v (.one (.p (.str (lowS s)))))) []:=by
  refine spcG zl mixed Tryd.func64 (by kernel_rfl) { keep:=some [0,2,3,4,5,8,9,10]} [Yu,Yt] (by kernel_rfl) ?_
  intro I X hI hX
  refine zi (.code 0 [1,1,0,1,0] ⟨[(10,(.v (.one (.p (.int .i64 0))))),(9,(.v (.one (.p (.int .i64 (I.len (α:=UInt8) s)))))),(8,(.v (.one (.row 0)))),(3,(.v (.one (.row 0)))),(2,(.v (.one (.p (.str ([]:Str)))))),(0,(.v (.one (.p (.str s)))))],[(.row .byte 5 s)],23,none⟩) (by kernel_rfl) ?_
  simp only [zq]
  refine zF hI zl mixed [Yu,Yt] hX [0,3,8,9,10] (fun(g:Nat × Str)=>match g with|(i,b)=>i≤s.length∧b=lowS (s.take i)++s.drop i) (fun(g:Nat × Str)=>match g with|(i,b)=>⟨[(0,.v (.one (.p (.str s)))),(3,.v (.one (.row 0))),(8,.v (.one (.row 0))),(9,.v (.one (.p (.int .i64 ((I.len (α:=UInt8) s)))))),(10,.v (.one (.p (.int .i64 i))))],[.row .byte 5 b],23,none⟩) (fun(g:Nat × Str)=>match g with|(i,b)=>s.length - i) (0,s) (by kernel_rfl) (by kernel_rfl) ?_ ?_
  · exact⟨Nat.zero_le _,rfl⟩
  rintro⟨i,b⟩ ⟨h1,h2⟩ A hA
  simp only at hA
  refine zi (let y0:=I.b2i (I.get (α:=UInt8) b 0 (Nat.cast i));let y1:=I.inb (Nat.cast i) (I.len (α:=UInt8) b);.br (I.ilt (Nat.cast i) (I.len (α:=UInt8) s)) (.need y1 (.need y1 (.need (I.hid (α:=(Prop)) (And (LE.le (0:Int) y0) (LE.le y0 (255:Int)))) (.need y1 (.need (I.inr Go.IntKind.u8 (I.hid (α:=Int) (lowK y0))) (.need y1 (.need (I.inr Go.IntKind.i64 (I.add (Nat.cast i) 1)) (.need (A ⟨[(0,(.v (.one (.p (.str s))))),(3,(.v (.one (.row 0)))),(8,(.v (.one (.row 0)))),(9,(.v (.one (.p (.int .i64 (I.len (α:=UInt8) s)))))),(10,(.v (.one (.p (.int .i64 (I.add (Nat.cast i) 1))))))],[(.row .byte 5 (I.set (α:=UInt8) b (Nat.cast i) (I.i2b (I.hid (α:=Int) (lowK y0)))))],23,none⟩) .qed)))))))) (.fin (.ret (.v (.one (.p (.str b))))) [])) (by kernel_rfl) ?_
  simp only [zq]
  subst hI
  simp only [nrmA,nrmB]
  have hlen:b.length=s.length:=by rw [h2,List.length_append,yU,List.length_take,List.length_drop];omega
  have hx:i<s.length→b.getD i 0=s.getD i 0:=fun h=>by
    rw [h2,List.getD_eq_getElem?_getD,List.getD_eq_getElem?_getD,List.getElem?_append_right (by rw [yU,List.length_take];omega),yU,List.length_take,List.getElem?_drop]
    congr 2
    omega
  have hset:i<s.length→b.set i (lowC (s.getD i 0))=lowS (s.take (i+1))++s.drop (i+1):=fun h=>by
    have e:(lowS (s.take i)).length=i:=by rw [yU,List.length_take];omega
    rw [h2,List.set_append_right _ _ (by omega),e,Nat.sub_self,List.drop_eq_getElem_cons h,List.set_cons_zero,List.take_succ_eq_append_getElem h,show s.getD i 0=s[i] by simp [h]]
    unfold lowS
    rw [List.map_append,List.append_assoc]
    rfl
  have hby:=xC (s.getD i 0)
  have hlk:=zbX hby
  refine⟨fun c=> ?_,fun c=> ?_⟩
  · rw [hx (by omega),ze6,hset (by omega)]
    exact⟨by omega,by omega,by omega,by omega,by omega,by omega,by omega,hA (i+1,_) ⟨by simp only;omega,rfl⟩ (by simp only;omega)⟩
  · rw [h2,List.drop_of_length_le (by omega),List.take_of_length_le (by omega),List.append_nil]
def Zh (I:Alg) (args:List D) (hp:List HO):Option CT:=match args,hp with
  |[.v (.one (.p (.str s)))],[]=>(fun(s:Str)=>(some (.one ⟨I.hid (s.length≤1000000),(.ret (.v (.one (.p (.str (I.hid (lowS s))))))),[]⟩):Option CT)) s
  |_,_=>none
theorem TA:zy Tryd.prog 64 (Zh alg):=by
  intro args hp r h
  unfold Zh at h
  split at h
  · cases h;exact fun hn=>zfO _ hn
  · cases h
def xh:Know Tryd.prog:=⟨64,Zh,TA⟩
def xg:Know Tryd.prog:=⟨64,fun I=>zC I (Zh I),zf TA⟩
end Go.Proofs.YtknaogelmckimaaDoor
namespace Go.Proofs.YtknaogelmckimaaDoor
open Go Go.Sep Go.Ab
def ln0:Ln:=⟨[],false,0⟩
def zfX (c:UInt8):Bool:=vK (c.toNat:Int)
def lnF (s:Ln) (c:UInt8):Ln × Str × Bool × Int:=
  if s.code≠0 then(s,[],false,s.code)
  else if s.cr then(if c=10 then(⟨[],false,0⟩,s.b,true,0) else(⟨s.b,s.cr,2⟩,[],false,2))
  else if c=10 then(⟨s.b,s.cr,2⟩,[],false,2)
  else if c=13 then(⟨s.b,true,s.code⟩,[],false,0)
  else if zfX c=false then(⟨s.b,s.cr,3⟩,[],false,3)
  else if s.b.length=200 then(⟨s.b,s.cr,4⟩,[],false,4)
  else(⟨s.b++[c],s.cr,s.code⟩,[],false,0)
theorem zb1 (s:Ln) (c:UInt8):(lnF s c).2.1.length≤s.b.length:=by
  unfold lnF
  repeat' split
  all_goals simp
theorem zgn (s:Ln) (c:UInt8):(lnF s c).1.b.length≤s.b.length+1:=by
  unfold lnF
  repeat' split
  all_goals simp
end Go.Proofs.YtknaogelmckimaaDoor
namespace Go.Proofs.YtknaogelmckimaaDoor
open Go Go.Sep Go.Ab
set_option maxRecDepth 100000
end Go.Proofs.YtknaogelmckimaaDoor
namespace Go.Proofs.YtknaogelmckimaaDoor
open Go Go.Sep Go.Ab
set_option maxRecDepth 100000
def cutB (s:Str) (c:UInt8):Str × Str × Bool:=
  if 0≤Lib.indexByte s c then(s.take (Lib.indexByte s c).toNat,s.drop ((Lib.indexByte s c).toNat+1),true) else(s,[],false)
def yL (s:Str):Fld × Int:=
  if(cutB s 58).2.2=false then(⟨[],[]⟩,5)
  else if V4 (cutB s 58).1=false then(⟨[],[]⟩,6)
  else if 40<(cutB s 58).1.length then(⟨[],[]⟩,4)
  else if xE (cutB s 58).2.1=false then(⟨[],[]⟩,3)
  else(⟨(cutB s 58).1,Lib.trimS (cutB s 58).2.1 [32,9]⟩,0)
theorem zam (s:Str) (c:UInt8):(cutB s c).1.length≤s.length∧(cutB s c).2.1.length≤s.length:=by
  unfold cutB
  split
  · simp only [List.length_take,List.length_drop];omega
  · simp
theorem zfW (s:Str) (c:UInt8) (hneed:s.length≤1000000):Spc Tryd.prog 91 [.v (.one (.p (.str s))),.v (.one (.p (.str ([c]))))] [] (.ret (.tup [(.one (.p (.str ((cutB s c).1)))),(.one (.p (.str ((cutB s c).2.1)))),(.one (.p (.bool ((cutB s c).2.2))))])) []:=by
  generalize hr:cutB s c=r
  obtain⟨a,b,d⟩:=r
  refine spcG zl mixed Tryd.func91 (by kernel_rfl) { keep:=some [0,1,4,5,6,7]} [zb7,zb6] (by kernel_rfl) ?_
  intro I X hI hX
  refine zi (let y0:=I.hid (α:=Int) (Go.Lib.indexByte s c);let y1:=I.add y0 (I.len (α:=UInt8) ([c]:Str));.need (I.hid (α:=(Prop)) True) (.br (I.ile 0 y0) (.need (I.cutb 0 y0 (I.len (α:=UInt8) s)) (.need (I.inr Go.IntKind.i64 y1) (.need (I.cutb y1 (I.len (α:=UInt8) s) (I.len (α:=UInt8) s)) (.fin (.ret (.tup [(.one (.p (.str (I.cut (α:=UInt8) s 0 y0)))),(.one (.p (.str (I.cut (α:=UInt8) s y1 (I.len (α:=UInt8) s))))),(.one (.p (.bool Bool.true)))])) [])))) (.fin (.ret (.tup [(.one (.p (.str s))),(.one (.p (.str ([]:Str)))),(.one (.p (.bool Bool.false)))])) []))) (by kernel_rfl) ?_
  simp only [zq]
  subst hI
  simp only [nrmA,nrmB]
  have hx:=ZY s c
  simp only [List.length_cons,List.length_nil]
  refine⟨fun h=> ?_,fun h=> ?_⟩
  · rw [cutB,if_pos h] at hr
    simp only [Prod.mk.injEq] at hr
    obtain⟨rfl,rfl,rfl⟩:=hr
    refine⟨by omega,by omega,by omega,?_⟩
    rw [show(Lib.indexByte s c+((0+1:Nat):Int)).toNat=(Lib.indexByte s c).toNat+1 by omega]
    have e:List.take (s.length - ((Lib.indexByte s c).toNat+1)) (List.drop ((Lib.indexByte s c).toNat+1) s)=List.drop ((Lib.indexByte s c).toNat+1) s:=List.take_of_length_le (by rw [List.length_drop];exact Nat.le_refl _)
    rw [e]
  · rw [cutB,if_neg h] at hr
    simp only [Prod.mk.injEq] at hr
    obtain⟨rfl,rfl,rfl⟩:=hr
    rfl
def Yk (I:Alg) (args:List D) (hp:List HO):Option CT:=match args,hp with
  |[.v (.one (.p (.str s))),.v (.one (.p (.str ([c]))))],[]=>(fun(s:Str) (c:UInt8)=>(some (.one ⟨I.hid (s.length≤1000000),(.ret (.tup [(.one (.p (.str (I.hid ((cutB s c).1))))),(.one (.p (.str (I.hid ((cutB s c).2.1))))),(.one (.p (.bool (I.hid ((cutB s c).2.2)))))])),[]⟩):Option CT)) s c
  |_,_=>none
theorem Qh:zy Tryd.prog 91 (Yk alg):=by
  intro args hp r h
  unfold Yk at h
  split at h
  · cases h;exact fun hn=>zfW _ _ hn
  · cases h
def zdo:Know Tryd.prog:=⟨91,Yk,Qh⟩
def zdn:Know Tryd.prog:=⟨91,fun I=>zC I (Yk I),zf Qh⟩
theorem zgY (s:Str) (c:UInt8) (hneed:s.length≤1000000):Spc Tryd.prog 81 [.v (.one (.p (.str s))),.v (.one (.p (.str ([c]))))] [] (.ret (.tup [(.one (.p (.str ((cutB s c).1)))),(.one (.p (.str ((cutB s c).2.1)))),(.one (.p (.bool ((cutB s c).2.2))))])) []:=by
  refine spcG zl mixed Tryd.func81 (by kernel_rfl) { keep:=some [0,1,4,5,6]} [zdo,zdn] (by kernel_rfl) ?_
  intro I X hI hX
  refine zi (.need (I.hid (α:=(Prop)) (LE.le (List.length s) 1000000)) (.fin (.ret (.tup [(.one (.p (.str (I.hid (α:=Str) (Prod.fst (cutB s c)))))),(.one (.p (.str (I.hid (α:=Str) (Prod.fst (Prod.snd (cutB s c))))))),(.one (.p (.bool (I.hid (α:=Bool) (Prod.snd (Prod.snd (cutB s c)))))))])) [])) (by kernel_rfl) ?_
  simp only [zq]
  subst hI
  simp only [nrmA,nrmB]
  exact hneed
def W9 (I:Alg) (args:List D) (hp:List HO):Option CT:=match args,hp with
  |[.v (.one (.p (.str s))),.v (.one (.p (.str ([c]))))],[]=>(fun(s:Str) (c:UInt8)=>(some (.one ⟨I.hid (s.length≤1000000),(.ret (.tup [(.one (.p (.str (I.hid ((cutB s c).1))))),(.one (.p (.str (I.hid ((cutB s c).2.1))))),(.one (.p (.bool (I.hid ((cutB s c).2.2)))))])),[]⟩):Option CT)) s c
  |_,_=>none
theorem zbz:zy Tryd.prog 81 (W9 alg):=by
  intro args hp r h
  unfold W9 at h
  split at h
  · cases h;exact fun hn=>zgY _ _ hn
  · cases h
def zeO:Know Tryd.prog:=⟨81,W9,zbz⟩
def zeN:Know Tryd.prog:=⟨81,fun I=>zC I (W9 I),zf zbz⟩
theorem zf1 (s:Str) (hneed:s.length≤1000000):Spc Tryd.prog 63 [.v (.one (.p (.str s)))] [] (.ret (.tup [(.agg [(.p (.str ((yL s).1.name))),(.p (.str ((yL s).1.value)))]),(.one (.p (.int .i64 ((yL s).2))))])) []:=by
  generalize hr:yL s=r
  obtain⟨⟨a,b⟩,d⟩:=r
  refine spcG zl mixed Tryd.func63 (by kernel_rfl) { keep:=some [0,2,3,4,5,6]} [zaY,zaX,tq,uZ,zat,zas,zeO,zeN] (by kernel_rfl) ?_
  intro I X hI hX
  refine zi (let y0:=I.hid (α:=Str) (Prod.fst (cutB s (58:UInt8)));let y1:=I.hid (α:=Str) (Prod.fst (Prod.snd (cutB s (58:UInt8))));.need (I.hid (α:=(Prop)) (LE.le (List.length s) 1000000)) (.br (I.bnot (I.hid (α:=Bool) (Prod.snd (Prod.snd (cutB s (58:UInt8)))))) (.fin (.ret (.tup [(.agg [(.p (.str ([]:Str))),(.p (.str ([]:Str)))]),(.one (.p (.int .i64 5)))])) []) (.need (I.hid (α:=(Prop)) (LE.le (List.length y0) 1000000)) (.br (I.bnot (I.hid (α:=Bool) (V4 y0))) (.fin (.ret (.tup [(.agg [(.p (.str ([]:Str))),(.p (.str ([]:Str)))]),(.one (.p (.int .i64 6)))])) []) (.br (I.ilt 40 (I.len (α:=UInt8) y0)) (.fin (.ret (.tup [(.agg [(.p (.str ([]:Str))),(.p (.str ([]:Str)))]),(.one (.p (.int .i64 4)))])) []) (.need (I.hid (α:=(Prop)) (LE.le (List.length y1) 1000000)) (.br (I.bnot (I.hid (α:=Bool) (xE y1))) (.fin (.ret (.tup [(.agg [(.p (.str ([]:Str))),(.p (.str ([]:Str)))]),(.one (.p (.int .i64 3)))])) []) (.need (I.hid (α:=(Prop)) True) (.fin (.ret (.tup [(.agg [(.p (.str y0)),(.p (.str (I.hid (α:=Str) (Go.Lib.trimS y1 ([32,9]:Str)))))]),(.one (.p (.int .i64 0)))])) []))))))))) (by kernel_rfl) ?_
  simp only [zq]
  subst hI
  simp only [nrmA,nrmB]
  have hl:=zam s 58
  unfold yL at hr
  (repeat' (first|refine And.intro ?_ ?_|intro _))<;>first|omega|exact True.intro|exact False.elim ‹False›|skip
  all_goals first
    |(rw [if_pos (by assumption)] at hr;cases hr;rfl)
    |(rw [if_neg (by simp [*]),if_pos (by assumption)] at hr;cases hr;rfl)
    |(rw [if_neg (by simp [*]),if_neg (by simp [*]),if_pos (by omega)] at hr;cases hr;rfl)
    |(rw [if_neg (by simp [*]),if_neg (by simp [*]),if_neg (by omega),if_pos (by assumption)] at hr;cases hr;rfl)
    |(rw [if_neg (by simp [*]),if_neg (by simp [*]),if_neg (by omega),if_neg (by simp [*])] at hr;cases hr;rfl)
def Yo (I:Alg) (args:List D) (hp:List HO):Option CT:=match args,hp with
  |[.v (.one (.p (.str s)))],[]=>(fun(s:Str)=>(some (.one ⟨I.hid (s.length≤1000000),(.ret (.tup [(.agg [(.p (.str (I.hid ((yL s).1.name)))),(.p (.str (I.hid ((yL s).1.value))))]),(.one (.p (.int .i64 (I.hid ((yL s).2)))))])),[]⟩):Option CT)) s
  |_,_=>none
theorem Qq:zy Tryd.prog 63 (Yo alg):=by
  intro args hp r h
  unfold Yo at h
  split at h
  · cases h;exact fun hn=>zf1 _ hn
  · cases h
def Qp:Know Tryd.prog:=⟨63,Yo,Qq⟩
def Qo:Know Tryd.prog:=⟨63,fun I=>zC I (Yo I),zf Qq⟩
end Go.Proofs.YtknaogelmckimaaDoor
namespace Go.Proofs.YtknaogelmckimaaDoor
open Go Go.Sep Go.Ab
set_option maxRecDepth 100000
def Z5 (l:List Fld):Bool:=decide (100<l.length)||l.any fun f=>decide (1000<f.name.length+f.value.length)
theorem zgw (l:List Fld) (hneed: ∀ f ∈ l,f.name.length≤140737488355328∧f.value.length≤140737488355328):Spc Tryd.prog 13 [.v (.one (.p (.list .fld l)))] [] (.ret (.v (.one (.p (.bool (Z5 l)))))) []:=by
  generalize hr:Z5 l=r
  refine spcG zl mixed Tryd.func13 (by kernel_rfl) { keep:=some [0,2,3]} [] (by kernel_rfl) ?_
  intro I X hI hX
  refine zi (.br (I.ilt 100 (I.len (α:=Fld) l)) (.fin (.ret (.v (.one (.p (.bool Bool.true))))) []) (.code 0 [1,1,0,1,0] ⟨[(3,(.v (.one (.p (.int .i64 0))))),(2,(.v (.one (.p (.val (.bool .false)))))),(0,(.v (.one (.p (.list .fld l)))))],[],27,none⟩)) (by kernel_rfl) ?_
  simp only [zq]
  refine⟨fun c1=> ?_,fun c1=> ?_⟩
  · subst hI
    simp only [nrmA,nrmB] at c1
    simp only [nrmA,nrmB]
    rw [← hr,Z5,decide_eq_true (by omega),Bool.true_or]
  have hl:l.length≤100:=by
    subst hI
    simp only [nrmA,nrmB] at c1
    omega
  have hr2:(l.any fun f=>decide (1000<f.name.length+f.value.length))=r:=by rw [← hr,Z5,decide_eq_false (by omega),Bool.false_or]
  refine zF hI zl mixed [] hX [0,3] (fun(i:Nat)=>i≤l.length∧((l.drop i).any fun f=>decide (1000<f.name.length+f.value.length))=r) (fun(i:Nat)=>⟨[(0,.v (.one (.p (.list .fld l)))),(3,.v (.one (.p (.int .i64 i))))],[],27,none⟩) (fun(i:Nat)=>l.length - i) 0 (by kernel_rfl) (by kernel_rfl) ?_ ?_
  · exact⟨Nat.zero_le _,hr2⟩
  rintro i ⟨h1,h2⟩ A hA
  refine zi (let y0:=I.add (I.len (α:=UInt8) (Fld.name (I.get (α:=Fld) l (Fld.mk ([]:Str) ([]:Str)) (Nat.cast i)))) (I.len (α:=UInt8) (Fld.value (I.get (α:=Fld) l (Fld.mk ([]:Str) ([]:Str)) (Nat.cast i))));let y1:=I.inb (Nat.cast i) (I.len (α:=Fld) l);.br (I.ilt (Nat.cast i) (I.len (α:=Fld) l)) (.need y1 (.need y1 (.need y1 (.need y1 (.need (I.inr Go.IntKind.i64 y0) (.br (I.ilt 1000 y0) (.fin (.ret (.v (.one (.p (.bool Bool.true))))) []) (.need (I.inr Go.IntKind.i64 (I.add (Nat.cast i) 1)) (.need (A ⟨[(0,(.v (.one (.p (.list .fld l))))),(3,(.v (.one (.p (.int .i64 (I.add (Nat.cast i) 1))))))],[],27,none⟩) .qed)))))))) (.fin (.ret (.v (.one (.p (.bool Bool.false))))) [])) (by kernel_rfl) ?_
  simp only [zq]
  subst hI
  simp only [nrmA,nrmB]
  have hd:i<l.length→((l.drop i).any fun f=>decide (1000<f.name.length+f.value.length))=(decide (1000<(l.getD i ⟨[],[]⟩).name.length+(l.getD i ⟨[],[]⟩).value.length)||((l.drop (i+1)).any fun f=>decide (1000<f.name.length+f.value.length))):=fun h=>by
    rw [List.drop_eq_getElem_cons h,List.any_cons];simp [h]
  have hxl:i<l.length→(l.getD i ⟨[],[]⟩).name.length≤140737488355328∧(l.getD i ⟨[],[]⟩).value.length≤140737488355328:=fun h=>hneed _ (by
    rw [show l.getD i ⟨[],[]⟩=l[i] by simp [h]]
    exact List.getElem_mem h)
  generalize l.getD i ⟨[],[]⟩=x at *
  (repeat' (first|refine And.intro ?_ ?_|intro _))<;>first|omega|exact True.intro|exact False.elim ‹False›|skip
  all_goals first
    |(have:=hxl (by omega);omega)
    |(rw [← h2,hd (by omega),decide_eq_true (by omega),Bool.true_or])
    |(refine hA (i+1) ⟨by omega,?_⟩ (by omega);rw [← h2,hd (by omega),decide_eq_false (by omega),Bool.false_or])
    |(rw [← h2,List.drop_of_length_le (by omega)];rfl)
def YB (I:Alg) (args:List D) (hp:List HO):Option CT:=match args,hp with
  |[.v (.one (.p (.list .fld l)))],[]=>(fun(l:List Fld)=>(some (.one ⟨I.hid (∀ f ∈ l,f.name.length≤140737488355328∧f.value.length≤140737488355328),(.ret (.v (.one (.p (.bool (I.hid (Z5 l))))))),[]⟩):Option CT)) l
  |_,_=>none
theorem QS:zy Tryd.prog 13 (YB alg):=by
  intro args hp r h
  unfold YB at h
  split at h
  · cases h;exact fun hn=>zgw _ hn
  · cases h
def YA:Know Tryd.prog:=⟨13,YB,QS⟩
def Yz:Know Tryd.prog:=⟨13,fun I=>zC I (YB I),zf QS⟩
end Go.Proofs.YtknaogelmckimaaDoor
namespace Go.Proofs.YtknaogelmckimaaDoor
open Go Go.Sep Go.Ab
set_option maxRecDepth 100000
end Go.Proofs.YtknaogelmckimaaDoor
namespace Go.Proofs.YtknaogelmckimaaDoor
open Go Go.Sep Go.Ab
set_option maxRecDepth 100000
def valsF (l:List Fld) (n:Str):List Str:=(l.filter fun f=>decide (lowS f.name=lowS n)).map (·.value)
theorem zhc (l:List Fld) (n:Str) (hneed:l.length≤1000∧n.length≤1000000∧∀ f ∈ l,f.name.length≤1000000∧f.value.length≤1000000):Spc Tryd.prog 49 [.v (.one (.p (.list .fld l))),.v (.one (.p (.str n)))] [] (.ret (.v (.one (.row 0)))) [.row .str 9 ((valsF l n))]:=by
  refine spcG zl mixed Tryd.func49 (by kernel_rfl) { nr:=[5],keep:=some [0,1,4,5,7,8,9,10]} [xh,xg] (by kernel_rfl) ?_
  intro I X hI hX
  refine zi (.code 0 [1,1,0,1,0] ⟨[(10,(.v (.one (.p (.int .i64 0))))),(9,(.v (.one (.p (.int .i64 (I.len (α:=Fld) l)))))),(8,(.v (.one (.p (.list .fld l))))),(5,(.v (.one (.row 0)))),(4,(.v (.one .nilS))),(0,(.v (.one (.p (.list .fld l))))),(1,(.v (.one (.p (.str n)))))],[(.row .str 9 ([]:List (Str)))],27,none⟩) (by kernel_rfl) ?_
  simp only [zq]
  refine zF hI zl mixed [xh,xg] hX [0,1,5,8,9,10] (fun(g:Nat × List Str)=>match g with|(i,o)=>i≤l.length∧o=valsF (l.take i) n) (fun(g:Nat × List Str)=>match g with|(i,o)=>⟨[(0,.v (.one (.p (.list .fld l)))),(1,.v (.one (.p (.str n)))),(5,.v (.one (.row 0))),(8,.v (.one (.p (.list .fld l)))),(9,.v (.one (.p (.int .i64 ((I.len (α:=Fld) l)))))),(10,.v (.one (.p (.int .i64 i))))],[.row .str 9 o],27,none⟩) (fun(g:Nat × List Str)=>match g with|(i,o)=>l.length - i) (0,[]) (by kernel_rfl) (by kernel_rfl) ?_ ?_
  · exact⟨Nat.zero_le _,rfl⟩
  rintro⟨i,o⟩ ⟨h1,h2⟩ A hA
  simp only at hA
  refine zi (let y0:=I.get (α:=Fld) l (Fld.mk ([]:Str) ([]:Str)) (Nat.cast i);let y1:=I.inr Go.IntKind.i64 (I.add (Nat.cast i) 1);let y2:=I.inb (Nat.cast i) (I.len (α:=Fld) l);.br (I.ilt (Nat.cast i) (I.len (α:=Fld) l)) (.need y2 (.need y2 (.need (I.hid (α:=(Prop)) (LE.le (List.length (Fld.name y0)) 1000000)) (.need (I.hid (α:=(Prop)) (LE.le (List.length n) 1000000)) (.br (I.seq (I.hid (α:=Str) (lowS (Fld.name y0))) (I.hid (α:=Str) (lowS n))) (.need (I.few (I.add (I.len (α:=Str) o) (I.len (α:=Str) ([(Fld.value y0)]:List (Str)))) 100000000) (.need y1 (.need (A ⟨[(0,(.v (.one (.p (.list .fld l))))),(1,(.v (.one (.p (.str n))))),(5,(.v (.one (.row 0)))),(8,(.v (.one (.p (.list .fld l))))),(9,(.v (.one (.p (.int .i64 (I.len (α:=Fld) l)))))),(10,(.v (.one (.p (.int .i64 (I.add (Nat.cast i) 1))))))],[(.row .str 9 (I.app (α:=Str) o ([(Fld.value y0)]:List (Str))))],27,none⟩) .qed))) (.need y1 (.need (A ⟨[(0,(.v (.one (.p (.list .fld l))))),(1,(.v (.one (.p (.str n))))),(5,(.v (.one (.row 0)))),(8,(.v (.one (.p (.list .fld l))))),(9,(.v (.one (.p (.int .i64 (I.len (α:=Fld) l)))))),(10,(.v (.one (.p (.int .i64 (I.add (Nat.cast i) 1))))))],[(.row .str 9 o)],27,none⟩) .qed))))))) (.fin (.ret (.v (.one (.row 0)))) [(.row .str 9 o)])) (by kernel_rfl) ?_
  simp only [zq]
  subst hI
  simp only [nrmA,nrmB]
  have hx:i<l.length→(l.getD i ⟨[],[]⟩) ∈ l:=fun h=>by rw [show l.getD i ⟨[],[]⟩=l[i] by simp [h]];exact List.getElem_mem h
  have hs:i<l.length→valsF (l.take (i+1)) n=if lowS (l.getD i ⟨[],[]⟩).name=lowS n then o++[(l.getD i ⟨[],[]⟩).value] else o:=fun h=>by
    rw [show l.getD i ⟨[],[]⟩=l[i] by simp [h],List.take_succ_eq_append_getElem h,h2]
    unfold valsF
    rw [List.filter_append,List.map_append]
    by_cases hc:lowS l[i].name=lowS n<;>simp [hc]
  have hol:o.length≤i:=by
    rw [h2]
    unfold valsF
    rw [List.length_map]
    exact Nat.le_trans (List.length_filter_le _ _) (by rw [List.length_take];omega)
  have hn:=fun h=>hneed.2.2 _ (hx h)
  generalize l.getD i ⟨[],[]⟩=x at *
  simp only [List.length_cons,List.length_nil]
  (repeat' (first|refine And.intro ?_ ?_|intro _))<;>first|omega|exact True.intro|exact False.elim ‹False›|skip
  all_goals first
    |(have:=hn (by omega);omega)
    |exact hA (i+1,_) ⟨by simp only;omega,by simp only;rw [hs (by omega),if_pos (by assumption)]⟩ (by simp only;omega)
    |exact hA (i+1,_) ⟨by simp only;omega,by simp only;rw [hs (by omega),if_neg (by assumption)]⟩ (by simp only;omega)
    |(rw [h2,List.take_of_length_le (by omega)])
def VF (I:Alg) (args:List D) (hp:List HO):Option CT:=match args,hp with
  |[.v (.one (.p (.list .fld l))),.v (.one (.p (.str n)))],[]=>(fun(l:List Fld) (n:Str)=>(some (.one ⟨I.hid (l.length≤1000∧n.length≤1000000∧∀ f ∈ l,f.name.length≤1000000∧f.value.length≤1000000),(.ret (.v (.one (.row 0)))),[.row .str 9 (I.hid ((valsF l n)))]⟩):Option CT)) l n
  |_,_=>none
theorem zcI:zy Tryd.prog 49 (VF alg):=by
  intro args hp r h
  unfold VF at h
  split at h
  · cases h;exact fun hn=>zhc _ _ hn
  · cases h
def zfI:Know Tryd.prog:=⟨49,VF,zcI⟩
def zfH:Know Tryd.prog:=⟨49,fun I=>zC I (VF I),zf zcI⟩
end Go.Proofs.YtknaogelmckimaaDoor
namespace Go.Proofs.YtknaogelmckimaaDoor
open Go Go.Sep Go.Ab
set_option maxRecDepth 100000
def oneF (l:List Str):Str × Int:=if l.length=0 then([],10) else if l.length=1 then(l.getD 0 [],0) else([],9)
theorem zg9 (l:List Fld) (n:Str) (hneed:l.length≤1000∧n.length≤1000000∧∀ f ∈ l,f.name.length≤1000000∧f.value.length≤1000000):Spc Tryd.prog 27 [.v (.one (.p (.list .fld l))),.v (.one (.p (.str n)))] [] (.ret (.tup [(.one (.p (.str ((oneF (valsF l n)).1)))),(.one (.p (.int .i64 ((oneF (valsF l n)).2))))])) []:=by
  generalize hr:oneF (valsF l n)=r
  obtain⟨a,d⟩:=r
  refine spcG zl mixed Tryd.func27 (by kernel_rfl) { keep:=some [0,1,4,5,6,11]} [zfI,zfH] (by kernel_rfl) ?_
  intro I X hI hX
  refine zi (let y0:=I.len (α:=Str) (I.hid (α:=(List (Str))) (valsF l n));.need (I.hid (α:=(Prop)) (And (LE.le (List.length l) 1000) (And (LE.le (List.length n) 1000000) (∀ (f:Fld),f ∈ l→List.length f.name≤1000000∧List.length f.value≤1000000)))) (.br (I.ieq y0 0) (.fin (.ret (.tup [(.one (.p (.str ([]:Str)))),(.one (.p (.int .i64 10)))])) []) (.br (I.ieq y0 1) (.need (I.inb 0 y0) (.need (I.inb 0 y0) (.fin (.ret (.tup [(.one (.p (.str (I.get (α:=Str) (I.hid (α:=(List (Str))) (valsF l n)) ([]:Str) 0)))),(.one (.p (.int .i64 0)))])) []))) (.fin (.ret (.tup [(.one (.p (.str ([]:Str)))),(.one (.p (.int .i64 9)))])) [])))) (by kernel_rfl) ?_
  simp only [zq]
  subst hI
  simp only [nrmA,nrmB]
  unfold oneF at hr
  (repeat' (first|refine And.intro ?_ ?_|intro _))<;>first|omega|exact True.intro|exact False.elim ‹False›|skip
  all_goals first
    |assumption
    |exact(hneed.2.2 _ (by assumption)).1
    |exact(hneed.2.2 _ (by assumption)).2
    |(rw [if_pos (by omega)] at hr;cases hr;rfl)
    |(rw [if_neg (by omega),if_pos (by omega)] at hr;cases hr;rfl)
    |(rw [if_neg (by omega),if_neg (by omega)] at hr;cases hr;rfl)
def Vz (I:Alg) (args:List D) (hp:List HO):Option CT:=match args,hp with
  |[.v (.one (.p (.list .fld l))),.v (.one (.p (.str n)))],[]=>(fun(l:List Fld) (n:Str)=>(some (.one ⟨I.hid (l.length≤1000∧n.length≤1000000∧∀ f ∈ l,f.name.length≤1000000∧f.value.length≤1000000),(.ret (.tup [(.one (.p (.str (I.hid ((oneF (valsF l n)).1))))),(.one (.p (.int .i64 (I.hid ((oneF (valsF l n)).2)))))])),[]⟩):Option CT)) l n
  |_,_=>none
theorem zcD:zy Tryd.prog 27 (Vz alg):=by
  intro args hp r h
  unfold Vz at h
  split at h
  · cases h;exact fun hn=>zg9 _ _ hn
  · cases h
def zfE:Know Tryd.prog:=⟨27,Vz,zcD⟩
def zfD:Know Tryd.prog:=⟨27,fun I=>zC I (Vz I),zf zcD⟩
end Go.Proofs.YtknaogelmckimaaDoor
namespace Go.Proofs.YtknaogelmckimaaDoor
open Go Go.Sep Go.Ab
set_option maxRecDepth 100000
theorem zbm {p:UInt8→Bool} {s:Str} {i:Nat} (h:i≤(s.takeWhile p).length):(i<s.length∧p (s.getD i 0)=true)↔i<(s.takeWhile p).length:=by
  induction s generalizing i with
  |nil=>simp
  | cons c r ih=>
    by_cases hc:p c=true
    · simp only [List.takeWhile_cons,hc,if_true,List.length_cons] at h ⊢
      cases i with
      |zero=>simp [hc]
      | succ i=>
        have:=ih (i:=i) (by omega)
        simp only [List.getD_cons_succ]
        constructor
        · rintro⟨h1,h2⟩;have:=this.1 ⟨by omega,h2⟩;omega
        · intro h1;have:=this.2 (by omega);exact⟨by omega,this.2⟩
    · simp only [List.takeWhile_cons,hc,Bool.false_eq_true,if_false,List.length_nil] at h ⊢
      have:i=0:=by omega
      subst this
      simp [hc]
theorem zeJ (p:UInt8→Bool) (s:Str):s.take (s.takeWhile p).length=s.takeWhile p:=by
  induction s with
  |nil=>simp
  |cons c r ih=>by_cases hc:p c=true<;>simp [List.takeWhile_cons,hc,ih]
theorem drop_tw (p:UInt8→Bool) (s:Str):s.drop (s.takeWhile p).length=s.dropWhile p:=by
  induction s with
  |nil=>simp
  |cons c r ih=>by_cases hc:p c=true<;>simp [List.takeWhile_cons,List.dropWhile_cons,hc,ih]
theorem zfU (p:UInt8→Bool) (s:Str):(s.takeWhile p).length≤s.length:=(List.takeWhile_sublist p).length_le
theorem zgH (p:UInt8→Bool) (s:Str):(s.dropWhile p).length≤s.length:=(List.dropWhile_sublist p).length_le
def isTk (c:UInt8):Bool:=tokB (c.toNat:Int)
def tokS (s:Str):Str:=s.takeWhile isTk
def tokE (s:Str):Str:=s.dropWhile isTk
theorem xU (s:Str):(tokS s).length≤s.length:=zfU _ _
theorem yR (s:Str):(tokE s).length≤s.length:=zgH _ _
theorem zeI (s:Str):(tokS s).length+(tokE s).length=s.length:=by
  have:=congrArg List.length (List.takeWhile_append_dropWhile (p:=isTk) (l:=s))
  rw [List.length_append] at this;exact this
def skS (s:Str):Str:=Lib.trimLeftS s [32,9]
theorem yP (s:Str):(skS s).length≤s.length:=by
  unfold skS Lib.trimLeftS
  exact(List.dropWhile_sublist _).length_le
def zN (s:Str) (c:UInt8):Bool:=s.head? == some c
theorem Wp {s:Str} {c:UInt8} (h:zN s c=true):0<s.length:=by
  cases s with
  |nil=>simp [zN] at h
  |cons a r=>simp
theorem Wq {s:Str} {c:UInt8}:zN s c=true↔0<s.length∧s.getD 0 0=c:=by
  cases s with
  |nil=>simp [zN]
  |cons a r=>simp [zN]
theorem drop1 (s:Str):List.take (s.length - Int.toNat 1) (List.drop (Int.toNat 1) s)=s.drop 1:=by
  show List.take (s.length - 1) (List.drop 1 s)=s.drop 1
  exact List.take_of_length_le (by simp)
def quoF:Str→Option (Str × Str)
  |[]=>none
  |[x]=>if x=34 then some ([],[]) else none
  |x::y::r=>if x=34 then some ([],y::r) else if x=92 then(quoF r).map (fun p=>(y::p.1,p.2)) else(quoF (y::r)).map (fun p=>(x::p.1,p.2))
def quoV (s:Str):Str:=match quoF s with|some p=>p.1|none=>[]
def quoR (s:Str):Str:=match quoF s with|some p=>p.2|none=>[]
theorem Yn: ∀ (s:Str) (p:Str × Str),quoF s=some p→p.1.length+p.2.length<s.length
  |[],p,h=>by simp [quoF] at h
  | [x],p,h=>by
    simp only [quoF] at h
    split at h
    · cases h;simp
    · cases h
  | x ::y::r,p,h=>by
    simp only [quoF] at h
    split at h
    · cases h;simp
    · split at h
      · rw [Option.map_eq_some_iff] at h
        obtain⟨q,hq,rfl⟩:=h
        have:=Yn r q hq
        simp only [List.length_cons];omega
      · rw [Option.map_eq_some_iff] at h
        obtain⟨q,hq,rfl⟩:=h
        have:=Yn (y::r) q hq
        simp only [List.length_cons] at this ⊢;omega
theorem zdw (s:Str):(quoR s).length≤s.length:=by
  unfold quoR
  split
  · rename_i p h;have:=Yn _ _ h;omega
  · simp
theorem zdv (s:Str):(quoV s).length≤s.length:=by
  unfold quoV
  split
  · rename_i p h;have:=Yn _ _ h;omega
  · simp
def parM (s:Str):Int × Fld × Str:=
  if tokS s=[] then(5,⟨[],[]⟩,tokE s)
  else if zN (tokE s) 61=false then(5,⟨[],[]⟩,tokE s)
  else if zN ((tokE s).drop 1) 34=true then
    if(quoF ((tokE s).drop 2)).isSome=true then(0,⟨lowS (tokS s),quoV ((tokE s).drop 2)⟩,quoR ((tokE s).drop 2)) else(14,⟨[],[]⟩,[])
  else if tokS ((tokE s).drop 1)=[] then(5,⟨[],[]⟩,tokE ((tokE s).drop 1))
  else(0,⟨lowS (tokS s),tokS ((tokE s).drop 1)⟩,tokE ((tokE s).drop 1))
theorem Ve (s:Str):(parM s).2.2.length≤s.length∧(parM s).2.1.name.length≤s.length∧(parM s).2.1.value.length≤s.length:=by
  have h1:=yR s
  have h2:=yR ((tokE s).drop 1)
  have h3:=zdw ((tokE s).drop 2)
  have h4:=zdv ((tokE s).drop 2)
  have h5:=xU s
  have h6:=xU ((tokE s).drop 1)
  simp only [List.length_drop] at h2 h3 h4 h6
  unfold parM
  repeat' split
  all_goals simp only [List.length_nil,yU];omega
def getP (l:List Fld) (n:Str):Str × Bool:=match l.find? (fun f=>f.name == n) with|some f=>(f.value,true)|none=>([],false)
def medL:Nat→Str→List Fld→Int × List Fld × Str
  |0,s,ps=>(5,ps,s)
  | n +1,s,ps=>
    if zN s 59=true then
      if(parM (skS (s.drop 1))).1≠0 then((parM (skS (s.drop 1))).1,ps,(parM (skS (s.drop 1))).2.2)
      else if(getP ps (parM (skS (s.drop 1))).2.1.name).2=true then(9,ps,(parM (skS (s.drop 1))).2.2)
      else if ps.length=8 then(8,ps,(parM (skS (s.drop 1))).2.2)
      else medL n (skS (parM (skS (s.drop 1))).2.2) (ps++[(parM (skS (s.drop 1))).2.1])
    else if s=[] then(0,ps,s) else(5,ps,s)
def medB (w:Str) (s:Str):Int × Med × Str:=((medL ((skS s).length+1) (skS s) []).1,⟨w,(medL ((skS s).length+1) (skS s) []).2.1⟩,(medL ((skS s).length+1) (skS s) []).2.2)
def medA (s:Str):Int × Med × Str:=
  if tokS s=[] then(5,⟨[],[]⟩,tokE s)
  else if zN (tokE s) 47=true then
    if tokS ((tokE s).drop 1)=[] then(5,⟨[],[]⟩,tokE ((tokE s).drop 1))
    else medB (lowS (tokS s)++([47]++lowS (tokS ((tokE s).drop 1)))) (tokE ((tokE s).drop 1))
  else medB (lowS (tokS s)) (tokE s)
def zW (s:Str):Int × Med × Str:=medA (skS s)
def yK (s:Str):Med × Int:=if xE s=false then(⟨[],[]⟩,3) else if(zW s).1=0 then((zW s).2.1,0) else(⟨[],[]⟩,(zW s).1)
theorem Ud (s:Str):(parM s).1=0∨(parM s).1=5∨(parM s).1=14:=by
  unfold parM
  repeat' split
  all_goals simp
end Go.Proofs.YtknaogelmckimaaDoor
namespace Go.Proofs.YtknaogelmckimaaDoor
open Go Go.Sep Go.Ab
set_option maxRecDepth 100000
theorem zgM (l:Str) (hneed:l.length≤100000000):Spc Tryd.prog 41 [.v (.one (.p (.list .byte l)))] [] (.ret (.v (.one (.row 0)))) [.row .byte 5 l]:=by
  refine spcG zl mixed Tryd.func41 (by kernel_rfl) { keep:=some [0,2]} [] (by kernel_rfl) ?_
  intro I X hI hX
  refine zi (let y0:=I.few (I.add (I.len (α:=UInt8) ([]:Str)) (I.len (α:=UInt8) l)) 140737488355328;let y1:HO:=.row .byte 5 (I.app (α:=UInt8) ([]:Str) l);.br (I.ieq (I.len (α:=UInt8) l) 0) (.both (.fin (.ret (.v (.one (.row 0)))) [(.row .byte 5 ([]:Str))]) (.need y0 (.fin (.ret (.v (.one (.row 0)))) [y1]))) (.need y0 (.fin (.ret (.v (.one (.row 0)))) [y1]))) (by kernel_rfl) ?_
  simp only [zq]
  subst hI
  dsimp only [alg]
  have h2:((([]:Str).length:Nat):Int)+((l.length:Nat):Int)≤140737488355328:=by simp;omega
  refine⟨fun h=>⟨⟨trivial,?_⟩,h2,trivial,rfl⟩,fun h=>⟨h2,trivial,rfl⟩⟩
  have:l=[]:=List.eq_nil_of_length_eq_zero (by have:=eq_of_beq h;omega)
  subst this;rfl
def YL (I:Alg) (args:List D) (hp:List HO):Option CT:=match args,hp with
  |[.v (.one (.p (.list .byte l)))],[]=>(fun(l:Str)=>(some (.one ⟨I.hid (l.length≤100000000),(.ret (.v (.one (.row 0)))),[.row .byte 5 l]⟩):Option CT)) l
  |_,_=>none
theorem zao:zy Tryd.prog 41 (YL alg):=by
  intro args hp r h
  unfold YL at h
  split at h
  · cases h;exact fun hn=>zgM _ hn
  · cases h
def VJ:Know Tryd.prog:=⟨41,YL,zao⟩
def YK:Know Tryd.prog:=⟨41,fun I=>zC I (YL I),zf zao⟩
end Go.Proofs.YtknaogelmckimaaDoor
namespace Go.Sep.P
theorem uI {a b s:List UInt8} (ha:a<:+s) (hb:b<:+s) (h:a.length≤b.length):a<:+b:=List.suffix_of_suffix_length_le ha hb h
structure Top (m s:List UInt8) (b n:Nat):Prop where
  le:n≤b
  suf:m.take n<:+s
  top: ∀ k,k≤b→m.take k<:+s→k≤n
theorem Top.eq {m s:List UInt8} {b n n':Nat} (h:Top m s b n) (h':Top m s b n'):n=n':=
  Nat.le_antisymm (h'.top n h.le h.suf) (h.top n' h'.le h'.suf)
def xY (m s:List UInt8):Nat→Nat
  |0=>0
  |k+1=>if m.take (k+1)<:+s then k+1 else xY m s k
theorem yQ (m s:List UInt8): ∀ b,Top m s b (xY m s b)
  |0=>⟨Nat.le_refl _,by simp [xY],fun k hk _=>hk⟩
  | b + 1=>by
    unfold xY
    split
    · rename_i h;exact⟨Nat.le_refl _,h,fun k hk _=>hk⟩
    · rename_i h
      have ih:=yQ m s b
      refine⟨Nat.le_succ_of_le ih.le,ih.suf,fun k hk hs=> ?_⟩
      rcases Nat.lt_or_ge k (b+1) with h1|h1
      · exact ih.top k (by omega) hs
      · have:k=b+1:=by omega
        subst this;exact(h hs).elim
def held (m s:List UInt8):Nat:=xY m s (m.length - 1)
def zI (m:List UInt8) (i:Nat):Nat:=xY m (m.take i) (i - 1)
theorem wK {m:List UInt8} {i:Nat} (h:0<i):zI m i<i:=by
  have:=(yQ m (m.take i) (i - 1)).le
  unfold zI;omega
def fall (m:List UInt8) (c:UInt8):Nat→Nat→Nat
  |0,n=>n
  |f+1,n=>if n=0 then 0 else if m[n]? =some c then n else fall m c f (zI m n)
theorem Zb (m:List UInt8) (c:UInt8) (f:Nat):fall m c f 0=0:=by cases f<;>simp [fall]
theorem Tq (m:List UInt8) (c:UInt8): ∀ (f n:Nat),n≤f→∀ g,n≤g→fall m c f n=fall m c g n
  | 0,n,h,g,_=>by
    have:n=0:=by omega
    subst this;rw [Zb,Zb]
  | f + 1,n,h,g,hg=>by
    cases g with
    | zero=>
      have:n=0:=by omega
      subst this;rw [Zb,Zb]
    | succ g=>
      simp only [fall]
      split
      · rfl
      · split
        · rfl
        · rename_i h0 _
          have hb:=wK (m:=m) (i:=n) (by omega)
          exact Tq m c f _ (by omega) g (by omega)
structure zgS (m:List UInt8) (c:UInt8) (n j:Nat):Prop where
  le:j≤n
  suf:m.take j<:+m.take n
  top: ∀ k,k≤n→m.take k<:+m.take n→m[k]? =some c→k≤j
  fits:j=0∨m[j]? =some c
theorem Rh (m:List UInt8) (c:UInt8) (hm: ∀ k,k≤m.length→(m.take k).length=k): ∀ (f n:Nat),n≤f→n≤m.length→zgS m c n (fall m c f n)
  | 0,n,h,hn=>by
    have:n=0:=by omega
    subst this
    exact⟨Nat.le_refl _,List.suffix_refl _,fun k hk _ _=>hk,.inl rfl⟩
  | f + 1,n,h,hn=>by
    simp only [fall]
    split
    · rename_i h0;subst h0;exact⟨Nat.le_refl _,List.suffix_refl _,fun k hk _ _=>hk,.inl rfl⟩
    · split
      · rename_i h0 h1;exact⟨Nat.le_refl _,List.suffix_refl _,fun k hk _ _=>hk,.inr h1⟩
      · rename_i h0 h1
        have hb:=wK (m:=m) (i:=n) (by omega)
        have ht:Top m (m.take n) (n - 1) (zI m n):=yQ m (m.take n) (n - 1)
        have ih:=Rh m c hm f (zI m n) (by omega) (by omega)
        refine⟨by have:=ih.le;omega,ih.suf.trans ht.suf,fun k hk hs hc=> ?_,ih.fits⟩
        have hne:k≠n:=by rintro rfl;exact h1 hc
        have hkb:k≤zI m n:=ht.top k (by omega) hs
        refine ih.top k hkb (uI hs ht.suf ?_) hc
        rw [hm k (by omega),hm _ (by omega)]
        exact hkb
theorem take_len {m:List UInt8}: ∀ k,k≤m.length→(m.take k).length=k:=fun k hk=>by simp;omega
theorem uH {m s:List UInt8} {k:Nat} {c:UInt8} (hk:k<m.length):m.take (k+1)<:+s++[c]↔m.take k<:+s∧m[k]? =some c:=by
  rw [List.take_succ_eq_append_getElem hk,List.getElem?_eq_getElem hk]
  constructor
  · rintro⟨t,ht⟩
    rw [← List.append_assoc] at ht
    have:=List.append_inj' ht rfl
    exact⟨⟨t,this.1⟩,by simpa using this.2⟩
  · rintro⟨⟨t,ht⟩,hc⟩
    have hc':m[k]=c:=by simpa using hc
    exact⟨t,by rw [← List.append_assoc,ht,hc']⟩
theorem Top.step {m s:List UInt8} {b n:Nat} {c:UInt8} (h:Top m s b n) (hb:b<m.length):
    (m[fall m c n n]? =some c→Top m (s++[c]) (b+1) (fall m c n n+1))∧(m[fall m c n n]? ≠some c→Top m (s++[c]) (b+1) 0∧fall m c n n=0):=by
  have hn:n≤m.length:=by have:=h.le;omega
  have hf:=Rh m c take_len n n (Nat.le_refl _) hn
  generalize fall m c n n=j at hf
  have hjl:j<m.length:=by have:=hf.le;have:=h.le;omega
  have key: ∀ k,k+1≤b+1→m.take (k+1)<:+s++[c]→k≤j∧m[k]? =some c:=by
    intro k hk hs
    obtain⟨h1,h2⟩:=(uH (by omega)).1 hs
    have h3:=h.top k (by omega) h1
    have h4:m.take k<:+m.take n:=uI h1 h.suf (by rw [take_len k (by omega),take_len n hn];exact h3)
    exact⟨hf.top k h3 h4 h2,h2⟩
  constructor
  · intro hc
    refine⟨by have:=hf.le;have:=h.le;omega,(uH hjl).2 ⟨hf.suf.trans h.suf,hc⟩,fun k hk hs=> ?_⟩
    cases k with
    |zero=>omega
    |succ k=>have:=(key k hk hs).1;omega
  · intro hc
    have hj0:j=0:=hf.fits.resolve_right hc
    subst hj0
    refine⟨⟨Nat.zero_le _,by simp,fun k hk hs=> ?_⟩,rfl⟩
    cases k with
    |zero=>omega
    | succ k=>
      obtain⟨h1,h2⟩:=key k hk hs
      have:k=0:=by omega
      subst this;exact(hc h2).elim
theorem RG {m:List UInt8} {i:Nat} (hi:i<m.length) (h0:0<i):
    zI m (i+1)=(if m[fall m m[i] (zI m i) (zI m i)]? =some m[i] then fall m m[i] (zI m i) (zI m i)+1 else 0):=by
  have ht:=yQ m (m.take i) (i - 1)
  have hs:=ht.step (c:=m[i]) (by omega)
  have e:m.take i++[m[i]]=m.take (i+1):=(List.take_succ_eq_append_getElem hi).symm
  rw [e,show i - 1+1=i by omega] at hs
  have hnew:=yQ m (m.take (i+1)) (i+1 - 1)
  change Top m (m.take (i+1)) i (zI m (i+1)) at hnew
  change(m[fall m m[i] (zI m i) (zI m i)]? =some m[i]→_)∧_ at hs
  split
  · rename_i hc;exact hnew.eq (hs.1 hc)
  · rename_i hc;exact hnew.eq (hs.2 hc).1
theorem zcC {m:List UInt8} {n k j:Nat} (hj:0<j) (hk:k+j=n) (hn:n≤m.length) (h:m.take k++m.take j=m.take n):
    m.take k++m.take (j - zI m j)=m.take (k+(j - zI m j))∧m.take (k+(j - zI m j))++m.take (zI m j)=m.take n:=by
  have hb:=wK (m:=m) hj
  have ht:Top m (m.take j) (j - 1) (zI m j):=yQ m (m.take j) (j - 1)
  generalize zI m j=b at hb ht
  obtain⟨t,e⟩:=ht.suf
  have hl:=congrArg List.length e
  rw [List.length_append,take_len b (by omega),take_len j (by omega)] at hl
  have e2:t=m.take (j - b):=by
    have h1:(m.take j).take t.length=t:=by rw [← e];simp
    rw [List.take_take,show min t.length j=j - b by omega] at h1
    exact h1.symm
  subst e2
  have e3:m.take n=(m.take k++m.take (j - b))++m.take b:=by rw [List.append_assoc,e,h]
  have e4:m.take (k+(j - b))=m.take k++m.take (j - b):=by
    have h1:(m.take n).take (k+(j - b))=m.take (k+(j - b)):=by rw [List.take_take,show min (k+(j - b)) n=k+(j - b) by omega]
    rw [← h1,e3]
    exact List.take_left' (by rw [List.length_append,take_len k (by omega),take_len _ (by omega)])
  exact⟨e4.symm,by rw [e4,e3]⟩
theorem Tn {m:List UInt8} {c:UInt8} {j:Nat} (h0:0<j) (h:m[j]? ≠some c):fall m c j j=fall m c (zI m j) (zI m j):=by
  have hb:=wK (m:=m) h0
  cases j with
  |zero=>omega
  | succ i=>
    rw [fall,if_neg (by omega),if_neg h]
    exact Tq m c _ _ (by omega) _ (Nat.le_refl _)
theorem tJ {m:List UInt8} {c:UInt8} {j:Nat} (h:j=0∨m[j]? =some c):fall m c j j=j:=by
  cases j with
  |zero=>rfl
  |succ i=>rw [fall,if_neg (by omega),if_pos (h.resolve_left (by omega))]
def feed (m:List UInt8) (n:Nat) (c:UInt8):List UInt8 × Nat × Bool:=
  let j:=fall m c n n
  let out:=m.take (n - j)
  if m[j]? =some c then(if j+1<m.length then(out,j+1,false) else(out,0,true)) else(out++[c],0,false)
end Go.Sep.P
namespace Go.Proofs.YtknaogelmckimaaDoor
open Go Go.Sep Go.Ab
set_option maxRecDepth 100000
set_option linter.unusedSimpArgs false
set_option linter.unusedVariables false
def cfgS:Cfg:= { sl:=[⟨84,0,.byte,some 5⟩,⟨84,1,.int,some 3⟩],nr:=[6]}
def xN (m:Str):List Int:=(List.range (m.length+1)).map fun i=>((P.zI m i:Nat):Int)
theorem zcX (m:Str) (i:Int) (h0:0≤i) (h:i≤m.length):(xN m).getD i.toNat 0=(P.zI m i.toNat:Nat):=by
  unfold xN
  rw [List.getD_eq_getElem?_getD,List.getElem?_map,List.getElem?_range (by omega)];rfl
theorem zcW (m:Str):(xN m).length=m.length+1:=by simp [xN]
def zX (m:Str) (n:Nat) (c:UInt8):Str × Nat × Bool:=if m=[] then([c],n,false) else P.feed m n c
theorem zg8 (m:Str) (n:Int) (bs:List Int) (k:Int) (hneed:bs=xN m∧m.length≤1000000∧0≤n∧(m=[]∨n<m.length)∧0≤k∧k≤255):Spc Tryd.prog 23 [.v (.one (.ptr 0 0)),.v (.one (.p (.int .u8 k)))] [.pack [.obj 84 [(.row 1),(.row 2),(.p (.int .i64 n))],.row .byte 5 m,.row .int 3 bs]] (.ret (.tup [(.one (.row 1)),(.one (.p (.bool ((zX m n.toNat (UInt8.ofNat k.toNat)).2.2))))])) [.pack [.obj 84 [(.row 1),(.row 2),(.p (.int .i64 (((zX m n.toNat (UInt8.ofNat k.toNat)).2.1:Int))))],.row .byte 5 m,.row .int 3 bs],.row .byte 5 ((zX m n.toNat (UInt8.ofNat k.toNat)).1)]:=by
  obtain⟨hbs,hl,hn0,hn,hk0,hk1⟩:=hneed
  generalize hr:zX m n.toNat (UInt8.ofNat k.toNat)=r
  obtain⟨out,n',fd⟩:=r
  refine spcG zl mixed Tryd.func23 (by kernel_rfl) { cfgS with keep:=some [0,1,4,5,6,7]} [] (by kernel_rfl) ?_
  intro I X hI hX
  refine zi (let y0:HO:=.obj 84 [(.row 1),(.row 2),(.p (.int .i64 n))];.br (I.ieq (I.len (α:=UInt8) m) 0) (.need (I.inr Go.IntKind.u8 k) (.fin (.ret (.tup [(.one (.row 1)),(.one (.p (.bool Bool.false)))])) [(.pack [y0,(.row .byte 5 m),(.row .int 3 bs)]),(.row .byte 5 ([(I.i2b k)]:Str))])) (.code 0 [1,1,1,0,0] ⟨[(6,(.v (.one (.row 3)))),(5,(.v (.one (.p (.val (.bool .false)))))),(4,(.v (.one .nilS))),(0,(.v (.one (.ptr 0 0)))),(1,(.v (.one (.p (.int .u8 k)))))],[y0,(.row .byte 5 m),(.row .int 3 bs),(.row .byte 5 ([]:Str))],100,none⟩)) (by kernel_rfl) ?_
  simp only [zq]
  refine⟨fun h=> ?_,fun h=> ?_⟩
  · subst hI
    simp only [nrmA,nrmB] at h
    have:m=[]:=List.eq_nil_of_length_eq_zero (by omega)
    subst this
    simp only [zX,if_true,Prod.mk.injEq] at hr
    obtain⟨rfl,rfl,rfl⟩:=hr
    simp only [nrmA,nrmB]
    refine⟨⟨hk0,hk1⟩,?_⟩
    rw [Int.toNat_of_nonneg hn0]
  have hm:m≠[]:=by
    subst hI
    simp only [nrmA,nrmB] at h
    rintro rfl;simp at h
  have hm0:0<m.length:=by cases m<;>simp_all
  have hn:n<m.length:=hn.resolve_left hm
  simp only [zX,if_neg hm] at hr
  refine zF hI zl mixed [YK] hX [0,1,6] (fun(p:Nat × Str)=>p.1≤n.toNat∧p.2.length+p.1=n.toNat∧P.fall m (UInt8.ofNat k.toNat) p.1 p.1=P.fall m (UInt8.ofNat k.toNat) n.toNat n.toNat∧p.2++m.take p.1=m.take n.toNat∧p.2=m.take p.2.length)
    (fun p=>⟨[(0,.v (.one (.ptr 0 0))),(1,.v (.one (.p (.int .u8 k)))),(6,.v (.one (.row 1)))],[.pack [.obj 84 [.row 1,.row 2,.p (.int .i64 p.1)],.row .byte 5 m,.row .int 3 bs],.row .byte 5 p.2],100,none⟩) (fun p=>p.1) (n.toNat,[])
    (by kernel_rfl) ?_ ⟨Nat.le_refl _,by simp,rfl,by simp,by simp⟩ ?_
  · simp only [Int.toNat_of_nonneg hn0];kernel_rfl
  rintro⟨j,o⟩ ⟨hjn,hoj,hfall,hcat,hpre⟩ A hA
  simp only at hjn hoj hfall hcat hpre
  refine zi (let y0:=I.inb (Nat.cast j) (I.len (α:=UInt8) m);let y1:=I.sub (Nat.cast j) (I.get (α:=Int) bs 0 (Nat.cast j));let y2:=I.bnot (I.ieq (I.b2i (I.get (α:=UInt8) m 0 (Nat.cast j))) k);let y3:HO:=.pack [(.obj 84 [(.row 1),(.row 2),(.p (.int .i64 (I.add (Nat.cast j) 1)))]),(.row .byte 5 m),(.row .int 3 bs)];let y4:HO:=.pack [(.obj 84 [(.row 1),(.row 2),(.p (.int .i64 (Nat.cast j)))]),(.row .byte 5 m),(.row .int 3 bs)];let y5:=I.few (I.add (I.len (α:=UInt8) o) (I.len (α:=UInt8) ([(I.i2b k)]:Str))) 140737488355328;let y6:HO:=.pack [(.obj 84 [(.row 1),(.row 2),(.p (.int .i64 0))]),(.row .byte 5 m),(.row .int 3 bs)];let y7:HO:=.row .byte 5 (I.app (α:=UInt8) o ([(I.i2b k)]:Str));let y8:=I.ilt (I.add (Nat.cast j) 1) (I.len (α:=UInt8) m);let y9:=I.inr Go.IntKind.i64 (I.add (Nat.cast j) 1);let y10:=I.inb (Nat.cast j) (I.len (α:=Int) bs);.br (I.ilt 0 (Nat.cast j)) (.need y0 (.need y0 (.br y2 (.need y10 (.need y10 (.need (I.inr Go.IntKind.i64 y1) (.need (I.cutb 0 y1 (I.len (α:=UInt8) m)) (.need (I.few (I.add (I.len (α:=UInt8) o) (I.len (α:=UInt8) (I.cut (α:=UInt8) m 0 y1))) 140737488355328) (.need (A ⟨[(0,(.v (.one (.ptr 0 0)))),(1,(.v (.one (.p (.int .u8 k))))),(6,(.v (.one (.row 1))))],[(.pack [(.obj 84 [(.row 1),(.row 2),(.p (.int .i64 (I.get (α:=Int) bs 0 (Nat.cast j))))]),(.row .byte 5 m),(.row .int 3 bs)]),(.row .byte 5 (I.app (α:=UInt8) o (I.cut (α:=UInt8) m 0 y1)))],100,none⟩) .qed)))))) (.need y0 (.need y0 (.br y2 (.need (I.inr Go.IntKind.u8 k) (.need y5 (.fin (.ret (.tup [(.one (.row 1)),(.one (.p (.bool Bool.false)))])) [y4,y7]))) (.need y9 (.br y8 (.fin (.ret (.tup [(.one (.row 1)),(.one (.p (.bool Bool.false)))])) [y3,(.row .byte 5 o)]) (.fin (.ret (.tup [(.one (.row 1)),(.one (.p (.bool Bool.true)))])) [y6,(.row .byte 5 o)]))))))))) (.need y0 (.need y0 (.br y2 (.need (I.inr Go.IntKind.u8 k) (.need y5 (.fin (.ret (.tup [(.one (.row 1)),(.one (.p (.bool Bool.false)))])) [y4,y7]))) (.need y9 (.br y8 (.fin (.ret (.tup [(.one (.row 1)),(.one (.p (.bool Bool.false)))])) [y3,(.row .byte 5 o)]) (.fin (.ret (.tup [(.one (.row 1)),(.one (.p (.bool Bool.true)))])) [y6,(.row .byte 5 o)]))))))) (by kernel_rfl) ?_
  simp only [zq]
  subst hI hbs
  simp only [nrmA,nrmB]
  have hb:=zcX m j (by omega) (by omega)
  simp only [Int.toNat_natCast] at hb
  have hbl:0<j→P.zI m j<j:=P.wK
  have hj:j<m.length:=by omega
  have hge:m.getD j 0=m[j]:=by simp [hj]
  rw [hb,zcW,hge]
  have hcc:(m[j].toNat:Int)=k↔m[j]? =some (UInt8.ofNat k.toNat):=by
    rw [List.getElem?_eq_getElem hj,Option.some.injEq,← UInt8.toNat_inj,UInt8.toNat_ofNat']
    omega
  simp only [hcc]
  have hfeed:=hr
  simp only [P.feed] at hfeed
  rw [← hfall] at hfeed
  refine⟨fun h0=>⟨by omega,by omega,fun hne=>⟨by omega,by omega,by omega,by omega,by simp only [List.length_take];omega,?_⟩,fun heq=>⟨by omega,by omega,fun hne=>(hne heq).elim,fun _=>⟨by omega,fun hlt=> ?_,fun hlt=> ?_⟩⟩⟩,fun h0=>⟨by omega,by omega,fun hne=> ?_,fun heq=>⟨by omega,fun hlt=> ?_,fun hlt=> ?_⟩⟩⟩
  · obtain⟨h1,h2⟩:=P.zcC (m:=m) (n:=n.toNat) (k:=o.length) (j:=j) (by omega) (by omega) (by omega) (by rw [← hpre];exact hcat)
    have hx:(↑j - ↑(P.zI m j):Int).toNat=j - P.zI m j:=by omega
    have hbj:=hbl (by omega)
    rw [hx]
    refine hA (P.zI m j,o++m.take (j - P.zI m j)) ⟨by simp only;omega,?_,?_,?_,?_⟩ hbj
    · simp only [List.length_append,List.length_take];omega
    · rw [← hfall];exact(P.Tn (by omega) hne).symm
    · simp only;rw [← h2,← h1,← hpre]
    · have:(o++m.take (j - P.zI m j)).length=o.length+(j - P.zI m j):=by simp only [List.length_append,List.length_take];omega
      simp only;rw [this,← h1,← hpre]
  · have hstop:=P.tJ (c:=UInt8.ofNat k.toNat) (.inr heq)
    rw [hstop,if_pos heq,if_pos (by omega)] at hfeed
    simp only [Prod.mk.injEq] at hfeed
    obtain⟨rfl,rfl,rfl⟩:=hfeed
    rw [show n.toNat - j=o.length by omega,← hpre]
    exact⟨rfl,rfl⟩
  · have hstop:=P.tJ (c:=UInt8.ofNat k.toNat) (.inr heq)
    rw [hstop,if_pos heq,if_neg (by omega)] at hfeed
    simp only [Prod.mk.injEq] at hfeed
    obtain⟨rfl,rfl,rfl⟩:=hfeed
    rw [show n.toNat - j=o.length by omega,← hpre]
    exact⟨rfl,rfl⟩
  all_goals
    have hj0:j=0:=by omega
    subst hj0
    have hstop:=P.tJ (m:=m) (c:=UInt8.ofNat k.toNat) (j:=0) (.inl rfl)
    rw [hstop] at hfeed
    rw [show n.toNat=o.length by omega,Nat.sub_zero,← hpre] at hfeed
  · rw [if_neg hne] at hfeed
    simp only [Prod.mk.injEq] at hfeed
    obtain⟨rfl,rfl,rfl⟩:=hfeed
    exact⟨⟨hk0,hk1⟩,by simp only [List.length_cons,List.length_nil];omega,rfl,rfl⟩
  · rw [if_pos heq,if_pos (by omega)] at hfeed
    simp only [Prod.mk.injEq] at hfeed
    obtain⟨rfl,rfl,rfl⟩:=hfeed
    exact⟨rfl,rfl⟩
  · rw [if_pos heq,if_neg (by omega)] at hfeed
    simp only [Prod.mk.injEq] at hfeed
    obtain⟨rfl,rfl,rfl⟩:=hfeed
    exact⟨rfl,rfl⟩
def Vy (I:Alg) (args:List D) (hp:List HO):Option CT:=match args,hp with
  |[.v (.one (.ptr 0 0)),.v (.one (.p (.int .u8 k)))],[.pack [.obj 84 [(.row 1),(.row 2),(.p (.int .i64 n))],.row .byte 5 m,.row .int 3 bs]]=>(fun(m:Str) (n:Int) (bs:List Int) (k:Int)=>(some (.one ⟨I.hid (bs=xN m∧m.length≤1000000∧0≤n∧(m=[]∨n<m.length)∧0≤k∧k≤255),(.ret (.tup [(.one (.row 1)),(.one (.p (.bool (I.hid ((zX m n.toNat (UInt8.ofNat k.toNat)).2.2)))))])),[.pack [.obj 84 [(.row 1),(.row 2),(.p (.int .i64 (I.hid (((zX m n.toNat (UInt8.ofNat k.toNat)).2.1:Int)))))],.row .byte 5 m,.row .int 3 bs],.row .byte 5 (I.hid ((zX m n.toNat (UInt8.ofNat k.toNat)).1))]⟩):Option CT)) m n bs k
  |_,_=>none
theorem zcB:zy Tryd.prog 23 (Vy alg):=by
  intro args hp r h
  unfold Vy at h
  split at h
  · cases h;exact fun hn=>zg8 _ _ _ _ hn
  · cases h
def ZG:Know Tryd.prog:=⟨23,Vy,zcB⟩
def ZF:Know Tryd.prog:=⟨23,fun I=>zC I (Vy I),zf zcB⟩
def yE (m:Str) (i:Nat):List Int:=(List.range (m.length+1)).map fun q=>if q<i then((P.zI m q:Nat):Int) else 0
theorem RF (m:Str) (i:Nat) (h:m.length<i):yE m i=xN m:=by
  unfold yE xN
  refine List.map_congr_left fun q hq=> ?_
  rw [if_pos (by have:=List.mem_range.1 hq;omega)]
theorem Rx (m:Str):yE m 2=List.replicate (m.length+1) 0:=by
  unfold yE
  refine List.ext_getElem (by simp) fun q h1 h2=> ?_
  simp only [List.getElem_map,List.getElem_range,List.getElem_replicate]
  split
  · have:q=0∨q=1:=by omega
    rcases this with rfl|rfl
    · simp [P.zI,P.xY]
    · simp [P.zI,P.xY]
  · rfl
theorem Rz (m:Str) (i:Nat):(yE m i).length=m.length+1:=by simp [yE]
theorem RD (m:Str) (i q:Nat) (h:q<i) (hm:q≤m.length):(yE m i).getD q 0=(P.zI m q:Nat):=by
  unfold yE
  rw [List.getD_eq_getElem?_getD,List.getElem?_map,List.getElem?_range (by omega)]
  simp [h]
theorem Ry (m:Str) (i:Nat):(yE m i).set i ((P.zI m i:Nat):Int)=yE m (i+1):=by
  unfold yE
  refine List.ext_getElem (by simp) fun q h1 h2=> ?_
  simp only [List.getElem_set,List.getElem_map,List.getElem_range]
  by_cases h:i=q
  · subst h;simp
  · rw [if_neg h]
    by_cases hq:q<i
    · rw [if_pos hq,if_pos (by omega)]
    · rw [if_neg hq,if_neg (by omega)]
theorem new_ (m:Str) (hneed:m.length≤999999):Spc Tryd.prog 22 [.v (.one (.p (.list .byte m)))] [] (.ret (.v (.one (.ptr 0 0)))) [.pack [.obj 84 [(.row 1),(.row 2),(.p (.int .i64 0))],.row .byte 5 m,.row .int 3 ((xN m))]]:=by
  refine spcG zl mixed Tryd.func22 (by kernel_rfl) { cfgS with seam:=[2],keep:=some [0,2,3,4,5]} [VJ,YK] (by kernel_rfl) ?_
  intro I X hI hX
  refine zi (let y0:=I.same (α:=Int) (I.add (I.len (α:=UInt8) m) 1) (I.add (I.len (α:=UInt8) m) 1);let y1:HO:=.row .int 3 (I.rep (α:=Int) (I.add (I.len (α:=UInt8) m) 1) 0);let y2:=I.hid (α:=(Prop)) (LE.le (List.length m) 100000000);let y3:=I.few (I.add (I.len (α:=UInt8) m) 1) 1000000;let y4:=I.nng (I.add (I.len (α:=UInt8) m) 1);.need (I.inr Go.IntKind.i64 (I.add (I.len (α:=UInt8) m) 1)) (.both (.need y2 (.need y0 (.need y4 (.need y3 (.code 0 [1,1,0] ⟨[(3,(.v (.one (.ptr 2 0)))),(2,(.v (.one (.p (.val (.pointer .none)))))),(0,(.v (.one (.p (.list .byte m)))))],[(.row .byte 5 m),y1,(.obj 84 [(.row 0),(.row 1),(.p (.int .i64 0))])],60,none⟩))))) (.need y0 (.need y4 (.need y3 (.need y2 (.code 0 [1,1,0] ⟨[(3,(.v (.one (.ptr 2 0)))),(2,(.v (.one (.p (.val (.pointer .none)))))),(0,(.v (.one (.p (.list .byte m)))))],[y1,(.row .byte 5 m),(.obj 84 [(.row 1),(.row 0),(.p (.int .i64 0))])],60,none⟩))))))) (by kernel_rfl) ?_
  simp only [zq]
  refine⟨?n1,⟨?n2,?n3,?n4,?n5,seam hI zl mixed [] hX [0,3] ⟨[(0,.v (.one (.p (.list .byte m)))),(3,.v (.one (.ptr 0 0)))],[.pack [.obj 84 [(.row 1),(.row 2),(.p (.int .i64 0))],.row .byte 5 m,.row .int 3 ((I.rep (α:=Int) (I.add (I.len (α:=UInt8) m) 1) (0:Int)))]],60,none⟩ (by kernel_rfl) ?on⟩,?n3,?n4,?n5,?n2,seam hI zl mixed [] hX [0,3] _ (by kernel_rfl) ?on⟩
  case on=>
    have hrep:(I.rep (α:=Int) (I.add (I.len (α:=UInt8) m) 1) (0:Int))=yE m 2:=by
      subst hI
      simp only [nrmA,nrmB]
      rw [Rx];rfl
    rw [hrep]
    generalize hb2:yE m 2=b2
    refine zi (.code 0 [1,1,1,0,1,0] ⟨[(5,(.v (.one (.p (.int .i64 1))))),(4,(.v (.one (.p (.int .i64 0))))),(0,(.v (.one (.p (.list .byte m))))),(3,(.v (.one (.ptr 0 0))))],[(.pack [(.obj 84 [(.row 1),(.row 2),(.p (.int .i64 0))]),(.row .byte 5 m),(.row .int 3 b2)])],60,none⟩) (by kernel_rfl) ?_
    simp only [zq]
    refine zF hI zl mixed [VJ,YK] hX [0,3,5,4] (fun(g:Nat × Nat × List Int)=>match g with|(i,k,bs)=>1≤i∧(i≤m.length∨i=1)∧k=P.zI m i∧bs=yE m (i+1)) (fun(g:Nat × Nat × List Int)=>match g with|(i,k,bs)=>⟨[(0,.v (.one (.p (.list .byte m)))),(3,.v (.one (.ptr 0 0))),(5,.v (.one (.p (.int .i64 i)))),(4,.v (.one (.p (.int .i64 k))))],[.pack [.obj 84 [(.row 1),(.row 2),(.p (.int .i64 0))],.row .byte 5 m,.row .int 3 bs]],60,none⟩) (fun(g:Nat × Nat × List Int)=>match g with|(i,k,bs)=>m.length - i) (1,0,b2) (by kernel_rfl) (by kernel_rfl) ?_ ?_
    · exact⟨Nat.le_refl _,.inr rfl,by simp [P.zI,P.xY],hb2.symm⟩
    rintro⟨i,k,bs⟩ ⟨hi,him,rfl,hbs⟩ A hA
    simp only at hA
    generalize hk:P.zI m i=k at hA
    refine zi (let y0:HO:=.pack [(.obj 84 [(.row 1),(.row 2),(.p (.int .i64 0))]),(.row .byte 5 m),(.row .int 3 bs)];.br (I.ilt (Nat.cast i) (I.len (α:=UInt8) m)) (.code 0 [1,0,0,0,0] ⟨[(0,(.v (.one (.p (.list .byte m))))),(3,(.v (.one (.ptr 0 0)))),(5,(.v (.one (.p (.int .i64 (Nat.cast i)))))),(4,(.v (.one (.p (.int .i64 (Nat.cast k))))))],[y0],60,none⟩) (.fin (.ret (.v (.one (.ptr 0 0)))) [y0])) (by kernel_rfl) ?_
    simp only [zq]
    refine⟨fun hlt=> ?_,fun hlt=> ?_⟩
    · refine zF hI zl mixed [VJ,YK] hX [0,3,5,4] (fun(q:Nat)=>q≤k∧P.fall m (m.getD i 0) q q=P.fall m (m.getD i 0) k k) (fun(q:Nat)=>⟨[(0,.v (.one (.p (.list .byte m)))),(3,.v (.one (.ptr 0 0))),(5,.v (.one (.p (.int .i64 i)))),(4,.v (.one (.p (.int .i64 q))))],[.pack [.obj 84 [(.row 1),(.row 2),(.p (.int .i64 0))],.row .byte 5 m,.row .int 3 bs]],60,none⟩) (fun(q:Nat)=>q) k (by kernel_rfl) (by kernel_rfl) ?_ ?_
      · exact⟨Nat.le_refl _,rfl⟩
      rintro q ⟨hq,hfall⟩ B hB
      refine zi (let y0:=I.inb (I.add (Nat.cast i) 1) (I.len (α:=Int) bs);let y1:=I.inr Go.IntKind.i64 (I.add (Nat.cast i) 1);let y2:=I.inb (Nat.cast i) (I.len (α:=UInt8) m);let y3:=I.inb (Nat.cast q) (I.len (α:=UInt8) m);let y4:=I.ieq (I.b2i (I.get (α:=UInt8) m 0 (Nat.cast i))) (I.b2i (I.get (α:=UInt8) m 0 (Nat.cast q)));let y5:HO:=.obj 84 [(.row 1),(.row 2),(.p (.int .i64 0))];let y6:HO:=.pack [y5,(.row .byte 5 m),(.row .int 3 (I.set (α:=Int) bs (I.add (Nat.cast i) 1) (I.add (Nat.cast q) 1)))];let y7:HO:=.pack [y5,(.row .byte 5 m),(.row .int 3 (I.set (α:=Int) bs (I.add (Nat.cast i) 1) (Nat.cast q)))];let y8:=I.inr Go.IntKind.i64 (I.add (Nat.cast q) 1);let y9:=I.inb (Nat.cast q) (I.len (α:=Int) bs);.br (I.ilt 0 (Nat.cast q)) (.need y2 (.need y2 (.need y3 (.need y3 (.br (I.bnot y4) (.need y9 (.need y9 (.need (B ⟨[(0,(.v (.one (.p (.list .byte m))))),(3,(.v (.one (.ptr 0 0)))),(5,(.v (.one (.p (.int .i64 (Nat.cast i)))))),(4,(.v (.one (.p (.int .i64 (I.get (α:=Int) bs 0 (Nat.cast q)))))))],[(.pack [y5,(.row .byte 5 m),(.row .int 3 bs)])],60,none⟩) .qed))) (.need y2 (.need y2 (.need y3 (.need y3 (.br y4 (.need y8 (.need y1 (.need y0 (.need y0 (.need y1 (.need (A ⟨[(0,(.v (.one (.p (.list .byte m))))),(3,(.v (.one (.ptr 0 0)))),(5,(.v (.one (.p (.int .i64 (I.add (Nat.cast i) 1)))))),(4,(.v (.one (.p (.int .i64 (I.add (Nat.cast q) 1))))))],[y6],60,none⟩) .qed)))))) (.need y1 (.need y0 (.need y0 (.need y1 (.need (A ⟨[(0,(.v (.one (.p (.list .byte m))))),(3,(.v (.one (.ptr 0 0)))),(5,(.v (.one (.p (.int .i64 (I.add (Nat.cast i) 1)))))),(4,(.v (.one (.p (.int .i64 (Nat.cast q))))))],[y7],60,none⟩) .qed))))))))))))))) (.need y2 (.need y2 (.need y3 (.need y3 (.br y4 (.need y8 (.need y1 (.need y0 (.need y0 (.need y1 (.need (A ⟨[(0,(.v (.one (.p (.list .byte m))))),(3,(.v (.one (.ptr 0 0)))),(5,(.v (.one (.p (.int .i64 (I.add (Nat.cast i) 1)))))),(4,(.v (.one (.p (.int .i64 (I.add (Nat.cast q) 1))))))],[y6],60,none⟩) .qed)))))) (.need y1 (.need y0 (.need y0 (.need y1 (.need (A ⟨[(0,(.v (.one (.p (.list .byte m))))),(3,(.v (.one (.ptr 0 0)))),(5,(.v (.one (.p (.int .i64 (I.add (Nat.cast i) 1)))))),(4,(.v (.one (.p (.int .i64 (Nat.cast q))))))],[y7],60,none⟩) .qed))))))))))) (by kernel_rfl) ?_
      simp only [zq]
      subst hI hbs
      simp only [nrmA,nrmB] at hlt
      have hil:i<m.length:=by omega
      have hkl:k<i:=by rw [← hk];exact P.wK (by omega)
      have hql:q<m.length:=by omega
      have hst:=P.RG hil (by omega)
      have hgi:m.getD i 0=m[i]:=by simp [hil]
      have hgq:m.getD q 0=m[q]:=by simp [hql]
      have hg0:=RD m (i+1) q (by omega) (by omega)
      have hbl:0<q→P.zI m q<q:=P.wK
      rw [hk] at hst
      rw [hgi] at hfall
      rw [← hfall] at hst
      simp only [nrmA,nrmB]
      rw [hgi,hgq,Rz,hg0,show((i:Int)+1).toNat=i+1 by omega]
      have hset:=Ry m (i+1)
      have hcc:m[i]=m[q]↔m[q]? =some m[i]:=by rw [List.getElem?_eq_getElem hql];simp [eq_comm]
      have hA1:(q=0∨m[i]=m[q])→m[i]=m[q]→A ⟨[(0,.v (.one (.p (.list .byte m)))),(3,.v (.one (.ptr 0 0))),(5,.v (.one (.p (.int .i64 ((i:Int)+1))))),(4,.v (.one (.p (.int .i64 ((q:Int)+1)))))],[.pack [.obj 84 [(.row 1),(.row 2),(.p (.int .i64 0))],.row .byte 5 m,.row .int 3 (((yE m (i+1)).set (i+1) ((q:Int)+1)))]],60,none⟩:=by
        intro h1 h2
        rw [P.tJ (by rw [← hcc];exact h1),if_pos (hcc.1 h2)] at hst
        have:=hA (i+1,q+1,yE m (i+2)) ⟨by omega,by omega,hst.symm,rfl⟩ (by simp only;omega)
        rw [hst] at hset
        rw [← hset] at this
        exact this
      have hA2:(q=0∨m[i]=m[q])→¬m[i]=m[q]→A ⟨[(0,.v (.one (.p (.list .byte m)))),(3,.v (.one (.ptr 0 0))),(5,.v (.one (.p (.int .i64 ((i:Int)+1))))),(4,.v (.one (.p (.int .i64 q))))],[.pack [.obj 84 [(.row 1),(.row 2),(.p (.int .i64 0))],.row .byte 5 m,.row .int 3 (((yE m (i+1)).set (i+1) (q:Int)))]],60,none⟩:=by
        intro h1 h2
        obtain rfl:q=0:=h1.resolve_right h2
        rw [P.tJ (.inl rfl),if_neg (fun h=>h2 (hcc.2 h))] at hst
        have:=hA (i+1,0,yE m (i+2)) ⟨by omega,by omega,hst.symm,rfl⟩ (by simp only;omega)
        rw [hst] at hset
        rw [← hset] at this
        exact this
      (repeat' (first|refine And.intro ?_ ?_|intro _))<;>first|omega|exact True.intro|exact False.elim ‹False›|skip
      · refine hB (P.zI m q) ⟨by have:=hbl (by omega);omega,?_⟩ (hbl (by omega))
        rw [hgi,← P.Tn (by omega) (fun h=>‹¬m[i]=m[q]› (hcc.2 h)),hfall]
      · exact hA1 (.inr ‹_›) ‹_›
      · exact hA2 (.inr ‹_›) ‹_›
      · exact hA1 (.inl (by omega)) ‹_›
      · exact hA2 (.inl (by omega)) ‹_›
    · subst hI hbs
      simp only [nrmA,nrmB] at hlt
      rw [RF m _ (by omega)]
      exact⟨trivial,rfl⟩
  all_goals subst hI;simp only [nrmA,nrmB];try omega
def Qy (I:Alg) (args:List D) (hp:List HO):Option CT:=match args,hp with
  |[.v (.one (.p (.list .byte m)))],[]=>(fun(m:Str)=>(some (.one ⟨I.hid (m.length≤999999),(.ret (.v (.one (.ptr 0 0)))),[.pack [.obj 84 [(.row 1),(.row 2),(.p (.int .i64 0))],.row .byte 5 m,.row .int 3 (I.hid ((xN m)))]]⟩):Option CT)) m
  |_,_=>none
theorem zel:zy Tryd.prog 22 (Qy alg):=by
  intro args hp r h
  unfold Qy at h
  split at h
  · cases h;exact fun hn=>new_ _ hn
  · cases h
def zek:Know Tryd.prog:=⟨22,Qy,zel⟩
def zej:Know Tryd.prog:=⟨22,fun I=>zC I (Qy I),zf zel⟩
end Go.Proofs.YtknaogelmckimaaDoor
namespace Go.Proofs.YtknaogelmckimaaDoor
open Go Go.Sep Go.Ab
def vz (s:Str):Bool:= !decide (70<s.length)&&(xE s&&(decide (Lib.trimS s [32,9]=s)&&decide (s≠[])))
def ve (b:Str) (c:UInt8):Str:=
  if c=47∨c=92 then []
  else if c=9∨vK (c.toNat:Int)=false∨c=34∨c=58 then b++[95]
  else if c=46∧b=[] then b
  else b++[c]
def uN (s:Str):Str:=if(s.foldl ve []).take 40=[] then [102,105,108,101] else(s.foldl ve []).take 40
def pctM:Str→Option Str
  |[]=>some []
  | c ::r=>
    if c≠37 then(pctM r).map (c:: ·)
    else match r with
      |a::b::r'=>if hexK (a.toNat:Int)<0∨hexK (b.toNat:Int)<0 then none else(pctM r').map (UInt8.ofNat (16 * hexK (a.toNat:Int)+hexK (b.toNat:Int)).toNat:: ·)
      |_=>none
def utfS:Str:=[117,116,102,45,56,39,39]
def extM (s:Str):Option Str:=if s.length<7∨lowS (s.take 7)≠utfS then none else pctM (s.drop 7)
def wJ:Str:=[99,111,110,116,101,110,116,45,100,105,115,112,111,115,105,116,105,111,110]
def zan:Str:=[99,111,110,116,101,110,116,45,116,121,112,101]
def zex:Str:=[102,111,114,109,45,100,97,116,97]
def ze4:Str:=[110,97,109,101]
def zdY:Str:=[102,105,108,101,110,97,109,101]
def Ti:Str:=[102,105,108,101,110,97,109,101,42]
def extV (s:Str):Str:=(extM s).getD []
def extB (s:Str):Bool:=(extM s).isSome
def zbE (f x:Str × Bool):Str:=if x.2=true then uN (extV x.1) else if f.2=true then uN f.1 else []
def partT (t:Str × Int):Str:=if t.2=0 then t.1 else []
def zdz (a:Str × Int) (m:Med × Int) (n f x:Str × Bool) (t:Str × Int):Prt × Int:=
  if a.2≠0 then(prt0,a.2)
  else if m.2≠0 then(prt0,m.2)
  else if m.1.word≠zex then(prt0,11)
  else if n.2=false then(prt0,6)
  else if x.2=true∧extB x.1=false then(prt0,5)
  else if t.2=9 then(prt0,9)
  else(⟨n.1,zbE f x,partT t,[]⟩,0)
def yN (l:List Fld):Prt × Int:=
  zdz (oneF (valsF l wJ)) (yK (oneF (valsF l wJ)).1) (getP (yK (oneF (valsF l wJ)).1).1.params ze4) (getP (yK (oneF (valsF l wJ)).1).1.params zdY) (getP (yK (oneF (valsF l wJ)).1).1.params Ti) (oneF (valsF l zan))
def evP (p:Prt):Evt:=⟨5,hd0,[],p,0⟩
def evO:Evt:=⟨6,hd0,[],prt0,0⟩
def zG (f:Fm) (c:Int):Fm:= { f with pos:=8,code:=c,out:=f.out++[evF c]}
def fmSk (f:Fm) (c:UInt8):Fm:= { f with held:=((zX f.mark f.held.toNat c).2.1:Int)}
def yD (f:Fm):Fm:=
  if(yN f.fields).2≠0 then zG f (yN f.fields).2
  else if f.parts=12 then zG f 8
  else fmSk (fmSk { f with parts:=f.parts+1,pos:=6,out:=f.out++[evP (yN f.fields).1],skip:=2} 13) 10
def xk (f:Fm) (s:Str):Fm:=
  if s=[] then yD f
  else if f.fields.length=16 then zG f 8
  else if(yL s).2≠0 then zG f (yL s).2
  else { f with fields:=f.fields++[(yL s).1]}
def yc (f:Fm) (c:UInt8):Fm:=
  if f.pos=1∧c=45 then { f with pos:=2}
  else if f.pos=2∧c=45 then { f with pos:=7,out:=f.out++[evE]}
  else if f.pos≠2∧(c=32∨c=9) then { f with pos:=3}
  else if f.pos≠2∧c=13 then { f with pos:=4}
  else zG f 5
def wM (f:Fm) (c:UInt8):Str:=(zX f.mark f.held.toNat c).1.drop (min f.skip ((zX f.mark f.held.toNat c).1.length:Int)).toNat
def yO (f:Fm) (c:UInt8):Fm:=
  if(zX f.mark f.held.toNat c).2.2=false then
    { fmSk f c with skip:=f.skip - min f.skip ((zX f.mark f.held.toNat c).1.length:Int),out:=if f.pos=6∧wM f c≠[] then f.out++[evB (wM f c)] else f.out}
  else { fmSk f c with pos:=1,skip:=0,out:=if f.pos=6 then(if wM f c≠[] then f.out++[evB (wM f c),evO] else f.out++[evO]) else f.out}
def lnOf (f:Fm):Ln:=match f.ln with|some l=>l|none=>ln0
def fmF (f:Fm) (c:UInt8):Fm:=
  if f.pos=0∨f.pos=6 then yO f c
  else if f.pos=1∨f.pos=2∨f.pos=3 then yc f c
  else if f.pos=4 then(if c≠10 then zG f 2 else { f with pos:=5,ln:=some ln0,fields:=[]})
  else if f.pos=5 then
    if(lnF (lnOf f) c).2.2.2≠0 then zG { f with ln:=some (lnF (lnOf f) c).1} (lnF (lnOf f) c).2.2.2
    else if(lnF (lnOf f) c).2.2.1=true then xk { f with ln:=some (lnF (lnOf f) c).1} (lnF (lnOf f) c).2.1
    else { f with ln:=some (lnF (lnOf f) c).1}
  else f
def Xl (b:Str):Str:=[13,10,45,45]++b
def fm0 (b:Str):Fm:=fmSk (fmSk ⟨Xl b,0,xN (Xl b),0,none,[],0,0,0,[]⟩ 13) 10
def Zz (f:Fm) (b:Str):Fm:=b.foldl fmF f
def yh (f:Fm) (b:Str):Fm:=Zz { f with out:=[]} b
def yY (f:Fm):Int:=if f.pos=8 then f.code else if f.pos=7 then 0 else 14
def prtS (l:List Prt) (e:Evt):List Prt:=
  if e.kind=5 then l++[e.part]
  else if e.kind=2 then(match l.getLast? with|some p=>l.dropLast++[{ p with bytes:=p.bytes++e.bytes}]|none=>l)
  else l
def rM (b x:Str):List Prt × Int:=
  if vz b=false then([],5)
  else if yY (yh (fm0 b) x)≠0 then([],yY (yh (fm0 b) x))
  else((yI (yh (fm0 b) x).out).foldl prtS [],0)
end Go.Proofs.YtknaogelmckimaaDoor
namespace Go.Proofs.YtknaogelmckimaaDoor
open Go Go.Sep Go.Ab
set_option maxRecDepth 100000
theorem zcb {k:Int} (hk:0≤k∧k≤255): -1≤hexK k∧hexK k≤15:=zhe (p:=fun k=> -1≤hexK k∧hexK k≤15) (by decide+kernel) hk
end Go.Proofs.YtknaogelmckimaaDoor
namespace Go.Proofs.YtknaogelmckimaaDoor
open Go Go.Sep Go.Ab
set_option maxRecDepth 100000
def cutM (s p:Str):Str × Bool:=if s.length<p.length∨lowS (s.take p.length)≠p then([],false) else(s.drop p.length,true)
theorem zhb (s p:Str) (hneed:s.length≤1000000∧p.length≤100):Spc Tryd.prog 54 [.v (.one (.p (.str s))),.v (.one (.p (.str p)))] [] (.ret (.tup [(.one (.p (.str ((cutM s p).1)))),(.one (.p (.bool ((cutM s p).2))))])) []:=by
  obtain⟨h1,h2⟩:=hneed
  generalize hr:cutM s p=r
  obtain⟨a,k⟩:=r
  refine spcG zl mixed Tryd.func54 (by kernel_rfl) { keep:=some [0,1,4,5]} [xh,xg] (by kernel_rfl) ?_
  intro I X hI hX
  refine zi (let y0:=I.cut (α:=UInt8) s 0 (I.len (α:=UInt8) p);.br (I.ilt (I.len (α:=UInt8) s) (I.len (α:=UInt8) p)) (.fin (.ret (.tup [(.one (.p (.str ([]:Str)))),(.one (.p (.bool Bool.false)))])) []) (.need (I.cutb 0 (I.len (α:=UInt8) p) (I.len (α:=UInt8) s)) (.need (I.hid (α:=(Prop)) (LE.le (List.length y0) 1000000)) (.br (I.bnot (I.seq (I.hid (α:=Str) (lowS y0)) p)) (.fin (.ret (.tup [(.one (.p (.str ([]:Str)))),(.one (.p (.bool Bool.false)))])) []) (.need (I.cutb (I.len (α:=UInt8) p) (I.len (α:=UInt8) s) (I.len (α:=UInt8) s)) (.fin (.ret (.tup [(.one (.p (.str (I.cut (α:=UInt8) s (I.len (α:=UInt8) p) (I.len (α:=UInt8) s))))),(.one (.p (.bool Bool.true)))])) [])))))) (by kernel_rfl) ?_
  simp only [zq]
  subst hI
  unfold cutM at hr
  simp only [nrmA,nrmB,nrlB,reduceCtorEq]
  (repeat' (first|refine And.intro ?_ ?_|intro _))<;>first|omega|exact True.intro|exact False.elim ‹False›|skip
  all_goals first
    |omega
    |(simp only [List.length_take];omega)
    |(rw [if_pos (Or.inl (by omega))] at hr;cases hr;rfl)
    |(rw [if_pos (Or.inr ‹_›)] at hr;cases hr;rfl)
    |(rw [if_neg (fun h=>h.elim (fun h=>by omega) (fun h=>h ‹_›))] at hr;cases hr;first|rfl|exact List.take_of_length_le (by simp))
def VE (I:Alg) (args:List D) (hp:List HO):Option CT:=match args,hp with
  |[.v (.one (.p (.str s))),.v (.one (.p (.str p)))],[]=>(fun(s p:Str)=>(some (.one ⟨I.hid (s.length≤1000000∧p.length≤100),(.ret (.tup [(.one (.p (.str (I.hid ((cutM s p).1))))),(.one (.p (.bool (I.hid ((cutM s p).2)))))])),[]⟩):Option CT)) s p
  |_,_=>none
theorem zcH:zy Tryd.prog 54 (VE alg):=by
  intro args hp r h
  unfold VE at h
  split at h
  · cases h;exact fun hn=>zhb _ _ hn
  · cases h
def zcG:Know Tryd.prog:=⟨54,VE,zcH⟩
def zcF:Know Tryd.prog:=⟨54,fun I=>zC I (VE I),zf zcH⟩
theorem zg0 {r:Str} {i:Nat} (h:i<r.length) (k: ¬ r.getD i 0=37):pctM (r.drop i)=(pctM (r.drop (i+1))).map (r.getD i 0:: ·):=by
  have e:r.getD i 0=r[i]:=by simp [h]
  rw [e] at k
  rw [List.drop_eq_getElem_cons h,pctM.eq_def]
  simp only
  rw [if_pos k,e]
theorem zgZ {r:Str} {i:Nat} (h:i<r.length) (k:r.getD i 0=37) (h2:r.length≤i+2):pctM (r.drop i)=none:=by
  have e:r.getD i 0=r[i]:=by simp [h]
  rw [e] at k
  rw [List.drop_eq_getElem_cons h,pctM.eq_def]
  simp only [k,ne_eq,not_true_eq_false,if_false]
  have hl:(r.drop (i+1)).length≤1:=by rw [List.length_drop];omega
  match hd:r.drop (i+1),hl with
  |[],_=>rfl
  |[_],_=>rfl
  |_::_::_,h=>simp at h
theorem zg1 {r:Str} {i:Nat} (h:i+2<r.length) (k:r.getD i 0=37):pctM (r.drop i)=if hexK ((r.getD (i+1) 0).toNat:Int)<0∨hexK ((r.getD (i+2) 0).toNat:Int)<0 then none else(pctM (r.drop (i+3))).map (UInt8.ofNat (16 * hexK ((r.getD (i+1) 0).toNat:Int)+hexK ((r.getD (i+2) 0).toNat:Int)).toNat:: ·):=by
  have h0:i<r.length:=by omega
  have h1:i+1<r.length:=by omega
  have e0:r.getD i 0=r[i]:=by simp [h0]
  have e1:r.getD (i+1) 0=r[i+1]:=by simp [h1]
  have e2:r.getD (i+2) 0=r[i+2]:=by simp [h]
  rw [e0] at k
  rw [List.drop_eq_getElem_cons h0,List.drop_eq_getElem_cons h1,List.drop_eq_getElem_cons h,pctM,if_neg (by simp [k]),e1,e2]
theorem zha (s:Str) (hneed:s.length≤1000000):Spc Tryd.prog 30 [.v (.one (.p (.str s)))] [] (.ret (.tup [(.one (.p (.str ((extV s))))),(.one (.p (.bool ((extB s)))))])) []:=by
  unfold extV extB
  generalize hr:extM s=r
  refine spcG zl mixed Tryd.func30 (by kernel_rfl) { nr:=[6],keep:=some [0,2,3,4,5,6,7]} [zeo,zen,zcG,zcF] (by kernel_rfl) ?_
  intro I X hI hX
  refine zi (let y0:=([117,116,102,45,56,39,39]:Str);let y1:=I.hid (α:=Bool) (Prod.snd (cutM s y0));.need (I.hid (α:=(Prop)) (And (LE.le (List.length s) 1000000) (LE.le (List.length y0) 100))) (.br (I.bnot y1) (.fin (.ret (.tup [(.one (.p (.str ([]:Str)))),(.one (.p (.bool Bool.false)))])) []) (.code 0 [1,1,1,1,0,1,0] ⟨[(7,(.v (.one (.p (.int .i64 0))))),(6,(.v (.one (.row 0)))),(5,(.v (.one (.p (.bool y1))))),(4,(.v (.one (.p (.str (I.hid (α:=Str) (Prod.fst (cutM s y0)))))))),(3,(.v (.one (.p (.val (.bool .false)))))),(2,(.v (.one (.p (.str ([]:Str)))))),(0,(.v (.one (.p (.str s)))))],[(.row .byte 5 ([]:Str))],72,none⟩))) (by kernel_rfl) ?_
  simp only [zq]
  rw [show([117,116,102,45,56,39,39]:Str)=utfS from rfl]
  have hc:extM s=if(cutM s utfS).2=false then none else pctM (cutM s utfS).1:=by
    unfold extM cutM
    by_cases h:s.length<7∨lowS (s.take 7)≠utfS
    · rw [if_pos h,if_pos (show s.length<utfS.length∨lowS (s.take utfS.length)≠utfS from h)];rfl
    · rw [if_neg h,if_neg (show ¬ (s.length<utfS.length∨lowS (s.take utfS.length)≠utfS) from h)];rfl
  have hl:(cutM s utfS).1.length≤1000000:=by
    unfold cutM
    split
    · simp
    · simp only [List.length_drop];omega
  rw [hc] at hr
  generalize(cutM s utfS).2=k at *
  generalize(cutM s utfS).1=R at *
  have h7:utfS.length≤100:=by decide
  (repeat' (first|refine And.intro ?_ ?_|intro _))
  all_goals try(subst hI;(simp only [nrmA,nrmB,nrlB,reduceCtorEq] at *);first|done|trivial|omega|exact⟨hneed,h7⟩|(rw [if_pos ‹_›] at hr;rw [← hr];exact⟨rfl,rfl⟩))
  have hk:k=true:=by
    subst hI
    simp only [nrmA,nrmB,nrlB,reduceCtorEq] at *
    simpa using ‹_›
  rw [hk] at hr
  simp only [Bool.true_eq_false,if_false] at hr
  rw [show I.hid R=R by subst hI;rfl]
  refine zF hI zl mixed [zeo,zen,zcG,zcF] hX [4,6,7] (fun(g:Nat × Str)=>match g with|(i,b)=>i≤R.length∧b.length≤i∧r=(pctM (R.drop i)).map (b++ ·)) (fun(g:Nat × Str)=>match g with|(i,b)=>⟨[(4,.v (.one (.p (.str R)))),(6,.v (.one (.row 0))),(7,.v (.one (.p (.int .i64 i))))],[.row .byte 5 b],72,none⟩) (fun(g:Nat × Str)=>match g with|(i,b)=>R.length - i) (0,[]) (by kernel_rfl) (by kernel_rfl) ?_ ?_
  · refine⟨Nat.zero_le _,Nat.le_refl _,?_⟩
    rw [List.drop_zero,hr]
    cases r<;>rfl
  rintro⟨i,b⟩ ⟨h1,h2,h3⟩ A hA
  simp only at hA h1 h2 h3
  refine zi (let y1:=I.b2i (I.get (α:=UInt8) R 0 (I.add (Nat.cast i) 1));let y2:=I.b2i (I.get (α:=UInt8) R 0 (I.add (Nat.cast i) 2));let y0:=I.add (I.mul 16 (I.hid (α:=Int) (hexK y1))) (I.hid (α:=Int) (hexK y2));let y3:=I.b2i (I.get (α:=UInt8) R 0 (Nat.cast i));let y4:=I.inr Go.IntKind.i64 (I.add (Nat.cast i) 2);let y5:=I.inr Go.IntKind.i64 (I.add (Nat.cast i) 1);let y6:=I.hid (α:=(Prop)) (And (LE.le (0:Int) y1) (LE.le y1 (255:Int)));let y7:=I.hid (α:=(Prop)) (And (LE.le (0:Int) y2) (LE.le y2 (255:Int)));let y8:=I.inb (I.add (Nat.cast i) 1) (I.len (α:=UInt8) R);let y9:=I.inb (I.add (Nat.cast i) 2) (I.len (α:=UInt8) R);let y10:=I.inb (Nat.cast i) (I.len (α:=UInt8) R);.br (I.ilt (Nat.cast i) (I.len (α:=UInt8) R)) (.need y10 (.br (I.bnot (I.ieq y3 37)) (.need y10 (.need (I.inr Go.IntKind.u8 y3) (.need (I.few (I.add (I.len (α:=UInt8) b) (I.len (α:=UInt8) ([(I.i2b y3)]:Str))) 140737488355328) (.need y5 (.need (A ⟨[(4,(.v (.one (.p (.str R))))),(6,(.v (.one (.row 0)))),(7,(.v (.one (.p (.int .i64 (I.add (Nat.cast i) 1))))))],[(.row .byte 5 (I.app (α:=UInt8) b ([(I.i2b y3)]:Str)))],72,none⟩) .qed))))) (.need y4 (.br (I.ile (I.len (α:=UInt8) R) (I.add (Nat.cast i) 2)) (.fin (.ret (.tup [(.one (.p (.str ([]:Str)))),(.one (.p (.bool Bool.false)))])) []) (.need y5 (.need y8 (.need y6 (.br (I.ilt (I.hid (α:=Int) (hexK y1)) 0) (.fin (.ret (.tup [(.one (.p (.str ([]:Str)))),(.one (.p (.bool Bool.false)))])) []) (.need y4 (.need y9 (.need y7 (.br (I.ilt (I.hid (α:=Int) (hexK y2)) 0) (.fin (.ret (.tup [(.one (.p (.str ([]:Str)))),(.one (.p (.bool Bool.false)))])) []) (.need y5 (.need y8 (.need y4 (.need y9 (.need y6 (.need (I.inr Go.IntKind.i64 (I.mul 16 (I.hid (α:=Int) (hexK y1)))) (.need y7 (.need (I.inr Go.IntKind.i64 y0) (.need (I.inr Go.IntKind.u8 (I.wrap Go.IntKind.u8 y0)) (.need (I.few (I.add (I.len (α:=UInt8) b) (I.len (α:=UInt8) ([(I.i2b (I.wrap Go.IntKind.u8 y0))]:Str))) 140737488355328) (.need y4 (.need (I.inr Go.IntKind.i64 (I.add (I.add (Nat.cast i) 2) 1)) (.need (A ⟨[(4,(.v (.one (.p (.str R))))),(6,(.v (.one (.row 0)))),(7,(.v (.one (.p (.int .i64 (I.add (I.add (Nat.cast i) 2) 1))))))],[(.row .byte 5 (I.app (α:=UInt8) b ([(I.i2b (I.wrap Go.IntKind.u8 y0))]:Str)))],72,none⟩) .qed))))))))))))))))))))))))) (.fin (.ret (.tup [(.one (.p (.str b))),(.one (.p (.bool Bool.true)))])) [])) (by kernel_rfl) ?_
  simp only [zq]
  subst hI
  simp only [nrmA,nrmB,nrlB,reduceCtorEq]
  have e1:((i:Int)+1).toNat=i+1:=by omega
  have e2:((i:Int)+2).toNat=i+2:=by omega
  rw [e1,e2]
  have b37:(R.getD i 0).toNat=37↔R.getD i 0=37:=⟨fun h=>UInt8.toNat_inj.1 h,fun h=>by rw [h];rfl⟩
  have g0:i<R.length→¬ R.getD i 0=37→_:=fun h k=>zg0 h k
  have g1:i<R.length→R.getD i 0=37→R.length≤i+2→_:=fun h k=>zgZ h k
  have g2:i+2<R.length→R.getD i 0=37→_:=fun h k=>zg1 h k
  have l0:=(R.getD i 0).toNat_lt
  have l1:=(R.getD (i+1) 0).toNat_lt
  have l2:=(R.getD (i+2) 0).toNat_lt
  have m1:=zcb (k:=((R.getD (i+1) 0).toNat:Int)) ⟨by omega,by omega⟩
  have m2:=zcb (k:=((R.getD (i+2) 0).toNat:Int)) ⟨by omega,by omega⟩
  have hend: ¬ i<R.length→r=some b:=fun h=>by rw [h3,List.drop_of_length_le (by omega)];simp [pctM]
  have hA2:=fun(c:UInt8) (j:Nat) (h:i<j) (hj:j≤R.length) (e:pctM (R.drop i)=(pctM (R.drop j)).map (c:: ·))=>hA (j,b++[c]) ⟨hj,by rw [List.length_append,List.length_singleton];omega,by rw [h3,e,Option.map_map];congr 1;funext x;simp⟩ (by simp only;omega)
  generalize R.getD i 0=x0 at *
  generalize R.getD (i+1) 0=x1 at *
  generalize R.getD (i+2) 0=x2 at *
  refine⟨fun c=>⟨by omega,fun c2=>⟨by omega,by omega,by simp only [List.length_singleton];omega,by omega,?_⟩,fun c2=> ?_⟩,fun c=> ?_⟩
  · have:=hA2 x0 (i+1) (by omega) (by omega) (g0 (by omega) (fun h=>c2 (by have:=b37.2 h;omega)))
    simp only [Int.natCast_add,Int.natCast_one] at this
    exact this
  · have hx:x0=37:=b37.1 (by omega)
    subst hx
    have gs:R.length≤i+2→r=none:=fun h=>by rw [h3,g1 (by omega) rfl h];rfl
    have gm:=fun h=>g2 h rfl
    have gn:i+2<R.length→(hexK (x1.toNat:Int)<0∨hexK (x2.toNat:Int)<0)→r=none:=fun h k=>by rw [h3,gm h,if_pos k];rfl
    have gy:i+2<R.length→¬ hexK (x1.toNat:Int)<0→¬ hexK (x2.toNat:Int)<0→_:=fun h k k2=>hA2 (UInt8.ofNat (16 * hexK (x1.toNat:Int)+hexK (x2.toNat:Int)).toNat) (i+3) (by omega) (by omega) (by rw [gm h,if_neg (fun q=>q.elim k k2)])
    have wr: ¬ hexK (x1.toNat:Int)<0→¬ hexK (x2.toNat:Int)<0→IntKind.u8.wrap (16 * hexK (x1.toNat:Int)+hexK (x2.toNat:Int))=16 * hexK (x1.toNat:Int)+hexK (x2.toNat:Int):=fun k k2=>zgT _ ⟨by omega,by omega⟩
    (repeat' (first|refine And.intro ?_ ?_|intro _))<;>first|omega|exact True.intro|exact False.elim ‹False›|skip
    all_goals first
      |omega
      |(rw [gs (by omega)];done)
      |(rw [gs (by omega)];rfl)
      |(rw [gn (by omega) (Or.inl ‹_›)];rfl)
      |(rw [gn (by omega) (Or.inr ‹_›)];rfl)
      |(rw [wr ‹_› ‹_›];omega)
      |(simp only [List.length_singleton];omega)
      |(rw [wr ‹_› ‹_›,show(i:Int)+2+1=((i+3:Nat):Int) by omega];exact gy (by omega) ‹_› ‹_›)
  · rw [hend (by omega)]
    exact⟨rfl,rfl⟩
def VD (I:Alg) (args:List D) (hp:List HO):Option CT:=match args,hp with
  |[.v (.one (.p (.str s)))],[]=>(fun(s:Str)=>(some (.one ⟨I.hid (s.length≤1000000),(.ret (.tup [(.one (.p (.str (I.hid ((extV s)))))),(.one (.p (.bool (I.hid ((extB s))))))])),[]⟩):Option CT)) s
  |_,_=>none
theorem zcE:zy Tryd.prog 30 (VD alg):=by
  intro args hp r h
  unfold VD at h
  split at h
  · cases h;exact fun hn=>zha _ hn
  · cases h
def zfG:Know Tryd.prog:=⟨30,VD,zcE⟩
def zfF:Know Tryd.prog:=⟨30,fun I=>zC I (VD I),zf zcE⟩
theorem zby (s:Str) (i:Nat) (h:i<s.length):(s.take (i+1)).foldl ve []=ve ((s.take i).foldl ve []) (s.getD i 0):=by
  rw [List.take_succ_eq_append_getElem h,List.foldl_append]
  simp [h]
theorem zdp (s:Str): ∀ b:Str,(s.foldl ve b).length≤b.length+s.length:=by
  induction s with
  |nil=>intro b;simp
  | cons c r ih=>
    intro b
    have h:=ih (ve b c)
    have h2:(ve b c).length≤b.length+1:=by
      unfold ve
      repeat' split
      all_goals simp
    rw [List.foldl_cons,List.length_cons];omega
theorem uQ (c:UInt8) (k:Nat) (h:k<256):(c.toNat:Int)=(k:Int)↔c=UInt8.ofNat k:=by
  constructor
  · intro e
    rw [← UInt8.toNat_inj,UInt8.toNat_ofNat',Nat.mod_eq_of_lt h];omega
  · intro e
    rw [e,UInt8.toNat_ofNat',Nat.mod_eq_of_lt h]
theorem zdq (b:Str) (c:UInt8):ve b c=if(c.toNat:Int)=47 then [] else if(c.toNat:Int)=92 then [] else if(c.toNat:Int)=9 then b++[95] else if vK (c.toNat:Int)=false then b++[95] else if(c.toNat:Int)=34 then b++[95] else if(c.toNat:Int)=58 then b++[95] else if(c.toNat:Int)=46 then(if(b.length:Int)=0 then b else b++[c]) else b++[c]:=by
  have h0:(b.length:Int)=0↔b=[]:=by rw [← List.length_eq_zero_iff];omega
  have e1:(c.toNat:Int)=47↔c=47:=uQ c 47 (by decide)
  have e2:(c.toNat:Int)=92↔c=92:=uQ c 92 (by decide)
  have e3:(c.toNat:Int)=9↔c=9:=uQ c 9 (by decide)
  have e4:(c.toNat:Int)=34↔c=34:=uQ c 34 (by decide)
  have e5:(c.toNat:Int)=58↔c=58:=uQ c 58 (by decide)
  have e6:(c.toNat:Int)=46↔c=46:=uQ c 46 (by decide)
  simp only [e1,e2,e3,e4,e5,e6,h0]
  unfold ve
  generalize vK (c.toNat:Int)=k
  clear e1 e2 e3 e4 e5 e6 h0
  repeat' split
  all_goals simp_all
theorem zgD (s:Str) (hneed:s.length≤1000000):Spc Tryd.prog 17 [.v (.one (.p (.str s)))] [] (.ret (.v (.one (.p (.str ((uN s))))))) []:=by
  refine spcG zl mixed Tryd.func17 (by kernel_rfl) { nr:=[3],keep:=some [0,2,3,4,5,7,8]} [xZ,tN] (by kernel_rfl) ?_
  intro I X hI hX
  refine zi (.code 0 [1,1,0,1,0] ⟨[(8,(.v (.one (.p (.int .i64 0))))),(7,(.v (.one (.p (.int .i64 (I.len (α:=UInt8) s)))))),(3,(.v (.one (.row 0)))),(2,(.v (.one (.p (.str ([]:Str)))))),(0,(.v (.one (.p (.str s)))))],[(.row .byte 5 ([]:Str))],63,none⟩) (by kernel_rfl) ?_
  simp only [zq]
  refine zF hI zl mixed [xZ,tN] hX [0,3,7,8] (fun(g:Nat × Str)=>match g with|(i,b)=>i≤s.length∧b=(s.take i).foldl ve []) (fun(g:Nat × Str)=>match g with|(i,b)=>⟨[(0,.v (.one (.p (.str s)))),(3,.v (.one (.row 0))),(7,.v (.one (.p (.int .i64 ((I.len (α:=UInt8) s)))))),(8,.v (.one (.p (.int .i64 i))))],[.row .byte 5 b],63,none⟩) (fun(g:Nat × Str)=>match g with|(i,b)=>s.length - i) (0,[]) (by kernel_rfl) (by kernel_rfl) ?_ ?_
  · exact⟨Nat.zero_le _,rfl⟩
  rintro⟨i,b⟩ ⟨h1,h2⟩ A hA
  simp only at hA h1 h2
  refine zi (let y0:=I.b2i (I.get (α:=UInt8) s 0 (Nat.cast i));let y1:=I.inr Go.IntKind.i64 (I.add (Nat.cast i) 1);let y2:=I.few (I.add (I.len (α:=UInt8) b) (I.len (α:=UInt8) ([(I.i2b 95)]:Str))) 140737488355328;let y3:HO:=.row .byte 5 (I.app (α:=UInt8) b ([(I.i2b 95)]:Str));let y4:=I.few (I.add (I.len (α:=UInt8) b) (I.len (α:=UInt8) ([(I.i2b y0)]:Str))) 140737488355328;let y5:HO:=.row .byte 5 (I.app (α:=UInt8) b ([(I.i2b y0)]:Str));.br (I.ilt (Nat.cast i) (I.len (α:=UInt8) s)) (.need (I.inb (Nat.cast i) (I.len (α:=UInt8) s)) (.br (I.ieq y0 47) (.need y1 (.need (A ⟨[(0,(.v (.one (.p (.str s))))),(3,(.v (.one (.row 0)))),(7,(.v (.one (.p (.int .i64 (I.len (α:=UInt8) s)))))),(8,(.v (.one (.p (.int .i64 (I.add (Nat.cast i) 1))))))],[(.row .byte 5 ([]:Str))],63,none⟩) .qed)) (.br (I.ieq y0 92) (.need y1 (.need (A ⟨[(0,(.v (.one (.p (.str s))))),(3,(.v (.one (.row 0)))),(7,(.v (.one (.p (.int .i64 (I.len (α:=UInt8) s)))))),(8,(.v (.one (.p (.int .i64 (I.add (Nat.cast i) 1))))))],[(.row .byte 5 ([]:Str))],63,none⟩) .qed)) (.br (I.ieq y0 9) (.need (I.inr Go.IntKind.u8 95) (.need y2 (.need y1 (.need (A ⟨[(0,(.v (.one (.p (.str s))))),(3,(.v (.one (.row 0)))),(7,(.v (.one (.p (.int .i64 (I.len (α:=UInt8) s)))))),(8,(.v (.one (.p (.int .i64 (I.add (Nat.cast i) 1))))))],[y3],63,none⟩) .qed)))) (.need (I.hid (α:=(Prop)) True) (.br (I.bnot (I.hid (α:=Bool) (vK y0))) (.need (I.inr Go.IntKind.u8 95) (.need y2 (.need y1 (.need (A ⟨[(0,(.v (.one (.p (.str s))))),(3,(.v (.one (.row 0)))),(7,(.v (.one (.p (.int .i64 (I.len (α:=UInt8) s)))))),(8,(.v (.one (.p (.int .i64 (I.add (Nat.cast i) 1))))))],[y3],63,none⟩) .qed)))) (.br (I.ieq y0 34) (.need (I.inr Go.IntKind.u8 95) (.need y2 (.need y1 (.need (A ⟨[(0,(.v (.one (.p (.str s))))),(3,(.v (.one (.row 0)))),(7,(.v (.one (.p (.int .i64 (I.len (α:=UInt8) s)))))),(8,(.v (.one (.p (.int .i64 (I.add (Nat.cast i) 1))))))],[y3],63,none⟩) .qed)))) (.br (I.ieq y0 58) (.need (I.inr Go.IntKind.u8 95) (.need y2 (.need y1 (.need (A ⟨[(0,(.v (.one (.p (.str s))))),(3,(.v (.one (.row 0)))),(7,(.v (.one (.p (.int .i64 (I.len (α:=UInt8) s)))))),(8,(.v (.one (.p (.int .i64 (I.add (Nat.cast i) 1))))))],[y3],63,none⟩) .qed)))) (.br (I.ieq y0 46) (.br (I.ieq (I.len (α:=UInt8) b) 0) (.need y1 (.need (A ⟨[(0,(.v (.one (.p (.str s))))),(3,(.v (.one (.row 0)))),(7,(.v (.one (.p (.int .i64 (I.len (α:=UInt8) s)))))),(8,(.v (.one (.p (.int .i64 (I.add (Nat.cast i) 1))))))],[(.row .byte 5 b)],63,none⟩) .qed)) (.need (I.inr Go.IntKind.u8 y0) (.need y4 (.need y1 (.need (A ⟨[(0,(.v (.one (.p (.str s))))),(3,(.v (.one (.row 0)))),(7,(.v (.one (.p (.int .i64 (I.len (α:=UInt8) s)))))),(8,(.v (.one (.p (.int .i64 (I.add (Nat.cast i) 1))))))],[y5],63,none⟩) .qed))))) (.need (I.inr Go.IntKind.u8 y0) (.need y4 (.need y1 (.need (A ⟨[(0,(.v (.one (.p (.str s))))),(3,(.v (.one (.row 0)))),(7,(.v (.one (.p (.int .i64 (I.len (α:=UInt8) s)))))),(8,(.v (.one (.p (.int .i64 (I.add (Nat.cast i) 1))))))],[y5],63,none⟩) .qed))))))))))))) (.br (I.ilt 40 (I.len (α:=UInt8) b)) (.need (I.cutb 0 40 (I.len (α:=UInt8) b)) (.br (I.ieq (I.sub 40 0) 0) (.fin (.ret (.v (.one (.p (.str ([102,105,108,101]:Str)))))) []) (.fin (.ret (.v (.one (.p (.str (I.cut (α:=UInt8) b 0 40)))))) []))) (.br (I.ieq (I.len (α:=UInt8) b) 0) (.fin (.ret (.v (.one (.p (.str ([102,105,108,101]:Str)))))) []) (.fin (.ret (.v (.one (.p (.str b))))) [])))) (by kernel_rfl) ?_
  simp only [zq]
  subst hI
  simp only [nrmA,nrmB,nrlB,reduceCtorEq]
  have hs:=zby s i
  have hbl:=zdp (s.take i) []
  rw [← h2] at hs hbl
  rw [List.length_take,List.length_nil] at hbl
  have hA2:i<s.length→_:=fun h=>hA (i+1,ve b (s.getD i 0)) ⟨by simp only;omega,(hs h).symm⟩ (by simp only;omega)
  have l0:=(s.getD i 0).toNat_lt
  rw [zdq] at hA2
  have hend: ¬ i<s.length→s.foldl ve []=b:=fun h=>by rw [h2,List.take_of_length_le (by omega)]
  have hm: ¬ i<s.length→uN s=if b.take 40=[] then [102,105,108,101] else b.take 40:=fun h=>by unfold uN;rw [hend h]
  have hn:0<b.length→¬ b.take 40=[]:=fun h k=>by have:=congrArg List.length k;rw [List.length_take,List.length_nil] at this;omega
  generalize s.getD i 0=c at *
  (repeat' (first|refine And.intro ?_ ?_|intro _))<;>first|omega|exact True.intro|exact False.elim ‹False›|skip
  all_goals first
    |omega
    |exact⟨by omega,by omega⟩
    |(simp only [List.length_singleton];omega)
    |(rw [hm (by omega),if_neg (hn (by omega))];first|rfl|exact(List.take_of_length_le (by omega)).symm)
    |(rw [hm (by omega),if_pos (by rw [List.eq_nil_of_length_eq_zero (show b.length=0 by omega)];rfl)])
    |(have h:=hA2 (by omega);(repeat(first|rw [if_pos (by first|omega|assumption)] at h|rw [if_neg (by first|omega|assumption|simpa using ‹_=true›)] at h));simp only [Int.natCast_add,Int.natCast_one] at h;exact h)
def YF (I:Alg) (args:List D) (hp:List HO):Option CT:=match args,hp with
  |[.v (.one (.p (.str s)))],[]=>(fun(s:Str)=>(some (.one ⟨I.hid (s.length≤1000000),(.ret (.v (.one (.p (.str (I.hid ((uN s)))))))),[]⟩):Option CT)) s
  |_,_=>none
theorem zab:zy Tryd.prog 17 (YF alg):=by
  intro args hp r h
  unfold YF at h
  split at h
  · cases h;exact fun hn=>zgD _ hn
  · cases h
def rC:Know Tryd.prog:=⟨17,YF,zab⟩
def ru:Know Tryd.prog:=⟨17,fun I=>zC I (YF I),zf zab⟩
theorem zgG (s:Str) (hneed:s.length≤1000000):Spc Tryd.prog 21 [.v (.one (.p (.str s)))] [] (.ret (.v (.one (.p (.bool ((vz s))))))) []:=by
  refine spcG zl mixed Tryd.func21 (by kernel_rfl) { keep:=some [0,2]} [tq,uZ,zat,zas] (by kernel_rfl) ?_
  intro I X hI hX
  refine zi (.br (I.ilt 70 (I.len (α:=UInt8) s)) (.fin (.ret (.v (.one (.p (.bool Bool.false))))) []) (.need (I.hid (α:=(Prop)) (LE.le (List.length s) 1000000)) (.br (I.bnot (I.hid (α:=Bool) (xE s))) (.fin (.ret (.v (.one (.p (.bool Bool.false))))) []) (.need (I.hid (α:=(Prop)) True) (.br (I.bnot (I.seq (I.hid (α:=Str) (Go.Lib.trimS s ([32,9]:Str))) s)) (.fin (.ret (.v (.one (.p (.bool Bool.false))))) []) (.fin (.ret (.v (.one (.p (.bool (I.bnot (I.seq s ([]:Str)))))))) [])))))) (by kernel_rfl) ?_
  simp only [zq]
  subst hI
  simp only [nrmA,nrmB,nrlB,reduceCtorEq]
  unfold vz
  have h70:(70<s.length)↔((70:Int)<(s.length:Int)):=by omega
  simp only [h70]
  (repeat' (first|refine And.intro ?_ ?_|intro _))<;>first|omega|exact True.intro|exact False.elim ‹False›|skip
  all_goals first
    |omega
    |(rw [decide_eq_false (by omega),‹xE s=true›,decide_eq_true ‹Lib.trimS s _=s›];cases s<;>simp)
    |(simp_all;done)
def YI (I:Alg) (args:List D) (hp:List HO):Option CT:=match args,hp with
  |[.v (.one (.p (.str s)))],[]=>(fun(s:Str)=>(some (.one ⟨I.hid (s.length≤1000000),(.ret (.v (.one (.p (.bool (I.hid ((vz s)))))))),[]⟩):Option CT)) s
  |_,_=>none
theorem zae:zy Tryd.prog 21 (YI alg):=by
  intro args hp r h
  unfold YI at h
  split at h
  · cases h;exact fun hn=>zgG _ hn
  · cases h
def VB:Know Tryd.prog:=⟨21,YI,zae⟩
def VA:Know Tryd.prog:=⟨21,fun I=>zC I (YI I),zf zae⟩
end Go.Proofs.YtknaogelmckimaaDoor
namespace Go.Proofs.YtknaogelmckimaaDoor
open Go Go.Sep Go.Ab
set_option maxRecDepth 100000
theorem zbo (s:Str):Spc Tryd.prog 83 [.v (.one (.p (.str s))),.v (.one (.p (.str ([32,9]))))] [] (.ret (.v (.one (.p (.str ((skS s))))))) []:=by
  refine Spc.of_below ⟨_,Tryd.func83,by kernel_rfl,by kernel_rfl⟩ fun S bs w vs _ hM=> ?_
  obtain⟨v,r,rfl⟩: ∃ v r,vs=v::r:=by cases vs with|nil=>exact hM.elim|cons v r=>exact⟨v,r,rfl⟩
  obtain⟨h1,hM⟩:=hM
  obtain⟨v2,r2,rfl⟩: ∃ v r2,r=v::r2:=by cases r with|nil=>exact hM.elim|cons v r=>exact⟨v,r,rfl⟩
  obtain⟨h2,hM⟩:=hM
  obtain rfl:r2=[]:=by cases r2 with|nil=>rfl|cons v r=>exact hM.elim
  cases h1 with
  | str _ hl1=>
    cases h2 with
    | str _ hl2=>
      refine⟨.string (Sep.S (skS s)),.str _ (Nat.le_trans (yP _) hl1),?_⟩
      exact Tryd.strings_TrimLeft_laid (Sep.S s) (Sep.S [32,9]) w (by decide) (fun j b hb=>by
        have:=List.mem_of_getElem? hb
        rcases(by simpa [Sep.S] using this:b=32∨b=9) with rfl|rfl<;>decide)
def vS (I:Alg) (args:List D) (hp:List HO):Option CT:=match args,hp with
  |[.v (.one (.p (.str s))),.v (.one (.p (.str ([32,9]))))],[]=>(fun(s:Str)=>(some (.one ⟨I.hid (True),(.ret (.v (.one (.p (.str (I.hid ((skS s)))))))),[]⟩):Option CT)) s
  |_,_=>none
theorem YO:zy Tryd.prog 83 (vS alg):=by
  intro args hp r h
  unfold vS at h
  split at h
  · cases h;exact fun hn=>zbo _
  · cases h
def TQ:Know Tryd.prog:=⟨83,vS,YO⟩
def TP:Know Tryd.prog:=⟨83,fun I=>zC I (vS I),zf YO⟩
theorem zeY (b:Bool) (c:Int) (hneed:b=false):Spc Tryd.prog 69 [.v (.one (.p (.bool b))),.v (.one (.p (.int .i64 c)))] [] (.ret (.tup [])) []:=by
  refine spcG zl mixed Tryd.func69 (by kernel_rfl) { keep:=some [0,1]} [] (by kernel_rfl) ?_
  intro I X hI hX
  refine zi (.br b (.fin (.pan (.ifc 91 .false [(.int .i64 c)])) []) (.fin (.ret (.tup [])) [])) (by kernel_rfl) ?_
  simp only [zq]
  subst hI
  simp only [nrmA,nrmB]
  (repeat' (first|refine And.intro ?_ ?_|intro _))<;>first|omega|exact True.intro|exact False.elim ‹False›|skip
  all_goals simp_all
theorem zeX (b:Bool) (c:Int) (hneed:b=true):Spc Tryd.prog 69 [.v (.one (.p (.bool b))),.v (.one (.p (.int .i64 c)))] [] (.pan (.ifc 91 false [(.int .i64 c)])) []:=by
  refine spcG zl mixed Tryd.func69 (by kernel_rfl) { keep:=some [0,1]} [] (by kernel_rfl) ?_
  intro I X hI hX
  refine zi (.br b (.fin (.pan (.ifc 91 .false [(.int .i64 c)])) []) (.fin (.ret (.tup [])) [])) (by kernel_rfl) ?_
  simp only [zq]
  subst hI
  simp only [nrmA,nrmB]
  (repeat' (first|refine And.intro ?_ ?_|intro _))<;>first|omega|exact True.intro|exact False.elim ‹False›|skip
  all_goals simp_all
def Yr (I:Alg) (args:List D) (hp:List HO):Option CT:=match args,hp with
  |[.v (.one (.p (.bool b))),.v (.one (.p (.int .i64 c)))],[]=>(fun(b:Bool) (c:Int)=>(some (.br (I.hid (b)) (.one ⟨I.hid (b=true),(.pan (.ifc 91 false [(.int .i64 c)])),[]⟩) (.one ⟨I.hid (b=false),(.ret (.tup [])),[]⟩)):Option CT)) b c
  |_,_=>none
theorem Qw:zy Tryd.prog 69 (Yr alg):=by
  intro args hp r h
  unfold Yr at h
  split at h
  · cases h;exact⟨fun _ hn=>zeX _ _ hn,fun _ hn=>zeY _ _ hn⟩
  · cases h
def yG:Know Tryd.prog:=⟨69,Yr,Qw⟩
def yF:Know Tryd.prog:=⟨69,fun I=>zC I (Yr I),zf Qw⟩
theorem zdB (s:Str):Spc Tryd.prog 65 [.v (.one (.ptr 0 0))] [.pack [.obj 95 [(.p (.str s))]]] (.ret (.tup [])) [.pack [.obj 95 [(.p (.str ((skS s))))]]]:=by
  refine spcG zl mixed Tryd.func65 (by kernel_rfl) { keep:=some [0]} [TQ,TP] (by kernel_rfl) ?_
  intro I X hI hX
  refine zi (.need (I.hid (α:=(Prop)) True) (.fin (.ret (.tup [])) [(.pack [(.obj 95 [(.p (.str (I.hid (α:=Str) (skS s))))])])])) (by kernel_rfl) ?_
  simp only [zq]
  subst hI
  simp only [nrmA,nrmB,nrlB,reduceCtorEq,HO.pack.injEq,HO.obj.injEq]
  try trivial
def sG (I:Alg) (args:List D) (hp:List HO):Option CT:=match args,hp with
  |[.v (.one (.ptr 0 0))],[.pack [.obj 95 [(.p (.str s))]]]=>(fun(s:Str)=>(some (.one ⟨I.hid (True),(.ret (.tup [])),[.pack [.obj 95 [(.p (.str (I.hid ((skS s)))))]]]⟩):Option CT)) s
  |_,_=>none
theorem X4:zy Tryd.prog 65 (sG alg):=by
  intro args hp r h
  unfold sG at h
  split at h
  · cases h;exact fun hn=>zdB _
  · cases h
def sF:Know Tryd.prog:=⟨65,sG,X4⟩
def sD:Know Tryd.prog:=⟨65,fun I=>zC I (sG I),zf X4⟩
theorem zf8 (s:Str) (k:Int) (hneed:0≤k∧k≤255):Spc Tryd.prog 67 [.v (.one (.ptr 0 0)),.v (.one (.p (.int .u8 k)))] [.pack [.obj 95 [(.p (.str s))]]] (.ret (.v (.one (.p (.bool ((zN s (UInt8.ofNat k.toNat)))))))) [.pack [.obj 95 [(.p (.str ((if zN s (UInt8.ofNat k.toNat)=true then s.drop 1 else s))))]]]:=by
  generalize hr:zN s (UInt8.ofNat k.toNat)=r
  refine spcG zl mixed Tryd.func67 (by kernel_rfl) { keep:=some [0,1,4,5]} [] (by kernel_rfl) ?_
  intro I X hI hX
  refine zi (let y0:=I.ieq (I.b2i (I.get (α:=UInt8) s 0 0)) k;let y1:HO:=.pack [(.obj 95 [(.p (.str s))])];.br (I.bnot (I.seq s ([]:Str))) (.need (I.inb 0 (I.len (α:=UInt8) s)) (.br y0 (.need (I.cutb 1 (I.len (α:=UInt8) s) (I.len (α:=UInt8) s)) (.fin (.ret (.v (.one (.p (.bool y0))))) [(.pack [(.obj 95 [(.p (.str (I.cut (α:=UInt8) s 1 (I.len (α:=UInt8) s))))])])])) (.fin (.ret (.v (.one (.p (.bool y0))))) [y1]))) (.fin (.ret (.v (.one (.p (.bool Bool.false))))) [y1])) (by kernel_rfl) ?_
  simp only [zq]
  subst hI
  simp only [nrmA,nrmB,nrlB,reduceCtorEq,HO.pack.injEq,HO.obj.injEq]
  have hk:((UInt8.ofNat k.toNat).toNat:Int)=k:=by rw [UInt8.toNat_ofNat',Nat.mod_eq_of_lt (by omega)];omega
  have hk2: ∀ c:UInt8,(c.toNat:Int)=k↔c=UInt8.ofNat k.toNat:=fun c=>⟨fun h=>by rw [← h];simp,fun h=>by rw [h];exact hk⟩
  rw [drop1]
  have hs:s=[]↔s.length=0:=List.length_eq_zero_iff.symm
  rw [hs]
  cases r with
  | true=>
    obtain⟨h1,h2⟩:=Wq.1 hr
    have hkk:=(hk2 _).2 h2
    rw [hkk]
    (repeat' (first|refine And.intro ?_ ?_|intro _))<;>first|omega|exact True.intro|exact False.elim ‹False›|skip
    all_goals first|omega|(simp;done)|(simp_all;done)
  | false=>
    have h1:0<s.length→¬ ((s.getD 0 0).toNat:Int)=k:=fun h q=>by rw [Wq.2 ⟨h,(hk2 _).1 q⟩] at hr;cases hr
    (repeat' (first|refine And.intro ?_ ?_|intro _))<;>first|omega|exact True.intro|exact False.elim ‹False›|skip
    all_goals first|omega|(simp;done)|(exfalso;exact h1 (by omega) ‹_›)|(have:=h1 (by omega);simp_all;done)|trace_state
def Yp (I:Alg) (args:List D) (hp:List HO):Option CT:=match args,hp with
  |[.v (.one (.ptr 0 0)),.v (.one (.p (.int .u8 k)))],[.pack [.obj 95 [(.p (.str s))]]]=>(fun(s:Str) (k:Int)=>(some (.one ⟨I.hid (0≤k∧k≤255),(.ret (.v (.one (.p (.bool (I.hid ((zN s (UInt8.ofNat k.toNat))))))))),[.pack [.obj 95 [(.p (.str (I.hid ((if zN s (UInt8.ofNat k.toNat)=true then s.drop 1 else s)))))]]]⟩):Option CT)) s k
  |_,_=>none
theorem Qr:zy Tryd.prog 67 (Yp alg):=by
  intro args hp r h
  unfold Yp at h
  split at h
  · cases h;exact fun hn=>zf8 _ _ hn
  · cases h
def su:Know Tryd.prog:=⟨67,Yp,Qr⟩
def tZ:Know Tryd.prog:=⟨67,fun I=>zC I (Yp I),zf Qr⟩
theorem zf3 (s:Str) (hneed:s.length≤1000000∧¬ tokS s=[]):Spc Tryd.prog 66 [.v (.one (.ptr 0 0))] [.pack [.obj 95 [(.p (.str s))]]] (.ret (.v (.one (.p (.str ((tokS s))))))) [.pack [.obj 95 [(.p (.str ((tokE s))))]]]:=by
  obtain⟨hl,hne⟩:=hneed
  refine spcG zl mixed Tryd.func66 (by kernel_rfl) { keep:=some [0,2,3,4]} [vT,ql,yG,yF] (by kernel_rfl) ?_
  intro I X hI hX
  refine zi (.code 0 [1,1,0,0] ⟨[(3,(.v (.one (.p (.int .i64 0))))),(2,(.v (.one (.p (.str ([]:Str)))))),(0,(.v (.one (.ptr 0 0))))],[(.pack [(.obj 95 [(.p (.str s))])])],42,none⟩) (by kernel_rfl) ?_
  simp only [zq]
  refine zF hI zl mixed [vT,ql,yG,yF] hX [0,3] (fun(i:Nat)=>i≤(tokS s).length) (fun(i:Nat)=>⟨[(0,.v (.one (.ptr 0 0))),(3,.v (.one (.p (.int .i64 i))))],[.pack [.obj 95 [(.p (.str s))]]],42,none⟩) (fun(i:Nat)=>s.length - i) 0 (by kernel_rfl) (by kernel_rfl) ?_ ?_
  · exact Nat.zero_le _
  rintro i h1 A hA
  refine zi (let y7:=I.cut (α:=UInt8) s 0 (Int.ofNat i);let y0:=I.seq y7 ([]:Str);let y1:HO:=.pack [(.obj 95 [(.p (.str (I.cut (α:=UInt8) s (Int.ofNat i) (I.len (α:=UInt8) s))))])];let y2:=I.b2i (I.get (α:=UInt8) s 0 (Nat.cast i));let y3:=I.cutb (Int.ofNat i) (I.len (α:=UInt8) s) (I.len (α:=UInt8) s);let y4:=I.cutb 0 (Int.ofNat i) (I.len (α:=UInt8) s);let y5:=I.hid (α:=(Prop)) (Eq y0 Bool.false);let y6:=I.hid (α:=(Prop)) (Eq y0 Bool.true);.br (I.ilt (Nat.cast i) (I.len (α:=UInt8) s)) (.need (I.inb (Nat.cast i) (I.len (α:=UInt8) s)) (.need (I.hid (α:=(Prop)) (And (LE.le (0:Int) y2) (LE.le y2 (255:Int)))) (.br (I.hid (α:=Bool) (tokB y2)) (.need (I.inr Go.IntKind.i64 (I.add (Nat.cast i) 1)) (.need (A ⟨[(0,(.v (.one (.ptr 0 0)))),(3,(.v (.one (.p (.int .i64 (I.add (Nat.cast i) 1))))))],[(.pack [(.obj 95 [(.p (.str s))])])],42,none⟩) .qed)) (.need y4 (.need y3 (.br (I.hid (α:=Bool) y0) (.need y6 (.fin (.pan (.ifc 91 .false [(.int .i64 5)])) [y1])) (.need y5 (.fin (.ret (.v (.one (.p (.str y7))))) [y1])))))))) (.need y4 (.need y3 (.br (I.hid (α:=Bool) y0) (.need y6 (.fin (.pan (.ifc 91 .false [(.int .i64 5)])) [y1])) (.need y5 (.fin (.ret (.v (.one (.p (.str y7))))) [y1])))))) (by kernel_rfl) ?_
  simp only [zq]
  subst hI
  simp only [nrmA,nrmB,nrlB,reduceCtorEq,HO.pack.injEq,HO.obj.injEq]
  have hb:=xC (s.getD i 0)
  have hs:=zbm (p:=isTk) (s:=s) h1
  have hle:=xU s
  have ht:=zeJ isTk s
  have hd:=drop_tw isTk s
  unfold isTk at hs
  change _↔i<(tokS s).length at hs
  change s.take (tokS s).length=tokS s at ht
  change s.drop (tokS s).length=tokE s at hd
  have hlen:=zeI s
  have hend: ¬ i<(tokS s).length→i=(tokS s).length:=fun h=>by omega
  generalize s.getD i 0=x at *
  have hgo:i<(tokS s).length→A ⟨[(0,.v (.one (.ptr 0 0))),(3,.v (.one (.p (.int .i64 (((i:Int)+1))))))],[.pack [.obj 95 [(.p (.str s))]]],42,none⟩:=fun h=>hA (i+1) (by omega) (by omega)
  by_cases hi:i<(tokS s).length
  · have hi2:=hs.2 hi
    clear hs hend ht hd hA
    (repeat' (first|refine And.intro ?_ ?_|intro _))<;>first|omega|exact True.intro|exact False.elim ‹False›|skip
    all_goals first
      |omega
      |exact hgo hi
      |(exfalso;simp_all;done)
  · have hx:i<s.length→tokB (x.toNat:Int)=true→False:=fun a b=>hi (hs.1 ⟨a,b⟩)
    have hi2:=hend hi
    clear hs hend hA hgo
    subst hi2
    rw [ht]
    have hcut:List.take (s.length - (tokS s).length) (List.drop (tokS s).length s)=tokE s:=by rw [hd];exact List.take_of_length_le (by omega)
    rw [hcut]
    (repeat' (first|refine And.intro ?_ ?_|intro _))<;>first|omega|exact True.intro|exact False.elim ‹False›|skip
    all_goals first
      |omega
      |(exfalso;exact hx (by omega) ‹_›)
      |(exfalso;exact hne ‹_›)
      |(simp [hne];done)
theorem zf2 (s:Str) (hneed:s.length≤1000000∧tokS s=[]):Spc Tryd.prog 66 [.v (.one (.ptr 0 0))] [.pack [.obj 95 [(.p (.str s))]]] (.pan (.ifc 91 false [(.int .i64 5)])) [.pack [.obj 95 [(.p (.str ((tokE s))))]]]:=by
  obtain⟨hl,hne⟩:=hneed
  refine spcG zl mixed Tryd.func66 (by kernel_rfl) { keep:=some [0,2,3,4]} [vT,ql,yG,yF] (by kernel_rfl) ?_
  intro I X hI hX
  refine zi (.code 0 [1,1,0,0] ⟨[(3,(.v (.one (.p (.int .i64 0))))),(2,(.v (.one (.p (.str ([]:Str)))))),(0,(.v (.one (.ptr 0 0))))],[(.pack [(.obj 95 [(.p (.str s))])])],42,none⟩) (by kernel_rfl) ?_
  simp only [zq]
  refine zF hI zl mixed [vT,ql,yG,yF] hX [0,3] (fun(i:Nat)=>i≤(tokS s).length) (fun(i:Nat)=>⟨[(0,.v (.one (.ptr 0 0))),(3,.v (.one (.p (.int .i64 i))))],[.pack [.obj 95 [(.p (.str s))]]],42,none⟩) (fun(i:Nat)=>s.length - i) 0 (by kernel_rfl) (by kernel_rfl) ?_ ?_
  · exact Nat.zero_le _
  rintro i h1 A hA
  refine zi (let y7:=I.cut (α:=UInt8) s 0 (Int.ofNat i);let y0:=I.seq y7 ([]:Str);let y1:HO:=.pack [(.obj 95 [(.p (.str (I.cut (α:=UInt8) s (Int.ofNat i) (I.len (α:=UInt8) s))))])];let y2:=I.b2i (I.get (α:=UInt8) s 0 (Nat.cast i));let y3:=I.cutb (Int.ofNat i) (I.len (α:=UInt8) s) (I.len (α:=UInt8) s);let y4:=I.cutb 0 (Int.ofNat i) (I.len (α:=UInt8) s);let y5:=I.hid (α:=(Prop)) (Eq y0 Bool.false);let y6:=I.hid (α:=(Prop)) (Eq y0 Bool.true);.br (I.ilt (Nat.cast i) (I.len (α:=UInt8) s)) (.need (I.inb (Nat.cast i) (I.len (α:=UInt8) s)) (.need (I.hid (α:=(Prop)) (And (LE.le (0:Int) y2) (LE.le y2 (255:Int)))) (.br (I.hid (α:=Bool) (tokB y2)) (.need (I.inr Go.IntKind.i64 (I.add (Nat.cast i) 1)) (.need (A ⟨[(0,(.v (.one (.ptr 0 0)))),(3,(.v (.one (.p (.int .i64 (I.add (Nat.cast i) 1))))))],[(.pack [(.obj 95 [(.p (.str s))])])],42,none⟩) .qed)) (.need y4 (.need y3 (.br (I.hid (α:=Bool) y0) (.need y6 (.fin (.pan (.ifc 91 .false [(.int .i64 5)])) [y1])) (.need y5 (.fin (.ret (.v (.one (.p (.str y7))))) [y1])))))))) (.need y4 (.need y3 (.br (I.hid (α:=Bool) y0) (.need y6 (.fin (.pan (.ifc 91 .false [(.int .i64 5)])) [y1])) (.need y5 (.fin (.ret (.v (.one (.p (.str y7))))) [y1])))))) (by kernel_rfl) ?_
  simp only [zq]
  subst hI
  simp only [nrmA,nrmB,nrlB,reduceCtorEq,HO.pack.injEq,HO.obj.injEq]
  have hb:=xC (s.getD i 0)
  have hs:=zbm (p:=isTk) (s:=s) h1
  have hd:=drop_tw isTk s
  unfold isTk at hs
  change _↔i<(tokS s).length at hs
  change s.drop (tokS s).length=tokE s at hd
  rw [hne] at h1 hs hd
  simp only [List.length_nil] at h1 hs hd
  have h0:i=0:=by omega
  subst h0
  generalize s.getD 0 0=x at *
  have hx:0<s.length→tokB (x.toNat:Int)=true→False:=fun a b=>absurd (hs.1 ⟨a,b⟩) (by omega)
  have hcut:List.take (s.length - 0) (List.drop 0 s)=tokE s:=by rw [hd];exact List.take_of_length_le (by have:=yR s;omega)
  clear hs hA
  simp only [Int.toNat_natCast,List.take_zero,hcut] at *
  (repeat' (first|refine And.intro ?_ ?_|intro _))<;>first|omega|exact True.intro|exact False.elim ‹False›|skip
  all_goals first
    |omega
    |(exfalso;exact hx (by omega) ‹_›)
    |(exfalso;rename_i hq;exact hq rfl)
    |(simp;done)
def Vf (I:Alg) (args:List D) (hp:List HO):Option CT:=match args,hp with
  |[.v (.one (.ptr 0 0))],[.pack [.obj 95 [(.p (.str s))]]]=>(fun(s:Str)=>(some (.br (I.hid (decide (tokS s=[]))) (.one ⟨I.hid (s.length≤1000000∧tokS s=[]),(.pan (.ifc 91 false [(.int .i64 5)])),[.pack [.obj 95 [(.p (.str (I.hid ((tokE s)))))]]]⟩) (.one ⟨I.hid (s.length≤1000000∧¬ tokS s=[]),(.ret (.v (.one (.p (.str (I.hid ((tokS s)))))))),[.pack [.obj 95 [(.p (.str (I.hid ((tokE s)))))]]]⟩)):Option CT)) s
  |_,_=>none
theorem zbH:zy Tryd.prog 66 (Vf alg):=by
  intro args hp r h
  unfold Vf at h
  split at h
  · cases h;exact⟨fun _ hn=>zf2 _ hn,fun _ hn=>zf3 _ hn⟩
  · cases h
def Zv:Know Tryd.prog:=⟨66,Vf,zbH⟩
def Zu:Know Tryd.prog:=⟨66,fun I=>zC I (Vf I),zf zbH⟩
theorem zf5 (s:Str) (hneed:s.length≤1000000∧(quoF s).isSome=true):Spc Tryd.prog 85 [.v (.one (.ptr 0 0))] [.pack [.obj 95 [(.p (.str s))]]] (.ret (.v (.one (.p (.str ((quoV s))))))) [.pack [.obj 95 [(.p (.str ((quoR s))))]]]:=by
  obtain⟨hl,hne⟩:=hneed
  refine spcG zl mixed Tryd.func85 (by kernel_rfl) { nr:=[3],keep:=some [0,2,3,4]} [yG,yF] (by kernel_rfl) ?_
  intro I X hI hX
  refine zi (.code 0 [1,1,0] ⟨[(3,(.v (.one (.row 1)))),(2,(.v (.one (.p (.str ([]:Str)))))),(0,(.v (.one (.ptr 0 0))))],[(.pack [(.obj 95 [(.p (.str s))])]),(.row .byte 5 ([]:Str))],53,none⟩) (by kernel_rfl) ?_
  simp only [zq]
  refine zF hI zl mixed [yG,yF] hX [0,3] (fun(g:Str × Str)=>match g with|(b,t)=>b.length+t.length≤s.length∧quoF s=(quoF t).map (fun p=>(b++p.1,p.2))) (fun(g:Str × Str)=>match g with|(b,t)=>⟨[(0,.v (.one (.ptr 0 0))),(3,.v (.one (.row 1)))],[.pack [.obj 95 [(.p (.str t))]],.row .byte 5 b],53,none⟩) (fun(g:Str × Str)=>match g with|(b,t)=>t.length) ([],s) (by kernel_rfl) (by kernel_rfl) ?_ ?_
  · exact⟨by simp,by simp⟩
  rintro⟨b,t⟩ ⟨h1,h2⟩ A hA
  refine zi (let y0:=I.cut (α:=UInt8) t 1 (I.len (α:=UInt8) t);let y1:=I.b2i (I.get (α:=UInt8) t 0 0);let y2:=I.b2i (I.get (α:=UInt8) y0 0 0);let y3:HO:=.pack [(.obj 95 [(.p (.str y0))])];.br (I.hid (α:=Bool) (I.seq t ([]:Str))) (.need (I.hid (α:=(Prop)) (Eq (I.seq t ([]:Str)) Bool.true)) (.fin (.pan (.ifc 91 .false [(.int .i64 14)])) [(.pack [(.obj 95 [(.p (.str t))])])])) (.need (I.hid (α:=(Prop)) (Eq (I.seq t ([]:Str)) Bool.false)) (.need (I.inb 0 (I.len (α:=UInt8) t)) (.need (I.cutb 1 (I.len (α:=UInt8) t) (I.len (α:=UInt8) t)) (.br (I.ieq y1 34) (.fin (.ret (.v (.one (.p (.str b))))) [y3]) (.br (I.ieq y1 92) (.br (I.hid (α:=Bool) (I.seq y0 ([]:Str))) (.need (I.hid (α:=(Prop)) (Eq (I.seq y0 ([]:Str)) Bool.true)) (.fin (.pan (.ifc 91 .false [(.int .i64 14)])) [y3])) (.need (I.hid (α:=(Prop)) (Eq (I.seq y0 ([]:Str)) Bool.false)) (.need (I.inb 0 (I.len (α:=UInt8) y0)) (.need (I.cutb 1 (I.len (α:=UInt8) y0) (I.len (α:=UInt8) y0)) (.need (I.inr Go.IntKind.u8 y2) (.need (I.few (I.add (I.len (α:=UInt8) b) (I.len (α:=UInt8) ([(I.i2b y2)]:Str))) 140737488355328) (.need (A ⟨[(0,(.v (.one (.ptr 0 0)))),(3,(.v (.one (.row 1))))],[(.pack [(.obj 95 [(.p (.str (I.cut (α:=UInt8) y0 1 (I.len (α:=UInt8) y0))))])]),(.row .byte 5 (I.app (α:=UInt8) b ([(I.i2b y2)]:Str)))],53,none⟩) .qed))))))) (.need (I.inr Go.IntKind.u8 y1) (.need (I.few (I.add (I.len (α:=UInt8) b) (I.len (α:=UInt8) ([(I.i2b y1)]:Str))) 140737488355328) (.need (A ⟨[(0,(.v (.one (.ptr 0 0)))),(3,(.v (.one (.row 1))))],[y3,(.row .byte 5 (I.app (α:=UInt8) b ([(I.i2b y1)]:Str)))],53,none⟩) .qed))))))))) (by kernel_rfl) ?_
  simp only [zq]
  subst hI
  simp only [nrmA,nrmB,nrlB,reduceCtorEq,HO.pack.injEq,HO.obj.injEq]
  have hb:=xC (t.getD 0 0)
  rw [drop1]
  have hq: ∀ r:Str × Str,quoF s=some r→True:=fun _ _=>trivial
  cases t with
  | nil=>
    simp only [quoF,Option.map_none] at h2
    (repeat' (first|refine And.intro ?_ ?_|intro _))<;>first|omega|exact True.intro|exact False.elim ‹False›|skip
    all_goals first
      |omega
      |(simp_all;done)
  |cons x t=>
  cases t with
  | nil=>
    simp only [quoF] at h2
    have h34:((x.toNat:Int)=34)↔x=34:=vH x 34
    have h92:((x.toNat:Int)=92)↔x=92:=vH x 92
    simp only [List.getD_cons_zero,h34,h92,List.drop_succ_cons,List.drop_zero,List.length_cons,List.length_nil] at *
    have hgo: ¬ x=34→A ⟨[(0,.v (.one (.ptr 0 0))),(3,.v (.one (.row 1)))],[.pack [.obj 95 [(.p (.str ([])))]],.row .byte 5 ((b++[x]))],53,none⟩:=fun h=>hA (b++[x],[]) ⟨by simp;omega,by rw [h2,if_neg h];rfl⟩ (by simp)
    have hv:x=34→quoV s=b∧quoR s=[]:=fun h=>by unfold quoV quoR;rw [h2,if_pos h];simp
    clear hA
    (repeat' (first|refine And.intro ?_ ?_|intro _))<;>first|omega|exact True.intro|exact False.elim ‹False›|skip
    all_goals first
      |omega
      |exact(hv ‹_›).1.symm
      |exact(hv ‹_›).2.symm
      |exact hgo ‹_›
      |(simp_all;done)
  | cons y t=>
    simp only [quoF] at h2
    have h34:((x.toNat:Int)=34)↔x=34:=vH x 34
    have h92:((x.toNat:Int)=92)↔x=92:=vH x 92
    have hy:=xC y
    have hyt:List.take (t.length+1 - Int.toNat 1) (List.drop (Int.toNat 1) (y::t))=t:=by simpa using drop1 (y::t)
    simp only [List.getD_cons_zero,h34,h92,List.drop_succ_cons,List.drop_zero,List.length_cons] at *
    have hgoY: ¬ x=34→x=92→A ⟨[(0,.v (.one (.ptr 0 0))),(3,.v (.one (.row 1)))],[.pack [.obj 95 [(.p (.str t))]],.row .byte 5 ((b++[y]))],53,none⟩:=fun h k=>hA (b++[y],t) ⟨by simp;omega,by rw [h2,if_neg h,if_pos k,Option.map_map];congr 1;funext p;simp⟩ (by simp;omega)
    have hgoX: ¬ x=34→¬ x=92→A ⟨[(0,.v (.one (.ptr 0 0))),(3,.v (.one (.row 1)))],[.pack [.obj 95 [(.p (.str ((y::t))))]],.row .byte 5 ((b++[x]))],53,none⟩:=fun h k=>hA (b++[x],y::t) ⟨by simp;omega,by rw [h2,if_neg h,if_neg k,Option.map_map];congr 1;funext p;simp⟩ (by simp)
    have hv:x=34→quoV s=b∧quoR s=y::t:=fun h=>by unfold quoV quoR;rw [h2,if_pos h];simp
    clear hA
    simp only [List.length_nil,Nat.zero_add]
    first|rw [hyt]|skip
    (repeat' (first|refine And.intro ?_ ?_|intro _))<;>first|omega|exact True.intro|exact False.elim ‹False›|skip
    all_goals first
      |omega
      |exact(hv ‹_›).1.symm
      |exact(hv ‹_›).2.symm
      |exact hgoX ‹_› ‹_›
      |exact hgoY ‹_› ‹_›
      |(simp_all;done)
theorem zf4 (s:Str) (hneed:s.length≤1000000∧(quoF s).isSome=false):Spc Tryd.prog 85 [.v (.one (.ptr 0 0))] [.pack [.obj 95 [(.p (.str s))]]] (.pan (.ifc 91 false [(.int .i64 14)])) [.pack [.obj 95 [(.p (.str ([])))]]]:=by
  obtain⟨hl,hne⟩:=hneed
  refine spcG zl mixed Tryd.func85 (by kernel_rfl) { nr:=[3],keep:=some [0,2,3,4]} [yG,yF] (by kernel_rfl) ?_
  intro I X hI hX
  refine zi (.code 0 [1,1,0] ⟨[(3,(.v (.one (.row 1)))),(2,(.v (.one (.p (.str ([]:Str)))))),(0,(.v (.one (.ptr 0 0))))],[(.pack [(.obj 95 [(.p (.str s))])]),(.row .byte 5 ([]:Str))],53,none⟩) (by kernel_rfl) ?_
  simp only [zq]
  refine zF hI zl mixed [yG,yF] hX [0,3] (fun(g:Str × Str)=>match g with|(b,t)=>b.length+t.length≤s.length∧quoF s=(quoF t).map (fun p=>(b++p.1,p.2))) (fun(g:Str × Str)=>match g with|(b,t)=>⟨[(0,.v (.one (.ptr 0 0))),(3,.v (.one (.row 1)))],[.pack [.obj 95 [(.p (.str t))]],.row .byte 5 b],53,none⟩) (fun(g:Str × Str)=>match g with|(b,t)=>t.length) ([],s) (by kernel_rfl) (by kernel_rfl) ?_ ?_
  · exact⟨by simp,by simp⟩
  rintro⟨b,t⟩ ⟨h1,h2⟩ A hA
  refine zi (let y0:=I.cut (α:=UInt8) t 1 (I.len (α:=UInt8) t);let y1:=I.b2i (I.get (α:=UInt8) t 0 0);let y2:=I.b2i (I.get (α:=UInt8) y0 0 0);let y3:HO:=.pack [(.obj 95 [(.p (.str y0))])];.br (I.hid (α:=Bool) (I.seq t ([]:Str))) (.need (I.hid (α:=(Prop)) (Eq (I.seq t ([]:Str)) Bool.true)) (.fin (.pan (.ifc 91 .false [(.int .i64 14)])) [(.pack [(.obj 95 [(.p (.str t))])])])) (.need (I.hid (α:=(Prop)) (Eq (I.seq t ([]:Str)) Bool.false)) (.need (I.inb 0 (I.len (α:=UInt8) t)) (.need (I.cutb 1 (I.len (α:=UInt8) t) (I.len (α:=UInt8) t)) (.br (I.ieq y1 34) (.fin (.ret (.v (.one (.p (.str b))))) [y3]) (.br (I.ieq y1 92) (.br (I.hid (α:=Bool) (I.seq y0 ([]:Str))) (.need (I.hid (α:=(Prop)) (Eq (I.seq y0 ([]:Str)) Bool.true)) (.fin (.pan (.ifc 91 .false [(.int .i64 14)])) [y3])) (.need (I.hid (α:=(Prop)) (Eq (I.seq y0 ([]:Str)) Bool.false)) (.need (I.inb 0 (I.len (α:=UInt8) y0)) (.need (I.cutb 1 (I.len (α:=UInt8) y0) (I.len (α:=UInt8) y0)) (.need (I.inr Go.IntKind.u8 y2) (.need (I.few (I.add (I.len (α:=UInt8) b) (I.len (α:=UInt8) ([(I.i2b y2)]:Str))) 140737488355328) (.need (A ⟨[(0,(.v (.one (.ptr 0 0)))),(3,(.v (.one (.row 1))))],[(.pack [(.obj 95 [(.p (.str (I.cut (α:=UInt8) y0 1 (I.len (α:=UInt8) y0))))])]),(.row .byte 5 (I.app (α:=UInt8) b ([(I.i2b y2)]:Str)))],53,none⟩) .qed))))))) (.need (I.inr Go.IntKind.u8 y1) (.need (I.few (I.add (I.len (α:=UInt8) b) (I.len (α:=UInt8) ([(I.i2b y1)]:Str))) 140737488355328) (.need (A ⟨[(0,(.v (.one (.ptr 0 0)))),(3,(.v (.one (.row 1))))],[y3,(.row .byte 5 (I.app (α:=UInt8) b ([(I.i2b y1)]:Str)))],53,none⟩) .qed))))))))) (by kernel_rfl) ?_
  simp only [zq]
  subst hI
  simp only [nrmA,nrmB,nrlB,reduceCtorEq,HO.pack.injEq,HO.obj.injEq]
  have hb:=xC (t.getD 0 0)
  rw [drop1]
  have hq: ∀ r:Str × Str,quoF s=some r→True:=fun _ _=>trivial
  cases t with
  | nil=>
    simp only [quoF,Option.map_none] at h2
    (repeat' (first|refine And.intro ?_ ?_|intro _))<;>first|omega|exact True.intro|exact False.elim ‹False›|skip
    all_goals first
      |omega
      |(simp_all;done)
  |cons x t=>
  cases t with
  | nil=>
    simp only [quoF] at h2
    have h34:((x.toNat:Int)=34)↔x=34:=vH x 34
    have h92:((x.toNat:Int)=92)↔x=92:=vH x 92
    simp only [List.getD_cons_zero,h34,h92,List.drop_succ_cons,List.drop_zero,List.length_cons,List.length_nil] at *
    have hgo: ¬ x=34→A ⟨[(0,.v (.one (.ptr 0 0))),(3,.v (.one (.row 1)))],[.pack [.obj 95 [(.p (.str ([])))]],.row .byte 5 ((b++[x]))],53,none⟩:=fun h=>hA (b++[x],[]) ⟨by simp;omega,by rw [h2,if_neg h];rfl⟩ (by simp)
    have hv:x=34→quoV s=b∧quoR s=[]:=fun h=>by unfold quoV quoR;rw [h2,if_pos h];simp
    clear hA
    (repeat' (first|refine And.intro ?_ ?_|intro _))<;>first|omega|exact True.intro|exact False.elim ‹False›|skip
    all_goals first
      |omega
      |exact(hv ‹_›).1.symm
      |exact(hv ‹_›).2.symm
      |exact hgo ‹_›
      |(simp_all;done)
  | cons y t=>
    simp only [quoF] at h2
    have h34:((x.toNat:Int)=34)↔x=34:=vH x 34
    have h92:((x.toNat:Int)=92)↔x=92:=vH x 92
    have hy:=xC y
    have hyt:List.take (t.length+1 - Int.toNat 1) (List.drop (Int.toNat 1) (y::t))=t:=by simpa using drop1 (y::t)
    simp only [List.getD_cons_zero,h34,h92,List.drop_succ_cons,List.drop_zero,List.length_cons] at *
    have hgoY: ¬ x=34→x=92→A ⟨[(0,.v (.one (.ptr 0 0))),(3,.v (.one (.row 1)))],[.pack [.obj 95 [(.p (.str t))]],.row .byte 5 ((b++[y]))],53,none⟩:=fun h k=>hA (b++[y],t) ⟨by simp;omega,by rw [h2,if_neg h,if_pos k,Option.map_map];congr 1;funext p;simp⟩ (by simp;omega)
    have hgoX: ¬ x=34→¬ x=92→A ⟨[(0,.v (.one (.ptr 0 0))),(3,.v (.one (.row 1)))],[.pack [.obj 95 [(.p (.str ((y::t))))]],.row .byte 5 ((b++[x]))],53,none⟩:=fun h k=>hA (b++[x],y::t) ⟨by simp;omega,by rw [h2,if_neg h,if_neg k,Option.map_map];congr 1;funext p;simp⟩ (by simp)
    have hv:x=34→quoV s=b∧quoR s=y::t:=fun h=>by unfold quoV quoR;rw [h2,if_pos h];simp
    clear hA
    simp only [List.length_nil,Nat.zero_add]
    first|rw [hyt]|skip
    (repeat' (first|refine And.intro ?_ ?_|intro _))<;>first|omega|exact True.intro|exact False.elim ‹False›|skip
    all_goals first
      |omega
      |exact(hv ‹_›).1.symm
      |exact(hv ‹_›).2.symm
      |exact hgoX ‹_› ‹_›
      |exact hgoY ‹_› ‹_›
      |(simp_all;done)
def Vg (I:Alg) (args:List D) (hp:List HO):Option CT:=match args,hp with
  |[.v (.one (.ptr 0 0))],[.pack [.obj 95 [(.p (.str s))]]]=>(fun(s:Str)=>(some (.br (I.hid ((quoF s).isSome)) (.one ⟨I.hid (s.length≤1000000∧(quoF s).isSome=true),(.ret (.v (.one (.p (.str (I.hid ((quoV s)))))))),[.pack [.obj 95 [(.p (.str (I.hid ((quoR s)))))]]]⟩) (.one ⟨I.hid (s.length≤1000000∧(quoF s).isSome=false),(.pan (.ifc 91 false [(.int .i64 14)])),[.pack [.obj 95 [(.p (.str (I.hid ([]))))]]]⟩)):Option CT)) s
  |_,_=>none
theorem zbK:zy Tryd.prog 85 (Vg alg):=by
  intro args hp r h
  unfold Vg at h
  split at h
  · cases h;exact⟨fun _ hn=>zf5 _ hn,fun _ hn=>zf4 _ hn⟩
  · cases h
def zbJ:Know Tryd.prog:=⟨85,Vg,zbK⟩
def zbI:Know Tryd.prog:=⟨85,fun I=>zC I (Vg I),zf zbK⟩
theorem zf7 (s:Str) (hneed:s.length≤1000000∧(parM s).1=0):Spc Tryd.prog 68 [.v (.one (.ptr 0 0))] [.pack [.obj 95 [(.p (.str s))]]] (.ret (.v (.agg [(.p (.str ((parM s).2.1.name))),(.p (.str ((parM s).2.1.value)))]))) [.pack [.obj 95 [(.p (.str ((parM s).2.2)))]]]:=by
  obtain⟨hl,hc⟩:=hneed
  generalize hr:parM s=r at hc
  obtain⟨c,⟨n,v⟩,z⟩:=r
  simp only at hc
  subst hc
  refine spcG zl mixed Tryd.func68 (by kernel_rfl) { keep:=some [0,2,3]} [xh,xg,yG,yF,su,tZ,Zv,Zu,zbJ,zbI] (by kernel_rfl) ?_
  intro I X hI hX
  refine zi (let y2:=I.hid (α:=Str) (ite (Eq (zN (I.hid (α:=Str) (tokE s)) (UInt8.ofNat (Int.toNat (61:Int)))) Bool.true) (List.drop 1 (I.hid (α:=Str) (tokE s))) (I.hid (α:=Str) (tokE s)));let y0:=I.hid (α:=Str) (ite (Eq (zN y2 (UInt8.ofNat (Int.toNat (34:Int)))) Bool.true) (List.drop 1 y2) y2);let y1:=I.bnot (I.hid (α:=Bool) (zN (I.hid (α:=Str) (tokE s)) (UInt8.ofNat (Int.toNat (61:Int)))));let y3:HO:=.pack [(.obj 95 [(.p (.str (I.hid (α:=Str) (tokE y0))))])];let y4:=I.hid (α:=Str) (lowS (I.hid (α:=Str) (tokS s)));.br (I.hid (α:=Bool) (Decidable.decide (Eq (tokS s) ([]:Str)))) (.need (I.hid (α:=(Prop)) (And (LE.le (List.length s) 1000000) (Eq (tokS s) ([]:Str)))) (.fin (.pan (.ifc 91 .false [(.int .i64 5)])) [(.pack [(.obj 95 [(.p (.str (I.hid (α:=Str) (tokE s))))])])])) (.need (I.hid (α:=(Prop)) (And (LE.le (List.length s) 1000000) (Not (Eq (tokS s) ([]:Str))))) (.need (I.hid (α:=(Prop)) (LE.le (List.length (I.hid (α:=Str) (tokS s))) 1000000)) (.need (I.hid (α:=(Prop)) (And (LE.le (0:Int) (61:Int)) (LE.le (61:Int) (255:Int)))) (.br (I.hid (α:=Bool) y1) (.need (I.hid (α:=(Prop)) (Eq y1 Bool.true)) (.fin (.pan (.ifc 91 .false [(.int .i64 5)])) [(.pack [(.obj 95 [(.p (.str y2))])])])) (.need (I.hid (α:=(Prop)) (Eq y1 Bool.false)) (.need (I.hid (α:=(Prop)) (And (LE.le (0:Int) (34:Int)) (LE.le (34:Int) (255:Int)))) (.br (I.hid (α:=Bool) (zN y2 (UInt8.ofNat (Int.toNat (34:Int))))) (.br (I.hid (α:=Bool) (Option.isSome (quoF y0))) (.need (I.hid (α:=(Prop)) (And (LE.le (List.length y0) 1000000) (Eq (Option.isSome (quoF y0)) Bool.true))) (.fin (.ret (.v (.agg [(.p (.str y4)),(.p (.str (I.hid (α:=Str) (quoV y0))))]))) [(.pack [(.obj 95 [(.p (.str (I.hid (α:=Str) (quoR y0))))])])])) (.need (I.hid (α:=(Prop)) (And (LE.le (List.length y0) 1000000) (Eq (Option.isSome (quoF y0)) Bool.false))) (.fin (.pan (.ifc 91 .false [(.int .i64 14)])) [(.pack [(.obj 95 [(.p (.str (I.hid (α:=Str) ([]:Str))))])])]))) (.br (I.hid (α:=Bool) (Decidable.decide (Eq (tokS y0) ([]:Str)))) (.need (I.hid (α:=(Prop)) (And (LE.le (List.length y0) 1000000) (Eq (tokS y0) ([]:Str)))) (.fin (.pan (.ifc 91 .false [(.int .i64 5)])) [y3])) (.need (I.hid (α:=(Prop)) (And (LE.le (List.length y0) 1000000) (Not (Eq (tokS y0) ([]:Str))))) (.fin (.ret (.v (.agg [(.p (.str y4)),(.p (.str (I.hid (α:=Str) (tokS y0))))]))) [y3]))))))))))) (by kernel_rfl) ?_
  simp only [zq]
  subst hI
  simp only [nrmA,nrmB,nrlB,reduceCtorEq,HO.pack.injEq,HO.obj.injEq]
  unfold parM at hr
  have hl1:=xU s
  have hl2:=yR s
  simp only [show UInt8.ofNat (Int.toNat 61)=61 from rfl,show UInt8.ofNat (Int.toNat 34)=34 from rfl] at *
  (repeat' (first|refine And.intro ?_ ?_|intro _))<;>first|omega|exact True.intro|exact False.elim ‹False›|skip
  all_goals first
    |omega
    |(simp_all;done)
    |(simp_all;omega)
theorem zf6 (s:Str) (hneed:s.length≤1000000∧¬ (parM s).1=0):Spc Tryd.prog 68 [.v (.one (.ptr 0 0))] [.pack [.obj 95 [(.p (.str s))]]] (.pan (.ifc 91 false [(.int .i64 ((parM s).1))])) [.pack [.obj 95 [(.p (.str ((parM s).2.2)))]]]:=by
  obtain⟨hl,hc⟩:=hneed
  generalize hr:parM s=r at hc
  obtain⟨c,⟨n,v⟩,z⟩:=r
  simp only at hc
  refine spcG zl mixed Tryd.func68 (by kernel_rfl) { keep:=some [0,2,3]} [xh,xg,yG,yF,su,tZ,Zv,Zu,zbJ,zbI] (by kernel_rfl) ?_
  intro I X hI hX
  refine zi (let y2:=I.hid (α:=Str) (ite (Eq (zN (I.hid (α:=Str) (tokE s)) (UInt8.ofNat (Int.toNat (61:Int)))) Bool.true) (List.drop 1 (I.hid (α:=Str) (tokE s))) (I.hid (α:=Str) (tokE s)));let y0:=I.hid (α:=Str) (ite (Eq (zN y2 (UInt8.ofNat (Int.toNat (34:Int)))) Bool.true) (List.drop 1 y2) y2);let y1:=I.bnot (I.hid (α:=Bool) (zN (I.hid (α:=Str) (tokE s)) (UInt8.ofNat (Int.toNat (61:Int)))));let y3:HO:=.pack [(.obj 95 [(.p (.str (I.hid (α:=Str) (tokE y0))))])];let y4:=I.hid (α:=Str) (lowS (I.hid (α:=Str) (tokS s)));.br (I.hid (α:=Bool) (Decidable.decide (Eq (tokS s) ([]:Str)))) (.need (I.hid (α:=(Prop)) (And (LE.le (List.length s) 1000000) (Eq (tokS s) ([]:Str)))) (.fin (.pan (.ifc 91 .false [(.int .i64 5)])) [(.pack [(.obj 95 [(.p (.str (I.hid (α:=Str) (tokE s))))])])])) (.need (I.hid (α:=(Prop)) (And (LE.le (List.length s) 1000000) (Not (Eq (tokS s) ([]:Str))))) (.need (I.hid (α:=(Prop)) (LE.le (List.length (I.hid (α:=Str) (tokS s))) 1000000)) (.need (I.hid (α:=(Prop)) (And (LE.le (0:Int) (61:Int)) (LE.le (61:Int) (255:Int)))) (.br (I.hid (α:=Bool) y1) (.need (I.hid (α:=(Prop)) (Eq y1 Bool.true)) (.fin (.pan (.ifc 91 .false [(.int .i64 5)])) [(.pack [(.obj 95 [(.p (.str y2))])])])) (.need (I.hid (α:=(Prop)) (Eq y1 Bool.false)) (.need (I.hid (α:=(Prop)) (And (LE.le (0:Int) (34:Int)) (LE.le (34:Int) (255:Int)))) (.br (I.hid (α:=Bool) (zN y2 (UInt8.ofNat (Int.toNat (34:Int))))) (.br (I.hid (α:=Bool) (Option.isSome (quoF y0))) (.need (I.hid (α:=(Prop)) (And (LE.le (List.length y0) 1000000) (Eq (Option.isSome (quoF y0)) Bool.true))) (.fin (.ret (.v (.agg [(.p (.str y4)),(.p (.str (I.hid (α:=Str) (quoV y0))))]))) [(.pack [(.obj 95 [(.p (.str (I.hid (α:=Str) (quoR y0))))])])])) (.need (I.hid (α:=(Prop)) (And (LE.le (List.length y0) 1000000) (Eq (Option.isSome (quoF y0)) Bool.false))) (.fin (.pan (.ifc 91 .false [(.int .i64 14)])) [(.pack [(.obj 95 [(.p (.str (I.hid (α:=Str) ([]:Str))))])])]))) (.br (I.hid (α:=Bool) (Decidable.decide (Eq (tokS y0) ([]:Str)))) (.need (I.hid (α:=(Prop)) (And (LE.le (List.length y0) 1000000) (Eq (tokS y0) ([]:Str)))) (.fin (.pan (.ifc 91 .false [(.int .i64 5)])) [y3])) (.need (I.hid (α:=(Prop)) (And (LE.le (List.length y0) 1000000) (Not (Eq (tokS y0) ([]:Str))))) (.fin (.ret (.v (.agg [(.p (.str y4)),(.p (.str (I.hid (α:=Str) (tokS y0))))]))) [y3]))))))))))) (by kernel_rfl) ?_
  simp only [zq]
  subst hI
  simp only [nrmA,nrmB,nrlB,reduceCtorEq,HO.pack.injEq,HO.obj.injEq]
  unfold parM at hr
  have hl1:=xU s
  have hl2:=yR s
  simp only [show UInt8.ofNat (Int.toNat 61)=61 from rfl,show UInt8.ofNat (Int.toNat 34)=34 from rfl] at *
  (repeat' (first|refine And.intro ?_ ?_|intro _))<;>first|omega|exact True.intro|exact False.elim ‹False›|skip
  all_goals first
    |omega
    |(simp_all;done)
    |(simp_all;omega)
    |(by_cases hq:tokS (List.drop 1 (tokE s))=[]<;>simp_all;done)
def Vk (I:Alg) (args:List D) (hp:List HO):Option CT:=match args,hp with
  |[.v (.one (.ptr 0 0))],[.pack [.obj 95 [(.p (.str s))]]]=>(fun(s:Str)=>(some (.br (I.hid (decide ((parM s).1=0))) (.one ⟨I.hid (s.length≤1000000∧(parM s).1=0),(.ret (.v (.agg [(.p (.str (I.hid ((parM s).2.1.name)))),(.p (.str (I.hid ((parM s).2.1.value))))]))),[.pack [.obj 95 [(.p (.str (I.hid ((parM s).2.2))))]]]⟩) (.one ⟨I.hid (s.length≤1000000∧¬ (parM s).1=0),(.pan (.ifc 91 false [(.int .i64 (I.hid ((parM s).1)))])),[.pack [.obj 95 [(.p (.str (I.hid ((parM s).2.2))))]]]⟩)):Option CT)) s
  |_,_=>none
theorem zbN:zy Tryd.prog 68 (Vk alg):=by
  intro args hp r h
  unfold Vk at h
  split at h
  · cases h;exact⟨fun _ hn=>zf7 _ hn,fun _ hn=>zf6 _ hn⟩
  · cases h
def Vj:Know Tryd.prog:=⟨68,Vk,zbN⟩
def Vh:Know Tryd.prog:=⟨68,fun I=>zC I (Vk I),zf zbN⟩
end Go.Proofs.YtknaogelmckimaaDoor
namespace Go.Proofs.YtknaogelmckimaaDoor
open Go Go.Sep Go.Ab
set_option maxRecDepth 100000
theorem zgd (a b n:Str):Spc Tryd.prog 53 [.v (.agg [(.p (.str a)),(.p (.str b))]),.v (.one (.ptr 0 0))] [.pack [.obj 9 [(.p (.str n))]]] (.ret (.v (.one (.p (.bool ((a == n))))))) [.pack [.obj 9 [(.p (.str n))]]]:=by
  refine spcG zl mixed Tryd.func53 (by kernel_rfl) { keep:=some [0,1,2,3]} [] (by kernel_rfl) ?_
  intro I X hI hX
  refine zi (.fin (.ret (.v (.one (.p (.bool (I.seq a n)))))) [(.pack [(.obj 9 [(.p (.str n))])])]) (by kernel_rfl) ?_
  simp only [zq]
  subst hI
  simp only [nrmA,nrmB,nrlB,reduceCtorEq,HO.pack.injEq,HO.obj.injEq]
  try trivial
def Yq (I:Alg) (args:List D) (hp:List HO):Option CT:=match args,hp with
  |[.v (.agg [(.p (.str a)),(.p (.str b))]),.v (.one (.ptr 0 0))],[.pack [.obj 9 [(.p (.str n))]]]=>(fun(a b n:Str)=>(some (.one ⟨I.hid (True),(.ret (.v (.one (.p (.bool (I.hid ((a == n)))))))),[.pack [.obj 9 [(.p (.str n))]]]⟩):Option CT)) a b n
  |_,_=>none
theorem Qv:zy Tryd.prog 53 (Yq alg):=by
  intro args hp r h
  unfold Yq at h
  split at h
  · cases h;exact fun hn=>zgd _ _ _
  · cases h
def Vo:Know Tryd.prog:=⟨53,Yq,Qv⟩
def zdA:Know Tryd.prog:=⟨53,fun I=>zC I (Yq I),zf Qv⟩
def ixP (l:List Fld) (n:Str):Int:=if l.findIdx (fun f=>f.name == n)<l.length then(l.findIdx (fun f=>f.name == n):Int) else -1
set_option maxHeartbeats 1000000 in
theorem pIx_ (l:List Fld) (n:Str) (hneed:l.length≤1000000):Spc Tryd.prog 52 [.v (.one (.p (.list .fld l))),.v (.one (.fn 53 [.ptr 0 0]))] [.pack [.obj 9 [(.p (.str n))]]] (.ret (.v (.one (.p (.int .i64 ((ixP l n))))))) [.pack [.obj 9 [(.p (.str n))]]]:=by
  refine spcG zl mixed Tryd.func52 (by kernel_rfl) { keep:=some [0,1,4,5,7,8]} [Vo] (by kernel_rfl) ?_
  intro I X hI hX
  refine zi (.code 0 [1,0,1,0] ⟨[(8,(.v (.one (.p (.int .i64 0))))),(7,(.v (.one (.p (.int .i64 (I.len (α:=Fld) l)))))),(4,(.v (.one (.p (.int .i64 0))))),(0,(.v (.one (.p (.list .fld l))))),(1,(.v (.one (.fn 53 [(.ptr 0 0)]))))],[(.pack [(.obj 9 [(.p (.str n))])])],19,none⟩) (by kernel_rfl) ?_
  simp only [zq]
  refine zF hI zl mixed [Vo] hX [0,1,7,8] (fun(i:Nat)=>i≤l.length∧i≤l.findIdx (fun f=>f.name == n)) (fun(i:Nat)=>⟨[(0,.v (.one (.p (.list .fld l)))),(1,.v (.one (.fn 53 [.ptr 0 0]))),(7,.v (.one (.p (.int .i64 ((I.len (α:=Fld) l)))))),(8,.v (.one (.p (.int .i64 i))))],[.pack [.obj 9 [(.p (.str n))]]],19,none⟩) (fun(i:Nat)=>l.length - i) 0 (by kernel_rfl) (by kernel_rfl) ?_ ?_
  · exact⟨Nat.zero_le _,Nat.zero_le _⟩
  rintro i ⟨h1,h2⟩ A hA
  refine zi (let y0:HO:=.pack [(.obj 9 [(.p (.str n))])];let y1:=I.inb (Nat.cast i) (I.len (α:=Fld) l);.br (I.ilt (Nat.cast i) (I.len (α:=Fld) l)) (.need y1 (.need y1 (.need (I.hid (α:=(Prop)) True) (.br (I.hid (α:=Bool) (BEq.beq (Fld.name (I.get (α:=Fld) l (Fld.mk ([]:Str) ([]:Str)) (Nat.cast i))) n)) (.fin (.ret (.v (.one (.p (.int .i64 (Nat.cast i)))))) [y0]) (.need (I.inr Go.IntKind.i64 (I.add (Nat.cast i) 1)) (.need (A ⟨[(0,(.v (.one (.p (.list .fld l))))),(1,(.v (.one (.fn 53 [(.ptr 0 0)])))),(7,(.v (.one (.p (.int .i64 (I.len (α:=Fld) l)))))),(8,(.v (.one (.p (.int .i64 (I.add (Nat.cast i) 1))))))],[y0],19,none⟩) .qed)))))) (.fin (.ret (.v (.one (.p (.int .i64 (Neg.neg (1:Int))))))) [y0])) (by kernel_rfl) ?_
  simp only [zq]
  subst hI
  simp only [nrmA,nrmB,nrlB,reduceCtorEq,HO.pack.injEq,HO.obj.injEq]
  have hfl:l.findIdx (fun f=>f.name == n)≤l.length:=List.findIdx_le_length
  have hyes:i<l.length→(l.getD i ⟨[],[]⟩).name=n→ixP l n=i:=fun h hid=>by
    have h0:l.findIdx (fun f=>f.name == n)≤i:=by
      refine Nat.le_of_not_lt fun hlt=> ?_
      have:=List.not_of_lt_findIdx hlt
      rw [List.getD_eq_getElem?_getD,List.getElem?_eq_getElem h] at hid
      simp only [Option.getD_some] at hid
      rw [hid] at this;simp at this
    unfold ixP
    rw [if_pos (by omega)];omega
  have hno:i<l.length→¬ (l.getD i ⟨[],[]⟩).name=n→i+1≤l.findIdx (fun f=>f.name == n):=fun h hid=>by
    refine Nat.lt_of_le_of_ne h2 fun e=>hid ?_
    have hlt:l.findIdx (fun f=>f.name == n)<l.length:=by omega
    have:=List.findIdx_getElem (xs:=l) (p:=fun f=>f.name == n) (w:=hlt)
    have h9:l.getD i ⟨[],[]⟩=l[l.findIdx (fun f=>f.name == n)]:=by simp [e,List.getD_eq_getElem?_getD,hlt]
    rw [h9];simpa using this
  have hend: ¬ i<l.length→ixP l n= -1:=fun h=>by unfold ixP;rw [if_neg (by omega)]
  generalize l.getD i ⟨[],[]⟩=x at *
  (repeat' (first|refine And.intro ?_ ?_|intro _))<;>first|omega|exact True.intro|exact False.elim ‹False›|skip
  all_goals first
    |omega
    |(exact(hyes (by omega) ‹_›).symm)
    |(exact hA (i+1) ⟨by omega,hno (by omega) ‹_›⟩ (by omega))
    |(exact(hend (by omega)).symm)
def Qu (I:Alg) (args:List D) (hp:List HO):Option CT:=match args,hp with
  |[.v (.one (.p (.list .fld l))),.v (.one (.fn 53 [.ptr 0 0]))],[.pack [.obj 9 [(.p (.str n))]]]=>(fun(l:List Fld) (n:Str)=>(some (.one ⟨I.hid (l.length≤1000000),(.ret (.v (.one (.p (.int .i64 (I.hid ((ixP l n)))))))),[.pack [.obj 9 [(.p (.str n))]]]⟩):Option CT)) l n
  |_,_=>none
theorem zeh:zy Tryd.prog 52 (Qu alg):=by
  intro args hp r h
  unfold Qu at h
  split at h
  · cases h;exact fun hn=>pIx_ _ _ hn
  · cases h
def zgc:Know Tryd.prog:=⟨52,Qu,zeh⟩
def zgb:Know Tryd.prog:=⟨52,fun I=>zC I (Qu I),zf zeh⟩
theorem zgq (l:List Fld) (n:Str): -1≤ixP l n∧ixP l n<l.length:=by unfold ixP;split<;>omega
theorem zfm (l:List Fld) (n:Str):getP l n=if 0≤ixP l n then((l.getD (ixP l n).toNat ⟨[],[]⟩).value,true) else([],false):=by
  unfold getP ixP
  rw [List.find?_eq_getElem?_findIdx]
  by_cases h:l.findIdx (fun f=>f.name == n)<l.length
  · rw [if_pos h,if_pos (by omega),List.getElem?_eq_getElem h]
    simp [List.getD_eq_getElem?_getD,h]
  · rw [if_neg h,if_neg (by omega),List.getElem?_eq_none (by omega)]
theorem zg2 (w:Str) (l:List Fld) (n:Str) (hneed:l.length≤1000000):Spc Tryd.prog 29 [.v (.agg [(.p (.str w)),(.p (.list .fld l))]),.v (.one (.p (.str n)))] [] (.ret (.tup [(.one (.p (.str ((getP l n).1)))),(.one (.p (.bool ((getP l n).2))))])) []:=by
  rw [zfm]
  have hx:=zgq l n
  refine spcG zl mixed Tryd.func29 (by kernel_rfl) { keep:=some [0,1,2,3,4,5,6]} [Vo,zdA,zgc,zgb] (by kernel_rfl) ?_
  intro I X hI hX
  refine zi (let y0:=I.inb (I.hid (α:=Int) (ixP l n)) (I.len (α:=Fld) l);.need (I.hid (α:=(Prop)) (LE.le (List.length l) 1000000)) (.br (I.ilt (I.hid (α:=Int) (ixP l n)) 0) (.fin (.ret (.tup [(.one (.p (.str ([]:Str)))),(.one (.p (.bool Bool.false)))])) []) (.need y0 (.need y0 (.fin (.ret (.tup [(.one (.p (.str (Fld.value (I.get (α:=Fld) l (Fld.mk ([]:Str) ([]:Str)) (I.hid (α:=Int) (ixP l n))))))),(.one (.p (.bool Bool.true)))])) []))))) (by kernel_rfl) ?_
  simp only [zq]
  subst hI
  simp only [nrmA,nrmB]
  (repeat' (first|refine And.intro ?_ ?_|intro _))<;>first|omega|exact True.intro|exact False.elim ‹False›|skip
  all_goals first
    |omega
    |(rw [if_pos (by omega)])
    |(rw [if_neg (by omega)])
def Vm (I:Alg) (args:List D) (hp:List HO):Option CT:=match args,hp with
  |[.v (.agg [(.p (.str w)),(.p (.list .fld l))]),.v (.one (.p (.str n)))],[]=>(fun(w:Str) (l:List Fld) (n:Str)=>(some (.one ⟨I.hid (l.length≤1000000),(.ret (.tup [(.one (.p (.str (I.hid ((getP l n).1))))),(.one (.p (.bool (I.hid ((getP l n).2)))))])),[]⟩):Option CT)) w l n
  |_,_=>none
theorem zbP:zy Tryd.prog 29 (Vm alg):=by
  intro args hp r h
  unfold Vm at h
  split at h
  · cases h;exact fun hn=>zg2 _ _ _ hn
  · cases h
def Y2:Know Tryd.prog:=⟨29,Vm,zbP⟩
def Y1:Know Tryd.prog:=⟨29,fun I=>zC I (Vm I),zf zbP⟩
def cfgM:Cfg:= { sl:=[⟨72,1,.fld,some 98⟩]}
set_option maxHeartbeats 4000000 in
theorem zga (s:Str) (hneed:s.length≤1000000∧(zW s).1=0):Spc Tryd.prog 51 [.v (.one (.ptr 0 0))] [.pack [.obj 95 [(.p (.str s))]]] (.ret (.v (.agg [(.p (.str ((zW s).2.1.word))),(.p (.list .fld ((zW s).2.1.params)))]))) [.pack [.obj 95 [(.p (.str ((zW s).2.2)))]]]:=by
  obtain⟨hl,hc⟩:=hneed
  generalize hr:zW s=r at hc
  obtain⟨c,⟨w,ps⟩,z⟩:=r
  simp only at hc
  subst hc
  refine spcG zl mixed Tryd.func51 (by kernel_rfl) { cfgM with lend:=[29],keep:=some [0,2,3,4,6]} [xh,xg,yG,yF,sF,sD,su,tZ,Zv,Zu,Vj,Vh,Y2,Y1] (by kernel_rfl) ?_
  intro I X hI hX
  refine zi (let y11:=I.hid (α:=Str) (tokE (I.hid (α:=Str) (skS s)));let y0:=I.hid (α:=Str) (ite (Eq (zN y11 (UInt8.ofNat (Int.toNat (47:Int)))) Bool.true) (List.drop 1 y11) y11);let y12:=I.hid (α:=Str) (tokS (I.hid (α:=Str) (skS s)));let y1:=I.few (I.add (I.len (α:=UInt8) (I.hid (α:=Str) (lowS y12))) (I.len (α:=UInt8) (I.app (α:=UInt8) ([47]:Str) (I.hid (α:=Str) (lowS (I.hid (α:=Str) (tokS y0))))))) 1000000000;let y2:HO:=.obj 72 [(.p (.str (I.app (α:=UInt8) (I.hid (α:=Str) (lowS y12)) (I.app (α:=UInt8) ([47]:Str) (I.hid (α:=Str) (lowS (I.hid (α:=Str) (tokS y0)))))))),.nilS];let y3:=I.few (I.add (I.len (α:=UInt8) ([47]:Str)) (I.len (α:=UInt8) (I.hid (α:=Str) (lowS (I.hid (α:=Str) (tokS y0)))))) 1000000000;let y4:HO:=.pack [(.obj 95 [(.p (.str (I.hid (α:=Str) (skS (I.hid (α:=Str) (tokE y0))))))])];let y5:=I.hid (α:=(Prop)) (LE.le (List.length (I.hid (α:=Str) (tokS y0))) 1000000);let y6:HO:=.obj 72 [(.p (.str ([]:Str))),.nilS];let y7:=I.hid (α:=(Prop)) (And (LE.le (List.length y0) 1000000) (Not (Eq (tokS y0) ([]:Str))));let y8:=I.hid (α:=(Prop)) (And (LE.le (List.length y0) 1000000) (Eq (tokS y0) ([]:Str)));let y9:=I.hid (α:=Bool) (Decidable.decide (Eq (tokS y0) ([]:Str)));let y10:HO:=.pack [(.obj 95 [(.p (.str (I.hid (α:=Str) (tokE y0))))])];.need (I.hid (α:=(Prop)) True) (.br (I.hid (α:=Bool) (Decidable.decide (Eq (tokS (I.hid (α:=Str) (skS s))) ([]:Str)))) (.need (I.hid (α:=(Prop)) (And (LE.le (List.length (I.hid (α:=Str) (skS s))) 1000000) (Eq (tokS (I.hid (α:=Str) (skS s))) ([]:Str)))) (.fin (.pan (.ifc 91 .false [(.int .i64 5)])) [(.pack [(.obj 95 [(.p (.str y11))])])])) (.need (I.hid (α:=(Prop)) (And (LE.le (List.length (I.hid (α:=Str) (skS s))) 1000000) (Not (Eq (tokS (I.hid (α:=Str) (skS s))) ([]:Str))))) (.need (I.hid (α:=(Prop)) (LE.le (List.length y12) 1000000)) (.need (I.hid (α:=(Prop)) (And (LE.le (0:Int) (47:Int)) (LE.le (47:Int) (255:Int)))) (.br (I.hid (α:=Bool) (zN y11 (UInt8.ofNat (Int.toNat (47:Int))))) (.both (.br y9 (.need y8 (.fin (.pan (.ifc 91 .false [(.int .i64 5)])) [y10])) (.need y7 (.need y5 (.need y3 (.need y1 (.need (I.hid (α:=(Prop)) True) (.code 0 [1,1,1,1,0,1,0] ⟨[(3,(.v (.one (.ptr 2 0)))),(2,(.v (.one (.ptr 1 0)))),(0,(.v (.one (.ptr 0 0))))],[y4,y6,y2],60,none⟩))))))) (.br y9 (.need y8 (.fin (.pan (.ifc 91 .false [(.int .i64 5)])) [y10])) (.need y7 (.both (.need y5 (.need y3 (.need y1 (.need (I.hid (α:=(Prop)) True) (.code 0 [1,1,1,1,0,1,0] ⟨[(3,(.v (.one (.ptr 2 0)))),(2,(.v (.one (.ptr 1 0)))),(0,(.v (.one (.ptr 0 0))))],[y4,y6,y2],60,none⟩))))) (.need y5 (.need y3 (.need y1 (.need (I.hid (α:=(Prop)) True) (.code 0 [1,1,1,1,0,1,0] ⟨[(3,(.v (.one (.ptr 2 0)))),(2,(.v (.one (.ptr 1 0)))),(0,(.v (.one (.ptr 0 0))))],[y4,y6,y2],60,none⟩))))))))) (.need (I.hid (α:=(Prop)) True) (.code 0 [1,1,1,1,0,1,0] ⟨[(3,(.v (.one (.ptr 2 0)))),(2,(.v (.one (.ptr 1 0)))),(0,(.v (.one (.ptr 0 0))))],[(.pack [(.obj 95 [(.p (.str (I.hid (α:=Str) (skS y0))))])]),y6,(.obj 72 [(.p (.str (I.hid (α:=Str) (lowS y12)))),.nilS])],60,none⟩)))))))) (by kernel_rfl) ?_
  simp only [zq]
  have hh: ∀ {α:Type} (x:α),I.hid x=x:=by subst hI;intros;rfl
  have key : ∀ (w0 t0:Str),t0.length≤1000000→((medL (t0.length+1) t0 []).1,(⟨w0,(medL (t0.length+1) t0 []).2.1⟩:Med),(medL (t0.length+1) t0 []).2.2)=(0,⟨w,ps⟩,z)→Ok Tryd.prog X (fun o h=>o=AOut.ret (D.v (V0.agg [C.p (P.str w),C.p (P.list U.fld ps)]))∧h=[HO.pack [HO.obj 95 [C.p (P.str z)]]]) (leaf I tab { cfgM with lend:=[29],keep:=some [0,2,3,4,6]} [⟨uM Tryd.f51,finK I tab { cfgM with lend:=[29],keep:=some [0,2,3,4,6]} 1 Tryd.f51⟩] 0 [1,1,1,1,0,1,0] ⟨[(3,.v (.one (.ptr 2 0))),(2,.v (.one (.ptr 1 0))),(0,.v (.one (.ptr 0 0)))],[.pack [.obj 95 [(.p (.str t0))]],.obj 72 [(.p (.str ([]))),.nilS],.obj 72 [(.p (.str w0)),.nilS]],60,none⟩):=by
    intro w0 t0 ht0 hm
    simp only [Prod.mk.injEq,Med.mk.injEq] at hm
    obtain⟨hm1,⟨rfl,hm2⟩,hm3⟩:=hm
    refine zF hI zl mixed [xh,xg,yG,yF,sF,sD,su,tZ,Zv,Zu,Vj,Vh,Y2,Y1] hX [0,2,3] (fun(g:Str × List Fld)=>match g with|(t,l)=>t.length≤1000000∧l.length≤8∧∃ n,t.length<n∧medL n t l=(0,ps,z)) (fun(g:Str × List Fld)=>match g with|(t,l)=>⟨[(0,.v (.one (.ptr 0 0))),(2,.v (.one (.ptr 1 0))),(3,.v (.one (.ptr 2 0)))],[.pack [.obj 95 [(.p (.str t))]],.pack [.obj 72 [(.p (.str ([]))),(.row 1)],.row .fld 98 ([])],.pack [.obj 72 [(.p (.str w0)),(.row 1)],.row .fld 98 l]],60,none⟩) (fun(g:Str × List Fld)=>match g with|(t,l)=>t.length) (t0,[]) (by kernel_rfl) (by kernel_rfl) ?_ ?_
    · exact⟨ht0,by simp,t0.length+1,by omega,by rw [← hm1,← hm2,← hm3]⟩
    rintro⟨t,l⟩ ⟨ht,hl8,n,hn,hm⟩ A hA
    clear hm1 hm2 hm3 hr
    simp only at hA
    refine zi (let y0:=I.hid (α:=Str) (ite (Eq (zN t (UInt8.ofNat (Int.toNat (59:Int)))) Bool.true) (List.drop 1 t) t);let y1:=I.hid (α:=Str) (Fld.name (Prod.fst (Prod.snd (parM (I.hid (α:=Str) (skS y0))))));let y2:=I.hid (α:=Str) (Prod.snd (Prod.snd (parM (I.hid (α:=Str) (skS y0)))));let y3:=I.hid (α:=Str) (Fld.value (Prod.fst (Prod.snd (parM (I.hid (α:=Str) (skS y0))))));let y4:=I.hid (α:=Bool) (Prod.snd (getP l y1));let y5:HO:=.pack [(.obj 95 [(.p (.str y2))])];let y6:HO:=.pack [(.obj 95 [(.p (.str y0))])];.need (I.hid (α:=(Prop)) (And (LE.le (0:Int) (59:Int)) (LE.le (59:Int) (255:Int)))) (.br (I.hid (α:=Bool) (zN t (UInt8.ofNat (Int.toNat (59:Int))))) (.need (I.hid (α:=(Prop)) True) (.br (I.hid (α:=Bool) (Decidable.decide (Eq (Prod.fst (parM (I.hid (α:=Str) (skS y0)))) (0:Int)))) (.need (I.hid (α:=(Prop)) (And (LE.le (List.length (I.hid (α:=Str) (skS y0))) 1000000) (Eq (Prod.fst (parM (I.hid (α:=Str) (skS y0)))) (0:Int)))) (.need (I.hid (α:=(Prop)) (LE.le (List.length l) 1000000)) (.br (I.hid (α:=Bool) y4) (.need (I.hid (α:=(Prop)) (Eq y4 Bool.true)) (.fin (.pan (.ifc 91 .false [(.int .i64 9)])) [y5])) (.need (I.hid (α:=(Prop)) (Eq y4 Bool.false)) (.br (I.hid (α:=Bool) (I.ieq (I.len (α:=Fld) l) 8)) (.need (I.hid (α:=(Prop)) (Eq (I.ieq (I.len (α:=Fld) l) 8) Bool.true)) (.fin (.pan (.ifc 91 .false [(.int .i64 8)])) [y5])) (.need (I.hid (α:=(Prop)) (Eq (I.ieq (I.len (α:=Fld) l) 8) Bool.false)) (.need (I.few (I.add (I.len (α:=Fld) l) (I.len (α:=Fld) ([(Fld.mk y1 y3)]:List Fld))) 100000000) (.need (I.hid (α:=(Prop)) True) (.need (A ⟨[(0,(.v (.one (.ptr 0 0)))),(2,(.v (.one (.ptr 1 0)))),(3,(.v (.one (.ptr 2 0))))],[(.pack [(.obj 95 [(.p (.str (I.hid (α:=Str) (skS y2))))])]),(.pack [(.obj 72 [(.p (.str ([]:Str))),(.row 1)]),(.row .fld 98 ([]:List Fld))]),(.pack [(.obj 72 [(.p (.str w0)),(.row 1)]),(.row .fld 98 (I.app (α:=Fld) l ([(Fld.mk y1 y3)]:List Fld)))])],60,none⟩) .qed))))))))) (.need (I.hid (α:=(Prop)) (And (LE.le (List.length (I.hid (α:=Str) (skS y0))) 1000000) (Not (Eq (Prod.fst (parM (I.hid (α:=Str) (skS y0)))) (0:Int))))) (.fin (.pan (.ifc 91 .false [(.int .i64 (I.hid (α:=Int) (Prod.fst (parM (I.hid (α:=Str) (skS y0))))))])) [y5])))) (.br (I.hid (α:=Bool) (I.bnot (I.seq y0 ([]:Str)))) (.need (I.hid (α:=(Prop)) (Eq (I.bnot (I.seq y0 ([]:Str))) Bool.true)) (.fin (.pan (.ifc 91 .false [(.int .i64 5)])) [y6])) (.need (I.hid (α:=(Prop)) (Eq (I.bnot (I.seq y0 ([]:Str))) Bool.false)) (.fin (.ret (.v (.agg [(.p (.str w0)),(.p (.list .fld l))]))) [y6]))))) (by kernel_rfl) ?_
    simp only [zq]
    cases n with
    |zero=>omega
    |succ n=>
    simp only [medL] at hm
    have hgo:=hA (skS (parM (skS (t.drop 1))).2.2,l++[(parM (skS (t.drop 1))).2.1])
    have hpl:=Ve (skS (t.drop 1))
    have hpc:=Ud (skS (t.drop 1))
    have hsl:=yP (t.drop 1)
    have hsr:=yP (parM (skS (t.drop 1))).2.2
    rw [List.length_drop] at hsl
    clear hA
    simp only [hh,show UInt8.ofNat (Int.toNat 59)=59 from rfl]
    subst hI
    by_cases h59:zN t 59=true
    · have hpos:=Wp h59
      simp only [h59,if_true] at hm ⊢
      have hgo2:(parM (skS (t.drop 1))).1=0→(getP l (parM (skS (t.drop 1))).2.1.name).2=false→¬ l.length=8→_:=fun h1 h2 h3=>hgo ⟨by simp only;omega,by simp only [List.length_append,List.length_cons,List.length_nil];omega,n,by simp only;omega,by
        rw [if_neg (fun h=>h h1),if_neg (by rw [h2];exact Bool.false_ne_true),if_neg h3] at hm;exact hm⟩ (by simp only;omega)
      clear hgo
      simp only at hgo2
      generalize parM (skS (t.drop 1))=p at *
      obtain⟨pc,⟨pn,pv⟩,pr⟩:=p
      simp only at hgo2 hm hpl hpc hsl hsr ⊢
      simp only [nrmA,nrmB,nrlB,reduceCtorEq,List.length_cons,List.length_nil]
      (repeat' (first|refine And.intro ?_ ?_|intro _))<;>first|omega|exact True.intro|exact False.elim ‹False›|skip
      all_goals first
        |omega
        |assumption
        | (by_cases hpz:pc=0
           · exact hpz
           · rw [if_pos hpz] at hm;simp only [Prod.mk.injEq] at hm;exact hm.1)
        |exact hgo2 ‹_› ‹_› (by omega)
        |(exfalso;rw [if_neg (fun h=>h ‹pc=0›),if_neg (by rw [‹(getP l pn).2=false›];exact Bool.false_ne_true),if_pos (by omega)] at hm;simp_all;done)
        |(rw [if_neg (fun h=>h ‹pc=0›),if_neg (by rw [‹(getP l pn).2=false›];exact Bool.false_ne_true),if_pos (by omega)] at hm;simp_all;done)
        |(exfalso;simp_all;done)
        |(simp_all;done)
    · have h59:zN t 59=false:=by simpa using h59
      simp only [h59,Bool.false_eq_true,if_false] at hm ⊢
      simp only [nrmA,nrmB,nrlB,reduceCtorEq,List.length_cons,List.length_nil]
      (repeat' (first|refine And.intro ?_ ?_|intro _))<;>first|omega|exact True.intro|exact False.elim ‹False›|skip
      all_goals first
        |omega
        |(exfalso;simp_all;done)
        |(simp_all;done)
        |(by_cases hte:t=[]<;>simp_all;done)
  have hl1:=yP s
  have hl2:=yR (skS s)
  have hl3:=xU (skS s)
  simp only [hh,show UInt8.ofNat (Int.toNat 47)=47 from rfl,decide_eq_true_eq,decide_eq_false_iff_not]
  unfold zW medA at hr
  generalize skS s=t at *
  have hl4:=xU ((tokE t).drop 1)
  have hl5:=yR ((tokE t).drop 1)
  rw [List.length_drop] at hl4 hl5
  (repeat' (first|refine And.intro ?_ ?_|intro _))
  all_goals try first|trivial|assumption|omega|(exfalso;simp_all;done)|(subst hI;(try(simp only [nrmA,nrmB,nrlB,reduceCtorEq,List.length_cons,List.length_nil,yU]))<;>first|omega|(simp_all [yU];done)|(simp_all [yU];omega))
  all_goals(have happ: ∀ a b:Str,I.app (α:=UInt8) a b=a++b:=by subst hI;intros;rfl)
  all_goals try simp only [happ]
  all_goals first
    | (rename_i q1 q2 q3
       rw [if_neg q1,if_pos q2] at hr
       simp only [q2,if_true] at q3 ⊢
       rw [if_neg q3] at hr
       have hsk:=yP (tokE ((tokE t).drop 1))
       exact key _ _ (by omega) hr)
    | (rename_i q1 q2
       rw [if_neg q1,if_neg (by simp [q2])] at hr
       simp only [q2,Bool.false_eq_true,if_false] at ⊢
       have hsk:=yP (tokE t)
       exact key _ _ (by omega) hr)
set_option maxHeartbeats 4000000 in
theorem zf9 (s:Str) (hneed:s.length≤1000000∧¬ (zW s).1=0):Spc Tryd.prog 51 [.v (.one (.ptr 0 0))] [.pack [.obj 95 [(.p (.str s))]]] (.pan (.ifc 91 false [(.int .i64 ((zW s).1))])) [.pack [.obj 95 [(.p (.str ((zW s).2.2)))]]]:=by
  obtain⟨hl,hc⟩:=hneed
  generalize hr:zW s=r at hc
  obtain⟨c,⟨w,ps⟩,z⟩:=r
  simp only at hc
  refine spcG zl mixed Tryd.func51 (by kernel_rfl) { cfgM with lend:=[29],keep:=some [0,2,3,4,6]} [xh,xg,yG,yF,sF,sD,su,tZ,Zv,Zu,Vj,Vh,Y2,Y1] (by kernel_rfl) ?_
  intro I X hI hX
  refine zi (let y11:=I.hid (α:=Str) (tokE (I.hid (α:=Str) (skS s)));let y0:=I.hid (α:=Str) (ite (Eq (zN y11 (UInt8.ofNat (Int.toNat (47:Int)))) Bool.true) (List.drop 1 y11) y11);let y12:=I.hid (α:=Str) (tokS (I.hid (α:=Str) (skS s)));let y1:=I.few (I.add (I.len (α:=UInt8) (I.hid (α:=Str) (lowS y12))) (I.len (α:=UInt8) (I.app (α:=UInt8) ([47]:Str) (I.hid (α:=Str) (lowS (I.hid (α:=Str) (tokS y0))))))) 1000000000;let y2:HO:=.obj 72 [(.p (.str (I.app (α:=UInt8) (I.hid (α:=Str) (lowS y12)) (I.app (α:=UInt8) ([47]:Str) (I.hid (α:=Str) (lowS (I.hid (α:=Str) (tokS y0)))))))),.nilS];let y3:=I.few (I.add (I.len (α:=UInt8) ([47]:Str)) (I.len (α:=UInt8) (I.hid (α:=Str) (lowS (I.hid (α:=Str) (tokS y0)))))) 1000000000;let y4:HO:=.pack [(.obj 95 [(.p (.str (I.hid (α:=Str) (skS (I.hid (α:=Str) (tokE y0))))))])];let y5:=I.hid (α:=(Prop)) (LE.le (List.length (I.hid (α:=Str) (tokS y0))) 1000000);let y6:HO:=.obj 72 [(.p (.str ([]:Str))),.nilS];let y7:=I.hid (α:=(Prop)) (And (LE.le (List.length y0) 1000000) (Not (Eq (tokS y0) ([]:Str))));let y8:=I.hid (α:=(Prop)) (And (LE.le (List.length y0) 1000000) (Eq (tokS y0) ([]:Str)));let y9:=I.hid (α:=Bool) (Decidable.decide (Eq (tokS y0) ([]:Str)));let y10:HO:=.pack [(.obj 95 [(.p (.str (I.hid (α:=Str) (tokE y0))))])];.need (I.hid (α:=(Prop)) True) (.br (I.hid (α:=Bool) (Decidable.decide (Eq (tokS (I.hid (α:=Str) (skS s))) ([]:Str)))) (.need (I.hid (α:=(Prop)) (And (LE.le (List.length (I.hid (α:=Str) (skS s))) 1000000) (Eq (tokS (I.hid (α:=Str) (skS s))) ([]:Str)))) (.fin (.pan (.ifc 91 .false [(.int .i64 5)])) [(.pack [(.obj 95 [(.p (.str y11))])])])) (.need (I.hid (α:=(Prop)) (And (LE.le (List.length (I.hid (α:=Str) (skS s))) 1000000) (Not (Eq (tokS (I.hid (α:=Str) (skS s))) ([]:Str))))) (.need (I.hid (α:=(Prop)) (LE.le (List.length y12) 1000000)) (.need (I.hid (α:=(Prop)) (And (LE.le (0:Int) (47:Int)) (LE.le (47:Int) (255:Int)))) (.br (I.hid (α:=Bool) (zN y11 (UInt8.ofNat (Int.toNat (47:Int))))) (.both (.br y9 (.need y8 (.fin (.pan (.ifc 91 .false [(.int .i64 5)])) [y10])) (.need y7 (.need y5 (.need y3 (.need y1 (.need (I.hid (α:=(Prop)) True) (.code 0 [1,1,1,1,0,1,0] ⟨[(3,(.v (.one (.ptr 2 0)))),(2,(.v (.one (.ptr 1 0)))),(0,(.v (.one (.ptr 0 0))))],[y4,y6,y2],60,none⟩))))))) (.br y9 (.need y8 (.fin (.pan (.ifc 91 .false [(.int .i64 5)])) [y10])) (.need y7 (.both (.need y5 (.need y3 (.need y1 (.need (I.hid (α:=(Prop)) True) (.code 0 [1,1,1,1,0,1,0] ⟨[(3,(.v (.one (.ptr 2 0)))),(2,(.v (.one (.ptr 1 0)))),(0,(.v (.one (.ptr 0 0))))],[y4,y6,y2],60,none⟩))))) (.need y5 (.need y3 (.need y1 (.need (I.hid (α:=(Prop)) True) (.code 0 [1,1,1,1,0,1,0] ⟨[(3,(.v (.one (.ptr 2 0)))),(2,(.v (.one (.ptr 1 0)))),(0,(.v (.one (.ptr 0 0))))],[y4,y6,y2],60,none⟩))))))))) (.need (I.hid (α:=(Prop)) True) (.code 0 [1,1,1,1,0,1,0] ⟨[(3,(.v (.one (.ptr 2 0)))),(2,(.v (.one (.ptr 1 0)))),(0,(.v (.one (.ptr 0 0))))],[(.pack [(.obj 95 [(.p (.str (I.hid (α:=Str) (skS y0))))])]),y6,(.obj 72 [(.p (.str (I.hid (α:=Str) (lowS y12)))),.nilS])],60,none⟩)))))))) (by kernel_rfl) ?_
  simp only [zq]
  have hh: ∀ {α:Type} (x:α),I.hid x=x:=by subst hI;intros;rfl
  have key : ∀ (w0 t0:Str),t0.length≤1000000→((medL (t0.length+1) t0 []).1,(⟨w0,(medL (t0.length+1) t0 []).2.1⟩:Med),(medL (t0.length+1) t0 []).2.2)=(c,⟨w,ps⟩,z)→Ok Tryd.prog X (fun o h=>o=AOut.pan (C.ifc 91 false [P.int IntKind.i64 c])∧h=[HO.pack [HO.obj 95 [C.p (P.str z)]]]) (leaf I tab { cfgM with lend:=[29],keep:=some [0,2,3,4,6]} [⟨uM Tryd.f51,finK I tab { cfgM with lend:=[29],keep:=some [0,2,3,4,6]} 1 Tryd.f51⟩] 0 [1,1,1,1,0,1,0] ⟨[(3,.v (.one (.ptr 2 0))),(2,.v (.one (.ptr 1 0))),(0,.v (.one (.ptr 0 0)))],[.pack [.obj 95 [(.p (.str t0))]],.obj 72 [(.p (.str ([]))),.nilS],.obj 72 [(.p (.str w0)),.nilS]],60,none⟩):=by
    intro w0 t0 ht0 hm
    simp only [Prod.mk.injEq,Med.mk.injEq] at hm
    obtain⟨hm1,⟨rfl,hm2⟩,hm3⟩:=hm
    refine zF hI zl mixed [xh,xg,yG,yF,sF,sD,su,tZ,Zv,Zu,Vj,Vh,Y2,Y1] hX [0,2,3] (fun(g:Str × List Fld)=>match g with|(t,l)=>t.length≤1000000∧l.length≤8∧∃ n,t.length<n∧medL n t l=(c,ps,z)) (fun(g:Str × List Fld)=>match g with|(t,l)=>⟨[(0,.v (.one (.ptr 0 0))),(2,.v (.one (.ptr 1 0))),(3,.v (.one (.ptr 2 0)))],[.pack [.obj 95 [(.p (.str t))]],.pack [.obj 72 [(.p (.str ([]))),(.row 1)],.row .fld 98 ([])],.pack [.obj 72 [(.p (.str w0)),(.row 1)],.row .fld 98 l]],60,none⟩) (fun(g:Str × List Fld)=>match g with|(t,l)=>t.length) (t0,[]) (by kernel_rfl) (by kernel_rfl) ?_ ?_
    · exact⟨ht0,by simp,t0.length+1,by omega,by rw [← hm1,← hm2,← hm3]⟩
    rintro⟨t,l⟩ ⟨ht,hl8,n,hn,hm⟩ A hA
    clear hm1 hm2 hm3 hr
    simp only at hA
    refine zi (let y0:=I.hid (α:=Str) (ite (Eq (zN t (UInt8.ofNat (Int.toNat (59:Int)))) Bool.true) (List.drop 1 t) t);let y1:=I.hid (α:=Str) (Fld.name (Prod.fst (Prod.snd (parM (I.hid (α:=Str) (skS y0))))));let y2:=I.hid (α:=Str) (Prod.snd (Prod.snd (parM (I.hid (α:=Str) (skS y0)))));let y3:=I.hid (α:=Str) (Fld.value (Prod.fst (Prod.snd (parM (I.hid (α:=Str) (skS y0))))));let y4:=I.hid (α:=Bool) (Prod.snd (getP l y1));let y5:HO:=.pack [(.obj 95 [(.p (.str y2))])];let y6:HO:=.pack [(.obj 95 [(.p (.str y0))])];.need (I.hid (α:=(Prop)) (And (LE.le (0:Int) (59:Int)) (LE.le (59:Int) (255:Int)))) (.br (I.hid (α:=Bool) (zN t (UInt8.ofNat (Int.toNat (59:Int))))) (.need (I.hid (α:=(Prop)) True) (.br (I.hid (α:=Bool) (Decidable.decide (Eq (Prod.fst (parM (I.hid (α:=Str) (skS y0)))) (0:Int)))) (.need (I.hid (α:=(Prop)) (And (LE.le (List.length (I.hid (α:=Str) (skS y0))) 1000000) (Eq (Prod.fst (parM (I.hid (α:=Str) (skS y0)))) (0:Int)))) (.need (I.hid (α:=(Prop)) (LE.le (List.length l) 1000000)) (.br (I.hid (α:=Bool) y4) (.need (I.hid (α:=(Prop)) (Eq y4 Bool.true)) (.fin (.pan (.ifc 91 .false [(.int .i64 9)])) [y5])) (.need (I.hid (α:=(Prop)) (Eq y4 Bool.false)) (.br (I.hid (α:=Bool) (I.ieq (I.len (α:=Fld) l) 8)) (.need (I.hid (α:=(Prop)) (Eq (I.ieq (I.len (α:=Fld) l) 8) Bool.true)) (.fin (.pan (.ifc 91 .false [(.int .i64 8)])) [y5])) (.need (I.hid (α:=(Prop)) (Eq (I.ieq (I.len (α:=Fld) l) 8) Bool.false)) (.need (I.few (I.add (I.len (α:=Fld) l) (I.len (α:=Fld) ([(Fld.mk y1 y3)]:List Fld))) 100000000) (.need (I.hid (α:=(Prop)) True) (.need (A ⟨[(0,(.v (.one (.ptr 0 0)))),(2,(.v (.one (.ptr 1 0)))),(3,(.v (.one (.ptr 2 0))))],[(.pack [(.obj 95 [(.p (.str (I.hid (α:=Str) (skS y2))))])]),(.pack [(.obj 72 [(.p (.str ([]:Str))),(.row 1)]),(.row .fld 98 ([]:List Fld))]),(.pack [(.obj 72 [(.p (.str w0)),(.row 1)]),(.row .fld 98 (I.app (α:=Fld) l ([(Fld.mk y1 y3)]:List Fld)))])],60,none⟩) .qed))))))))) (.need (I.hid (α:=(Prop)) (And (LE.le (List.length (I.hid (α:=Str) (skS y0))) 1000000) (Not (Eq (Prod.fst (parM (I.hid (α:=Str) (skS y0)))) (0:Int))))) (.fin (.pan (.ifc 91 .false [(.int .i64 (I.hid (α:=Int) (Prod.fst (parM (I.hid (α:=Str) (skS y0))))))])) [y5])))) (.br (I.hid (α:=Bool) (I.bnot (I.seq y0 ([]:Str)))) (.need (I.hid (α:=(Prop)) (Eq (I.bnot (I.seq y0 ([]:Str))) Bool.true)) (.fin (.pan (.ifc 91 .false [(.int .i64 5)])) [y6])) (.need (I.hid (α:=(Prop)) (Eq (I.bnot (I.seq y0 ([]:Str))) Bool.false)) (.fin (.ret (.v (.agg [(.p (.str w0)),(.p (.list .fld l))]))) [y6]))))) (by kernel_rfl) ?_
    simp only [zq]
    cases n with
    |zero=>omega
    |succ n=>
    simp only [medL] at hm
    have hgo:=hA (skS (parM (skS (t.drop 1))).2.2,l++[(parM (skS (t.drop 1))).2.1])
    have hpl:=Ve (skS (t.drop 1))
    have hpc:=Ud (skS (t.drop 1))
    have hsl:=yP (t.drop 1)
    have hsr:=yP (parM (skS (t.drop 1))).2.2
    rw [List.length_drop] at hsl
    clear hA
    simp only [hh,show UInt8.ofNat (Int.toNat 59)=59 from rfl]
    subst hI
    by_cases h59:zN t 59=true
    · have hpos:=Wp h59
      simp only [h59,if_true] at hm ⊢
      have hgo2:(parM (skS (t.drop 1))).1=0→(getP l (parM (skS (t.drop 1))).2.1.name).2=false→¬ l.length=8→_:=fun h1 h2 h3=>hgo ⟨by simp only;omega,by simp only [List.length_append,List.length_cons,List.length_nil];omega,n,by simp only;omega,by
        rw [if_neg (fun h=>h h1),if_neg (by rw [h2];exact Bool.false_ne_true),if_neg h3] at hm;exact hm⟩ (by simp only;omega)
      clear hgo
      simp only at hgo2
      generalize parM (skS (t.drop 1))=p at *
      obtain⟨pc,⟨pn,pv⟩,pr⟩:=p
      simp only at hgo2 hm hpl hpc hsl hsr ⊢
      simp only [nrmA,nrmB,nrlB,reduceCtorEq,List.length_cons,List.length_nil]
      (repeat' (first|refine And.intro ?_ ?_|intro _))<;>first|omega|exact True.intro|exact False.elim ‹False›|skip
      all_goals first
        |omega
        |assumption
        | (by_cases hpz:pc=0
           · exact hpz
           · rw [if_pos hpz] at hm;simp only [Prod.mk.injEq] at hm;exact hm.1)
        |exact hgo2 ‹_› ‹_› (by omega)
        |(exfalso;rw [if_neg (fun h=>h ‹pc=0›),if_neg (by rw [‹(getP l pn).2=false›];exact Bool.false_ne_true),if_pos (by omega)] at hm;simp_all;done)
        |(rw [if_neg (fun h=>h ‹pc=0›),if_neg (by rw [‹(getP l pn).2=false›];exact Bool.false_ne_true),if_pos (by omega)] at hm;simp_all;done)
        |(exfalso;simp_all;done)
        |(simp_all;done)
    · have h59:zN t 59=false:=by simpa using h59
      simp only [h59,Bool.false_eq_true,if_false] at hm ⊢
      simp only [nrmA,nrmB,nrlB,reduceCtorEq,List.length_cons,List.length_nil]
      (repeat' (first|refine And.intro ?_ ?_|intro _))<;>first|omega|exact True.intro|exact False.elim ‹False›|skip
      all_goals first
        |omega
        |(exfalso;simp_all;done)
        |(simp_all;done)
        |(by_cases hte:t=[]<;>simp_all;done)
  have hl1:=yP s
  have hl2:=yR (skS s)
  have hl3:=xU (skS s)
  simp only [hh,show UInt8.ofNat (Int.toNat 47)=47 from rfl,decide_eq_true_eq,decide_eq_false_iff_not]
  unfold zW medA at hr
  generalize skS s=t at *
  have hl4:=xU ((tokE t).drop 1)
  have hl5:=yR ((tokE t).drop 1)
  rw [List.length_drop] at hl4 hl5
  (repeat' (first|refine And.intro ?_ ?_|intro _))
  all_goals try first|trivial|assumption|omega|(exfalso;simp_all;done)|(subst hI;(try(simp only [nrmA,nrmB,nrlB,reduceCtorEq,List.length_cons,List.length_nil,yU]))<;>first|omega|(simp_all [yU];done)|(simp_all [yU];omega))
  all_goals(have happ: ∀ a b:Str,I.app (α:=UInt8) a b=a++b:=by subst hI;intros;rfl)
  all_goals try simp only [happ]
  all_goals first
    | (rename_i q1 q2 q3
       rw [if_neg q1,if_pos q2] at hr
       simp only [q2,if_true] at q3 ⊢
       rw [if_neg q3] at hr
       have hsk:=yP (tokE ((tokE t).drop 1))
       exact key _ _ (by omega) hr)
    | (rename_i q1 q2
       rw [if_neg q1,if_neg (by simp [q2])] at hr
       simp only [q2,Bool.false_eq_true,if_false] at ⊢
       have hsk:=yP (tokE t)
       exact key _ _ (by omega) hr)
def Vl (I:Alg) (args:List D) (hp:List HO):Option CT:=match args,hp with
  |[.v (.one (.ptr 0 0))],[.pack [.obj 95 [(.p (.str s))]]]=>(fun(s:Str)=>(some (.br (I.hid (decide ((zW s).1=0))) (.one ⟨I.hid (s.length≤1000000∧(zW s).1=0),(.ret (.v (.agg [(.p (.str (I.hid ((zW s).2.1.word)))),(.p (.list .fld (I.hid ((zW s).2.1.params))))]))),[.pack [.obj 95 [(.p (.str (I.hid ((zW s).2.2))))]]]⟩) (.one ⟨I.hid (s.length≤1000000∧¬ (zW s).1=0),(.pan (.ifc 91 false [(.int .i64 (I.hid ((zW s).1)))])),[.pack [.obj 95 [(.p (.str (I.hid ((zW s).2.2))))]]]⟩)):Option CT)) s
  |_,_=>none
theorem zbO:zy Tryd.prog 51 (Vl alg):=by
  intro args hp r h
  unfold Vl at h
  split at h
  · cases h;exact⟨fun _ hn=>zga _ hn,fun _ hn=>zf9 _ hn⟩
  · cases h
def zeW:Know Tryd.prog:=⟨51,Vl,zbO⟩
def zeV:Know Tryd.prog:=⟨51,fun I=>zC I (Vl I),zf zbO⟩
end Go.Proofs.YtknaogelmckimaaDoor
namespace Go.Proofs.YtknaogelmckimaaDoor
open Go Go.Sep Go.Ab
set_option maxRecDepth 100000
theorem zgf (w:Str) (l:List Fld) (n:Int) (s:Str):SpcD Tryd.prog 50 [.ptr 0 0,.ptr 1 0] .ret [.obj 72 [.p (.str w),.p (.list .fld l)],.obj 3 [.p (.int .i64 n)],.pack [.obj 95 [.p (.str s)]]] .ret [.obj 72 [.p (.str w),.p (.list .fld l)],.obj 3 [.p (.int .i64 n)],.obj 95 [.p (.str s)]]:=by
  refine XR zl mixed Tryd.func50 (by kernel_rfl) { flat:=true} [] (rest:=_) rfl (by kernel_rfl) ?_
  intro I X hI hX
  refine zi (.fin (.ret (.tup [])) [(.obj 72 [(.p (.str w)),(.p (.list .fld l))]),(.obj 3 [(.p (.int .i64 n))]),(.obj 95 [(.p (.str s))])]) (by kernel_rfl) ?_
  simp only [zq]
  try trivial
theorem zge (w:Str) (n k:Int) (s:Str):SpcD Tryd.prog 50 [.ptr 0 0,.ptr 1 0] (.pan (.ifc 91 false [.int .i64 k])) [.obj 72 [.p (.str w),.nilS],.obj 3 [.p (.int .i64 n)],.pack [.obj 95 [.p (.str s)]]] .ret [.obj 72 [.p (.str []),.nilS],.obj 3 [.p (.int .i64 k)],.obj 95 [.p (.str s)]]:=by
  refine XR zl mixed Tryd.func50 (by kernel_rfl) { flat:=true} [] (rest:=_) rfl (by kernel_rfl) ?_
  intro I X hI hX
  refine zi (.fin (.ret (.tup [])) [(.obj 72 [(.p (.str ([]:Str))),.nilS]),(.obj 3 [(.p (.int .i64 k))]),(.obj 95 [(.p (.str s))])]) (by kernel_rfl) ?_
  simp only [zq]
  try trivial
def zg3:Door Tryd.prog where
  g:=50
  c :=fun _ m caps hp=>match m,caps,hp with
    |.ret,[.ptr 0 0,.ptr 1 0],[.obj 72 [.p (.str w),.p (.list .fld l)],.obj 3 [.p (.int .i64 n)],.pack [.obj 95 [.p (.str s)]]]=>some (True,.ret,[.obj 72 [.p (.str w),.p (.list .fld l)],.obj 3 [.p (.int .i64 n)],.obj 95 [.p (.str s)]])
    |.pan (.ifc 91 false [.int .i64 k]),[.ptr 0 0,.ptr 1 0],[.obj 72 [.p (.str w),.nilS],.obj 3 [.p (.int .i64 n)],.pack [.obj 95 [.p (.str s)]]]=>some (True,.ret,[.obj 72 [.p (.str []),.nilS],.obj 3 [.p (.int .i64 k)],.obj 95 [.p (.str s)]])
    |_,_,_=>none
  ok:=by
    intro m caps hp p m' hp' h _
    split at h
    · cases h;exact zgf _ _ _ _
    · cases h;exact zge _ _ _ _
    · cases h
theorem zeU (s:Str) (hneed:s.length≤1000000):Spc Tryd.prog 28 [.v (.one (.p (.str s)))] [] (.ret (.tup [(.agg [(.p (.str ((yK s).1.word))),(.p (.list .fld ((yK s).1.params)))]),(.one (.p (.int .i64 ((yK s).2))))])) []:=by
  generalize hr:yK s=r
  obtain⟨⟨w,ps⟩,c⟩:=r
  unfold yK at hr
  refine zgX zl mixed Tryd.func28 (by kernel_rfl) { cfgM with keep:=some [0,2,3,4]} [tq,uZ,zeW,zeV] zg3 (by kernel_rfl) ?_
  intro I X hI hX
  refine zi (.need (I.hid (α:=(Prop)) (LE.le (List.length s) 1000000)) (.br (I.bnot (I.hid (α:=Bool) (xE s))) (.fin (.ret (.tup [(.agg [(.p (.str ([]:Str))),(.p (.list .fld ([]:List Fld)))]),(.one (.p (.int .i64 3)))])) []) (.br (I.hid (α:=Bool) (Decidable.decide (Eq (Prod.fst (zW s)) (0:Int)))) (.need (I.hid (α:=(Prop)) (And (LE.le (List.length s) 1000000) (Eq (Prod.fst (zW s)) (0:Int)))) (.need True (.fin (.ret (.tup [(.agg [(.p (.str (I.hid (α:=Str) (Go.Ab.Med.word (Prod.fst (Prod.snd (zW s))))))),(.p (.list .fld (I.hid (α:=(List Fld)) (Go.Ab.Med.params (Prod.fst (Prod.snd (zW s)))))))]),(.one (.p (.int .i64 0)))])) []))) (.need (I.hid (α:=(Prop)) (And (LE.le (List.length s) 1000000) (Not (Eq (Prod.fst (zW s)) (0:Int))))) (.need True (.fin (.ret (.tup [(.agg [(.p (.str ([]:Str))),(.p (.list .fld ([]:List Fld)))]),(.one (.p (.int .i64 (I.hid (α:=Int) (Prod.fst (zW s))))))])) [])))))) (by kernel_rfl) ?_
  simp only [zq]
  subst hI
  simp only [nrmA,nrmB,nrlB,reduceCtorEq,V0.agg.injEq]
  (repeat' (first|refine And.intro ?_ ?_|intro _))<;>first|omega|exact True.intro|exact False.elim ‹False›|skip
  all_goals first|(simp_all;done)|trace_state
def qG (I:Alg) (args:List D) (hp:List HO):Option CT:=match args,hp with
  |[.v (.one (.p (.str s)))],[]=>(fun(s:Str)=>(some (.one ⟨I.hid (s.length≤1000000),(.ret (.tup [(.agg [(.p (.str (I.hid ((yK s).1.word)))),(.p (.list .fld (I.hid ((yK s).1.params))))]),(.one (.p (.int .i64 (I.hid ((yK s).2)))))])),[]⟩):Option CT)) s
  |_,_=>none
theorem Uf:zy Tryd.prog 28 (qG alg):=by
  intro args hp r h
  unfold qG at h
  split at h
  · cases h;exact fun hn=>zeU _ hn
  · cases h
def zbM:Know Tryd.prog:=⟨28,qG,Uf⟩
def zbL:Know Tryd.prog:=⟨28,fun I=>zC I (qG I),zf Uf⟩
end Go.Proofs.YtknaogelmckimaaDoor
namespace Go.Proofs.YtknaogelmckimaaDoor
open Go Go.Sep Go.Ab
set_option maxRecDepth 100000
theorem Vd: ∀ (n:Nat) (r:Str),r.length≤n→∀ v,pctM r=some v→v.length≤r.length
  |n,[],_,v,h=>by rw [pctM] at h;cases h;exact Nat.le_refl _
  |0,c::r,h,_,_=>by simp at h
  | n + 1,c::r,hl,v,h=>by
    rw [List.length_cons] at hl
    rw [pctM.eq_def] at h
    simp only at h
    split at h
    · cases hp:pctM r with
      |none=>rw [hp] at h;cases h
      | some u=>
        rw [hp] at h;cases h
        have:=Vd n r (by omega) u hp
        simp only [List.length_cons];omega
    · split at h
      · rename_i a b r'
        split at h
        · cases h
        · cases hp:pctM r' with
          |none=>rw [hp] at h;cases h
          | some u=>
            rw [hp] at h;cases h
            have:=Vd n r' (by simp only [List.length_cons] at hl;omega) u hp
            simp only [List.length_cons];omega
      · cases h
theorem zd2 (s:Str):(extV s).length≤s.length:=by
  unfold extV extM
  split
  · simp
  · cases h:pctM (s.drop 7) with
    |none=>simp
    | some v=>
      have:=Vd _ _ (Nat.le_refl _) v h
      rw [List.length_drop] at this
      simp only [Option.getD_some];omega
def PsOk (N:Nat) (l:List Fld):Prop:=l.length≤8∧∀ f ∈ l,f.value.length≤N
theorem zbW (N:Nat): ∀ (n:Nat) (s:Str) (ps:List Fld),s.length≤N→PsOk N ps→PsOk N (medL n s ps).2.1
  |0,s,ps,_,h=>h
  | n + 1, s,ps,hs,h=>by
    rw [medL]
    have h1:=yP (s.drop 1)
    have h2:=Ve (skS (s.drop 1))
    have h3:=yP (parM (skS (s.drop 1))).2.2
    rw [List.length_drop] at h1
    split
    · split
      · exact h
      · split
        · exact h
        · split
          · exact h
          · rename_i h8
            refine zbW N n _ _ (by omega) ⟨by rw [List.length_append,List.length_singleton];have:=h.1;omega,fun f hf=> ?_⟩
            rcases List.mem_append.1 hf with h5|h5
            · exact h.2 f h5
            · rw [List.mem_singleton.1 h5];omega
    · split<;>exact h
theorem zbG (s:Str):PsOk s.length (yK s).1.params:=by
  have h0:PsOk s.length []:=⟨by decide,fun f h=>by cases h⟩
  have hb: ∀ w t:Str,t.length≤s.length→PsOk s.length (medB w t).2.1.params:=fun w t ht=>by
    have h1:=yP t
    exact zbW s.length _ _ [] (by omega) h0
  have h1:=yP s
  have h2:=yR (skS s)
  have h3:=yR ((tokE (skS s)).drop 1)
  rw [List.length_drop] at h3
  have hm:PsOk s.length (zW s).2.1.params:=by
    unfold zW medA
    split
    · exact h0
    · split
      · split
        · exact h0
        · exact hb _ _ (by omega)
      · exact hb _ _ (by omega)
  unfold yK
  split
  · exact h0
  · split
    · exact hm
    · exact h0
theorem zdI {N:Nat} {l:List Fld} (h: ∀ f ∈ l,f.value.length≤N) (n:Str):(getP l n).1.length≤N:=by
  unfold getP
  cases hf:l.find? (fun f=>f.name == n) with
  |none=>simp
  |some f=>exact h f (List.mem_of_find?_eq_some hf)
theorem zdC {N:Nat} {l:List Fld} (h: ∀ f ∈ l,f.value.length≤N) (n:Str):(oneF (valsF l n)).1.length≤N:=by
  unfold oneF
  split
  · simp
  · split
    · rename_i h1
      match hv:valsF l n,h1 with
      | [x],_=>
        have:x ∈ valsF l n:=by rw [hv];exact List.mem_singleton.2 rfl
        unfold valsF at this
        obtain⟨f,hf,rfl⟩:=List.mem_map.1 this
        exact h f (List.mem_filter.1 hf).1
    · simp
theorem zgF (l:List Fld) (hneed:l.length≤1000∧∀ f ∈ l,f.name.length≤1000000∧f.value.length≤1000000):Spc Tryd.prog 14 [.v (.one (.p (.list .fld l)))] [] (.ret (.tup [(.agg [(.p (.str ((yN l).1.name))),(.p (.str ((yN l).1.file))),(.p (.str ((yN l).1.type))),.nilS]),(.one (.p (.int .i64 ((yN l).2))))])) []:=by
  obtain⟨hl,hf⟩:=hneed
  generalize hr:yN l=r
  refine spcG zl mixed Tryd.func14 (by kernel_rfl) { raw:=true,keep:=some [0,2,3,4,5,6,7,8,9,10,11,12,13,77]} [zfE,zfD,zfG,zfF,rC,ru,Y2,Y1,zbM,zbL] (by kernel_rfl) ?_
  intro I X hI hX
  refine zi (let y3:=([99,111,110,116,101,110,116,45,100,105,115,112,111,115,105,116,105,111,110]:Str);let y8:=I.hid (α:=Str) (Prod.fst (oneF (valsF l y3)));let y0:=I.hid (α:=(List Fld)) (Go.Ab.Med.params (Prod.fst (yK y8)));let y1:=I.hid (α:=Int) (Prod.snd (oneF (valsF l ([99,111,110,116,101,110,116,45,116,121,112,101]:Str))));let y2:=I.hid (α:=(Prop)) (And (LE.le (List.length l) 1000) (And (LE.le (List.length ([99,111,110,116,101,110,116,45,116,121,112,101]:Str)) 1000000) (∀ (f:Fld),f ∈ l→List.length f.name≤1000000∧List.length f.value≤1000000)));let y4:=I.hid (α:=Str) (Prod.fst (getP y0 ([110,97,109,101]:Str)));let y5:=I.hid (α:=Str) (Prod.fst (getP y0 ([102,105,108,101,110,97,109,101,42]:Str)));let y6:=I.hid (α:=Str) (Prod.fst (oneF (valsF l ([99,111,110,116,101,110,116,45,116,121,112,101]:Str))));let y7:=I.hid (α:=Str) (Prod.fst (getP y0 ([102,105,108,101,110,97,109,101]:Str)));let y9:=I.hid (α:=(Prop)) (LE.le (List.length y0) 1000000);let y10:=I.hid (α:=Str) (uN (I.hid (α:=Str) (extV y5)));let y11:=I.hid (α:=Int) (Prod.snd (oneF (valsF l y3)));let y12:=I.hid (α:=Int) (Prod.snd (yK y8));.need (I.hid (α:=(Prop)) (And (LE.le (List.length l) 1000) (And (LE.le (List.length y3) 1000000) (∀ (f:Fld),f ∈ l→List.length f.name≤1000000∧List.length f.value≤1000000)))) (.br (I.bnot (I.ieq y11 0)) (.fin (.ret (.tup [(.agg [(.p (.str ([]:Str))),(.p (.str ([]:Str))),(.p (.str ([]:Str))),.nilS]),(.one (.p (.int .i64 y11)))])) []) (.need (I.hid (α:=(Prop)) (LE.le (List.length y8) 1000000)) (.br (I.bnot (I.ieq y12 0)) (.fin (.ret (.tup [(.agg [(.p (.str ([]:Str))),(.p (.str ([]:Str))),(.p (.str ([]:Str))),.nilS]),(.one (.p (.int .i64 y12)))])) []) (.br (I.bnot (I.seq (I.hid (α:=Str) (Go.Ab.Med.word (Prod.fst (yK y8)))) ([102,111,114,109,45,100,97,116,97]:Str))) (.fin (.ret (.tup [(.agg [(.p (.str ([]:Str))),(.p (.str ([]:Str))),(.p (.str ([]:Str))),.nilS]),(.one (.p (.int .i64 11)))])) []) (.need y9 (.br (I.bnot (I.hid (α:=Bool) (Prod.snd (getP y0 ([110,97,109,101]:Str))))) (.fin (.ret (.tup [(.agg [(.p (.str ([]:Str))),(.p (.str ([]:Str))),(.p (.str ([]:Str))),.nilS]),(.one (.p (.int .i64 6)))])) []) (.need y9 (.need y9 (.br (I.hid (α:=Bool) (Prod.snd (getP y0 ([102,105,108,101,110,97,109,101,42]:Str)))) (.need (I.hid (α:=(Prop)) (LE.le (List.length y5) 1000000)) (.br (I.bnot (I.hid (α:=Bool) (extB y5))) (.fin (.ret (.tup [(.agg [(.p (.str ([]:Str))),(.p (.str ([]:Str))),(.p (.str ([]:Str))),.nilS]),(.one (.p (.int .i64 5)))])) []) (.br (I.hid (α:=Bool) (extB y5)) (.need (I.hid (α:=(Prop)) (LE.le (List.length (I.hid (α:=Str) (extV y5))) 1000000)) (.need y2 (.br (I.ieq y1 0) (.fin (.ret (.tup [(.agg [(.p (.str y4)),(.p (.str y10)),(.p (.str y6)),.nilS]),(.one (.p (.int .i64 0)))])) []) (.br (I.ieq y1 9) (.fin (.ret (.tup [(.agg [(.p (.str ([]:Str))),(.p (.str ([]:Str))),(.p (.str ([]:Str))),.nilS]),(.one (.p (.int .i64 y1)))])) []) (.fin (.ret (.tup [(.agg [(.p (.str y4)),(.p (.str y10)),(.p (.str ([]:Str))),.nilS]),(.one (.p (.int .i64 0)))])) []))))) (.need y2 (.br (I.ieq y1 0) (.fin (.ret (.tup [(.agg [(.p (.str y4)),(.p (.str ([]:Str))),(.p (.str y6)),.nilS]),(.one (.p (.int .i64 0)))])) []) (.br (I.ieq y1 9) (.fin (.ret (.tup [(.agg [(.p (.str ([]:Str))),(.p (.str ([]:Str))),(.p (.str ([]:Str))),.nilS]),(.one (.p (.int .i64 y1)))])) []) (.fin (.ret (.tup [(.agg [(.p (.str y4)),(.p (.str ([]:Str))),(.p (.str ([]:Str))),.nilS]),(.one (.p (.int .i64 0)))])) []))))))) (.br (I.hid (α:=Bool) (Prod.snd (getP y0 ([102,105,108,101,110,97,109,101]:Str)))) (.need (I.hid (α:=(Prop)) (LE.le (List.length y7) 1000000)) (.need y2 (.br (I.ieq y1 0) (.fin (.ret (.tup [(.agg [(.p (.str y4)),(.p (.str (I.hid (α:=Str) (uN y7)))),(.p (.str y6)),.nilS]),(.one (.p (.int .i64 0)))])) []) (.br (I.ieq y1 9) (.fin (.ret (.tup [(.agg [(.p (.str ([]:Str))),(.p (.str ([]:Str))),(.p (.str ([]:Str))),.nilS]),(.one (.p (.int .i64 y1)))])) []) (.fin (.ret (.tup [(.agg [(.p (.str y4)),(.p (.str (I.hid (α:=Str) (uN y7)))),(.p (.str ([]:Str))),.nilS]),(.one (.p (.int .i64 0)))])) []))))) (.need y2 (.br (I.ieq y1 0) (.fin (.ret (.tup [(.agg [(.p (.str y4)),(.p (.str ([]:Str))),(.p (.str y6)),.nilS]),(.one (.p (.int .i64 0)))])) []) (.br (I.ieq y1 9) (.fin (.ret (.tup [(.agg [(.p (.str ([]:Str))),(.p (.str ([]:Str))),(.p (.str ([]:Str))),.nilS]),(.one (.p (.int .i64 y1)))])) []) (.fin (.ret (.tup [(.agg [(.p (.str y4)),(.p (.str ([]:Str))),(.p (.str ([]:Str))),.nilS]),(.one (.p (.int .i64 0)))])) []))))))))))))))) (by kernel_rfl) ?_
  simp only [zq]
  try rw [show([99,111,110,116,101,110,116,45,100,105,115,112,111,115,105,116,105,111,110]:Str)=wJ from rfl]
  try rw [show([99,111,110,116,101,110,116,45,116,121,112,101]:Str)=zan from rfl]
  try rw [show([102,111,114,109,45,100,97,116,97]:Str)=zex from rfl]
  try rw [show([102,105,108,101,110,97,109,101]:Str)=zdY from rfl]
  try rw [show([102,105,108,101,110,97,109,101,42]:Str)=Ti from rfl]
  try rw [show([110,97,109,101]:Str)=ze4 from rfl]
  have hk1:wJ.length≤1000000:=by decide
  have hk2:zan.length≤1000000:=by decide
  have hv:=zdC (fun f h=>(hf f h).2) wJ
  have hp:=zbG (oneF (valsF l wJ)).1
  have hg:=fun n=>zdI hp.2 n
  have hg1:=hg Ti
  have hg2:=hg zdY
  have hx:=zd2 (getP (yK (oneF (valsF l wJ)).1).1.params Ti).1
  unfold yN at hr
  subst hI
  simp only [nrmA,nrmB,nrlB,reduceCtorEq]
  have hpl:=hp.1
  clear hp hg
  generalize oneF (valsF l zan)=t at *
  generalize getP (yK (oneF (valsF l wJ)).1).1.params Ti=x at *
  generalize getP (yK (oneF (valsF l wJ)).1).1.params zdY=f at *
  generalize getP (yK (oneF (valsF l wJ)).1).1.params ze4=n at *
  generalize yK (oneF (valsF l wJ)).1=m at *
  generalize oneF (valsF l wJ)=a at *
  unfold zdz zbE partT at hr
  (repeat' (first|refine And.intro ?_ ?_|intro _))<;>first|omega|exact True.intro|exact False.elim ‹False›|skip
  all_goals first
    |omega
    |exact hl
    |exact hk1
    |exact hk2
    |exact(hf _ ‹_›).1
    |exact(hf _ ‹_›).2
    |exact absurd (‹extB x.fst=true›.symm.trans ‹extB x.fst=false›) (by decide)
    |(subst hr;clear hf hX hv hg1 hg2 hx hpl hl hk1 hk2;simp [*,prt0];done)
def YH (I:Alg) (args:List D) (hp:List HO):Option CT:=match args,hp with
  |[.v (.one (.p (.list .fld l)))],[]=>(fun(l:List Fld)=>(some (.one ⟨I.hid (l.length≤1000∧∀ f ∈ l,f.name.length≤1000000∧f.value.length≤1000000),(.ret (.tup [(.agg [(.p (.str (I.hid ((yN l).1.name)))),(.p (.str (I.hid ((yN l).1.file)))),(.p (.str (I.hid ((yN l).1.type)))),.nilS]),(.one (.p (.int .i64 (I.hid ((yN l).2)))))])),[]⟩):Option CT)) l
  |_,_=>none
theorem zad:zy Tryd.prog 14 (YH alg):=by
  intro args hp r h
  unfold YH at h
  split at h
  · cases h;exact fun hn=>zgF _ hn
  · cases h
def rE:Know Tryd.prog:=⟨14,YH,zad⟩
def rD:Know Tryd.prog:=⟨14,fun I=>zC I (YH I),zf zad⟩
end Go.Proofs.YtknaogelmckimaaDoor
