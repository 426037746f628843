/- Texts of this proof, one behind the other: AbP AbO ShpR Tab Laid Wrap InZ Shelf Lib ChrA ChrB ChrC LnL Fnd FldA ChrD ChkL FldB FldG FldD FldE ReqL ReqP LnA ChkA ChkI FldP ChrN. -/
import Derived.Deep.LoopGhost
import Derived.Recover
import Derived.KernelRfl
import Derived.Test.YtmibhbdfigpkmaaGreatDoorProg
import Derived.WalkKit
import Derived.Lib.ItoaNum
import Derived.Lib.LaidTab
import Derived.Shelf.Vars
import Derived.HandedShaped
import Derived.WideShapes
import Derived.ChangeArms
import Derived.SizedLaws
import Derived.Shelf.Strings.SlTrimAscii
import Derived.Shelf.Strings.Trim
import Derived.Shelf.Small.Utf8
import Derived.Shelf.Small.Strs
import Derived.Shelf.Strconv.Itoa0
import Derived.Shelf.Strconv.Itoa1
import Derived.Shelf.LaysM
import Derived.Shelf.Strconv.Itoa2
import Derived.Shelf.Strconv.Itoa3
import Derived.Shelf.Strings.Search1
import Derived.Shelf.Strings.Search2
import Derived.Shelf.Strings.Search3
import Derived.Shelf.Strings.Cut
import Derived.Shelf.Strings.Count
import Derived.Shelf.Strings.Shaped
import Derived.Shelf.Strings.Prefix
import Derived.Shelf.Strings.Split
import Derived.Shelf.Strings.Runes
import Derived.Shelf.Strings.IndexAny
import Derived.Shelf.Strings.AsciiSet
import Derived.Shelf.Strings.IndexAnyAll
import Derived.Shelf.Unicode.DecodeSlow
import Derived.Below
import Derived.Test.YtmibhbdfigpkmaaGreatDoorMb
set_option linter.all false
namespace Go.Ab
open Go Go.Sep
variable [Facts]
theorem UA {α:Type} (x:α):alg.hid x=x:=rfl
theorem zhv (k:IntKind) (x y:Int):alg.shl k x y=k.wrap (x * 2 ^ (min y.toNat k.bits)):=rfl
theorem zhu (x y:Int):alg.shr x y=x.fdiv (2 ^ (min y.toNat 64)):=rfl
theorem zd9 (op:BinOp) (k:IntKind) (x y:Int):alg.bits op k x y=k.wrap (match op with
    |.and=>(BitVec.ofInt k.bits x&&& BitVec.ofInt k.bits y).toNat
    |.or=>(BitVec.ofInt k.bits x|||BitVec.ofInt k.bits y).toNat
    |_=>(BitVec.ofInt k.bits x ^^^ BitVec.ofInt k.bits y).toNat:Nat):=rfl
theorem zgI:IntKind.i64.min= -9223372036854775808:=by decide
theorem zgJ:IntKind.i64.max=9223372036854775807:=by decide
theorem ziO:IntKind.u8.min=0:=by decide
theorem ziP:IntKind.u8.max=255:=by decide
theorem zav (c:UInt8):UInt8.ofNat ((c.toNat:Int)).toNat=c:=by simp
theorem zhm (c d:UInt8):((c.toNat:Int)=(d.toNat:Int))↔c=d:=by
  constructor
  · intro h;exact UInt8.toNat_inj.1 (by omega)
  · intro h;rw [h]
structure CR where
  need:Prop
  out:AOut
  hp:List HO
inductive CT where
  |one (r:CR)
  |br (b:Bool) (t f:CT)
def CT.Good (Pr:Program) (f:Nat) (args:List D) (hp:List HO):CT→Prop
  |.one r=>r.need→Spc Pr f args hp r.out r.hp
  |.br b t e=>(b=true→t.Good Pr f args hp)∧(b=false→e.Good Pr f args hp)
def CT.map (g:CR→CR):CT→CT
  |.one r=>.one (g r)
  |.br b t e=>.br b (t.map g) (e.map g)
def CT.mapO (g:CR→Option CR):CT→Option CT
  |.one r=>match g r with|some r=>some (.one r)|none=>none
  |.br b t e=>match t.mapO g,e.mapO g with|some t,some e=>some (.br b t e)|_,_=>none
def CT.tree (k:CR→Tree):CT→Tree
  |.one r=>k r
  |.br b t e=>.br b (t.tree k) (e.tree k)
theorem CT.Good.map {Pr:Program} {f f':Nat} {args args':List D} {hp hp':List HO} {g:CR→CR} (h: ∀ r:CR,(r.need→Spc Pr f args hp r.out r.hp)→(g r).need→Spc Pr f' args' hp' (g r).out (g r).hp): ∀ {c:CT},c.Good Pr f args hp→(c.map g).Good Pr f' args' hp'
  |.one r,hc=>h r hc
  |.br _ _ _,hc=>⟨fun e=>CT.Good.map h (hc.1 e),fun e=>CT.Good.map h (hc.2 e)⟩
theorem CT.Good.mapO {Pr:Program} {f f':Nat} {args args':List D} {hp hp':List HO} {g:CR→Option CR} (h: ∀ r r':CR,g r=some r'→(r.need→Spc Pr f args hp r.out r.hp)→r'.need→Spc Pr f' args' hp' r'.out r'.hp): ∀ {c c':CT},c.mapO g=some c'→c.Good Pr f args hp→c'.Good Pr f' args' hp'
  | .one r,c',e,hc=>by
    simp only [CT.mapO] at e
    split at e
    · rename_i r' hr;cases e;exact h r r' hr hc
    · cases e
  | .br b t f,c',e,hc=>by
    simp only [CT.mapO] at e
    split at e
    · rename_i t' f' ht hf;cases e;exact⟨fun e=>CT.Good.mapO h ht (hc.1 e),fun e=>CT.Good.mapO h hf (hc.2 e)⟩
    · cases e
structure Know (Pr:Program) where
  f:Nat
  c:Alg→List D→List HO→Option CT
  ok: ∀ args hp r,c alg args hp=some r→r.Good Pr f args hp
def ziS:List D→List Nat
  |[]=>[]
  |d::ds=>zid d++ziS ds
def SN (hp:List HO) (args:List D):List Nat:=gather hp 60 (ziS args) []
def frameC (c:List D→List HO→Option CT) (args:List D) (hp:List HO):Option CT:=
  match vI (SN hp args) hp with
  |none=>none
  | some (os,hpr)=>match c (args.map (D.ren fun q=>idx q (SN hp args) 0)) (os.map (HO.ren fun q=>idx q (SN hp args) 0)) with
    |none=>none
    |some r=>some (r.map fun r=>⟨r.need,r.out.ren (Xr (SN hp args) hp.length),sF (Xr (SN hp args) hp.length) (SN hp args) r.hp hpr⟩)
def V4 (I:Alg) (c:List D→List HO→Option CT):Nat→List D→List HO→Option CT
  |0,args,hp=>frameC c args hp
  | n + 1,args,hp=>match nth hp n with
    | some (.row u E l)=>(match V4 I c n (args.map (D.frz I n u l)) (setN (hp.map (HO.frz I n u l)) n .gone) with
      | some r=>r.mapO fun r=>(match noLA r.out,zax r.hp with
        |true,true=>some ⟨r.need,r.out,setN r.hp n (.row u E l)⟩
        |_,_=>none)
      |none=>none)
    |_=>V4 I c n args hp
def zH (I:Alg) (c:List D→List HO→Option CT) (args:List D) (hp:List HO):Option CT:=V4 I c hp.length args hp
def ask {Pr:Program} (I:Alg):List (Know Pr)→Nat→List D→List HO→Option CT
  |[],_,_,_=>none
  | k::r,f,args,hp=>match Nat.beq k.f f with
    |true=>(match frameC (k.c I) args hp with|some x=>some x|none=>ask I r f args hp)
    |false=>ask I r f args hp
def drive (q:Nat→List D→List HO→Option CT):Tree→Tree
  |.need p t=>.need p (drive q t)
  |.br b t f=>.br b (drive q t) (drive q f)
  | .call f args hp k=>TR hp fun hp=>match q f args hp with
    |some r=>r.tree fun r=>.need r.need (TR r.hp fun h=>drive q (k r.out h))
    |none=>.call f args hp fun o h=>drive q (k o h)
  |.code c st k=>.code c st k
  |.fin o hp=>.fin o hp
  |.both t f=>.both (drive q t) (drive q f)
  |.qed=>.qed
  |.stop n=>.stop n
def zD (Pr:Program) (f:Nat) (c:List D→List HO→Option CT):Prop:=∀ args hp r,c args hp=some r→r.Good Pr f args hp
section
variable {Pr:Program} {T:Tab} {X:Ctx} {G:AOut→List HO→Prop} {a:Act} {w:World}
theorem Uc {f:Nat} {c:List D→List HO→Option CT} (h:zD Pr f c):zD Pr f (frameC c):=by
  intro args hp r hr
  unfold frameC at hr
  split at hr
  · cases hr
  · rename_i os hpr ht
    split at hr
    · cases hr
    · rename_i r0 hc
      cases hr
      exact CT.Good.map (g:=fun r=>⟨r.need,r.out.ren (Xr (SN hp args) hp.length),sF (Xr (SN hp args) hp.length) (SN hp args) r.hp hpr⟩) (fun r hs hn=>(hs hn).frame _ ht rfl rfl) (h _ _ _ hc)
theorem qj {f:Nat} {c:List D→List HO→Option CT} (h:zD Pr f c): ∀ n,zD Pr f (V4 alg c n)
  |0=>Uc h
  | n + 1 =>by
    intro args hp r hr
    unfold V4 at hr
    split at hr
    · rename_i u E l ho
      rw [yg] at ho
      split at hr
      · rename_i r0 hc
        refine CT.Good.mapO (fun r r' hrr hs hn=> ?_) hr (qj h n _ _ _ hc)
        split at hrr
        · rename_i h1 h2
          cases hrr
          exact Spc.zkN (hs hn) ho rfl rfl h1 h2
        · cases hrr
      · cases hr
    · exact qj h n _ _ _ hr
theorem zf {f:Nat} {c:List D→List HO→Option CT} (h:zD Pr f c):zD Pr f (zH alg c):=fun args hp=>qj h hp.length args hp
theorem YU: ∀ {kn:List (Know Pr)} {f:Nat},zD Pr f (ask alg kn f)
  |[],f=>fun args hp r hr=>by cases hr
  | k ::r,f=>fun args hp x hr=>by
    unfold ask at hr
    split at hr
    · rename_i hb
      obtain rfl:=Nat.eq_of_beq_eq_true hb
      split at hr
      · rename_i y hy;cases hr;exact Uc k.ok args hp _ hy
      · exact YU args hp x hr
    · exact YU args hp x hr
theorem CT.xJ {f:Nat} {args:List D} {hp:List HO} {k:AOut→List HO→Tree} {k':AOut→List HO→Tree} (ih: ∀ o h,(k' o h).ok Pr X G→(k o h).ok Pr X G): ∀ {c:CT},c.Good Pr f args hp→(c.tree fun r=>.need r.need (k' r.out r.hp)).ok Pr X G→∃ out hp',Spc Pr f args hp out hp'∧(k out hp').ok Pr X G
  |.one r,hc,h=>⟨r.out,r.hp,hc h.1,ih _ _ h.2⟩
  | .br b t e,hc,h=>by
    cases b with
    |true=>exact CT.xJ ih (hc.1 rfl) (h.1 rfl)
    |false=>exact CT.xJ ih (hc.2 rfl) (h.2 rfl)
theorem Ql {q:Nat→List D→List HO→Option CT} (hq: ∀ f,zD Pr f (q f)): ∀ {t:Tree},(drive q t).ok Pr X G→t.ok Pr X G:=by
  intro t
  induction t with
  |need p t ih=>exact fun h=>⟨h.1,ih h.2⟩
  |br b t f ih1 ih2=>exact fun h=>⟨fun e=>ih1 (h.1 e),fun e=>ih2 (h.2 e)⟩
  | call f args hp k ih=>
    intro h
    simp only [drive,Ue] at h
    split at h
    · rename_i r hr;exact CT.xJ (k':=fun o h=>drive q (k o h)) (fun o h=>ih o h) (hq f args hp r hr) h
    · obtain⟨o,hp',h1,h2⟩:=h;exact⟨o,hp',h1,ih _ _ h2⟩
  |code c st k ih=>exact fun h=>h
  |fin o hp=>exact fun h=>h
  |both t f ih1 ih2=>exact fun h=>⟨ih1 h.1,ih2 h.2⟩
  |qed=>exact fun h=>h
  |stop n=>exact fun h=>h
structure Rt where
  B:Code
  K:AEx→St→Tree
def Uw (fn:Func):Code:=match fn.body with|some c=>c|none=>.skip
def loopBody:Code→Code
  |.loop b=>b
  |c=>c
def cAt:List Nat→Code→Code
  |[],c=>c
  | n::p,c=>match c with
    |.seq a b=>(match n with|0=>cAt p a|_=>cAt p b)
    |.cond _ t e=>(match n with|0=>cAt p t|_=>cAt p e)
    |.block _ b=>cAt p b
    |c=>c
def kAt (I:Alg) (T:Tab) (cfg:Cfg):List Nat→Code→(AEx→St→Tree)→AEx→St→Tree
  |[],_,K=>K
  | n ::p,c,K=>match c with
    |.seq a b=>(match n with|0=>kAt I T cfg p a (fun e st=>match e with|.normal=>vc I T cfg b K st|e=>K e st)|_=>kAt I T cfg p b K)
    |.cond _ t e=>(match n with|0=>kAt I T cfg p t K|_=>kAt I T cfg p e K)
    | .block id b=>kAt I T cfg p b (fun e st=>match e with
      |.exit j=>(match Nat.beq j id with|true=>K .normal st|false=>K (.exit j) st)
      |e=>K e st)
    |_=>K
def rtAt:Nat→List Rt→Rt
  |_,[]=>⟨.skip,fun _ _=>.stop 50⟩
  |0,r::_=>r
  |n+1,_::l=>rtAt n l
def leaf (I:Alg) (T:Tab) (cfg:Cfg) (R:List Rt) (i:Nat) (p:List Nat) (st:St):Tree:=
  .code (cAt p (rtAt i R).B) st (kAt I T cfg p (rtAt i R).B (rtAt i R).K)
def zkV (I:Alg) (T:Tab) (cfg:Cfg) (c:Code) (K:AEx→St→Tree) (st:St):Tree:=
  match c with
  |.region _ ops draw=>regT I T cfg ops draw K (st.tidy cfg.keep)
  |c=>vc I T cfg c K st
def go (I:Alg) (T:Tab) (cfg:Cfg) (kn:List (Know Pr)) (R:List Rt) (i:Nat) (p:List Nat) (st:St):Tree:=
  drive (ask I kn) (zkV I T cfg (cAt p (rtAt i R).B) (kAt I T cfg p (rtAt i R).B (rtAt i R).K) st)
def cutM (cfg:Cfg) (k0:Nat) (dom:List Nat) (st:St):Option St:=St.cut cfg.fsl k0 dom (ZJ cfg.mv st)
def zkz (cfg:Cfg) (k0:Nat) (dom:List Nat) (A:St→Prop) (k:AEx→St→Tree):AEx→St→Tree:=fun e st=>
  match e with
  |.normal=>(match cutM cfg k0 dom st with|some s=>.need (A s) .qed|none=>.stop 19)
  |e=>k e st
def round (I:Alg) (T:Tab) (cfg:Cfg) (k0:Nat) (dom:List Nat) (A:St→Prop) (R:List Rt) (i:Nat) (p:List Nat):Rt:=
  ⟨loopBody (cAt p (rtAt i R).B),zkz cfg k0 dom A (kAt I T cfg p (rtAt i R).B (rtAt i R).K)⟩
inductive PT where
  |need (p:Prop) (t:PT)
  |br (b:Bool) (t f:PT)
  |code (i:Nat) (p:List Nat) (st:St)
  |fin (o:AOut) (hp:List HO)
  |both (t f:PT)
  |qed
  |stop (n:Nat)
def PT.inst (I:Alg) (T:Tab) (cfg:Cfg) (R:List Rt):PT→Tree
  |.need p t=>.need p (t.inst I T cfg R)
  |.br b t f=>.br b (t.inst I T cfg R) (f.inst I T cfg R)
  |.code i p st=>leaf I T cfg R i p st
  |.fin o hp=>.fin o hp
  |.both t f=>.both (t.inst I T cfg R) (f.inst I T cfg R)
  |.qed=>.qed
  |.stop n=>.stop n
theorem zh {I:Alg} {cfg:Cfg} {kn:List (Know Pr)} {R:List Rt} {i:Nat} {p:List Nat} {st:St} (pt:PT) (h:go I T cfg kn R i p st=pt.inst I T cfg R) (k:Ok Pr X G (pt.inst I T cfg R)):Ok Pr X G (go I T cfg kn R i p st):=h▸k
theorem zaN {I:Alg} {cfg:Cfg} {R:List Rt} {p:Prop} {t:PT}:Ok Pr X G (PT.inst I T cfg R (.need p t))↔p∧Ok Pr X G (t.inst I T cfg R):=zjE
theorem zgE {I:Alg} {cfg:Cfg} {R:List Rt} {b:Bool} {t f:PT}:Ok Pr X G (PT.inst I T cfg R (.br b t f))↔(b=true→Ok Pr X G (t.inst I T cfg R))∧(b=false→Ok Pr X G (f.inst I T cfg R)):=zlp
theorem zaP {I:Alg} {cfg:Cfg} {R:List Rt} {t f:PT}:Ok Pr X G (PT.inst I T cfg R (.both t f))↔Ok Pr X G (t.inst I T cfg R)∧Ok Pr X G (f.inst I T cfg R):=zjF
theorem zdv {I:Alg} {cfg:Cfg} {R:List Rt} {o:AOut} {hp:List HO}:Ok Pr X G (PT.inst I T cfg R (.fin o hp))↔G o hp:=zkG
theorem zdu {I:Alg} {cfg:Cfg} {R:List Rt}:Ok Pr X G (PT.inst I T cfg R .qed)↔True:=zkF
theorem zaM {I:Alg} {cfg:Cfg} {R:List Rt} {n:Nat}:Ok Pr X G (PT.inst I T cfg R (.stop n))↔False:=zjD
theorem zaO {I:Alg} {cfg:Cfg} {R:List Rt} {i:Nat} {p:List Nat} {st:St}:Ok Pr X G (PT.inst I T cfg R (.code i p st))↔Ok Pr X G (leaf I T cfg R i p st):=Iff.rfl
def Qb (cfg:Cfg):Code→Bool
  |.region id _ _=>memN id cfg.seam
  |_=>false
theorem spcG {P:Program} {T:Tab} (hT:T.fits P) (hm:P.follows .mixedOrders=true) {f:Nat} {fn:Func} (hf:P.funcs[f]? =some fn) (hn:(fn.name == "runtime.NumGoroutine")=false) (cfg:Cfg) (kn:List (Know P)) {args:List D} {hp:List HO} {out:AOut} {hp':List HO}
    (hb:(fn.body.isSome&& !Qb cfg (Uw fn)&&Nat.ble args.length fn.ntmps)=true)
    (h: ∀ (I:Alg) (X:Ctx),I=alg→X.bs0.length=hp.length→Ok P X (fun o h=>o=out∧h=hp') (go I T cfg kn [⟨Uw fn,finK I T cfg hp.length fn⟩] 0 [] { env:=zg1 0 args,hp:=hp,n:=fn.ntmps})):Spc P f args hp out hp':=by
  simp only [Bool.and_eq_true,Bool.not_eq_true'] at hb
  refine zee hT hm hf hn (cfg:=cfg) hb.1.1 hb.2 fun I X hI hX=> ?_
  subst hI
  have h1:=(h alg X rfl hX).out
  have h2:=Ql (fun f=>YU) h1
  have hs:=hb.1.2
  unfold funT
  unfold Uw at h2 hs
  cases hbd:fn.body with
  |none=>rw [hbd] at hb;cases hb.1.1
  | some c=>
    rw [hbd] at h2 hs
    simp only [rtAt,cAt,kAt] at h2
    simp only at hs ⊢
    cases c<;>first|exact h2|skip
    simp only [Qb] at hs
    simp only [vc,hs]
    exact h2
theorem V9 (hT:T.fits Pr) (hm:Pr.follows .mixedOrders=true) {cfg:Cfg} {c:Code} {K:AEx→St→Tree} {st:St} (h:(zkV alg T cfg c K st).ok Pr X G) (hn:Now X st a w):c.wp Pr (Post X fun e st'=>(K e st').ok Pr X G) a w:=by
  cases c with
  |region id ops draw=>exact Tc hT hm h (hn.tidy cfg.keep)
  |_=>exact zco hT hm (cfg:=cfg) h hn
theorem Xp {cfg:Cfg} {k0:Nat} (hk:X.bs0.length=k0) {dom:List Nat} {st s:St} (hc:cutM cfg k0 dom st=some s) (hn:Now X st a w):Now X s a w:=by
  obtain⟨S,K,hH,hE⟩:=hn
  obtain⟨K',h1,h2⟩:=sS cfg.mv hH hE
  exact zg8 hk hc ⟨S,K',h1,h2⟩
theorem zG {I:Alg} (hI:I=alg) (hT:T.fits Pr) (hm:Pr.follows .mixedOrders=true) {cfg:Cfg} (kn:List (Know Pr)) {R:List Rt} {i:Nat} {p:List Nat} {st:St} {k0:Nat} (hk:X.bs0.length=k0) (dom:List Nat) {ι:Type} (Inv:ι→Prop) (Iv:ι→St) (μ:ι→Nat) (g0:ι)
    (hc:(match cAt p (rtAt i R).B with|.loop b=> !Qb cfg b|_=>false)=true) (h0:cutM cfg k0 dom st=some (Iv g0)) (hg0:Inv g0)
    (hr: ∀ (g:ι),Inv g→∀ (A:St→Prop),(∀ g',Inv g'→μ g'<μ g→A (Iv g'))→Ok Pr X G (go I T cfg kn (round I T cfg k0 dom A R i p::R) 0 [] (Iv g))):Ok Pr X G (leaf I T cfg R i p st):=by
  subst hI
  constructor
  unfold leaf
  intro S K a w hH hE
  obtain⟨b,hb⟩: ∃ b,cAt p (rtAt i R).B=.loop b:=by
    cases h:cAt p (rtAt i R).B<;>rw [h] at hc<;>first|exact⟨_,rfl⟩|cases hc
  rw [hb]
  refine wp_loop_ghost (fun n a w=>∃ g,Inv g∧μ g=n∧Now X (Iv g) a w) (μ g0) ⟨g0,hg0,rfl,Xp hk h0 ⟨S,K,hH,hE⟩⟩ ?_
  rintro n a w ⟨g,hg,rfl,hn⟩
  have h1:=(hr g hg (fun s=>∃ g',Inv g'∧μ g'<μ g∧s=Iv g') (fun g' hi hl=>⟨g',hi,hl,rfl⟩)).out
  have h2:=Ql (fun f=>YU) h1
  simp only [rtAt,cAt,kAt,round,hb,loopBody] at h2
  refine wp_mono (V9 hT hm h2 hn) fun e a' w' hq=> ?_
  obtain⟨e',st',h1,S',K',hH',hE',hem⟩:=hq
  generalize kAt alg T cfg p (rtAt i R).B (rtAt i R).K=k at h1
  have keep: ∀ {e:Exit} {e':AEx},(∀ (h:e'=.normal),False)→EM S' (K'.map CO.base) e e'→(k e' st').ok Pr X G→Post X (fun e st'=>(k e st').ok Pr X G) e a' w':=fun {e e'} _ hem h=>⟨e',st',h,S',K',hH',hE',hem⟩
  cases e' with
  | normal=>
    cases e with
    | normal=>
      have h1:((match cutM cfg k0 dom st' with|some s=>Tree.need (∃ g',Inv g'∧μ g'<μ g∧s=Iv g') .qed|none=>.stop 19):Tree).ok Pr X G:=h1
      split at h1
      · rename_i s hs
        obtain⟨⟨g',hi,hlt,rfl⟩,_⟩:=h1
        exact⟨μ g',hlt,g',hi,rfl,Xp hk hs ⟨S',K',hH',hE'⟩⟩
      · exact h1.elim
    |exit i=>exact hem.elim
    |goto l=>exact hem.elim
    |ret=>exact hem.elim
    |panic ch=>exact hem.elim
    |outgrown=>exact hem.elim
  | exit j=>cases e with
    |exit i=>exact keep (fun h=>by cases h) hem h1
    |normal=>exact hem.elim
    |goto l=>exact hem.elim
    |ret=>exact hem.elim
    |panic ch=>exact hem.elim
    |outgrown=>exact hem.elim
  | ret=>cases e with
    |ret=>exact keep (fun h=>by cases h) hem h1
    |normal=>exact hem.elim
    |goto l=>exact hem.elim
    |exit j=>exact hem.elim
    |panic ch=>exact hem.elim
    |outgrown=>exact hem.elim
  | pan c=>cases e with
    |panic ch=>exact keep (fun h=>by cases h) hem h1
    |normal=>exact hem.elim
    |goto l=>exact hem.elim
    |exit j=>exact hem.elim
    |ret=>exact hem.elim
    |outgrown=>exact hem.elim
theorem seam {I:Alg} (hI:I=alg) (hT:T.fits Pr) (hm:Pr.follows .mixedOrders=true) {cfg:Cfg} (kn:List (Know Pr)) {R:List Rt} {i:Nat} {p:List Nat} {st:St} {k0:Nat} (hk:X.bs0.length=k0) (dom:List Nat) (st1:St)
    (h0:cutM cfg k0 dom st=some st1) (hr:Ok Pr X G (go I T cfg kn R i p st1)):Ok Pr X G (leaf I T cfg R i p st):=by
  subst hI
  constructor
  intro S K a w hH hE
  exact V9 hT hm (Ql (fun f=>YU) hr.out) (Xp hk h0 ⟨S,K,hH,hE⟩)
end
inductive AM where
  |ret
  |pan (c:C)
def AM.out:AM→AEx
  |.ret=>.ret
  |.pan c=>.pan c
section
variable {Pr:Program} {T:Tab} {a:Act} {w:World}
end
theorem nrmA:type_of% (And.intro @zcm <| And.intro @zhx <| And.intro @xK <| And.intro @rG <| And.intro @zcj <| And.intro @zci <| And.intro @zhw <| And.intro @zd8 <| And.intro @QE <| And.intro @QF <| And.intro @QG <| And.intro @QH <| And.intro @Xu <| And.intro @rM <| And.intro @UB <| And.intro @zcl <| And.intro @Uy <| And.intro @zU <| And.intro @qB <| And.intro @xg <| And.intro @QI <| And.intro @zch <| And.intro @Uz <| And.intro @zck <| And.intro @rH <| And.intro @Y2 <| And.intro @Zn <| And.intro @rJ <| And.intro @QD <| And.intro @Xt <| And.intro @UA <| And.intro @zhv <| And.intro @zhu <| @zd9):=And.intro @zcm <| And.intro @zhx <| And.intro @xK <| And.intro @rG <| And.intro @zcj <| And.intro @zci <| And.intro @zhw <| And.intro @zd8 <| And.intro @QE <| And.intro @QF <| And.intro @QG <| And.intro @QH <| And.intro @Xu <| And.intro @rM <| And.intro @UB <| And.intro @zcl <| And.intro @Uy <| And.intro @zU <| And.intro @qB <| And.intro @xg <| And.intro @QI <| And.intro @zch <| And.intro @Uz <| And.intro @zck <| And.intro @rH <| And.intro @Y2 <| And.intro @Zn <| And.intro @rJ <| And.intro @QD <| And.intro @Xt <| And.intro @UA <| And.intro @zhv <| And.intro @zhu <| @zd9
theorem nrmB:type_of% (And.intro @decide_eq_true_eq <| And.intro @decide_eq_false_iff_not <| And.intro @beq_iff_eq.{0} <| And.intro @beq_eq_false_iff_ne.{0} <| And.intro @Bool.not_eq_true' <| And.intro @Bool.not_eq_false' <| And.intro @Bool.and_eq_true <| And.intro @Bool.and_true <| And.intro @Bool.true_and <| And.intro @and_true <| And.intro @true_and <| And.intro @ne_eq.{1} <| And.intro @Int.toNat_zero <| And.intro @Nat.sub_zero <| And.intro @List.drop_zero.{0} <| And.intro @zgI <| And.intro @zgJ <| And.intro @ziO <| And.intro @ziP <| And.intro @zav <| And.intro @zhm <| And.intro @Int.toNat_natCast <| And.intro @Int.ofNat_eq_natCast <| And.intro @UInt8.ofNat_toNat <| And.intro @AOut.ret.injEq <| And.intro @AOut.pan.injEq <| And.intro @C.ifc.injEq <| And.intro @D.v.injEq <| And.intro @D.tup.injEq <| And.intro @V0.one.injEq <| And.intro @C.p.injEq <| And.intro @P.bool.injEq <| And.intro @P.int.injEq <| And.intro @P.str.injEq <| And.intro @Bool.false_eq_true <| And.intro @Bool.true_eq_false <| And.intro @imp_false <| And.intro @Decidable.not_not <| And.intro @not_true_eq_false <| @not_false_eq_true):=And.intro @decide_eq_true_eq <| And.intro @decide_eq_false_iff_not <| And.intro @beq_iff_eq.{0} <| And.intro @beq_eq_false_iff_ne.{0} <| And.intro @Bool.not_eq_true' <| And.intro @Bool.not_eq_false' <| And.intro @Bool.and_eq_true <| And.intro @Bool.and_true <| And.intro @Bool.true_and <| And.intro @and_true <| And.intro @true_and <| And.intro @ne_eq.{1} <| And.intro @Int.toNat_zero <| And.intro @Nat.sub_zero <| And.intro @List.drop_zero.{0} <| And.intro @zgI <| And.intro @zgJ <| And.intro @ziO <| And.intro @ziP <| And.intro @zav <| And.intro @zhm <| And.intro @Int.toNat_natCast <| And.intro @Int.ofNat_eq_natCast <| And.intro @UInt8.ofNat_toNat <| And.intro @AOut.ret.injEq <| And.intro @AOut.pan.injEq <| And.intro @C.ifc.injEq <| And.intro @D.v.injEq <| And.intro @D.tup.injEq <| And.intro @V0.one.injEq <| And.intro @C.p.injEq <| And.intro @P.bool.injEq <| And.intro @P.int.injEq <| And.intro @P.str.injEq <| And.intro @Bool.false_eq_true <| And.intro @Bool.true_eq_false <| And.intro @imp_false <| And.intro @Decidable.not_not <| And.intro @not_true_eq_false <| @not_false_eq_true
theorem nrlB:type_of% (And.intro @List.cons.injEq.{0} <| And.intro @P.list.injEq <| And.intro @HO.row.injEq <| And.intro @heq_eq_eq.{1} <| And.intro @false_and <| @and_false):=And.intro @List.cons.injEq.{0} <| And.intro @P.list.injEq <| And.intro @HO.row.injEq <| And.intro @heq_eq_eq.{1} <| And.intro @false_and <| @and_false
theorem zy:type_of% (And.intro @zaN <| And.intro @zgE <| And.intro @zaP <| And.intro @zdv <| And.intro @zdu <| And.intro @zaM <| @zaO):=And.intro @zaN <| And.intro @zgE <| And.intro @zaP <| And.intro @zdv <| And.intro @zdu <| And.intro @zaM <| @zaO
end Go.Ab
namespace Go.Ab
open Go Go.Sep Go.RowKit
variable [Facts]
def Holds (W:World):Prop:=∀ w:World,(∀ (k:Nat) (o:Obj),W.heap[k]? =some o→w.heap[k]? =some o)→Facts.p w
def frzW (W:World) (hF:Holds W):Frz:=⟨fun k=>W.heap[k]?,W.os,W.tape,W.output,fun w hw=>hF w hw.2.2.2⟩
theorem tabIs_of {Pr:Program} {W w:World} (h: ∀ (k:Nat) (o:Obj),W.heap[k]? =some o→w.heap[k]? =some o) {name:String} {cs:Array Value} (hv:W.var? Pr name=some cs):w.var? Pr name=some cs:=by
  unfold World.var? at hv ⊢
  cases hg:Pr.globalNamed name with
  |none=>rw [hg] at hv;cases hv
  | some g=>
    rw [hg] at hv
    simp only [Option.bind_some] at hv ⊢
    split at hv
    · rename_i cs' t f hc;rw [h _ _ hc];exact hv
    · cases hv
theorem zjY (W:World) (hF:Holds W):At W [frzC (frzW W hF)]:=
  ⟨fun k=>(W.heap[k]?).isSome=true,fun k=>(W.heap[k]?).isSome=true,fun _=>False,fun k=>by simp,fun _ _ h=>h,⟨fun _=>Iff.rfl,rfl,rfl,rfl,fun _ _ h=>h⟩,fun _ h=>h⟩
theorem TN {W w:World} {hF:Holds W} (h:(frzW W hF).on w):Below W.heap.size W w:=by
  obtain⟨h1,h2,h3,h4⟩:=h
  have hb: ∀ k,k<W.heap.size→w.heap[k]? =W.heap[k]? :=fun k hk=>by
    have:W.heap[k]? =some W.heap[k]:=by simp [hk]
    rw [h4 k _ this,this]
  refine⟨h1,h2,h3,?_,hb⟩
  rcases Nat.lt_or_ge w.heap.size W.heap.size with hlt|hge
  · have:=hb w.heap.size hlt
    simp at this
    omega
  · exact hge
theorem zjX {W:World} {hF:Holds W} {size:Nat} {v:Value} {n:Nat} {cs:List Value} (h:Rd W size v n cs):RdS (frzW W hF) size v n cs:=by
  intro w hw
  obtain⟨ao,cap,e,h1,h2,h4,h3,hc⟩:=h
  refine⟨ao,cap,e,h1,h2,h4,h3,fun j u hu=> ?_⟩
  obtain⟨hs,hcell⟩:=hc j u hu
  exact⟨hs,((TN hw).cell (block_lt hcell)).trans hcell⟩
theorem Spc.law {Pr:Program} {f:Nat} {args:List D} {hp':List HO} {W:World} {hF:Holds W} {vs:List Value} (h:Spc Pr f args [] (.ret (.v (.one (.p (.bool true))))) hp') (ha:MDs (frzW W hF) [] args vs):
    Calls Pr f vs.toArray W fun e w'=>e=.returned (.bool true)∧Below W.heap.size W w':=by
  refine(h.2 (frzW W hF) [] [] W vs ⟨rfl,fun i o c h=>by simp at h⟩ ha (zjY W hF)).mono fun e w' he=> ?_
  obtain⟨S',K',hle,_,_,hat,ho⟩:=he
  refine⟨?_,TN ((At.frz hat).mono hle)⟩
  cases e with
  |returned v=>cases ho;rfl
  |panicked ch=>exact ho.elim
  |outgrown=>exact ho.elim
theorem zjS {W:World} {hF:Holds W} {v:Value} {u:U} {R:Sep.Rel u.den} (hR: ∀ cs x,R W cs x→MPs (frzW W hF) (enc alg u x) cs) {xs:List u.den} (h:RSl u.size R W [v] xs):MD (frzW W hF) [] (.v (.one (.p (.list u xs)))) v:=by
  obtain⟨v',vs,e,hr,hx⟩:=h
  cases e
  have hlen:=hr.len
  obtain⟨ao,cap,rfl,_⟩:=id hr
  refine MP.list u xs ao cap vs hlen (zjX hr) fun i x j p v hi hj hv=> ?_
  have hm:=hR _ _ (hx i x hi)
  obtain⟨v',h1,h2⟩:=hm.get hj
  rw [List.getElem?_take] at h1
  split at h1
  · rw [List.getElem?_drop,hv] at h1
    cases h1;exact h2
  · cases h1
theorem zjT {W:World} {hF:Holds W} {cs:List Value} {x:UInt8} (h:ziM W cs x):MPs (frzW W hF) (enc alg .byte x) cs:=by
  rw [show cs=[bv x] from h];exact⟨.int _ _,trivial⟩
end Go.Ab
namespace Go.Proofs.YtmibhbdfigpkmaaGreatDoor
open Go Go.Ab
def lnS (l:Ln):HO:=.pack [.obj 82 [.row 1,.p (.bool l.cr),.p (.int .i64 l.code)],.row .byte 5 l.b]
def chS (c:Ch):HO:=.pack [.obj 98 [.ptr 1 0,.p (.int .i64 c.pos),.p (.int .i64 c.left),.p (.int .i64 c.all),.p (.int .i64 c.tails),.p (.int .i64 c.code)],lnS c.ln]
def rqS:Rq→List HO
  |⟨ln,p,⟨m,t,mi,f,le⟩,n,none,true,out⟩=>[.obj 57 [.ptr 1 0,.p (.int .i64 p),.p (.str m),.p (.str t),.p (.int .i64 mi),.row 2,.p (.int .i64 le),.p (.int .i64 n),.p (.val (.pointer none)),.row 3],lnS ln,.row .fld 51 f,.row .evt 32 out]
  |⟨ln,p,⟨m,t,mi,f,le⟩,n,some c,true,out⟩=>[.obj 57 [.ptr 1 0,.p (.int .i64 p),.p (.str m),.p (.str t),.p (.int .i64 mi),.row 2,.p (.int .i64 le),.p (.int .i64 n),.ptr 3 0,.row 4],lnS ln,.row .fld 51 f,chS c,.row .evt 32 out]
  |⟨ln,p,⟨m,t,mi,f,le⟩,n,none,false,out⟩=>[.obj 57 [.ptr 1 0,.p (.int .i64 p),.p (.str m),.p (.str t),.p (.int .i64 mi),.p (.list .fld f),.p (.int .i64 le),.p (.int .i64 n),.p (.val (.pointer none)),.row 2],lnS ln,.row .evt 32 out]
  |⟨ln,p,⟨m,t,mi,f,le⟩,n,some c,false,out⟩=>[.obj 57 [.ptr 1 0,.p (.int .i64 p),.p (.str m),.p (.str t),.p (.int .i64 mi),.p (.list .fld f),.p (.int .i64 le),.p (.int .i64 n),.ptr 2 0,.row 3],lnS ln,chS c,.row .evt 32 out]
def shapes:Gh→List HO
  |.rq q=>rqS q
  |_=>[]
def lnU:HO→Option Ln
  |.pack [.obj t [.row 1,.p (.bool cr),.p (.int .i64 co)],.row .byte e b]=>match Nat.beq t 82,Nat.beq e 5 with|true,true=>some ⟨b,cr,co⟩|_,_=>none
  |_=>none
theorem zaA {o:HO} {l:Ln} (h:lnU o=some l):o=lnS l:=by
  unfold lnU at h
  split at h
  · split at h
    · rename_i h1 h2;cases h;rw [Nat.eq_of_beq_eq_true h1,Nat.eq_of_beq_eq_true h2];rfl
    · cases h
  · cases h
def chU:HO→Option Ch
  |.pack [.obj t [.ptr 1 0,.p (.int .i64 p),.p (.int .i64 l),.p (.int .i64 a),.p (.int .i64 tl),.p (.int .i64 co)],o]=>match Nat.beq t 98,lnU o with|true,some ln=>some ⟨ln,p,l,a,tl,co⟩|_,_=>none
  |_=>none
theorem zi7 {o:HO} {l:Ch} (h:chU o=some l):o=chS l:=by
  unfold chU at h
  split at h
  · split at h
    · rename_i h1 h2;cases h;rw [Nat.eq_of_beq_eq_true h1,zaA h2];rfl
    · cases h
  · cases h
def evU:HO→Option (List Evt)
  |.row .evt e l=>match Nat.beq e 32 with|true=>some l|false=>none
  |_=>none
theorem zdO {o:HO} {l:List Evt} (h:evU o=some l):o=.row .evt 32 l:=by
  unfold evU at h
  split at h
  · split at h
    · rename_i h1;cases h;rw [Nat.eq_of_beq_eq_true h1]
    · cases h
  · cases h
def flU:HO→Option (List Fld)
  |.row .fld e l=>match Nat.beq e 51 with|true=>some l|false=>none
  |_=>none
theorem zi2 {o:HO} {l:List Fld} (h:flU o=some l):o=.row .fld 51 l:=by
  unfold flU at h
  split at h
  · split at h
    · rename_i h1;cases h;rw [Nat.eq_of_beq_eq_true h1]
    · cases h
  · cases h
def rqU:List HO→Option Rq
  | .obj t [.ptr 1 0,.p (.int .i64 p),.p (.str m),.p (.str tg),.p (.int .i64 mi),.row 2,.p (.int .i64 le),.p (.int .i64 n),.p (.val (.pointer none)),.row 3]::r=>(match Nat.beq t 57,r with
    |true,[a,b,c]=>(match lnU a,flU b,evU c with|some ln,some f,some out=>some ⟨ln,p,⟨m,tg,mi,f,le⟩,n,none,true,out⟩|_,_,_=>none)
    |_,_=>none)
  | .obj t [.ptr 1 0,.p (.int .i64 p),.p (.str m),.p (.str tg),.p (.int .i64 mi),.row 2,.p (.int .i64 le),.p (.int .i64 n),.ptr 3 0,.row 4]::r=>(match Nat.beq t 57,r with
    |true,[a,b,c,d]=>(match lnU a,flU b,chU c,evU d with|some ln,some f,some ck,some out=>some ⟨ln,p,⟨m,tg,mi,f,le⟩,n,some ck,true,out⟩|_,_,_,_=>none)
    |_,_=>none)
  | .obj t [.ptr 1 0,.p (.int .i64 p),.p (.str m),.p (.str tg),.p (.int .i64 mi),.p (.list .fld f),.p (.int .i64 le),.p (.int .i64 n),.p (.val (.pointer none)),.row 2]::r=>(match Nat.beq t 57,r with
    |true,[a,c]=>(match lnU a,evU c with|some ln,some out=>some ⟨ln,p,⟨m,tg,mi,f,le⟩,n,none,false,out⟩|_,_=>none)
    |_,_=>none)
  | .obj t [.ptr 1 0,.p (.int .i64 p),.p (.str m),.p (.str tg),.p (.int .i64 mi),.p (.list .fld f),.p (.int .i64 le),.p (.int .i64 n),.ptr 2 0,.row 3]::r=>(match Nat.beq t 57,r with
    |true,[a,c,d]=>(match lnU a,chU c,evU d with|some ln,some ck,some out=>some ⟨ln,p,⟨m,tg,mi,f,le⟩,n,some ck,false,out⟩|_,_,_=>none)
    |_,_=>none)
  |_=>none
theorem zks {l:List HO} {q:Rq} (h:rqU l=some q):l=rqS q:=by
  unfold rqU at h
  split at h
  · split at h
    · rename_i h1;split at h
      · rename_i h2 h3 h4;cases h;rw [Nat.eq_of_beq_eq_true h1,zaA h2,zi2 h3,zdO h4];rfl
      · cases h
    · cases h
  · split at h
    · rename_i h1;split at h
      · rename_i h2 h3 h5 h4;cases h;rw [Nat.eq_of_beq_eq_true h1,zaA h2,zi2 h3,zi7 h5,zdO h4];rfl
      · cases h
    · cases h
  · split at h
    · rename_i h1;split at h
      · rename_i h2 h4;cases h;rw [Nat.eq_of_beq_eq_true h1,zaA h2,zdO h4];rfl
      · cases h
    · cases h
  · split at h
    · rename_i h1;split at h
      · rename_i h2 h5 h4;cases h;rw [Nat.eq_of_beq_eq_true h1,zaA h2,zi7 h5,zdO h4];rfl
      · cases h
    · cases h
  · cases h
def shapeOf (l:List HO):Option Gh:=match rqU l with
  |some q=>some (.rq q)
  |none=>none
theorem zeg (l:List HO) (g:Gh) (h:shapeOf l=some g):shapes g=l:=by
  unfold shapeOf at h
  split at h
  · rename_i q hq;cases h;exact(zks hq).symm
  · cases h
end Go.Proofs.YtmibhbdfigpkmaaGreatDoor
namespace Go.Proofs.YtmibhbdfigpkmaaGreatDoor
open Go Go.Ab
instance facts:Facts:= { p:=fun w=>Lib.TabIs Tryz.prog w "internal/strconv.uint64pow10" .u64 Lib.pow10Tab∧∃ m:Int,w.cell? ⟨0,0,none⟩=some (.int .i64 m),sh:=shapes,ab:=shapeOf,abok:=zeg}
def tabT:TT:=
 (.node (.node (.node (.node (.node (.node (.node (.node .nil 0 ⟨.other,1,0,none,none⟩
 .nil) 1 ⟨.other,1,8,(some [.val .nilFunc]),none⟩
 .nil) 2 ⟨.int .i64,1,8,(some [.int .i64 0]),none⟩
 (.node .nil 3 ⟨.int .i64,1,8,(some [.int .i64 0]),none⟩
 .nil)) 4 ⟨.bool,1,1,(some [.bool false]),none⟩
 (.node (.node (.node .nil 5 ⟨.int .u8,1,1,(some [.int .u8 0]),none⟩
 .nil) 6 ⟨.int .u8,1,1,(some [.int .u8 0]),none⟩
 .nil) 9 ⟨.str,1,16,(some [.str []]),none⟩
 (.node .nil 10 ⟨.str,1,16,(some [.str []]),none⟩
 .nil))) 11 ⟨.str,1,16,(some [.str []]),none⟩
 (.node (.node (.node (.node .nil 12 ⟨.int .u64,1,8,(some [.int .u64 0]),none⟩
 .nil) 15 ⟨.ptr,1,8,(some [.val (.pointer none)]),none⟩
 .nil) 16 ⟨.ptr,1,8,(some [.val (.pointer none)]),none⟩
 (.node .nil 17 ⟨.ptr,1,8,(some [.val (.pointer none)]),none⟩
 .nil)) 20 ⟨.iface,1,16,(some [.val .nilIface]),none⟩
 (.node (.node (.node .nil 21 ⟨.int .i32,1,4,(some [.int .i32 0]),none⟩
 .nil) 22 ⟨.slice 5,1,24,(some [.list .byte []]),(some .byte)⟩
 .nil) 23 ⟨.slice 51,1,24,(some [.list .fld []]),(some .fld)⟩
 (.node .nil 24 ⟨.struct [(0,9),(1,9),(2,3),(3,23),(4,3)],5,72,(some [.str [],.str [],.int .i64 0,.list .fld [],.int .i64 0]),none⟩
 .nil)))) 25 ⟨.struct [(0,9),(1,9),(2,3),(3,23),(4,3)],5,72,(some [.str [],.str [],.int .i64 0,.list .fld [],.int .i64 0]),none⟩
 (.node (.node (.node (.node (.node .nil 26 ⟨.slice 32,1,24,(some [.list .evt []]),(some .evt)⟩
 .nil) 27 ⟨.other,1,8,(some [.val .nilFunc]),none⟩
 .nil) 28 ⟨.other,1,8,(some [.val .nilFunc]),none⟩
 (.node .nil 29 ⟨.struct [(0,9),(1,9),(2,9),(3,22)],4,72,(some [.str [],.str [],.str [],.list .byte []]),none⟩
 .nil)) 30 ⟨.struct [(0,9),(1,9),(2,9),(3,22)],4,72,(some [.str [],.str [],.str [],.list .byte []]),none⟩
 (.node (.node (.node .nil 31 ⟨.struct [(0,3),(1,25),(6,22),(7,30),(11,3)],12,184,(some [.int .i64 0,.str [],.str [],.int .i64 0,.list .fld [],.int .i64 0,.list .byte [],.str [],.str [],.str [],.list .byte [],.int .i64 0]),none⟩
 .nil) 32 ⟨.struct [(0,3),(1,25),(6,22),(7,30),(11,3)],12,184,(some [.int .i64 0,.str [],.str [],.int .i64 0,.list .fld [],.int .i64 0,.list .byte [],.str [],.str [],.str [],.list .byte [],.int .i64 0]),none⟩
 .nil) 33 ⟨.ptr,1,8,(some [.val (.pointer none)]),none⟩
 (.node .nil 34 ⟨.other,1,8,(some [.val .nilFunc]),none⟩
 .nil))) 35 ⟨.other,1,8,(some [.val .nilFunc]),none⟩
 (.node (.node (.node (.node .nil 36 ⟨.other,1,0,none,none⟩
 .nil) 37 ⟨.other,1,8,(some [.val .nilFunc]),none⟩
 .nil) 38 ⟨.other,1,8,(some [.val .nilFunc]),none⟩
 (.node .nil 39 ⟨.other,1,0,none,none⟩
 .nil)) 40 ⟨.other,1,8,(some [.val .nilFunc]),none⟩
 (.node (.node .nil 41 ⟨.other,1,8,(some [.val .nilFunc]),none⟩
 .nil) 42 ⟨.other,1,8,(some [.val .nilFunc]),none⟩
 (.node .nil 43 ⟨.other,1,8,(some [.val .nilFunc]),none⟩
 .nil))))) 44 ⟨.slice 3,1,24,(some [.list .int []]),(some .int)⟩
 (.node (.node (.node (.node (.node (.node .nil 45 ⟨.slice 22,1,24,(some [.list .bytes []]),(some .bytes)⟩
 .nil) 46 ⟨.other,1,8,(some [.val .nilFunc]),none⟩
 .nil) 47 ⟨.other,1,8,(some [.val .nilFunc]),none⟩
 (.node .nil 48 ⟨.slice 25,1,24,(some [.list .hd []]),(some .hd)⟩
 .nil)) 49 ⟨.other,1,8,(some [.val .nilFunc]),none⟩
 (.node (.node (.node .nil 50 ⟨.struct [(0,9),(1,9)],2,32,(some [.str [],.str []]),none⟩
 .nil) 51 ⟨.struct [(0,9),(1,9)],2,32,(some [.str [],.str []]),none⟩
 .nil) 52 ⟨.other,1,8,(some [.val .nilFunc]),none⟩
 (.node .nil 53 ⟨.ptr,1,8,(some [.val (.pointer none)]),none⟩
 .nil))) 54 ⟨.other,1,8,(some [.val .nilFunc]),none⟩
 (.node (.node (.node (.node .nil 55 ⟨.ptr,1,8,(some [.val (.pointer none)]),none⟩
 .nil) 56 ⟨.struct [(0,53),(1,3),(2,25),(7,3),(8,55),(9,26)],10,128,(some [.val (.pointer none),.int .i64 0,.str [],.str [],.int .i64 0,.list .fld [],.int .i64 0,.int .i64 0,.val (.pointer none),.list .evt []]),none⟩
 .nil) 57 ⟨.struct [(0,53),(1,3),(2,25),(7,3),(8,55),(9,26)],10,128,(some [.val (.pointer none),.int .i64 0,.str [],.str [],.int .i64 0,.list .fld [],.int .i64 0,.int .i64 0,.val (.pointer none),.list .evt []]),none⟩
 (.node .nil 58 ⟨.other,1,8,(some [.val .nilFunc]),none⟩
 .nil)) 59 ⟨.other,1,8,(some [.val .nilFunc]),none⟩
 (.node (.node (.node .nil 60 ⟨.other,1,0,none,none⟩
 .nil) 61 ⟨.other,1,8,(some [.val .nilFunc]),none⟩
 .nil) 62 ⟨.other,1,0,none,none⟩
 (.node .nil 63 ⟨.other,1,8,(some [.val .nilFunc]),none⟩
 .nil)))) 64 ⟨.other,1,0,none,none⟩
 (.node (.node (.node (.node (.node .nil 65 ⟨.other,1,8,(some [.val .nilFunc]),none⟩
 .nil) 66 ⟨.other,1,0,none,none⟩
 .nil) 67 ⟨.other,1,8,(some [.val .nilFunc]),none⟩
 (.node .nil 68 ⟨.other,1,0,none,none⟩
 .nil)) 69 ⟨.other,1,8,(some [.val .nilFunc]),none⟩
 (.node (.node (.node .nil 70 ⟨.other,1,8,(some [.val .nilFunc]),none⟩
 .nil) 71 ⟨.other,1,8,(some [.val .nilFunc]),none⟩
 .nil) 72 ⟨.other,1,8,(some [.val .nilFunc]),none⟩
 (.node .nil 73 ⟨.other,1,8,(some [.val .nilFunc]),none⟩
 .nil))) 74 ⟨.slice 9,1,24,(some [.list .str []]),(some .str)⟩
 (.node (.node (.node (.node .nil 75 ⟨.other,1,8,(some [.val .nilFunc]),none⟩
 .nil) 76 ⟨.other,1,0,none,none⟩
 .nil) 77 ⟨.other,1,8,(some [.val .nilFunc]),none⟩
 (.node .nil 78 ⟨.other,1,8,(some [.val .nilFunc]),none⟩
 .nil)) 79 ⟨.other,1,8,(some [.val .nilFunc]),none⟩
 (.node (.node .nil 80 ⟨.int .u64,1,8,(some [.int .u64 0]),none⟩
 .nil) 81 ⟨.struct [(0,22),(1,4),(2,3)],3,40,(some [.list .byte [],.bool false,.int .i64 0]),none⟩
 (.node .nil 82 ⟨.struct [(0,22),(1,4),(2,3)],3,40,(some [.list .byte [],.bool false,.int .i64 0]),none⟩
 .nil)))))) 83 ⟨.other,1,8,(some [.val .nilFunc]),none⟩
 (.node (.node (.node (.node (.node (.node (.node .nil 84 ⟨.other,1,0,none,none⟩
 .nil) 85 ⟨.other,1,8,(some [.val .nilFunc]),none⟩
 .nil) 86 ⟨.other,1,8,(some [.val .nilFunc]),none⟩
 (.node .nil 87 ⟨.other,1,0,none,none⟩
 .nil)) 88 ⟨.other,1,8,(some [.val .nilFunc]),none⟩
 (.node (.node (.node .nil 89 ⟨.other,1,8,(some [.val .nilFunc]),none⟩
 .nil) 90 ⟨.other,1,8,(some [.val .nilFunc]),none⟩
 .nil) 91 ⟨.other,1,8,(some [.val .nilFunc]),none⟩
 (.node .nil 92 ⟨.other,1,0,none,none⟩
 .nil))) 93 ⟨.other,1,8,(some [.val .nilFunc]),none⟩
 (.node (.node (.node (.node .nil 94 ⟨.other,1,8,(some [.val .nilFunc]),none⟩
 .nil) 95 ⟨.other,1,8,(some [.val .nilFunc]),none⟩
 .nil) 96 ⟨.other,1,8,(some [.val .nilFunc]),none⟩
 (.node .nil 97 ⟨.struct [(0,53),(1,3),(2,3),(3,3),(4,3),(5,3)],6,48,(some [.val (.pointer none),.int .i64 0,.int .i64 0,.int .i64 0,.int .i64 0,.int .i64 0]),none⟩
 .nil)) 98 ⟨.struct [(0,53),(1,3),(2,3),(3,3),(4,3),(5,3)],6,48,(some [.val (.pointer none),.int .i64 0,.int .i64 0,.int .i64 0,.int .i64 0,.int .i64 0]),none⟩
 (.node (.node (.node .nil 99 ⟨.other,1,8,(some [.val .nilFunc]),none⟩
 .nil) 100 ⟨.other,1,8,(some [.val .nilFunc]),none⟩
 .nil) 101 ⟨.other,1,8,(some [.val .nilFunc]),none⟩
 (.node .nil 102 ⟨.other,1,8,(some [.val .nilFunc]),none⟩
 .nil)))) 103 ⟨.other,1,8,(some [.val .nilFunc]),none⟩
 (.node (.node (.node (.node (.node .nil 104 ⟨.other,1,8,(some [.val .nilFunc]),none⟩
 .nil) 105 ⟨.other,1,8,(some [.val .nilFunc]),none⟩
 .nil) 106 ⟨.other,1,8,(some [.val .nilFunc]),none⟩
 (.node .nil 107 ⟨.array 256 4,256,256,none,none⟩
 .nil)) 108 ⟨.array 256 4,256,256,none,none⟩
 (.node (.node (.node .nil 109 ⟨.other,1,0,none,none⟩
 .nil) 110 ⟨.other,1,8,(some [.val .nilFunc]),none⟩
 .nil) 111 ⟨.other,1,8,(some [.val .nilFunc]),none⟩
 (.node .nil 112 ⟨.other,1,8,(some [.val .nilFunc]),none⟩
 .nil))) 113 ⟨.other,1,8,(some [.val .nilFunc]),none⟩
 (.node (.node (.node (.node .nil 114 ⟨.other,1,8,(some [.val .nilFunc]),none⟩
 .nil) 115 ⟨.other,1,8,(some [.val .nilFunc]),none⟩
 .nil) 116 ⟨.other,1,8,(some [.val .nilFunc]),none⟩
 (.node .nil 117 ⟨.other,1,0,none,none⟩
 .nil)) 118 ⟨.other,1,8,(some [.val .nilFunc]),none⟩
 (.node (.node .nil 119 ⟨.other,1,8,(some [.val .nilFunc]),none⟩
 .nil) 120 ⟨.other,1,8,(some [.val .nilFunc]),none⟩
 (.node .nil 121 ⟨.ptr,1,8,(some [.val (.pointer none)]),none⟩
 .nil))))) 122 ⟨.other,1,8,(some [.val .nilFunc]),none⟩
 (.node (.node (.node (.node (.node (.node .nil 123 ⟨.other,1,8,(some [.val .nilFunc]),none⟩
 .nil) 124 ⟨.array 24 5,24,24,(some [.int .u8 0,.int .u8 0,.int .u8 0,.int .u8 0,.int .u8 0,.int .u8 0,.int .u8 0,.int .u8 0,.int .u8 0,.int .u8 0,.int .u8 0,.int .u8 0,.int .u8 0,.int .u8 0,.int .u8 0,.int .u8 0,.int .u8 0,.int .u8 0,.int .u8 0,.int .u8 0,.int .u8 0,.int .u8 0,.int .u8 0,.int .u8 0]),none⟩
 .nil) 125 ⟨.int .u64,1,8,(some [.int .u64 0]),none⟩
 (.node .nil 126 ⟨.other,1,8,(some [.val .nilFunc]),none⟩
 .nil)) 127 ⟨.other,1,8,(some [.val .nilFunc]),none⟩
 (.node (.node (.node .nil 128 ⟨.other,1,0,none,none⟩
 .nil) 129 ⟨.other,1,8,(some [.val .nilFunc]),none⟩
 .nil) 130 ⟨.other,1,8,(some [.val .nilFunc]),none⟩
 (.node .nil 131 ⟨.other,1,0,none,none⟩
 .nil))) 132 ⟨.other,1,8,(some [.val .nilFunc]),none⟩
 (.node (.node (.node (.node .nil 133 ⟨.other,1,8,(some [.val .nilFunc]),none⟩
 .nil) 134 ⟨.other,1,8,(some [.val .nilFunc]),none⟩
 .nil) 135 ⟨.array 20 125,20,160,(some [.int .u64 0,.int .u64 0,.int .u64 0,.int .u64 0,.int .u64 0,.int .u64 0,.int .u64 0,.int .u64 0,.int .u64 0,.int .u64 0,.int .u64 0,.int .u64 0,.int .u64 0,.int .u64 0,.int .u64 0,.int .u64 0,.int .u64 0,.int .u64 0,.int .u64 0,.int .u64 0]),none⟩
 (.node .nil 136 ⟨.int .u32,1,4,(some [.int .u32 0]),none⟩
 .nil)) 137 ⟨.array 65 5,65,65,(some [.int .u8 0,.int .u8 0,.int .u8 0,.int .u8 0,.int .u8 0,.int .u8 0,.int .u8 0,.int .u8 0,.int .u8 0,.int .u8 0,.int .u8 0,.int .u8 0,.int .u8 0,.int .u8 0,.int .u8 0,.int .u8 0,.int .u8 0,.int .u8 0,.int .u8 0,.int .u8 0,.int .u8 0,.int .u8 0,.int .u8 0,.int .u8 0,.int .u8 0,.int .u8 0,.int .u8 0,.int .u8 0,.int .u8 0,.int .u8 0,.int .u8 0,.int .u8 0,.int .u8 0,.int .u8 0,.int .u8 0,.int .u8 0,.int .u8 0,.int .u8 0,.int .u8 0,.int .u8 0,.int .u8 0,.int .u8 0,.int .u8 0,.int .u8 0,.int .u8 0,.int .u8 0,.int .u8 0,.int .u8 0,.int .u8 0,.int .u8 0,.int .u8 0,.int .u8 0,.int .u8 0,.int .u8 0,.int .u8 0,.int .u8 0,.int .u8 0,.int .u8 0,.int .u8 0,.int .u8 0,.int .u8 0,.int .u8 0,.int .u8 0,.int .u8 0,.int .u8 0]),none⟩
 (.node (.node (.node .nil 138 ⟨.other,1,8,(some [.val .nilFunc]),none⟩
 .nil) 139 ⟨.other,1,8,(some [.val .nilFunc]),none⟩
 .nil) 140 ⟨.other,1,8,(some [.val .nilFunc]),none⟩
 (.node .nil 141 ⟨.other,1,8,(some [.val .nilFunc]),none⟩
 .nil)))) 142 ⟨.array 256 5,256,256,none,none⟩
 (.node (.node (.node (.node (.node .nil 143 ⟨.struct [(0,5),(1,5)],2,2,(some [.int .u8 0,.int .u8 0]),none⟩
 .nil) 144 ⟨.struct [(0,5),(1,5)],2,2,(some [.int .u8 0,.int .u8 0]),none⟩
 .nil) 145 ⟨.array 16 144,32,32,(some [.int .u8 0,.int .u8 0,.int .u8 0,.int .u8 0,.int .u8 0,.int .u8 0,.int .u8 0,.int .u8 0,.int .u8 0,.int .u8 0,.int .u8 0,.int .u8 0,.int .u8 0,.int .u8 0,.int .u8 0,.int .u8 0,.int .u8 0,.int .u8 0,.int .u8 0,.int .u8 0,.int .u8 0,.int .u8 0,.int .u8 0,.int .u8 0,.int .u8 0,.int .u8 0,.int .u8 0,.int .u8 0,.int .u8 0,.int .u8 0,.int .u8 0,.int .u8 0]),none⟩
 (.node .nil 146 ⟨.array 32 5,32,32,(some [.int .u8 0,.int .u8 0,.int .u8 0,.int .u8 0,.int .u8 0,.int .u8 0,.int .u8 0,.int .u8 0,.int .u8 0,.int .u8 0,.int .u8 0,.int .u8 0,.int .u8 0,.int .u8 0,.int .u8 0,.int .u8 0,.int .u8 0,.int .u8 0,.int .u8 0,.int .u8 0,.int .u8 0,.int .u8 0,.int .u8 0,.int .u8 0,.int .u8 0,.int .u8 0,.int .u8 0,.int .u8 0,.int .u8 0,.int .u8 0,.int .u8 0,.int .u8 0]),none⟩
 .nil)) 147 ⟨.array 64 5,64,64,(some [.int .u8 0,.int .u8 0,.int .u8 0,.int .u8 0,.int .u8 0,.int .u8 0,.int .u8 0,.int .u8 0,.int .u8 0,.int .u8 0,.int .u8 0,.int .u8 0,.int .u8 0,.int .u8 0,.int .u8 0,.int .u8 0,.int .u8 0,.int .u8 0,.int .u8 0,.int .u8 0,.int .u8 0,.int .u8 0,.int .u8 0,.int .u8 0,.int .u8 0,.int .u8 0,.int .u8 0,.int .u8 0,.int .u8 0,.int .u8 0,.int .u8 0,.int .u8 0,.int .u8 0,.int .u8 0,.int .u8 0,.int .u8 0,.int .u8 0,.int .u8 0,.int .u8 0,.int .u8 0,.int .u8 0,.int .u8 0,.int .u8 0,.int .u8 0,.int .u8 0,.int .u8 0,.int .u8 0,.int .u8 0,.int .u8 0,.int .u8 0,.int .u8 0,.int .u8 0,.int .u8 0,.int .u8 0,.int .u8 0,.int .u8 0,.int .u8 0,.int .u8 0,.int .u8 0,.int .u8 0,.int .u8 0,.int .u8 0,.int .u8 0,.int .u8 0]),none⟩
 (.node (.node (.node .nil 148 ⟨.other,1,0,none,none⟩
 .nil) 149 ⟨.other,1,8,(some [.val .nilFunc]),none⟩
 .nil) 150 ⟨.other,1,8,(some [.val .nilFunc]),none⟩
 (.node .nil 153 ⟨.array 0 16,0,0,(some []),none⟩
 .nil))) 156 ⟨.int .u8,1,1,(some [.int .u8 0]),none⟩
 (.node (.node (.node (.node .nil 157 ⟨.int .u8,1,1,(some [.int .u8 0]),none⟩
 .nil) 158 ⟨.other,1,8,(some [.val .nilFunc]),none⟩
 .nil) 159 ⟨.ptr,1,8,(some [.val (.pointer none)]),none⟩
 (.node .nil 160 ⟨.int .i32,1,4,(some [.int .i32 0]),none⟩
 .nil)) 161 ⟨.int .i32,1,4,(some [.int .i32 0]),none⟩
 (.node (.node .nil 162 ⟨.struct [(0,12),(1,12),(2,136),(3,156),(4,5),(5,5),(6,157),(7,158),(8,159),(9,160),(10,161)],11,48,(some [.int .u64 0,.int .u64 0,.int .u32 0,.int .u8 0,.int .u8 0,.int .u8 0,.int .u8 0,.val .nilFunc,.val (.pointer none),.int .i32 0,.int .i32 0]),none⟩
 .nil) 163 ⟨.struct [(0,12),(1,12),(2,136),(3,156),(4,5),(5,5),(6,157),(7,158),(8,159),(9,160),(10,161)],11,48,(some [.int .u64 0,.int .u64 0,.int .u32 0,.int .u8 0,.int .u8 0,.int .u8 0,.int .u8 0,.val .nilFunc,.val (.pointer none),.int .i32 0,.int .i32 0]),none⟩
 (.node .nil 164 ⟨.other,1,8,none,none⟩
 .nil)))))))
def tab:Tab:=tabT.get
theorem zi:tab.fits Tryz.prog:=Tab.zj0 (by kernel_rfl)
theorem mixed:Tryz.prog.follows .mixedOrders=true:=by kernel_rfl
end Go.Proofs.YtmibhbdfigpkmaaGreatDoor
namespace Go.Ab
open Go
theorem laid_tail {P:Program} {x:String × DataW Unit} {rest:List (String × DataW Unit)} {w:World} (h:laidMet P (x::rest) w):laidMet P rest w:=by
  obtain⟨ps,⟨g,t,cs,fuel,p,q,h1,h2,h3,h4,h5,rfl⟩,hn,hc⟩:=h
  exact⟨q,h5,(List.nodup_append.1 hn).2.1,fun b off hm=>hc b off (List.mem_append_right _ hm)⟩
theorem pow10_of {P:Program} {W:World} {d:DataW Unit} {rest:List (String × DataW Unit)} (g t e:Nat) (hd:d=Lib.tabData .u64 Lib.pow10Tab)
    (hg:P.globalNamed "internal/strconv.uint64pow10" =some g) (hty:(P.globals[g]?).map (·.type)=some t) (ht:P.underlying t=some (.array 20 e)) (he:P.underlying e=some (.int .u64)) (hce:P.cellsOf e=1) (hct:P.cellsOf t=20)
    (h:laidMet P (("internal/strconv.uint64pow10",d)::rest) W):Lib.TabIs P W "internal/strconv.uint64pow10" .u64 Lib.pow10Tab:=by
  subst hd
  exact Lib.tabIs_of_head hg hty ht he hce hct h
end Go.Ab
namespace Go.Ab
open Go Go.Sep
variable {H:Type} {enc:TypeId × Value→H}
theorem retShaped {a:Assume} {C:Checked} {os:Os} {f:FuncId} {fn:Func} {s:ChangeSpec} {conds:List PathCond} {apart fresh handsOn again:Bool} {X:World→Array Value→Prop}
    (hX: ∀ (w w':World) (args:Array Value),w.heap=w'.heap→X w args→X w' args)
    (own:ownKnob C.prog.godebug=none) (started:os.Started) (noInit:C.prog.inits.idxOf? f=none) (hfn:C.prog.funcs[f]? =some fn)
    (witness: ∃ (w:World) (tape:Tape) (i:Input),w.os=os∧(w.forCall tape i).Shaped C.prog∧i.vars=[]∧Input.okWide C.prog (w.forCall tape i) .any w.heap.size f i∧
      ((s.pre enc C.prog fn conds apart (w.forCall tape i).memory i.args∧X (w.forCall tape i).memory i.args)∧sizedMet enc C.prog fn (OpenSpec.ofChange s) apart (w.forCall tape i).memory i.args)∧a.holds C.prog (lone (Frame.enter C.prog f i.args .normal) [] (w.forCall tape i)))
    (contract: ∀ (W:World) (base:Nat) (args:Array Value) (ds gs:List (DataW H)) (before:List MemPlace),
      (∀ (j:Nat) t v,fn.params[j]? =some t→args[j]? =some v→Value.okWide C.prog W .any base t v)→
      DataW.Whole enc C.prog fn.params.toList s.vars apart W args.toList ds gs before→
      conds.all (PathCond.test C.prog ⟨fn.params.toList,ds,s.plain.varTypes C.prog,gs⟩)=true→
      (DataW.weightsEach C.prog (fn.params.toList++s.plain.varTypes C.prog) (ds++gs)).all (· ≤reachBytes)=true→X W args→W.ShapedOpen C.prog→
      a.holds C.prog (lone (Frame.enter C.prog f args .normal) [] W)→
      Calls C.prog f args W fun e W'=>∃ v,e=.returned v∧s.post enc C.prog fn apart fresh handsOn again W args v W'):
    ReturnsInHanded a C os f .any (fun w args=>(s.pre enc C.prog fn conds apart w args∧X w args)∧sizedMet enc C.prog fn (OpenSpec.ofChange s) apart w args) (s.post enc C.prog fn apart fresh handsOn again):=by
  refine returnsInHanded_of_calls own started noInit witness ?_
  intro w tape i _ hsh _ hok hpre hholds
  obtain⟨_,_,_,fn',hfn',_,_,_,_,hval⟩:=hok
  have e:fn'=fn:=Option.some.inj (hfn'.symm.trans hfn)
  subst e
  obtain⟨⟨⟨ds,gs,before,hw,hc⟩,hx⟩,hz⟩:=hpre
  have hw':=DataW.Whole.of_heap (w':=w.forCall tape i) (by rfl) hw
  refine(contract (w.forCall tape i) w.heap.size i.args ds gs before hval hw' hc (hz.weights hw) (hX _ _ _ (by rfl) hx) hsh hholds).mono fun e W' ⟨v,he,hp⟩=> ?_
  subst he
  exact ChangeSpec.post_blind hp
theorem cell_re {W w:World} (h: ∀ (k:Nat) (o:Obj),W.heap[k]? =some o→w.heap[k]? =some o) {a:Addr} (e: ∃ m,W.cell? a=some (.int .i64 m)): ∃ m,w.cell? a=some (.int .i64 m):=by
  obtain⟨m,e⟩:=e
  refine⟨m,?_⟩
  unfold World.cell? at e ⊢
  cases ho:W.heap[a.block]? with
  |none=>rw [ho] at e;simp at e
  |some o=>rw [h _ _ ho];rw [ho] at e;exact e
end Go.Ab
namespace Go.Ab
open Go Go.Sep
variable [Facts]
def wfI (n:Int):Prop:= -9223372036854775808≤n∧n≤9223372036854775807
theorem zkj {n:Int} (h:(Lit.int .i64 n).wf=true):wfI n:=by
  simp only [Lit.wf,Bool.and_eq_true,decide_eq_true_eq] at h
  have h1:IntKind.i64.min= -9223372036854775808:=by decide
  have h2:IntKind.i64.max=9223372036854775807:=by decide
  rw [h1,h2] at h;exact h
def wfS {α:Type} (s:List α):Prop:=s.length≤140737488355328
def zhE (f:Fld):Prop:=wfS f.name∧wfS f.value
def wfHd (h:Hd):Prop:=wfS h.method∧wfS h.target∧wfI h.minor∧(wfS h.fields∧∀ f ∈ h.fields,zhE f)∧wfI h.length
def zki (p:Prt):Prop:=wfS p.name∧wfS p.file∧wfS p.type∧wfS p.bytes
def wfZ:(u:U)→u.den→Prop
  |.byte,_=>True
  |.int,n=>wfI n
  |.str,(s:Str)=>wfS s
  |.fld,f=>zhE f
  |.bytes,(b:Str)=>wfS b
  |.hd,h=>wfHd h
  |.prt,p=>zki p
  |.evt,(e:Evt)=>wfI e.kind∧wfHd e.head∧wfS e.bytes∧zki e.part∧wfI e.code
  |.upl,(x:Upl)=>wfI x.id∧wfI x.size∧wfS x.note∧wfS x.bytes∧wfI x.sent
  |.ent,(e:Ent)=>wfI e.kind∧wfI e.id∧wfI e.n∧wfS e.text
  |.stp,(e:Stp)=>wfI e.kind∧wfI e.conn∧wfI e.n∧wfS e.bytes
  |.ask,(a:Ask)=>wfHd a.h∧wfS a.body
  |.cal,(c:Cal)=>wfI c.conn∧wfS c.b
  |.lst,(e:Lst)=>wfI e.op∧wfI e.n∧wfS e.b
  |.sst,(e:Sst)=>wfI e.op∧wfI e.id∧wfI e.n∧wfS e.text
  |.rpl,(r:Rpl)=>wfI r.status∧(wfS r.fields∧∀ f ∈ r.fields,zhE f)∧wfS r.body
  |.med,(m:Med)=>wfS m.word∧(wfS m.params∧∀ f ∈ m.params,zhE f)
  |_,_=>True
abbrev Small {H:Type} (Pr:Program) (t:TypeId) (d:DataW H):Prop:=(d.weights Pr t).all (· ≤reachBytes)=true
section
variable {H:Type} {hsh:TypeId × Value→H} {Pr:Program} {w:World} {hF:Holds w} {base:Nat} {spare:Nat→Bool} {held:Bool}
def tV (hsh:TypeId × Value→H) (Pr:Program) (w:World) (hF:Holds w) (base:Nat) (spare:Nat→Bool) (held:Bool) (t:TypeId) (Q:List P→Prop):Prop:=
  ∀ fuel cs y,DataW.trod hsh Pr w base spare held fuel t cs=some y→Small Pr t y.1→∃ ps,MPs (frzW w hF) ps cs∧Q ps
theorem tV.mono {t:TypeId} {Q Q':List P→Prop} (h:tV hsh Pr w hF base spare held t Q) (hq: ∀ ps,Q ps→Q' ps):tV hsh Pr w hF base spare held t Q':=by
  intro fuel cs y hy hs
  obtain⟨ps,h1,h2⟩:=h fuel cs y hy hs
  exact⟨ps,h1,hq _ h2⟩
def QU (u:U) (ps:List P):Prop:=∃ x:u.den,ps=enc alg u x∧wfZ u x
def QL (u:U) (ps:List P):Prop:=∃ l:List u.den,ps=[.list u l]∧wfS l∧∀ x ∈ l,wfZ u x
theorem op_int {t:TypeId} (ht:Pr.underlying t=some (.int .i64)):tV hsh Pr w hF base spare held t (QU .int):=by
  intro fuel cs y h _
  obtain⟨n,rfl,hn⟩:=zf0 ht fuel cs y h
  exact⟨[.int .i64 n],⟨.int _ _,trivial⟩,n,rfl,zkj hn⟩
theorem op_byte {t:TypeId} (ht:Pr.underlying t=some (.int .u8)):tV hsh Pr w hF base spare held t (QU .byte):=by
  intro fuel cs y h _
  obtain⟨c,hc⟩:=zes ht fuel cs y h
  exact⟨enc alg .byte c,zjT hc,c,rfl,trivial⟩
theorem zcZ {n:Nat} (h:n≤reachBytes):n≤140737488355328:=Nat.le_trans h (by decide)
theorem op_str {t:TypeId} (ht:Pr.underlying t=some .string):tV hsh Pr w hF base spare held t (QU .str):=by
  intro fuel cs y h hs
  obtain⟨s,rfl,hy,hl⟩:=DataW.trod_string ht h
  have e:Sep.S s.data.toList=s:=by cases s;rfl
  refine⟨[.str s.data.toList],⟨by rw [← e];exact .str _ (by simpa using hl),trivial⟩,s.data.toList,rfl,?_⟩
  rw [hy] at hs
  simp only [Small,DataW.weights,List.all_cons,List.all_nil,Bool.and_true,decide_eq_true_eq] at hs
  exact zcZ hs
def elemsOf:DataW H→List (DataW H)
  |.slice es _=>es
  |_=>[]
theorem zbz {α:Type} {t e:TypeId} {size:Nat} {R:Sep.Rel α} (ht:Pr.underlying t=some (.slice e)) (hs:Pr.cellsOf e=size) {fuel:Nat} {cs:List Value} {y:DataW H × List MemPlace}
    (h:DataW.trod hsh Pr w base spare held fuel t cs=some y) (he: ∀ n ci z,z.1 ∈ elemsOf y.1→DataW.trod hsh Pr w base spare held n e ci=some z→∃ x,R w ci x):
    ∃ xs,RSl size R w cs xs∧xs.length=(elemsOf y.1).length:=by
  rcases DataW.trod_slice ht h with⟨rfl,rfl⟩|⟨a,len,cap,elems,rest,n,_,rfl,rfl,_,hl,hm,hlen,hel,_,_⟩
  · exact⟨[],⟨_,[],rfl,⟨none,0,rfl,Nat.le_refl _,Nat.zero_le _,fun _=>rfl,by simp,fun j u h=>by simp at h⟩,fun i x h=>by simp at h⟩,rfl⟩
  · subst hs
    have each: ∀ i,i<len→∃ ci:List Value,ci.length=Pr.cellsOf e∧(∀ j u,ci[j]? =some u→w.cell? ((a.add (i * Pr.cellsOf e)).add j)=some u)∧∃ x,R w ci x:=by
      intro i hi
      have h1:=hel i hi
      rw [List.getElem?_eq_getElem (by omega),Option.bind_eq_some_iff] at h1
      obtain⟨ci,hci,hy⟩:=h1
      obtain⟨h2,h3⟩:=cells?_get hci
      exact⟨ci,h2,h3,he n ci _ (List.mem_map_of_mem (List.getElem_mem _)) hy⟩
    have all: ∀ m,m≤len→∃ (vs:List Value) (xs:List α),xs.length=m∧vs.length=m * Pr.cellsOf e∧(∀ j u,vs[j]? =some u→w.cell? (a.add j)=some u)∧∀ i x,xs[i]? =some x→R w ((vs.drop (i * Pr.cellsOf e)).take (Pr.cellsOf e)) x:=by
      intro m
      induction m with
      |zero=>intro _;exact⟨[],[],rfl,by simp,fun j u h=>by simp at h,fun i x h=>by simp at h⟩
      | succ m ih=>
        intro hm'
        obtain⟨vs,xs,h1,h2,h3,h4⟩:=ih (by omega)
        obtain⟨ci,c1,c2,x,c3⟩:=each m (by omega)
        refine⟨vs++ci,xs++[x],by simp [h1],by simp [h2,c1,Nat.succ_mul],fun j u hj=> ?_,fun i z hi=> ?_⟩
        · rcases Nat.lt_or_ge j vs.length with hj1|hj1
          · rw [List.getElem?_append_left hj1] at hj;exact h3 j u hj
          · rw [List.getElem?_append_right hj1] at hj
            have h5:=c2 _ _ hj
            rw [Addr.add_add,h2,show m * Pr.cellsOf e+(j - m * Pr.cellsOf e)=j by omega] at h5
            exact h5
        · rcases Nat.lt_or_ge i xs.length with hi1|hi1
          · rw [List.getElem?_append_left hi1] at hi
            have h5:=h4 i z hi
            have h6:i * Pr.cellsOf e+Pr.cellsOf e≤vs.length:=by rw [h2,← Nat.succ_mul];exact Nat.mul_le_mul_right _ (by omega)
            rw [List.drop_append_of_le_length (by omega),List.take_append_of_le_length (by simp;omega)]
            exact h5
          · rw [List.getElem?_append_right hi1] at hi
            have hi2:i=m:=by
              have:=(List.getElem?_eq_some_iff.1 hi).1
              simp at this;omega
            subst hi2
            rw [h1,Nat.sub_self] at hi
            simp at hi
            subst hi
            rw [← h2,List.drop_left,List.take_of_length_le (by omega)]
            exact c3
    obtain⟨vs,xs,h1,h2,h3,h4⟩:=all len (Nat.le_refl _)
    refine⟨xs,⟨_,vs,rfl,⟨some a,cap,by rw [h1],by omega,hm,(fun h=>by cases h),by rw [h1];exact h2,fun j u hj=> ?_⟩,h4⟩,by simp [elemsOf,h1,hlen]⟩
    have hsp:a.spot=none:=by
      cases hv:vs with
      |nil=>rw [hv] at hj;simp at hj
      | cons u0 r=>
        have:=h3 0 u0 (by rw [hv];rfl)
        rw [show a.add 0=a by simp [Addr.add]] at this
        exact zjh this
    exact⟨⟨a,rfl,hsp⟩,by rw [← Xv hsp];exact h3 j u hj⟩
theorem weightsAll_mem {e:TypeId}: ∀ {es:List (DataW H)} {d:DataW H},d ∈ es→∀ n ∈ d.weights Pr e,n ∈ DataW.weightsAll Pr e es
  | x::es,d,hd,n,hn=>by
    simp only [DataW.weightsAll,List.mem_append]
    rcases List.mem_cons.1 hd with rfl|hd
    · exact .inl hn
    · exact .inr (weightsAll_mem hd n hn)
theorem zef {t e:TypeId} (ht:Pr.underlying t=some (.slice e)) {d z:DataW H} (h:Small Pr t d) (hz:z ∈ elemsOf d):Small Pr e z:=by
  cases d<;>simp only [elemsOf,List.not_mem_nil] at hz
  refine List.all_eq_true.2 fun n hn=>List.all_eq_true.1 h n ?_
  simp only [DataW.weights,ht,List.mem_cons,List.mem_append]
  exact .inr (.inl (weightsAll_mem hz n hn))
theorem zfg {t e:TypeId} (ht:Pr.underlying t=some (.slice e)) (hb:Nat.blt 0 (Pr.bytesOf e)=true) {d:DataW H} (h:Small Pr t d):(elemsOf d).length≤140737488355328:=by
  cases d<;>simp only [elemsOf]<;>try exact Nat.zero_le _
  rename_i es ss
  have h1:=List.all_eq_true.1 h ((es.length+ss.length) * Pr.bytesOf e) (by simp [DataW.weights,ht])
  have hb:0<Pr.bytesOf e:=by simpa [Nat.blt_eq] using hb
  refine zcZ (Nat.le_trans (Nat.le_trans (Nat.le_add_right _ ss.length) (Nat.le_mul_of_pos_right _ hb)) (by simpa using h1))
theorem op_list {t e:TypeId} {u:U} (ht:Pr.underlying t=some (.slice e)) (hc:Pr.cellsOf e=u.size) (hb:Nat.blt 0 (Pr.bytesOf e)=true) (he:tV hsh Pr w hF base spare held e (QU u)):
    tV hsh Pr w hF base spare held t (QL u):=by
  intro fuel cs y h hs
  obtain⟨l,hl,hlen⟩:=zbz (R:=fun _ cs (x:u.den)=>MPs (frzW w hF) (enc alg u x) cs∧wfZ u x) ht hc h (fun n ci z hz ht'=>by
    obtain⟨ps,h1,x,rfl,hx⟩:=he n ci z ht' (zef ht hs hz)
    exact⟨x,h1,hx⟩)
  have hl':=hl
  obtain⟨v,vs,rfl,_,hx⟩:=hl
  refine⟨[.list u l],⟨zjS (fun _ _ h=>h.1) hl',trivial⟩,l,rfl,by unfold wfS;rw [hlen];exact zfg ht hb hs,fun x hm=> ?_⟩
  obtain⟨i,hi⟩:=List.getElem?_of_mem hm
  exact(hx i x hi).2
def QAll:List (List P→Prop)→List P→Prop
  |[],ps=>ps=[]
  |Q::Qs,ps=>∃ a b,ps=a++b∧Q a∧QAll Qs b
def lays (Pr:Program):Nat→List Field→Nat→Bool
  |o,[],n=>Nat.beq o n
  |o,f::fs,n=>Nat.beq f.offset o&&lays Pr (o+Pr.cellsOf f.type) fs n
def zbv (hsh:TypeId × Value→H) (Pr:Program) (w:World) (hF:Holds w) (base:Nat) (spare:Nat→Bool) (held:Bool):List Field→List (List P→Prop)→Prop
  |[],[]=>True
  |f::fs,Q::Qs=>tV hsh Pr w hF base spare held f.type Q∧zbv hsh Pr w hF base spare held fs Qs
  |_,_=>False
theorem zbv.nil:zbv hsh Pr w hF base spare held [] []:=trivial
theorem zbv.cons {f:Field} {fs:List Field} {Q:List P→Prop} {Qs:List (List P→Prop)} (h:tV hsh Pr w hF base spare held f.type Q) (k:zbv hsh Pr w hF base spare held fs Qs):zbv hsh Pr w hF base spare held (f::fs) (Q::Qs):=⟨h,k⟩
theorem MPs.append {S:Frz}: ∀ {a b:List P} {x y:List Value},MPs S a x→MPs S b y→MPs S (a++b) (x++y)
  |[],_,[],_,_,h=>h
  |_::_,_,_::_,_,h,k=>⟨h.1,MPs.append h.2 k⟩
theorem zau {cs:List Value}: ∀ (fs:List Field) (Qs:List (List P→Prop)) (o:Nat),lays Pr o fs cs.length=true→zbv hsh Pr w hF base spare held fs Qs→
    (∀ f ∈ fs,∃ n z,DataW.trod hsh Pr w base spare held n f.type ((cs.drop f.offset).take (Pr.cellsOf f.type))=some z∧Small Pr f.type z.1)→∃ ps,MPs (frzW w hF) ps (cs.drop o)∧QAll Qs ps
  | [],[],o,hl,_,_=>by
    have:=Nat.eq_of_beq_eq_true hl
    exact⟨[],by rw [List.drop_of_length_le (by omega)];trivial,rfl⟩
  | f::fs,Q::Qs,o,hl,hq,hz=>by
    simp only [lays,Bool.and_eq_true] at hl
    have ho:=Nat.eq_of_beq_eq_true hl.1
    obtain⟨n,z,h1,h2⟩:=hz f (by simp)
    rw [ho] at h1
    obtain⟨p1,m1,q1⟩:=hq.1 n _ z h1 h2
    obtain⟨p2,m2,q2⟩:=zau fs Qs _ hl.2 hq.2 (fun g hg=>hz g (by simp [hg]))
    refine⟨p1++p2,?_,p1,p2,rfl,q1,q2⟩
    have:=m1.append m2
    rwa [← List.drop_drop,List.take_append_drop] at this
  |[],_::_,_,_,h,_=>h.elim
  |_::_,[],_,_,h,_=>h.elim
theorem op_struct {t:TypeId} {fs:Array Field} {Qs:List (List P→Prop)} (ht:Pr.underlying t=some (.struct fs)) (hl:lays Pr 0 fs.toList (Pr.cellsOf t)=true) (hq:zbv hsh Pr w hF base spare held fs.toList Qs):
    tV hsh Pr w hF base spare held t (QAll Qs):=by
  intro fuel cs y h hs
  obtain⟨xs,n,_,rfl,hcl,hxl,hf⟩:=DataW.trod_struct ht h
  have:=zau fs.toList Qs 0 (by rw [hcl];exact hl) hq (fun f hfm=>by
    obtain⟨i,hi⟩:=List.getElem?_of_mem hfm
    have hi':fs[i]? =some f:=by simpa using hi
    have hlt:i<xs.length:=by rw [hxl];exact(Array.getElem?_eq_some_iff.1 hi').1
    refine⟨n,xs[i],by rw [hf i f hi',List.getElem?_eq_getElem hlt],List.all_eq_true.2 fun k hk=>List.all_eq_true.1 hs k ?_⟩
    simp only [DataW.weights,ht]
    exact DataW.weights_mem_each (j:=i) (t:=f.type) (by simp [hi']) (by simp [hlt]) k hk)
  simpa using this
theorem q_fld (ps:List P) (h:QAll [QU .str,QU .str] ps):QU .fld ps:=by
  obtain⟨_,_,rfl,⟨a,rfl,ha⟩,_,_,rfl,⟨b,rfl,hb⟩,rfl⟩:=h
  exact⟨(⟨a,b⟩:Fld),rfl,ha,hb⟩
theorem q_hd (ps:List P) (h:QAll [QU .str,QU .str,QU .int,QL .fld,QU .int] ps):QU .hd ps:=by
  obtain⟨_,_,rfl,⟨a,rfl,ha⟩,_,_,rfl,⟨b,rfl,hb⟩,_,_,rfl,⟨c,rfl,hc⟩,_,_,rfl,⟨d,rfl,hd⟩,_,_,rfl,⟨e,rfl,he⟩,rfl⟩:=h
  exact⟨(⟨a,b,c,d,e⟩:Hd),rfl,ha,hb,hc,hd,he⟩
theorem q_prt (ps:List P) (h:QAll [QU .str,QU .str,QU .str,QL .byte] ps):QU .prt ps:=by
  obtain⟨_,_,rfl,⟨a,rfl,ha⟩,_,_,rfl,⟨b,rfl,hb⟩,_,_,rfl,⟨c,rfl,hc⟩,_,_,rfl,⟨d,rfl,hd,_⟩,rfl⟩:=h
  exact⟨(⟨a,b,c,d⟩:Prt),rfl,ha,hb,hc,hd⟩
theorem q_evt (ps:List P) (h:QAll [QU .int,QU .hd,QL .byte,QU .prt,QU .int] ps):QU .evt ps:=by
  obtain⟨_,_,rfl,⟨a,rfl,ha⟩,_,_,rfl,⟨b,rfl,hb⟩,_,_,rfl,⟨c,rfl,hc,_⟩,_,_,rfl,⟨d,rfl,hd⟩,_,_,rfl,⟨e,rfl,he⟩,rfl⟩:=h
  exact⟨(⟨a,b,c,d,e⟩:Evt),by simp [enc],ha,hb,hc,hd,he⟩
theorem z_one {t:TypeId} {v:Value} {d:DataW H} {ps:List MemPlace} {Q:List P→Prop} (hr:v.oneCell'=true) (h:DataW.Trod hsh Pr w base spare held t v d ps) (hs:Small Pr t d) (ho:tV hsh Pr w hF base spare held t Q): ∃ qs,MPs (frzW w hF) qs [v]∧Q qs:=by
  obtain⟨fuel,hf⟩:=h
  have hc:v.cells.toList=[v]:=by cases v<;>first|rfl|cases hr
  rw [hc] at hf
  exact ho fuel _ _ hf hs
theorem z_agg {t:TypeId} {cs:Array Value} {d:DataW H} {ps:List MemPlace} {Q:List P→Prop} (h:DataW.Trod hsh Pr w base spare held t (.agg cs) d ps) (hs:Small Pr t d) (ho:tV hsh Pr w hF base spare held t Q): ∃ qs,MPs (frzW w hF) qs cs.toList∧Q qs:=by
  obtain⟨fuel,hf⟩:=h
  exact ho fuel _ _ hf hs
theorem md_agg {S:Frz} {cs:Array Value} {u:U} {x:u.den} (h:MPs S (enc alg u x) cs.toList):MD S [] (.v (.agg ((enc alg u x).map C.p))) (.agg cs):=⟨cs.toList,h.mcs,by simp⟩
theorem small_nth {ts:List TypeId} {ds:List (DataW H)} (h:(DataW.weightsEach Pr ts ds).all (· ≤reachBytes)=true) {j:Nat} {t:TypeId} {d:DataW H} (ht:ts[j]? =some t) (hd:ds[j]? =some d):Small Pr t d:=
  List.all_eq_true.2 fun n hn=>List.all_eq_true.1 h n (DataW.weights_mem_each ht hd n hn)
end
end Go.Ab
namespace Go.Proofs
open Go.Shelf
def Tryz.zbN:Go.Shelf.Ren:=⟨fun|160=>83|232=>96|231=>95|227=>80|234=>98|233=>97|236=>100|235=>99|228=>81|271=>113|151=>112|197=>111|120=>124|152=>78|260=>123|137=>77|119=>92|224=>93|225=>94|217=>91|266=>110|n=>n,fun|9=>9|4=>4|3=>3|5=>5|117=>109|116=>108|0=>0|124=>121|21=>21|105=>131|46=>80|119=>142|139=>145|138=>144|n=>n,fun|3=>2|4=>3|n=>n⟩
theorem Tryz.lays160:Go.Proofs.Lays.n160 Tryz.prog Tryz.zbN:= {
  mixed:=by kernel_rfl
  f119:=Tryz.func92.trans (congrArg some (by kernel_rfl))
  f120:=Tryz.func124.trans (congrArg some (by kernel_rfl))
  f137:=Tryz.func77.trans (congrArg some (by kernel_rfl))
  f151:=Tryz.func112.trans (congrArg some (by kernel_rfl))
  f152:=Tryz.func78.trans (congrArg some (by kernel_rfl))
  f160:=Tryz.func83.trans (congrArg some (by kernel_rfl))
  f197:=Tryz.func111.trans (congrArg some (by kernel_rfl))
  f217:=Tryz.func91.trans (congrArg some (by kernel_rfl))
  f224:=Tryz.func93.trans (congrArg some (by kernel_rfl))
  f225:=Tryz.func94.trans (congrArg some (by kernel_rfl))
  f227:=Tryz.func80.trans (congrArg some (by kernel_rfl))
  f228:=Tryz.func81.trans (congrArg some (by kernel_rfl))
  f231:=Tryz.func95.trans (congrArg some (by kernel_rfl))
  f232:=Tryz.func96.trans (congrArg some (by kernel_rfl))
  f233:=Tryz.func97.trans (congrArg some (by kernel_rfl))
  f234:=Tryz.func98.trans (congrArg some (by kernel_rfl))
  f235:=Tryz.func99.trans (congrArg some (by kernel_rfl))
  f236:=Tryz.func100.trans (congrArg some (by kernel_rfl))
  f260:=Tryz.func123.trans (congrArg some (by kernel_rfl))
  f266:=Tryz.func110.trans (congrArg some (by kernel_rfl))
  f271:=Tryz.func113.trans (congrArg some (by kernel_rfl))
  t0:=Tryz.underlying0
  a0:=Tryz.isAgg0
  z0:=Tryz.sizeOf0
  v0:=Tryz.zeroValue0
  t3:=Tryz.underlying3
  a3:=Tryz.isAgg3
  z3:=Tryz.sizeOf3
  v3:=Tryz.zeroValue3
  t4:=Tryz.underlying4
  a4:=Tryz.isAgg4
  z4:=Tryz.sizeOf4
  v4:=Tryz.zeroValue4
  t5:=Tryz.underlying5
  a5:=Tryz.isAgg5
  z5:=Tryz.sizeOf5
  v5:=Tryz.zeroValue5
  t9:=Tryz.underlying9
  a9:=Tryz.isAgg9
  z9:=Tryz.sizeOf9
  v9:=Tryz.zeroValue9
  t21:=Tryz.underlying21
  a21:=Tryz.isAgg21
  z21:=Tryz.sizeOf21
  v21:=Tryz.zeroValue21
  t46:=Tryz.underlying80
  a46:=Tryz.isAgg80
  z46:=Tryz.sizeOf80
  v46:=Tryz.zeroValue80
  t105:=Tryz.underlying131
  a105:=Tryz.isAgg131
  z105:=Tryz.sizeOf131
  v105:=Tryz.zeroValue131
  t116:=Tryz.underlying108
  a116:=Tryz.isAgg108
  z116:=Tryz.sizeOf108
  t117:=Tryz.underlying109
  a117:=Tryz.isAgg109
  z117:=Tryz.sizeOf109
  v117:=Tryz.zeroValue109
  t119:=Tryz.underlying142
  a119:=Tryz.isAgg142
  z119:=Tryz.sizeOf142
  t124:=Tryz.underlying121
  a124:=Tryz.isAgg121
  z124:=Tryz.sizeOf121
  v124:=Tryz.zeroValue121
  t138:=Tryz.underlying144
  a138:=Tryz.isAgg144
  z138:=Tryz.sizeOf144
  v138:=Tryz.zeroValue144
  t139:=Tryz.underlying145
  a139:=Tryz.isAgg145
  z139:=Tryz.sizeOf145
  v139:=Tryz.zeroValue145
  g3:=by kernel_rfl
  g4:=by kernel_rfl}
def Tryz.zbP:Go.Shelf.Ren:=⟨fun|137=>77|217=>91|266=>110|n=>n,fun|9=>9|5=>5|3=>3|n=>n,fun|n=>n⟩
theorem Tryz.lays137:Go.Proofs.Lays.n137 Tryz.prog Tryz.zbP:= {
  mixed:=by kernel_rfl
  f137:=Tryz.func77.trans (congrArg some (by kernel_rfl))
  f217:=Tryz.func91.trans (congrArg some (by kernel_rfl))
  f266:=Tryz.func110.trans (congrArg some (by kernel_rfl))
  t3:=Tryz.underlying3
  a3:=Tryz.isAgg3
  z3:=Tryz.sizeOf3
  v3:=Tryz.zeroValue3
  t5:=Tryz.underlying5
  a5:=Tryz.isAgg5
  z5:=Tryz.sizeOf5
  v5:=Tryz.zeroValue5
  t9:=Tryz.underlying9
  a9:=Tryz.isAgg9
  z9:=Tryz.sizeOf9
  v9:=Tryz.zeroValue9}
def Tryz.zaH:Go.Shelf.Ren:=⟨fun|171=>39|243=>65|246=>84|283=>101|284=>102|285=>103|286=>104|129=>115|317=>114|318=>116|319=>117|320=>118|337=>125|338=>126|n=>n,fun|3=>3|9=>9|2=>2|4=>4|171=>124|0=>0|53=>125|37=>22|5=>5|173=>128|212=>135|51=>136|20=>20|213=>137|46=>80|232=>146|233=>147|n=>n,fun|17=>1|18=>4|19=>5|n=>n⟩
theorem Tryz.laysM171:Go.Proofs.LaysM.n171 Tryz.prog Tryz.zaH:= {
  mixed:=by kernel_rfl
  f129:=Tryz.func115.trans (congrArg some (by kernel_rfl))
  f171:=Tryz.func39.trans (congrArg some (by kernel_rfl))
  f243:=Tryz.func65.trans (congrArg some (by kernel_rfl))
  f246:=Tryz.func84.trans (congrArg some (by kernel_rfl))
  f283:=Tryz.func101.trans (congrArg some (by kernel_rfl))
  f284:=Tryz.func102.trans (congrArg some (by kernel_rfl))
  f285:=Tryz.func103.trans (congrArg some (by kernel_rfl))
  f286:=Tryz.func104.trans (congrArg some (by kernel_rfl))
  f317:=Tryz.func114.trans (congrArg some (by kernel_rfl))
  f318:=Tryz.func116.trans (congrArg some (by kernel_rfl))
  f319:=Tryz.func117.trans (congrArg some (by kernel_rfl))
  f320:=Tryz.func118.trans (congrArg some (by kernel_rfl))
  f337:=Tryz.func125.trans (congrArg some (by kernel_rfl))
  f338:=Tryz.func126.trans (congrArg some (by kernel_rfl))
  t0:=Tryz.underlying0
  a0:=Tryz.isAgg0
  z0:=Tryz.sizeOf0
  v0:=Tryz.zeroValue0
  t2:=Tryz.underlying2
  a2:=Tryz.isAgg2
  z2:=Tryz.sizeOf2
  v2:=Tryz.zeroValue2
  t3:=Tryz.underlying3
  a3:=Tryz.isAgg3
  z3:=Tryz.sizeOf3
  v3:=Tryz.zeroValue3
  t4:=Tryz.underlying4
  a4:=Tryz.isAgg4
  z4:=Tryz.sizeOf4
  v4:=Tryz.zeroValue4
  t5:=Tryz.underlying5
  a5:=Tryz.isAgg5
  z5:=Tryz.sizeOf5
  v5:=Tryz.zeroValue5
  t9:=Tryz.underlying9
  a9:=Tryz.isAgg9
  z9:=Tryz.sizeOf9
  v9:=Tryz.zeroValue9
  t20:=Tryz.underlying20
  a20:=Tryz.isAgg20
  z20:=Tryz.sizeOf20
  v20:=Tryz.zeroValue20
  t37:=Tryz.underlying22
  a37:=Tryz.isAgg22
  z37:=Tryz.sizeOf22
  v37:=Tryz.zeroValue22
  t46:=Tryz.underlying80
  a46:=Tryz.isAgg80
  z46:=Tryz.sizeOf80
  v46:=Tryz.zeroValue80
  t51:=Tryz.underlying136
  a51:=Tryz.isAgg136
  z51:=Tryz.sizeOf136
  v51:=Tryz.zeroValue136
  t53:=Tryz.underlying125
  a53:=Tryz.isAgg125
  z53:=Tryz.sizeOf125
  v53:=Tryz.zeroValue125
  t171:=Tryz.underlying124
  a171:=Tryz.isAgg124
  z171:=Tryz.sizeOf124
  v171:=Tryz.zeroValue124
  t173:=Tryz.underlying128
  a173:=Tryz.isAgg128
  z173:=Tryz.sizeOf128
  v173:=Tryz.zeroValue128
  t212:=Tryz.underlying135
  a212:=Tryz.isAgg135
  z212:=Tryz.sizeOf135
  v212:=Tryz.zeroValue135
  t213:=Tryz.underlying137
  a213:=Tryz.isAgg137
  z213:=Tryz.sizeOf137
  t232:=Tryz.underlying146
  a232:=Tryz.isAgg146
  z232:=Tryz.sizeOf146
  v232:=Tryz.zeroValue146
  t233:=Tryz.underlying147
  a233:=Tryz.isAgg147
  z233:=Tryz.sizeOf147
  v233:=Tryz.zeroValue147
  g17:=by kernel_rfl
  g18:=by kernel_rfl
  g19:=by kernel_rfl
  i0:=by kernel_rfl
  i2:=by kernel_rfl
  i3:=by kernel_rfl
  i4:=by kernel_rfl
  i5:=by kernel_rfl
  i9:=by kernel_rfl
  i20:=by kernel_rfl
  i37:=by kernel_rfl
  i46:=by kernel_rfl
  i51:=by kernel_rfl
  i53:=by kernel_rfl
  i171:=by kernel_rfl
  i173:=by kernel_rfl
  i212:=by kernel_rfl
  i232:=by kernel_rfl
  i233:=by kernel_rfl
  m17:=by kernel_rfl
  m18:=by kernel_rfl
  m19:=by kernel_rfl}
def Tryz.zbM:Go.Shelf.Ren:=⟨fun|219=>122|217=>91|225=>94|224=>93|267=>130|266=>110|314=>131|n=>n,fun|9=>9|3=>3|4=>4|5=>5|46=>80|146=>148|51=>136|n=>n,fun|1=>0|n=>n⟩
theorem Tryz.lays219:Go.Proofs.Lays.n219 Tryz.prog Tryz.zbM:= {
  mixed:=by kernel_rfl
  f217:=Tryz.func91.trans (congrArg some (by kernel_rfl))
  f219:=Tryz.func122.trans (congrArg some (by kernel_rfl))
  f224:=Tryz.func93.trans (congrArg some (by kernel_rfl))
  f225:=Tryz.func94.trans (congrArg some (by kernel_rfl))
  f266:=Tryz.func110.trans (congrArg some (by kernel_rfl))
  f267:=Tryz.func130.trans (congrArg some (by kernel_rfl))
  f314:=Tryz.func131.trans (congrArg some (by kernel_rfl))
  t3:=Tryz.underlying3
  a3:=Tryz.isAgg3
  z3:=Tryz.sizeOf3
  v3:=Tryz.zeroValue3
  t4:=Tryz.underlying4
  a4:=Tryz.isAgg4
  z4:=Tryz.sizeOf4
  v4:=Tryz.zeroValue4
  t5:=Tryz.underlying5
  a5:=Tryz.isAgg5
  z5:=Tryz.sizeOf5
  v5:=Tryz.zeroValue5
  t9:=Tryz.underlying9
  a9:=Tryz.isAgg9
  z9:=Tryz.sizeOf9
  v9:=Tryz.zeroValue9
  t46:=Tryz.underlying80
  a46:=Tryz.isAgg80
  z46:=Tryz.sizeOf80
  v46:=Tryz.zeroValue80
  t51:=Tryz.underlying136
  a51:=Tryz.isAgg136
  z51:=Tryz.sizeOf136
  v51:=Tryz.zeroValue136
  t146:=Tryz.underlying148
  a146:=Tryz.isAgg148
  z146:=Tryz.sizeOf148
  v146:=Tryz.zeroValue148
  g1:=by kernel_rfl}
def Tryz.zbO:Go.Shelf.Ren:=⟨fun|144=>87|143=>107|219=>122|217=>91|225=>94|224=>93|267=>130|266=>110|314=>131|n=>n,fun|9=>9|4=>4|3=>3|5=>5|46=>80|146=>148|51=>136|n=>n,fun|1=>0|n=>n⟩
theorem Tryz.lays144:Go.Proofs.Lays.n144 Tryz.prog Tryz.zbO:= {
  mixed:=by kernel_rfl
  f143:=Tryz.func107.trans (congrArg some (by kernel_rfl))
  f144:=Tryz.func87.trans (congrArg some (by kernel_rfl))
  f217:=Tryz.func91.trans (congrArg some (by kernel_rfl))
  f219:=Tryz.func122.trans (congrArg some (by kernel_rfl))
  f224:=Tryz.func93.trans (congrArg some (by kernel_rfl))
  f225:=Tryz.func94.trans (congrArg some (by kernel_rfl))
  f266:=Tryz.func110.trans (congrArg some (by kernel_rfl))
  f267:=Tryz.func130.trans (congrArg some (by kernel_rfl))
  f314:=Tryz.func131.trans (congrArg some (by kernel_rfl))
  t3:=Tryz.underlying3
  a3:=Tryz.isAgg3
  z3:=Tryz.sizeOf3
  v3:=Tryz.zeroValue3
  t4:=Tryz.underlying4
  a4:=Tryz.isAgg4
  z4:=Tryz.sizeOf4
  v4:=Tryz.zeroValue4
  t5:=Tryz.underlying5
  a5:=Tryz.isAgg5
  z5:=Tryz.sizeOf5
  v5:=Tryz.zeroValue5
  t9:=Tryz.underlying9
  a9:=Tryz.isAgg9
  z9:=Tryz.sizeOf9
  v9:=Tryz.zeroValue9
  t46:=Tryz.underlying80
  a46:=Tryz.isAgg80
  z46:=Tryz.sizeOf80
  v46:=Tryz.zeroValue80
  t51:=Tryz.underlying136
  a51:=Tryz.isAgg136
  z51:=Tryz.sizeOf136
  v51:=Tryz.zeroValue136
  t146:=Tryz.underlying148
  a146:=Tryz.isAgg148
  z146:=Tryz.sizeOf148
  v146:=Tryz.zeroValue148
  g1:=by kernel_rfl}
def Tryz.lays99_ren:Go.Shelf.Ren:=⟨fun|99=>33|206=>60|n=>n,fun|9=>9|4=>4|3=>3|n=>n,fun|n=>n⟩
theorem Tryz.lays99:Go.Proofs.Lays.n99 Tryz.prog Tryz.lays99_ren:= {
  mixed:=by kernel_rfl
  f99:=Tryz.func33.trans (congrArg some (by kernel_rfl))
  f206:=Tryz.func60.trans (congrArg some (by kernel_rfl))
  t3:=Tryz.underlying3
  a3:=Tryz.isAgg3
  z3:=Tryz.sizeOf3
  v3:=Tryz.zeroValue3
  t4:=Tryz.underlying4
  a4:=Tryz.isAgg4
  z4:=Tryz.sizeOf4
  v4:=Tryz.zeroValue4
  t9:=Tryz.underlying9
  a9:=Tryz.isAgg9
  z9:=Tryz.sizeOf9
  v9:=Tryz.zeroValue9}
def Tryz.lays146_ren:Go.Shelf.Ren:=⟨fun|146=>86|221=>106|268=>120|138=>121|143=>107|195=>128|197=>111|218=>129|219=>122|260=>123|217=>91|225=>94|224=>93|267=>130|266=>110|314=>131|n=>n,fun|9=>9|31=>74|3=>3|4=>4|0=>0|105=>131|21=>21|5=>5|46=>80|119=>142|139=>145|138=>144|146=>148|51=>136|n=>n,fun|1=>0|3=>2|4=>3|n=>n⟩
theorem Tryz.lays146:Go.Proofs.Lays.n146 Tryz.prog Tryz.lays146_ren:= {
  mixed:=by kernel_rfl
  f138:=Tryz.func121.trans (congrArg some (by kernel_rfl))
  f143:=Tryz.func107.trans (congrArg some (by kernel_rfl))
  f146:=Tryz.func86.trans (congrArg some (by kernel_rfl))
  f195:=Tryz.func128.trans (congrArg some (by kernel_rfl))
  f197:=Tryz.func111.trans (congrArg some (by kernel_rfl))
  f217:=Tryz.func91.trans (congrArg some (by kernel_rfl))
  f218:=Tryz.func129.trans (congrArg some (by kernel_rfl))
  f219:=Tryz.func122.trans (congrArg some (by kernel_rfl))
  f221:=Tryz.func106.trans (congrArg some (by kernel_rfl))
  f224:=Tryz.func93.trans (congrArg some (by kernel_rfl))
  f225:=Tryz.func94.trans (congrArg some (by kernel_rfl))
  f260:=Tryz.func123.trans (congrArg some (by kernel_rfl))
  f266:=Tryz.func110.trans (congrArg some (by kernel_rfl))
  f267:=Tryz.func130.trans (congrArg some (by kernel_rfl))
  f268:=Tryz.func120.trans (congrArg some (by kernel_rfl))
  f314:=Tryz.func131.trans (congrArg some (by kernel_rfl))
  t0:=Tryz.underlying0
  a0:=Tryz.isAgg0
  z0:=Tryz.sizeOf0
  v0:=Tryz.zeroValue0
  t3:=Tryz.underlying3
  a3:=Tryz.isAgg3
  z3:=Tryz.sizeOf3
  v3:=Tryz.zeroValue3
  t4:=Tryz.underlying4
  a4:=Tryz.isAgg4
  z4:=Tryz.sizeOf4
  v4:=Tryz.zeroValue4
  t5:=Tryz.underlying5
  a5:=Tryz.isAgg5
  z5:=Tryz.sizeOf5
  v5:=Tryz.zeroValue5
  t9:=Tryz.underlying9
  a9:=Tryz.isAgg9
  z9:=Tryz.sizeOf9
  v9:=Tryz.zeroValue9
  t21:=Tryz.underlying21
  a21:=Tryz.isAgg21
  z21:=Tryz.sizeOf21
  v21:=Tryz.zeroValue21
  t31:=Tryz.underlying74
  a31:=Tryz.isAgg74
  z31:=Tryz.sizeOf74
  v31:=Tryz.zeroValue74
  t46:=Tryz.underlying80
  a46:=Tryz.isAgg80
  z46:=Tryz.sizeOf80
  v46:=Tryz.zeroValue80
  t51:=Tryz.underlying136
  a51:=Tryz.isAgg136
  z51:=Tryz.sizeOf136
  v51:=Tryz.zeroValue136
  t105:=Tryz.underlying131
  a105:=Tryz.isAgg131
  z105:=Tryz.sizeOf131
  v105:=Tryz.zeroValue131
  t119:=Tryz.underlying142
  a119:=Tryz.isAgg142
  z119:=Tryz.sizeOf142
  t138:=Tryz.underlying144
  a138:=Tryz.isAgg144
  z138:=Tryz.sizeOf144
  v138:=Tryz.zeroValue144
  t139:=Tryz.underlying145
  a139:=Tryz.isAgg145
  z139:=Tryz.sizeOf145
  v139:=Tryz.zeroValue145
  t146:=Tryz.underlying148
  a146:=Tryz.isAgg148
  z146:=Tryz.sizeOf148
  v146:=Tryz.zeroValue148
  g1:=by kernel_rfl
  g3:=by kernel_rfl
  g4:=by kernel_rfl}
def Tryz.lays150_ren:Go.Shelf.Ren:=⟨fun|150=>34|153=>61|152=>78|226=>79|227=>80|228=>81|137=>77|119=>92|224=>93|225=>94|217=>91|266=>110|n=>n,fun|9=>9|4=>4|3=>3|5=>5|21=>21|117=>109|116=>108|0=>0|46=>80|124=>121|n=>n,fun|n=>n⟩
theorem Tryz.lays150:Go.Proofs.Lays.n150 Tryz.prog Tryz.lays150_ren:= {
  mixed:=by kernel_rfl
  f119:=Tryz.func92.trans (congrArg some (by kernel_rfl))
  f137:=Tryz.func77.trans (congrArg some (by kernel_rfl))
  f150:=Tryz.func34.trans (congrArg some (by kernel_rfl))
  f152:=Tryz.func78.trans (congrArg some (by kernel_rfl))
  f153:=Tryz.func61.trans (congrArg some (by kernel_rfl))
  f217:=Tryz.func91.trans (congrArg some (by kernel_rfl))
  f224:=Tryz.func93.trans (congrArg some (by kernel_rfl))
  f225:=Tryz.func94.trans (congrArg some (by kernel_rfl))
  f226:=Tryz.func79.trans (congrArg some (by kernel_rfl))
  f227:=Tryz.func80.trans (congrArg some (by kernel_rfl))
  f228:=Tryz.func81.trans (congrArg some (by kernel_rfl))
  f266:=Tryz.func110.trans (congrArg some (by kernel_rfl))
  t0:=Tryz.underlying0
  a0:=Tryz.isAgg0
  z0:=Tryz.sizeOf0
  v0:=Tryz.zeroValue0
  t3:=Tryz.underlying3
  a3:=Tryz.isAgg3
  z3:=Tryz.sizeOf3
  v3:=Tryz.zeroValue3
  t4:=Tryz.underlying4
  a4:=Tryz.isAgg4
  z4:=Tryz.sizeOf4
  v4:=Tryz.zeroValue4
  t5:=Tryz.underlying5
  a5:=Tryz.isAgg5
  z5:=Tryz.sizeOf5
  v5:=Tryz.zeroValue5
  t9:=Tryz.underlying9
  a9:=Tryz.isAgg9
  z9:=Tryz.sizeOf9
  v9:=Tryz.zeroValue9
  t21:=Tryz.underlying21
  a21:=Tryz.isAgg21
  z21:=Tryz.sizeOf21
  v21:=Tryz.zeroValue21
  t46:=Tryz.underlying80
  a46:=Tryz.isAgg80
  z46:=Tryz.sizeOf80
  v46:=Tryz.zeroValue80
  t116:=Tryz.underlying108
  a116:=Tryz.isAgg108
  z116:=Tryz.sizeOf108
  t117:=Tryz.underlying109
  a117:=Tryz.isAgg109
  z117:=Tryz.sizeOf109
  v117:=Tryz.zeroValue109
  t124:=Tryz.underlying121
  a124:=Tryz.isAgg121
  z124:=Tryz.sizeOf121
  v124:=Tryz.zeroValue121}
open Go.RowKit in
theorem Tryz.strings_IndexByte (s:ByteArray) (c:Int) (w:World):
    Calls Tryz.prog 77 #[.string s,.int .u8 c] w fun e w'=>e=.returned (.int .i64 (Lib.indexByte s.data.toList c.toNat.toUInt8))∧w'=w:=Any.strings_IndexByte Tryz.lays137 s c w
open Go.RowKit Go.Sort Go.Lib in
theorem Tryz.strconv_Itoa (n:Int) (h0: -9223372036854775808≤n) (h1:n≤9223372036854775807) (w:World) (htab:Lib.TabIs Tryz.prog w "internal/strconv.uint64pow10" .u64 Lib.pow10Tab):
    Calls Tryz.prog 39 #[.int .i64 n] w fun e w'=>e=.returned (.string ⟨(Lib.itoa n).toArray⟩)∧∃ k os,w'=grow (w.drewN k) os:=Any.strconv_Itoa Tryz.laysM171 n h0 h1 w htab
open Go.RowKit Go.Lib in
theorem Tryz.stringslite_Index_one (s:ByteArray) (c:UInt8) (w:World):
    Calls Tryz.prog 122 #[.string s,.string ⟨#[c]⟩] w fun e w'=>e=.returned (.int .i64 (Lib.indexByte s.data.toList c))∧w'=w:=Any.stringslite_Index_one Tryz.lays219 s c w
open Go.RowKit Go.Lib in
theorem Tryz.strings_Contains_one (s:ByteArray) (c:UInt8) (w:World):
    Calls Tryz.prog 87 #[.string s,.string ⟨#[c]⟩] w fun e w'=>e=.returned (.bool (decide (0≤Lib.indexByte s.data.toList c)))∧w'=w:=Any.strings_Contains_one Tryz.lays144 s c w
open Go.RowKit Go.Lib in
theorem Tryz.strings_HasPrefix (s p:ByteArray) (w:World):
    Calls Tryz.prog 33 #[.string s,.string p] w fun e w'=>e=.returned (.bool (Lib.hasPrefix s.data.toList p.data.toList))∧w'=w:=Any.strings_HasPrefix Tryz.lays99 s p w
open Go.RowKit Go.Lib in
theorem Tryz.strings_Split (s sep:ByteArray) (m:Int) (w:World) (hs:s.size<4294967281) (hm:w.cell? ⟨0,0,none⟩=some (.int .i64 m)) (h1:1≤sep.size):
    Calls Tryz.prog 86 #[.string s,.string sep] w fun e w'=>
      e=.returned (.slice (some ⟨w.heap.size,0,none⟩) (Lib.countB s sep+1) (Lib.countB s sep+1))∧w'=w.alloc (.cells ((Lib.splitB sep 0 (Lib.countB s sep) s).map Value.string).toArray 9):=Any.strings_Split Tryz.lays146 (by kernel_rfl) s sep m w hs hm h1
open Go.RowKit Go.Lib in
theorem Tryz.strings_Trim_laid (s cutset:ByteArray) (w:World) (hs:s.size≤9223372036854775807) (hcs:cutset.size<4294967281) (hascii: ∀ (j:Nat) b,cutset.data.toList[j]? =some b→b.toNat<128):
    Calls Tryz.prog 83 #[.string s,.string cutset] w fun e w'=>e=.returned (.string ⟨(Lib.trimS s.data.toList cutset.data.toList).toArray⟩)∧Go.RowKit.Below w.heap.size w w':=Any.strings_Trim_laid Tryz.lays160 (by kernel_rfl) s cutset w hs hcs hascii
end Go.Proofs
namespace Go.Ab
open Go Go.Sep
variable [Facts]
theorem zcd {w w':World} (h:RowKit.Below w.heap.size w w'):Keeps (fun k=>k<w.heap.size) w w':=⟨h.1,h.2,h.3,h.4,h.5⟩
theorem Spc.of_below {Pr:Program} {f:Nat} {args:List D} {hp:List HO} {d:D} (hf: ∃ fn,Pr.funcs[f]? =some fn∧(fn.name == "runtime.NumGoroutine")=false∧fn.body.isNone=false)
    (h: ∀ (S:Frz) (bs:List Value) (w:World) (vs:List Value),Facts.p w→MDs S bs args vs→∃ v,MD S bs d v∧Calls Pr f vs.toArray w fun e w'=>e=.returned v∧RowKit.Below w.heap.size w w'):Spc Pr f args hp (.ret d) hp:=by
  refine⟨hf,fun S K fr w vs hH hM hA=> ?_⟩
  obtain⟨v,hv,hc⟩:=h S _ w vs (At.frz hA).facts hM
  refine hc.mono fun e w' he=> ?_
  obtain⟨he,hb⟩:=he
  subst he
  exact⟨S,K,Frz.le.refl S,Ext.refl _,hH,hA.keep (zcd hb),hv⟩
end Go.Ab
namespace Go.Proofs.YtmibhbdfigpkmaaGreatDoor
open Go Go.Sep Go.Ab
set_option maxRecDepth 100000
theorem zcq (s cs:Str):(Lib.trimS s cs).length≤s.length:=by
  unfold Lib.trimS Lib.trimLeftS Lib.trimRightS
  refine Nat.le_trans (List.dropWhile_sublist _).length_le ?_
  rw [List.length_reverse]
  exact Nat.le_trans (List.dropWhile_sublist _).length_le (by rw [List.length_reverse];exact Nat.le_refl _)
theorem yN: ∀ (s:Str) (c:UInt8),-1≤Lib.indexByte s c∧Lib.indexByte s c<s.length
  |[],c=>by simp [Lib.indexByte]
  | b ::l,c=>by
    have:=yN l c
    unfold Lib.indexByte
    rw [List.length_cons]
    split
    · omega
    · split
      · omega
      · omega
theorem zlh (s:Str):Spc Tryz.prog 83 [.v (.one (.p (.str s))),.v (.one (.p (.str ([32,9]))))] [] (.ret (.v (.one (.p (.str (Lib.trimS s [32,9])))))) []:=by
  refine Spc.of_below ⟨_,Tryz.func83,by kernel_rfl,by kernel_rfl⟩ fun S bs w vs _ hM=> ?_
  obtain⟨v,r,rfl⟩: ∃ v r,vs=v::r:=by cases vs with|nil=>exact hM.elim|cons v r=>exact⟨v,r,rfl⟩
  obtain⟨h1,hM⟩:=hM
  obtain⟨v2,r2,rfl⟩: ∃ v r2,r=v::r2:=by cases r with|nil=>exact hM.elim|cons v r=>exact⟨v,r,rfl⟩
  obtain⟨h2,hM⟩:=hM
  obtain rfl:r2=[]:=by cases r2 with|nil=>rfl|cons v r=>exact hM.elim
  cases h1 with
  | str _ hl1=>
    cases h2 with
    | str _ hl2=>
      refine⟨.string (Sep.S (Lib.trimS s [32,9])),.str _ (Nat.le_trans (zcq _ _) hl1),?_⟩
      exact Tryz.strings_Trim_laid (Sep.S s) (Sep.S [32,9]) w (by have:=hl1;unfold maxLen at this;exact this) (by decide) (fun j b hb=>by
        have:=List.mem_of_getElem? hb
        rcases(by simpa [Sep.S] using this:b=32∨b=9) with rfl|rfl<;>decide)
def SE (I:Alg) (args:List D) (hp:List HO):Option CT:=match args,hp with
  |[.v (.one (.p (.str s))),.v (.one (.p (.str ([32,9]))))],[]=>(fun(s:Str)=>(some (.one ⟨I.hid (True),(.ret (.v (.one (.p (.str (I.hid (Lib.trimS s [32,9]))))))),[]⟩):Option CT)) s
  |_,_=>none
theorem ze4:zD Tryz.prog 83 (SE alg):=by
  intro args hp r h
  unfold SE at h
  split at h
  · cases h;exact fun hn=>zlh _
  · cases h
def zjg:Know Tryz.prog:=⟨83,SE,ze4⟩
def zjf:Know Tryz.prog:=⟨83,fun I=>zH I (SE I),zf ze4⟩
theorem zeG (s:Str) (k:Int):Spc Tryz.prog 77 [.v (.one (.p (.str s))),.v (.one (.p (.int .u8 k)))] [] (.ret (.v (.one (.p (.int .i64 (Lib.indexByte s k.toNat.toUInt8)))))) []:=by
  refine Spc.of_below ⟨_,Tryz.func77,by kernel_rfl,by kernel_rfl⟩ fun S bs w vs _ hM=> ?_
  obtain⟨v,r,rfl⟩: ∃ v r,vs=v::r:=by cases vs with|nil=>exact hM.elim|cons v r=>exact⟨v,r,rfl⟩
  obtain⟨h1,hM⟩:=hM
  obtain⟨v2,r2,rfl⟩: ∃ v r2,r=v::r2:=by cases r with|nil=>exact hM.elim|cons v r=>exact⟨v,r,rfl⟩
  obtain⟨h2,hM⟩:=hM
  obtain rfl:r2=[]:=by cases r2 with|nil=>rfl|cons v r=>exact hM.elim
  cases h1 with
  | str _ hl1=>
    cases h2 with
    | int _ _=>
      refine⟨.int .i64 (Lib.indexByte s k.toNat.toUInt8),.int _ _,?_⟩
      refine(Tryz.strings_IndexByte (Sep.S s) k w).mono fun e w' h=> ?_
      obtain⟨he,rfl⟩:=h
      exact⟨he,RowKit.Below.refl _ _⟩
def um (I:Alg) (args:List D) (hp:List HO):Option CT:=match args,hp with
  |[.v (.one (.p (.str s))),.v (.one (.p (.int .u8 k)))],[]=>(fun(s:Str) (k:Int)=>(some (.one ⟨I.hid (True),(.ret (.v (.one (.p (.int .i64 (I.hid (Lib.indexByte s k.toNat.toUInt8))))))),[]⟩):Option CT)) s k
  |_,_=>none
theorem XI:zD Tryz.prog 77 (um alg):=by
  intro args hp r h
  unfold um at h
  split at h
  · cases h;exact fun hn=>zeG _ _
  · cases h
def zaT:Know Tryz.prog:=⟨77,um,XI⟩
def zaS:Know Tryz.prog:=⟨77,fun I=>zH I (um I),zf XI⟩
theorem zjR (s:Str) (c:UInt8):Spc Tryz.prog 122 [.v (.one (.p (.str s))),.v (.one (.p (.str ([c]))))] [] (.ret (.v (.one (.p (.int .i64 (Lib.indexByte s c)))))) []:=by
  refine Spc.of_below ⟨_,Tryz.func122,by kernel_rfl,by kernel_rfl⟩ fun S bs w vs _ hM=> ?_
  obtain⟨v,r,rfl⟩: ∃ v r,vs=v::r:=by cases vs with|nil=>exact hM.elim|cons v r=>exact⟨v,r,rfl⟩
  obtain⟨h1,hM⟩:=hM
  obtain⟨v2,r2,rfl⟩: ∃ v r2,r=v::r2:=by cases r with|nil=>exact hM.elim|cons v r=>exact⟨v,r,rfl⟩
  obtain⟨h2,hM⟩:=hM
  obtain rfl:r2=[]:=by cases r2 with|nil=>rfl|cons v r=>exact hM.elim
  cases h1 with
  | str _ hl1=>
    cases h2 with
    | str _ _=>
      refine⟨.int .i64 (Lib.indexByte s c),.int _ _,?_⟩
      refine(Tryz.stringslite_Index_one (Sep.S s) c w).mono fun e w' h=> ?_
      obtain⟨he,rfl⟩:=h
      exact⟨he,RowKit.Below.refl _ _⟩
def YD (I:Alg) (args:List D) (hp:List HO):Option CT:=match args,hp with
  |[.v (.one (.p (.str s))),.v (.one (.p (.str ([c]))))],[]=>(fun(s:Str) (c:UInt8)=>(some (.one ⟨I.hid (True),(.ret (.v (.one (.p (.int .i64 (I.hid (Lib.indexByte s c))))))),[]⟩):Option CT)) s c
  |_,_=>none
theorem zaU:zD Tryz.prog 122 (YD alg):=by
  intro args hp r h
  unfold YD at h
  split at h
  · cases h;exact fun hn=>zjR _ _
  · cases h
def zgG:Know Tryz.prog:=⟨122,YD,zaU⟩
def zgF:Know Tryz.prog:=⟨122,fun I=>zH I (YD I),zf zaU⟩
end Go.Proofs.YtmibhbdfigpkmaaGreatDoor
namespace Go.Proofs.YtmibhbdfigpkmaaGreatDoor
open Go Go.Sep Go.Ab
set_option maxRecDepth 100000
def lowK (k:Int):Int:=if 65≤k∧k≤90 then k+32 else k
def Zz (k:Int):Bool:=decide (48≤k∧k≤57)
def uM (k:Int):Bool:=decide (97≤lowK k∧lowK k≤122)
def marks:Str:=[33,35,36,37,38,39,42,43,45,46,94,95,96,124,126]
def tokB (k:Int):Bool:=Zz k||(uM k||decide (0≤Lib.indexByte marks k.toNat.toUInt8))
def ZX (k:Int):Bool:=decide (k=9∨32≤k∧k≠127)
def hexK (k:Int):Int:=if Zz k then k - 48 else if uM k&&decide (lowK k≤102) then lowK k - 97+10 else -1
theorem wrap64 (n:Int) (h: -9223372036854775808≤n∧n≤9223372036854775807):IntKind.i64.wrap n=n:=by
  unfold IntKind.wrap
  simp only [show IntKind.i64.signed=true by decide,show IntKind.i64.bits=64 by decide]
  split<;>simp_all<;>omega
theorem zgp {k:Int} (h:0≤k∧k≤255):0≤lowK k∧lowK k≤255:=by unfold lowK;split<;>omega
theorem zk4 (k:Int):Spc Tryz.prog 75 [.v (.one (.p (.int .u8 k)))] [] (.ret (.v (.one (.p (.bool (Zz k)))))) []:=by
  refine spcG zi mixed Tryz.func75 (by kernel_rfl) { keep:=some [0,2]} [] (by kernel_rfl) ?_
  intro I X hI hX
  refine zh (.br (I.ile 48 k) (.fin (.ret (.v (.one (.p (.bool (I.ile k 57)))))) []) (.fin (.ret (.v (.one (.p (.bool Bool.false))))) [])) (by kernel_rfl) ?_
  simp only [zy]
  subst hI
  simp only [nrmA,nrmB]
  unfold Zz
  exact⟨fun h=>decide_eq_decide.2 (by omega),fun h=>(decide_eq_false (by omega)).symm⟩
def WS (I:Alg) (args:List D) (hp:List HO):Option CT:=match args,hp with
  |[.v (.one (.p (.int .u8 k)))],[]=>(fun(k:Int)=>(some (.one ⟨I.hid (True),(.ret (.v (.one (.p (.bool (I.hid (Zz k))))))),[]⟩):Option CT)) k
  |_,_=>none
theorem zdU:zD Tryz.prog 75 (WS alg):=by
  intro args hp r h
  unfold WS at h
  split at h
  · cases h;exact fun hn=>zk4 _
  · cases h
def zdT:Know Tryz.prog:=⟨75,WS,zdU⟩
def zdS:Know Tryz.prog:=⟨75,fun I=>zH I (WS I),zf zdU⟩
theorem zkJ (k:Int) (hneed:0≤k∧k≤255):Spc Tryz.prog 82 [.v (.one (.p (.int .u8 k)))] [] (.ret (.v (.one (.p (.int .u8 (lowK k)))))) []:=by
  refine spcG zi mixed Tryz.func82 (by kernel_rfl) { keep:=some [0,2]} [] (by kernel_rfl) ?_
  intro I X hI hX
  refine zh (.br (I.ile 65 k) (.br (I.ile k 90) (.need (I.inr Go.IntKind.u8 (I.add k 32)) (.fin (.ret (.v (.one (.p (.int .u8 (I.add k 32)))))) [])) (.fin (.ret (.v (.one (.p (.int .u8 k))))) [])) (.fin (.ret (.v (.one (.p (.int .u8 k))))) [])) (by kernel_rfl) ?_
  simp only [zy]
  subst hI
  simp only [nrmA,nrmB]
  unfold lowK
  (repeat' (first|refine And.intro ?_ ?_|intro _))<;>first|omega|exact True.intro|exact False.elim ‹False›|skip
def WH (I:Alg) (args:List D) (hp:List HO):Option CT:=match args,hp with
  |[.v (.one (.p (.int .u8 k)))],[]=>(fun(k:Int)=>(some (.one ⟨I.hid (0≤k∧k≤255),(.ret (.v (.one (.p (.int .u8 (I.hid (lowK k))))))),[]⟩):Option CT)) k
  |_,_=>none
theorem zdh:zD Tryz.prog 82 (WH alg):=by
  intro args hp r h
  unfold WH at h
  split at h
  · cases h;exact fun hn=>zkJ _ hn
  · cases h
def WG:Know Tryz.prog:=⟨82,WH,zdh⟩
def WE:Know Tryz.prog:=⟨82,fun I=>zH I (WH I),zf zdh⟩
theorem zjO (k:Int) (hneed:0≤k∧k≤255):Spc Tryz.prog 76 [.v (.one (.p (.int .u8 k)))] [] (.ret (.v (.one (.p (.bool (uM k)))))) []:=by
  refine spcG zi mixed Tryz.func76 (by kernel_rfl) { keep:=some [0,2]} [WG,WE] (by kernel_rfl) ?_
  intro I X hI hX
  refine zh (let y0:=I.hid (α:=(Prop)) (And (LE.le (0:Int) k) (LE.le k (255:Int)));.need y0 (.br (I.ile 97 (I.hid (α:=Int) (lowK k))) (.need y0 (.fin (.ret (.v (.one (.p (.bool (I.ile (I.hid (α:=Int) (lowK k)) 122)))))) [])) (.fin (.ret (.v (.one (.p (.bool Bool.false))))) []))) (by kernel_rfl) ?_
  simp only [zy]
  subst hI
  simp only [nrmA,nrmB]
  unfold uM
  (repeat' (first|refine And.intro ?_ ?_|intro _))<;>first|omega|exact True.intro|exact False.elim ‹False›|skip
  all_goals first|exact decide_eq_decide.2 (by omega)|exact(decide_eq_false (by omega)).symm|exact(decide_eq_true (by omega)).symm|(rw [show(k == 127)=decide (k=127) from rfl,← decide_not];exact decide_eq_decide.2 (by omega))
def Yz (I:Alg) (args:List D) (hp:List HO):Option CT:=match args,hp with
  |[.v (.one (.p (.int .u8 k)))],[]=>(fun(k:Int)=>(some (.one ⟨I.hid (0≤k∧k≤255),(.ret (.v (.one (.p (.bool (I.hid (uM k))))))),[]⟩):Option CT)) k
  |_,_=>none
theorem zaG:zD Tryz.prog 76 (Yz alg):=by
  intro args hp r h
  unfold Yz at h
  split at h
  · cases h;exact fun hn=>zjO _ hn
  · cases h
def zaF:Know Tryz.prog:=⟨76,Yz,zaG⟩
def zaE:Know Tryz.prog:=⟨76,fun I=>zH I (Yz I),zf zaG⟩
theorem zkl (k:Int) (hneed:0≤k∧k≤255):Spc Tryz.prog 59 [.v (.one (.p (.int .u8 k)))] [] (.ret (.v (.one (.p (.bool (tokB k)))))) []:=by
  refine spcG zi mixed Tryz.func59 (by kernel_rfl) { keep:=some [0,2]} [zaT,zaS,zdT,zdS,zaF,zaE] (by kernel_rfl) ?_
  intro I X hI hX
  refine zh (.need (I.hid (α:=(Prop)) True) (.br (I.hid (α:=Bool) (Zz k)) (.fin (.ret (.v (.one (.p (.bool Bool.true))))) []) (.need (I.hid (α:=(Prop)) (And (LE.le (0:Int) k) (LE.le k (255:Int)))) (.br (I.hid (α:=Bool) (uM k)) (.fin (.ret (.v (.one (.p (.bool Bool.true))))) []) (.need (I.hid (α:=(Prop)) True) (.fin (.ret (.v (.one (.p (.bool (I.ile 0 (I.hid (α:=Int) (Go.Lib.indexByte ([33,35,36,37,38,39,42,43,45,46,94,95,96,124,126]:Str) (Nat.toUInt8 (Int.toNat k)))))))))) [])))))) (by kernel_rfl) ?_
  simp only [zy]
  subst hI
  simp only [nrmA,nrmB]
  unfold tokB marks
  (repeat' (first|refine And.intro ?_ ?_|intro _))<;>first|omega|exact True.intro|exact False.elim ‹False›|skip
  all_goals simp [*]
def X8 (I:Alg) (args:List D) (hp:List HO):Option CT:=match args,hp with
  |[.v (.one (.p (.int .u8 k)))],[]=>(fun(k:Int)=>(some (.one ⟨I.hid (0≤k∧k≤255),(.ret (.v (.one (.p (.bool (I.hid (tokB k))))))),[]⟩):Option CT)) k
  |_,_=>none
theorem zcv:zD Tryz.prog 59 (X8 alg):=by
  intro args hp r h
  unfold X8 at h
  split at h
  · cases h;exact fun hn=>zkl _ hn
  · cases h
def SH:Know Tryz.prog:=⟨59,X8,zcv⟩
def zhI:Know Tryz.prog:=⟨59,fun I=>zH I (X8 I),zf zcv⟩
theorem zhF (k:Int):Spc Tryz.prog 62 [.v (.one (.p (.int .u8 k)))] [] (.ret (.v (.one (.p (.bool (ZX k)))))) []:=by
  refine spcG zi mixed Tryz.func62 (by kernel_rfl) { keep:=some [0,2]} [] (by kernel_rfl) ?_
  intro I X hI hX
  refine zh (.br (I.ieq k 9) (.fin (.ret (.v (.one (.p (.bool Bool.true))))) []) (.br (I.ile 32 k) (.fin (.ret (.v (.one (.p (.bool (I.bnot (I.ieq k 127))))))) []) (.fin (.ret (.v (.one (.p (.bool Bool.false))))) []))) (by kernel_rfl) ?_
  simp only [zy]
  subst hI
  simp only [nrmA,nrmB]
  unfold ZX
  (repeat' (first|refine And.intro ?_ ?_|intro _))<;>first|omega|exact True.intro|exact False.elim ‹False›|skip
  all_goals first|exact decide_eq_decide.2 (by omega)|exact(decide_eq_false (by omega)).symm|exact(decide_eq_true (by omega)).symm|(rw [show(k == 127)=decide (k=127) from rfl,← decide_not];exact decide_eq_decide.2 (by omega))
def qF (I:Alg) (args:List D) (hp:List HO):Option CT:=match args,hp with
  |[.v (.one (.p (.int .u8 k)))],[]=>(fun(k:Int)=>(some (.one ⟨I.hid (True),(.ret (.v (.one (.p (.bool (I.hid (ZX k))))))),[]⟩):Option CT)) k
  |_,_=>none
theorem UN:zD Tryz.prog 62 (qF alg):=by
  intro args hp r h
  unfold qF at h
  split at h
  · cases h;exact fun hn=>zhF _
  · cases h
def qE:Know Tryz.prog:=⟨62,qF,UN⟩
def UM:Know Tryz.prog:=⟨62,fun I=>zH I (qF I),zf UN⟩
theorem zjP (k:Int):Spc Tryz.prog 51 [.v (.one (.p (.int .u8 k)))] [] (.ret (.v (.one (.p (.bool (ZX k)))))) []:=by
  refine spcG zi mixed Tryz.func51 (by kernel_rfl) { keep:=some [0,2]} [] (by kernel_rfl) ?_
  intro I X hI hX
  refine zh (.br (I.ieq k 9) (.fin (.ret (.v (.one (.p (.bool Bool.true))))) []) (.br (I.ilt 31 k) (.fin (.ret (.v (.one (.p (.bool (I.bnot (I.ieq k 127))))))) []) (.fin (.ret (.v (.one (.p (.bool Bool.false))))) []))) (by kernel_rfl) ?_
  simp only [zy]
  subst hI
  simp only [nrmA,nrmB]
  unfold ZX
  (repeat' (first|refine And.intro ?_ ?_|intro _))<;>first|omega|exact True.intro|exact False.elim ‹False›|skip
  all_goals first|exact decide_eq_decide.2 (by omega)|exact(decide_eq_false (by omega)).symm|exact(decide_eq_true (by omega)).symm|(rw [show(k == 127)=decide (k=127) from rfl,← decide_not];exact decide_eq_decide.2 (by omega))
def YC (I:Alg) (args:List D) (hp:List HO):Option CT:=match args,hp with
  |[.v (.one (.p (.int .u8 k)))],[]=>(fun(k:Int)=>(some (.one ⟨I.hid (True),(.ret (.v (.one (.p (.bool (I.hid (ZX k))))))),[]⟩):Option CT)) k
  |_,_=>none
theorem zaL:zD Tryz.prog 51 (YC alg):=by
  intro args hp r h
  unfold YC at h
  split at h
  · cases h;exact fun hn=>zjP _
  · cases h
def YB:Know Tryz.prog:=⟨51,YC,zaL⟩
def YA:Know Tryz.prog:=⟨51,fun I=>zH I (YC I),zf zaL⟩
theorem hex_ (k:Int) (hneed:0≤k∧k≤255):Spc Tryz.prog 127 [.v (.one (.p (.int .u8 k)))] [] (.ret (.v (.one (.p (.int .i64 (hexK k)))))) []:=by
  refine spcG zi mixed Tryz.func127 (by kernel_rfl) { keep:=some [0,2]} [zdT,zdS,WG,WE,zaF,zaE] (by kernel_rfl) ?_
  intro I X hI hX
  refine zh (let y0:=I.hid (α:=(Prop)) (And (LE.le (0:Int) k) (LE.le k (255:Int)));let y1:=I.add (I.wrap Go.IntKind.i64 (I.sub (I.hid (α:=Int) (lowK k)) 97)) 10;.need (I.hid (α:=(Prop)) True) (.br (I.hid (α:=Bool) (Zz k)) (.need (I.inr Go.IntKind.u8 (I.sub k 48)) (.fin (.ret (.v (.one (.p (.int .i64 (I.wrap Go.IntKind.i64 (I.sub k 48))))))) [])) (.need y0 (.br (I.hid (α:=Bool) (uM k)) (.need y0 (.br (I.ile (I.hid (α:=Int) (lowK k)) 102) (.need y0 (.need (I.inr Go.IntKind.u8 (I.sub (I.hid (α:=Int) (lowK k)) 97)) (.need (I.inr Go.IntKind.i64 y1) (.fin (.ret (.v (.one (.p (.int .i64 y1))))) [])))) (.fin (.ret (.v (.one (.p (.int .i64 (Neg.neg (1:Int))))))) []))) (.fin (.ret (.v (.one (.p (.int .i64 (Neg.neg (1:Int))))))) []))))) (by kernel_rfl) ?_
  simp only [zy]
  subst hI
  simp only [nrmA,nrmB]
  (repeat' (first|refine And.intro ?_ ?_|intro _))<;>first|omega|exact True.intro|exact False.elim ‹False›|skip
  all_goals first
    |(have:=of_decide_eq_true ‹Zz k=true›;omega)
    |(have:=of_decide_eq_true ‹Zz k=true›;unfold hexK;rw [if_pos ‹Zz k=true›,wrap64 _ (by omega)])
    |(have:=of_decide_eq_true ‹uM k=true›;omega)
    |(have:=of_decide_eq_true ‹uM k=true›;rw [wrap64 _ (by omega)];omega)
    |(have:=of_decide_eq_true ‹uM k=true›;rw [wrap64 _ (by omega)];unfold hexK;simp [*])
    |(unfold hexK;simp [*])
def zdA (I:Alg) (args:List D) (hp:List HO):Option CT:=match args,hp with
  |[.v (.one (.p (.int .u8 k)))],[]=>(fun(k:Int)=>(some (.one ⟨I.hid (0≤k∧k≤255),(.ret (.v (.one (.p (.int .i64 (I.hid (hexK k))))))),[]⟩):Option CT)) k
  |_,_=>none
theorem ziZ:zD Tryz.prog 127 (zdA alg):=by
  intro args hp r h
  unfold zdA at h
  split at h
  · cases h;exact fun hn=>hex_ _ hn
  · cases h
def zdz:Know Tryz.prog:=⟨127,zdA,ziZ⟩
def zdy:Know Tryz.prog:=⟨127,fun I=>zH I (zdA I),zf ziZ⟩
end Go.Proofs.YtmibhbdfigpkmaaGreatDoor
namespace Go.Proofs.YtmibhbdfigpkmaaGreatDoor
open Go Go.Sep Go.Ab
set_option maxRecDepth 100000
def tokA (s:Str):Bool:=s.all fun c=>tokB (c.toNat:Int)
def xR (s:Str):Bool:=s.all fun c=>ZX (c.toNat:Int)
theorem ve (c:UInt8):0≤(c.toNat:Int)∧(c.toNat:Int)≤255:=by have:=c.toNat_lt;omega
theorem W9 {p:UInt8→Bool} {s:Str} {i:Nat} (h:i<s.length):(s.drop i).all p=(p (s.getD i 0)&&(s.drop (i+1)).all p):=by
  rw [List.drop_eq_getElem_cons h,List.all_cons];simp [h]
theorem zkg (s:Str) (hneed:s.length≤1000000):Spc Tryz.prog 58 [.v (.one (.p (.str s))),.v (.one (.fn 59 []))] [] (.ret (.v (.one (.p (.bool (tokA s)))))) []:=by
  generalize hr:tokA s=r
  refine spcG zi mixed Tryz.func58 (by kernel_rfl) { keep:=some [0,1,4,5,7,8]} [SH] (by kernel_rfl) ?_
  intro I X hI hX
  refine zh (.code 0 [1,0,1,0] ⟨[(8,(.v (.one (.p (.int .i64 0))))),(7,(.v (.one (.p (.int .i64 (I.len (α:=UInt8) s)))))),(4,(.v (.one (.p (.val (.bool .false)))))),(0,(.v (.one (.p (.str s))))),(1,(.v (.one (.fn 59 []))))],[],18,none⟩) (by kernel_rfl) ?_
  simp only [zy]
  refine zG hI zi mixed [SH] hX [0,1,7,8] (fun(i:Nat)=>i≤s.length∧tokA (s.drop i)=r) (fun(i:Nat)=>⟨[(0,.v (.one (.p (.str s)))),(1,.v (.one (.fn 59 []))),(7,.v (.one (.p (.int .i64 ((I.len (α:=UInt8) s)))))),(8,.v (.one (.p (.int .i64 i))))],[],18,none⟩) (fun(i:Nat)=>s.length - i) 0 (by kernel_rfl) (by kernel_rfl) ?_ ?_
  · exact⟨Nat.zero_le _,hr⟩
  rintro i ⟨h1,h2⟩ A hA
  refine zh (let y0:=I.b2i (I.get (α:=UInt8) s 0 (Nat.cast i));.br (I.ilt (Nat.cast i) (I.len (α:=UInt8) s)) (.need (I.inb (Nat.cast i) (I.len (α:=UInt8) s)) (.need (I.hid (α:=(Prop)) (And (LE.le (0:Int) y0) (LE.le y0 (255:Int)))) (.br (I.bnot (I.hid (α:=Bool) (tokB y0))) (.fin (.ret (.v (.one (.p (.bool Bool.false))))) []) (.need (I.inr Go.IntKind.i64 (I.add (Nat.cast i) 1)) (.need (A ⟨[(0,(.v (.one (.p (.str s))))),(1,(.v (.one (.fn 59 [])))),(7,(.v (.one (.p (.int .i64 (I.len (α:=UInt8) s)))))),(8,(.v (.one (.p (.int .i64 (I.add (Nat.cast i) 1))))))],[],18,none⟩) .qed))))) (.fin (.ret (.v (.one (.p (.bool Bool.true))))) [])) (by kernel_rfl) ?_
  simp only [zy]
  subst hI
  simp only [nrmA,nrmB]
  have hb:=ve (s.getD i 0)
  have hd:i<s.length→tokA (s.drop i)=(tokB (s.getD i 0).toNat&&tokA (s.drop (i+1))):=fun h=>W9 h
  generalize s.getD i 0=x at *
  (repeat' (first|refine And.intro ?_ ?_|intro _))<;>first|omega|exact True.intro|exact False.elim ‹False›|skip
  all_goals first
    |(rw [← h2,hd (by omega)];simp [*];done)
    |(refine hA (i+1) ⟨by omega,?_⟩ (by omega);rw [← h2,hd (by omega)];simp [*];done)
    |(rw [← h2,List.drop_of_length_le (by omega)];rfl)
def YZ (I:Alg) (args:List D) (hp:List HO):Option CT:=match args,hp with
  |[.v (.one (.p (.str s))),.v (.one (.fn 59 []))],[]=>(fun(s:Str)=>(some (.one ⟨I.hid (s.length≤1000000),(.ret (.v (.one (.p (.bool (I.hid (tokA s))))))),[]⟩):Option CT)) s
  |_,_=>none
theorem zbt:zD Tryz.prog 58 (YZ alg):=by
  intro args hp r h
  unfold YZ at h
  split at h
  · cases h;exact fun hn=>zkg _ hn
  · cases h
def YX:Know Tryz.prog:=⟨58,YZ,zbt⟩
def YW:Know Tryz.prog:=⟨58,fun I=>zH I (YZ I),zf zbt⟩
theorem ziK (s:Str) (hneed:s.length≤1000000):Spc Tryz.prog 58 [.v (.one (.p (.str s))),.v (.one (.fn 62 []))] [] (.ret (.v (.one (.p (.bool (xR s)))))) []:=by
  generalize hr:xR s=r
  refine spcG zi mixed Tryz.func58 (by kernel_rfl) { keep:=some [0,1,4,5,7,8]} [qE,YX,YW] (by kernel_rfl) ?_
  intro I X hI hX
  refine zh (.code 0 [1,0,1,0] ⟨[(8,(.v (.one (.p (.int .i64 0))))),(7,(.v (.one (.p (.int .i64 (I.len (α:=UInt8) s)))))),(4,(.v (.one (.p (.val (.bool .false)))))),(0,(.v (.one (.p (.str s))))),(1,(.v (.one (.fn 62 []))))],[],18,none⟩) (by kernel_rfl) ?_
  simp only [zy]
  refine zG hI zi mixed [qE,YX,YW] hX [0,1,7,8] (fun(i:Nat)=>i≤s.length∧xR (s.drop i)=r) (fun(i:Nat)=>⟨[(0,.v (.one (.p (.str s)))),(1,.v (.one (.fn 62 []))),(7,.v (.one (.p (.int .i64 ((I.len (α:=UInt8) s)))))),(8,.v (.one (.p (.int .i64 i))))],[],18,none⟩) (fun(i:Nat)=>s.length - i) 0 (by kernel_rfl) (by kernel_rfl) ?_ ?_
  · exact⟨Nat.zero_le _,hr⟩
  rintro i ⟨h1,h2⟩ A hA
  refine zh (.br (I.ilt (Nat.cast i) (I.len (α:=UInt8) s)) (.need (I.inb (Nat.cast i) (I.len (α:=UInt8) s)) (.need (I.hid (α:=(Prop)) True) (.br (I.bnot (I.hid (α:=Bool) (ZX (I.b2i (I.get (α:=UInt8) s 0 (Nat.cast i)))))) (.fin (.ret (.v (.one (.p (.bool Bool.false))))) []) (.need (I.inr Go.IntKind.i64 (I.add (Nat.cast i) 1)) (.need (A ⟨[(0,(.v (.one (.p (.str s))))),(1,(.v (.one (.fn 62 [])))),(7,(.v (.one (.p (.int .i64 (I.len (α:=UInt8) s)))))),(8,(.v (.one (.p (.int .i64 (I.add (Nat.cast i) 1))))))],[],18,none⟩) .qed))))) (.fin (.ret (.v (.one (.p (.bool Bool.true))))) [])) (by kernel_rfl) ?_
  simp only [zy]
  subst hI
  simp only [nrmA,nrmB]
  have hb:=ve (s.getD i 0)
  have hd:i<s.length→xR (s.drop i)=(ZX (s.getD i 0).toNat&&xR (s.drop (i+1))):=fun h=>W9 h
  generalize s.getD i 0=x at *
  (repeat' (first|refine And.intro ?_ ?_|intro _))<;>first|omega|exact True.intro|exact False.elim ‹False›|skip
  all_goals first
    |(rw [← h2,hd (by omega)];simp [*];done)
    |(refine hA (i+1) ⟨by omega,?_⟩ (by omega);rw [← h2,hd (by omega)];simp [*];done)
    |(rw [← h2,List.drop_of_length_le (by omega)];rfl)
def Zm (I:Alg) (args:List D) (hp:List HO):Option CT:=match args,hp with
  |[.v (.one (.p (.str s))),.v (.one (.fn 62 []))],[]=>(fun(s:Str)=>(some (.one ⟨I.hid (s.length≤1000000),(.ret (.v (.one (.p (.bool (I.hid (xR s))))))),[]⟩):Option CT)) s
  |_,_=>none
theorem SB:zD Tryz.prog 58 (Zm alg):=by
  intro args hp r h
  unfold Zm at h
  split at h
  · cases h;exact fun hn=>ziK _ hn
  · cases h
def SA:Know Tryz.prog:=⟨58,Zm,SB⟩
def Sz:Know Tryz.prog:=⟨58,fun I=>zH I (Zm I),zf SB⟩
def yF (s:Str):Bool:=decide (s≠[])&&tokA s
theorem zin (s:Str) (hneed:s.length≤1000000):Spc Tryz.prog 32 [.v (.one (.p (.str s)))] [] (.ret (.v (.one (.p (.bool (yF s)))))) []:=by
  refine spcG zi mixed Tryz.func32 (by kernel_rfl) { keep:=some [0,2]} [SH,zhI,YX,YW,SA,Sz] (by kernel_rfl) ?_
  intro I X hI hX
  refine zh (.br (I.bnot (I.seq s ([]:Str))) (.need (I.hid (α:=(Prop)) (LE.le (List.length s) 1000000)) (.fin (.ret (.v (.one (.p (.bool (I.hid (α:=Bool) (tokA s))))))) [])) (.fin (.ret (.v (.one (.p (.bool Bool.false))))) [])) (by kernel_rfl) ?_
  simp only [zy]
  subst hI
  simp only [nrmA,nrmB]
  unfold yF
  (repeat' (first|refine And.intro ?_ ?_|intro _))<;>first|omega|exact True.intro|exact False.elim ‹False›|skip
  all_goals simp [*]
def Zg (I:Alg) (args:List D) (hp:List HO):Option CT:=match args,hp with
  |[.v (.one (.p (.str s)))],[]=>(fun(s:Str)=>(some (.one ⟨I.hid (s.length≤1000000),(.ret (.v (.one (.p (.bool (I.hid (yF s))))))),[]⟩):Option CT)) s
  |_,_=>none
theorem TJ:zD Tryz.prog 32 (Zg alg):=by
  intro args hp r h
  unfold Zg at h
  split at h
  · cases h;exact fun hn=>zin _ hn
  · cases h
def vw:Know Tryz.prog:=⟨32,Zg,TJ⟩
def vk:Know Tryz.prog:=⟨32,fun I=>zH I (Zg I),zf TJ⟩
theorem zeF (s:Str) (hneed:s.length≤1000000):Spc Tryz.prog 35 [.v (.one (.p (.str s)))] [] (.ret (.v (.one (.p (.bool (xR s)))))) []:=by
  refine spcG zi mixed Tryz.func35 (by kernel_rfl) { keep:=some [0,2]} [qE,UM,YX,YW,SA,Sz] (by kernel_rfl) ?_
  intro I X hI hX
  refine zh (.need (I.hid (α:=(Prop)) (LE.le (List.length s) 1000000)) (.fin (.ret (.v (.one (.p (.bool (I.hid (α:=Bool) (xR s))))))) [])) (by kernel_rfl) ?_
  simp only [zy]
  subst hI
  simp only [nrmA,nrmB]
  exact hneed
def uj (I:Alg) (args:List D) (hp:List HO):Option CT:=match args,hp with
  |[.v (.one (.p (.str s)))],[]=>(fun(s:Str)=>(some (.one ⟨I.hid (s.length≤1000000),(.ret (.v (.one (.p (.bool (I.hid (xR s))))))),[]⟩):Option CT)) s
  |_,_=>none
theorem XH:zD Tryz.prog 35 (uj alg):=by
  intro args hp r h
  unfold uj at h
  split at h
  · cases h;exact fun hn=>zeF _ hn
  · cases h
def uh:Know Tryz.prog:=⟨35,uj,XH⟩
def ug:Know Tryz.prog:=⟨35,fun I=>zH I (uj I),zf XH⟩
theorem one_ (k:Int) (s:Str) (hneed:s.length≤1000000∧0≤k∧k≤255):Spc Tryz.prog 73 [.v (.one (.p (.int .u8 k))),.v (.one (.p (.str s)))] [] (.ret (.v (.one (.p (.bool (s.contains (UInt8.ofNat k.toNat))))))) []:=by
  generalize hr:s.contains (UInt8.ofNat k.toNat)=r
  refine spcG zi mixed Tryz.func73 (by kernel_rfl) { keep:=some [0,1,4,5]} [] (by kernel_rfl) ?_
  intro I X hI hX
  refine zh (.code 0 [1,0,1,0] ⟨[(5,(.v (.one (.p (.int .i64 0))))),(4,(.v (.one (.p (.val (.bool .false)))))),(0,(.v (.one (.p (.int .u8 k))))),(1,(.v (.one (.p (.str s)))))],[],17,none⟩) (by kernel_rfl) ?_
  simp only [zy]
  refine zG hI zi mixed [] hX [0,1,5] (fun(i:Nat)=>i≤s.length∧(s.drop i).contains (UInt8.ofNat k.toNat)=r) (fun(i:Nat)=>⟨[(0,.v (.one (.p (.int .u8 k)))),(1,.v (.one (.p (.str s)))),(5,.v (.one (.p (.int .i64 i))))],[],17,none⟩) (fun(i:Nat)=>s.length - i) 0 (by kernel_rfl) (by kernel_rfl) ?_ ?_
  · exact⟨Nat.zero_le _,hr⟩
  rintro i ⟨h1,h2⟩ A hA
  refine zh (.br (I.ilt (Nat.cast i) (I.len (α:=UInt8) s)) (.need (I.inb (Nat.cast i) (I.len (α:=UInt8) s)) (.br (I.ieq (I.b2i (I.get (α:=UInt8) s 0 (Nat.cast i))) k) (.fin (.ret (.v (.one (.p (.bool Bool.true))))) []) (.need (I.inr Go.IntKind.i64 (I.add (Nat.cast i) 1)) (.need (A ⟨[(0,(.v (.one (.p (.int .u8 k))))),(1,(.v (.one (.p (.str s))))),(5,(.v (.one (.p (.int .i64 (I.add (Nat.cast i) 1))))))],[],17,none⟩) .qed)))) (.fin (.ret (.v (.one (.p (.bool Bool.false))))) [])) (by kernel_rfl) ?_
  simp only [zy]
  subst hI
  simp only [nrmA,nrmB]
  have hd:i<s.length→(s.drop i).contains (UInt8.ofNat k.toNat)=((UInt8.ofNat k.toNat == s.getD i 0)||(s.drop (i+1)).contains (UInt8.ofNat k.toNat)):=fun h=>by
    rw [List.drop_eq_getElem_cons h,List.contains_cons];simp [h]
  have hc:((s.getD i 0).toNat:Int)=k↔UInt8.ofNat k.toNat=s.getD i 0:=by
    rw [← UInt8.toNat_inj,UInt8.toNat_ofNat']
    omega
  rw [hc]
  generalize s.getD i 0=x at *
  (repeat' (first|refine And.intro ?_ ?_|intro _))<;>first|omega|exact True.intro|exact False.elim ‹False›|skip
  all_goals first
    |(rw [← h2,hd (by omega)];simp [*];done)
    |(refine hA (i+1) ⟨by omega,?_⟩ (by omega);rw [← h2,hd (by omega)];simp [*];done)
    |(rw [← h2,List.drop_of_length_le (by omega)];rfl)
def zc7 (I:Alg) (args:List D) (hp:List HO):Option CT:=match args,hp with
  |[.v (.one (.p (.int .u8 k))),.v (.one (.p (.str s)))],[]=>(fun(k:Int) (s:Str)=>(some (.one ⟨I.hid (s.length≤1000000∧0≤k∧k≤255),(.ret (.v (.one (.p (.bool (I.hid (s.contains (UInt8.ofNat k.toNat)))))))),[]⟩):Option CT)) k s
  |_,_=>none
theorem ziT:zD Tryz.prog 73 (zc7 alg):=by
  intro args hp r h
  unfold zc7 at h
  split at h
  · cases h;exact fun hn=>one_ _ _ hn
  · cases h
def zf4:Know Tryz.prog:=⟨73,zc7,ziT⟩
def zf3:Know Tryz.prog:=⟨73,fun I=>zH I (zc7 I),zf ziT⟩
def tokR:Str:=[48,49,50,51,52,53,54,55,56,57,65,66,67,68,69,70,71,72,73,74,75,76,77,78,79,80,81,82,83,84,85,86,87,88,89,90,97,98,99,100,101,102,103,104,105,106,107,108,109,110,111,112,113,114,115,116,117,118,119,120,121,122,33,35,36,37,38,39,42,43,45,46,94,95,96,124,126]
theorem ziJ {p:Int→Prop} [∀ k,Decidable (p k)] (h: ∀ n:Fin 256,p (n.1:Int)) {k:Int} (hk:0≤k∧k≤255):p k:=by
  have:=h ⟨k.toNat,by omega⟩
  rwa [show((k.toNat:Nat):Int)=k by omega] at this
theorem zhJ {k:Int} (hk:0≤k∧k≤255):tokR.contains (UInt8.ofNat k.toNat)=tokB k:=
  ziJ (p:=fun k=>tokR.contains (UInt8.ofNat k.toNat)=tokB k) (by decide+kernel) hk
theorem zaK (k:Int) (hneed:0≤k∧k≤255):Spc Tryz.prog 66 [.v (.one (.p (.int .u8 k)))] [] (.ret (.v (.one (.p (.bool (tokB k)))))) []:=by
  rw [← zhJ hneed]
  refine spcG zi mixed Tryz.func66 (by kernel_rfl) { keep:=some [0,2]} [zf4,zf3] (by kernel_rfl) ?_
  intro I X hI hX
  refine zh (let y0:=([99,100,101,102,103,104,105,106,107,108,109,110,111,112,113,114,115,116,117,118,119,120,121,122,33,35,36,37,38,39,42,43,45,46,94,95,96,124,126]:Str);let y1:=([48,49,50,51,52,53,54,55,56,57,65,66,67,68,69,70,71,72,73,74,75,76,77,78,79,80,81,82,83,84,85,86,87,88,89,90,97,98]:Str);.need (I.hid (α:=(Prop)) (And (LE.le (List.length (Array.toList (List.toArray (List.append y1 y0)))) 1000000) (And (LE.le (0:Int) k) (LE.le k (255:Int))))) (.fin (.ret (.v (.one (.p (.bool (I.hid (α:=Bool) (List.contains (Array.toList (List.toArray (List.append y1 y0))) (UInt8.ofNat (Int.toNat k))))))))) [])) (by kernel_rfl) ?_
  simp only [zy]
  subst hI
  simp only [nrmA,nrmB]
  trivial
def wC (I:Alg) (args:List D) (hp:List HO):Option CT:=match args,hp with
  |[.v (.one (.p (.int .u8 k)))],[]=>(fun(k:Int)=>(some (.one ⟨I.hid (0≤k∧k≤255),(.ret (.v (.one (.p (.bool (I.hid (tokB k))))))),[]⟩):Option CT)) k
  |_,_=>none
theorem Zw:zD Tryz.prog 66 (wC alg):=by
  intro args hp r h
  unfold wC at h
  split at h
  · cases h;exact fun hn=>zaK _ hn
  · cases h
def Zv:Know Tryz.prog:=⟨66,wC,Zw⟩
def Zu:Know Tryz.prog:=⟨66,fun I=>zH I (wC I),zf Zw⟩
theorem zeb (s:Str) (hneed:s.length≤1000000):Spc Tryz.prog 40 [.v (.one (.p (.str s)))] [] (.ret (.v (.one (.p (.bool (yF s)))))) []:=by
  generalize hr:tokA s=r
  refine spcG zi mixed Tryz.func40 (by kernel_rfl) { keep:=some [0,2,3]} [Zv,Zu] (by kernel_rfl) ?_
  intro I X hI hX
  refine zh (.code 0 [1,0,1,0] ⟨[(3,(.v (.one (.p (.int .i64 0))))),(2,(.v (.one (.p (.val (.bool .false)))))),(0,(.v (.one (.p (.str s)))))],[],18,none⟩) (by kernel_rfl) ?_
  simp only [zy]
  refine zG hI zi mixed [Zv,Zu] hX [0,3] (fun(i:Nat)=>i≤s.length∧tokA (s.drop i)=r) (fun(i:Nat)=>⟨[(0,.v (.one (.p (.str s)))),(3,.v (.one (.p (.int .i64 i))))],[],18,none⟩) (fun(i:Nat)=>s.length - i) 0 (by kernel_rfl) (by kernel_rfl) ?_ ?_
  · exact⟨Nat.zero_le _,hr⟩
  rintro i ⟨h1,h2⟩ A hA
  refine zh (let y0:=I.b2i (I.get (α:=UInt8) s 0 (Nat.cast i));.br (I.ilt (Nat.cast i) (I.len (α:=UInt8) s)) (.need (I.inb (Nat.cast i) (I.len (α:=UInt8) s)) (.need (I.hid (α:=(Prop)) (And (LE.le (0:Int) y0) (LE.le y0 (255:Int)))) (.br (I.bnot (I.hid (α:=Bool) (tokB y0))) (.fin (.ret (.v (.one (.p (.bool Bool.false))))) []) (.need (I.inr Go.IntKind.i64 (I.add (Nat.cast i) 1)) (.need (A ⟨[(0,(.v (.one (.p (.str s))))),(3,(.v (.one (.p (.int .i64 (I.add (Nat.cast i) 1))))))],[],18,none⟩) .qed))))) (.fin (.ret (.v (.one (.p (.bool (I.ilt 0 (I.len (α:=UInt8) s))))))) [])) (by kernel_rfl) ?_
  simp only [zy]
  subst hI
  simp only [nrmA,nrmB]
  have hb:=ve (s.getD i 0)
  have hd:i<s.length→tokA (s.drop i)=(tokB (s.getD i 0).toNat&&tokA (s.drop (i+1))):=fun h=>W9 h
  generalize s.getD i 0=x at *
  (repeat' (first|refine And.intro ?_ ?_|intro _))<;>first|omega|exact True.intro|exact False.elim ‹False›|skip
  all_goals first
    |(refine hA (i+1) ⟨by omega,?_⟩ (by omega);rw [← h2,hd (by omega)];simp [*];done)
    | (have h3:tokA s=false:=by(rw [hr,← h2,hd (by omega)];simp [*];done)
       simp [yF,h3];done)
    | (have h3:tokA s=true:=by(rw [hr,← h2,List.drop_of_length_le (by omega)];rfl)
       unfold yF
       rw [h3,Bool.and_true]
       exact decide_eq_decide.2 (by cases s<;>simp))
def vU (I:Alg) (args:List D) (hp:List HO):Option CT:=match args,hp with
  |[.v (.one (.p (.str s)))],[]=>(fun(s:Str)=>(some (.one ⟨I.hid (s.length≤1000000),(.ret (.v (.one (.p (.bool (I.hid (yF s))))))),[]⟩):Option CT)) s
  |_,_=>none
theorem Xw:zD Tryz.prog 40 (vU alg):=by
  intro args hp r h
  unfold vU at h
  split at h
  · cases h;exact fun hn=>zeb _ hn
  · cases h
def xP:Know Tryz.prog:=⟨40,vU,Xw⟩
def xO:Know Tryz.prog:=⟨40,fun I=>zH I (vU I),zf Xw⟩
theorem zfl (s:Str) (hneed:s.length≤1000000):Spc Tryz.prog 42 [.v (.one (.p (.str s)))] [] (.ret (.v (.one (.p (.bool (xR s)))))) []:=by
  generalize hr:xR s=r
  refine spcG zi mixed Tryz.func42 (by kernel_rfl) { keep:=some [0,2,3]} [YB,YA] (by kernel_rfl) ?_
  intro I X hI hX
  refine zh (.code 0 [1,0,1,0] ⟨[(3,(.v (.one (.p (.int .i64 0))))),(2,(.v (.one (.p (.val (.bool .false)))))),(0,(.v (.one (.p (.str s)))))],[],15,none⟩) (by kernel_rfl) ?_
  simp only [zy]
  refine zG hI zi mixed [YB,YA] hX [0,3] (fun(i:Nat)=>i≤s.length∧xR (s.drop i)=r) (fun(i:Nat)=>⟨[(0,.v (.one (.p (.str s)))),(3,.v (.one (.p (.int .i64 i))))],[],15,none⟩) (fun(i:Nat)=>s.length - i) 0 (by kernel_rfl) (by kernel_rfl) ?_ ?_
  · exact⟨Nat.zero_le _,hr⟩
  rintro i ⟨h1,h2⟩ A hA
  refine zh (.br (I.ilt (Nat.cast i) (I.len (α:=UInt8) s)) (.need (I.inb (Nat.cast i) (I.len (α:=UInt8) s)) (.need (I.hid (α:=(Prop)) True) (.br (I.bnot (I.hid (α:=Bool) (ZX (I.b2i (I.get (α:=UInt8) s 0 (Nat.cast i)))))) (.fin (.ret (.v (.one (.p (.bool Bool.false))))) []) (.need (I.inr Go.IntKind.i64 (I.add (Nat.cast i) 1)) (.need (A ⟨[(0,(.v (.one (.p (.str s))))),(3,(.v (.one (.p (.int .i64 (I.add (Nat.cast i) 1))))))],[],15,none⟩) .qed))))) (.fin (.ret (.v (.one (.p (.bool Bool.true))))) [])) (by kernel_rfl) ?_
  simp only [zy]
  subst hI
  simp only [nrmA,nrmB]
  have hb:=ve (s.getD i 0)
  have hd:i<s.length→xR (s.drop i)=(ZX (s.getD i 0).toNat&&xR (s.drop (i+1))):=fun h=>W9 h
  generalize s.getD i 0=x at *
  (repeat' (first|refine And.intro ?_ ?_|intro _))<;>first|omega|exact True.intro|exact False.elim ‹False›|skip
  all_goals first
    |(rw [← h2,hd (by omega)];simp [*];done)
    |(refine hA (i+1) ⟨by omega,?_⟩ (by omega);rw [← h2,hd (by omega)];simp [*];done)
    |(rw [← h2,List.drop_of_length_le (by omega)];rfl)
def su (I:Alg) (args:List D) (hp:List HO):Option CT:=match args,hp with
  |[.v (.one (.p (.str s)))],[]=>(fun(s:Str)=>(some (.one ⟨I.hid (s.length≤1000000),(.ret (.v (.one (.p (.bool (I.hid (xR s))))))),[]⟩):Option CT)) s
  |_,_=>none
theorem Vo:zD Tryz.prog 42 (su alg):=by
  intro args hp r h
  unfold su at h
  split at h
  · cases h;exact fun hn=>zfl _ hn
  · cases h
def tZ:Know Tryz.prog:=⟨42,su,Vo⟩
def tY:Know Tryz.prog:=⟨42,fun I=>zH I (su I),zf Vo⟩
end Go.Proofs.YtmibhbdfigpkmaaGreatDoor
namespace Go.Proofs.YtmibhbdfigpkmaaGreatDoor
open Go Go.Sep Go.Ab
set_option maxRecDepth 100000
def lowC (x:UInt8):UInt8:=if 65≤x.toNat∧x.toNat≤90 then x+32 else x
def lowS (s:Str):Str:=s.map lowC
theorem Yu (s:Str):(lowS s).length=s.length:=by simp [lowS]
theorem zez (x:UInt8):((lowC x).toNat:Int)=lowK x.toNat:=by
  unfold lowC lowK
  have:=x.toNat_lt
  split
  · rw [if_pos (by omega),UInt8.toNat_add]
    simp only [show(32:UInt8).toNat=32 from rfl]
    omega
  · rw [if_neg (by omega)]
theorem zjK (x:UInt8):UInt8.ofNat (lowK x.toNat).toNat=lowC x:=by
  rw [← zez,Int.toNat_natCast,UInt8.ofNat_toNat]
def bl (c:UInt8):Bool:=([32,9]:Str).contains c
def trL (s:Str):Str:=s.dropWhile bl
def trR (s:Str):Str:=(s.reverse.dropWhile bl).reverse
theorem zhH (s:Str):Lib.trimS s [32,9]=trL (trR s):=rfl
theorem ZT (c:UInt8) (l:Str):trL (c::l)=if bl c then trL l else c::l:=by unfold trL;rw [List.dropWhile_cons]
theorem zct (c:UInt8) (l:Str):trR (c::l)=if trR l=[]∧bl c=true then [] else c::trR l:=by
  unfold trR
  rw [List.reverse_cons,List.dropWhile_append]
  cases hd:l.reverse.dropWhile bl with
  |nil=>cases hb:bl c<;>simp [hb,List.dropWhile]
  |cons y r=>simp
theorem zcs (c:UInt8) (l:Str):trR (l++[c])=if bl c then trR l else l++[c]:=by
  unfold trR
  rw [List.reverse_append]
  simp only [List.reverse_cons,List.reverse_nil,List.nil_append,List.singleton_append]
  rw [List.dropWhile_cons]
  split
  · rfl
  · simp
theorem ze5: ∀ s:Str,trL (trR s)=trR (trL s)
  |[]=>rfl
  | c ::l=>by
    have ih:=ze5 l
    rw [zct,ZT]
    by_cases hb:bl c=true
    · rw [if_pos hb,← ih]
      by_cases h0:trR l=[]
      · rw [if_pos ⟨h0,hb⟩,h0]
      · rw [if_neg (fun h=>h0 h.1),ZT,if_pos hb]
    · rw [if_neg hb,if_neg (fun h=>hb h.2),ZT,if_neg hb,zct,if_neg (fun h=>hb h.2)]
theorem zbk (c:UInt8):bl c=true↔(c.toNat:Int)=32∨(c.toNat:Int)=9:=by
  unfold bl
  rw [List.contains_iff_mem,List.mem_cons,List.mem_singleton,← UInt8.toNat_inj,← UInt8.toNat_inj]
  simp only [show(32:UInt8).toNat=32 from rfl,show(9:UInt8).toNat=9 from rfl]
  omega
theorem zcu {u:Str} (h:0<u.length→¬ bl (u.getD 0 0)=true):trL u=u:=by
  cases u with
  |nil=>rfl
  |cons c l=>rw [ZT,if_neg (by simpa using h (by simp))]
theorem zkk {u:Str} (h:0<u.length) (hb:bl (u.getD 0 0)=true):trL u=trL (u.drop 1):=by
  cases u with
  |nil=>simp at h
  |cons c l=>rw [ZT,if_pos (by simpa using hb)];rfl
theorem zff {u:Str} (h:0<u.length):u=u.take (u.length - 1)++[u.getD (u.length - 1) 0]:=by
  have hl:u.length - 1<u.length:=by omega
  have:=List.take_append_drop (u.length - 1) u
  rw [List.drop_eq_getElem_cons hl,List.drop_of_length_le (by omega)] at this
  simpa [hl] using this.symm
theorem zcr {u:Str} (h:0<u.length→¬ bl (u.getD (u.length - 1) 0)=true):trR u=u:=by
  rcases Nat.eq_zero_or_pos u.length with h0|h0
  · rw [List.eq_nil_of_length_eq_zero h0];rfl
  · have:=zff h0
    generalize hc:u.getD (u.length - 1) 0=c at *
    rw [this,zcs,if_neg (h h0)]
theorem ziQ {u:Str} (h:0<u.length) (hb:bl (u.getD (u.length - 1) 0)=true):trR u=trR (u.take (u.length - 1)):=by
  have:=zff h
  generalize hc:u.getD (u.length - 1) 0=c at *
  generalize ht:u.take (u.length - 1)=t at *
  rw [this,zcs,if_pos hb]
theorem zld (s:Str):Spc Tryz.prog 64 [.v (.one (.p (.str s)))] [] (.ret (.v (.one (.p (.str (Lib.trimS s [32,9])))))) []:=by
  refine spcG zi mixed Tryz.func64 (by kernel_rfl) { keep:=some [0,2]} [zjg,zjf] (by kernel_rfl) ?_
  intro I X hI hX
  refine zh (.need (I.hid (α:=(Prop)) True) (.fin (.ret (.v (.one (.p (.str (I.hid (α:=Str) (Go.Lib.trimS s ([32,9]:Str)))))))) [])) (by kernel_rfl) ?_
  simp only [zy]
  subst hI
  simp only [nrmA,nrmB]
  try trivial
def WY (I:Alg) (args:List D) (hp:List HO):Option CT:=match args,hp with
  |[.v (.one (.p (.str s)))],[]=>(fun(s:Str)=>(some (.one ⟨I.hid (True),(.ret (.v (.one (.p (.str (I.hid (Lib.trimS s [32,9]))))))),[]⟩):Option CT)) s
  |_,_=>none
theorem zd4:zD Tryz.prog 64 (WY alg):=by
  intro args hp r h
  unfold WY at h
  split at h
  · cases h;exact fun hn=>zld _
  · cases h
def Qv:Know Tryz.prog:=⟨64,WY,zd4⟩
def Qu:Know Tryz.prog:=⟨64,fun I=>zH I (WY I),zf zd4⟩
theorem zhG (s:Str) (hneed:s.length≤1000000):Spc Tryz.prog 52 [.v (.one (.p (.str s)))] [] (.ret (.v (.one (.p (.str (Lib.trimS s [32,9])))))) []:=by
  rw [zhH,ze5]
  generalize hr:trR (trL s)=r
  refine spcG zi mixed Tryz.func52 (by kernel_rfl) { keep:=some [0,2]} [] (by kernel_rfl) ?_
  intro I X hI hX
  refine zh (.code 0 [1,0,0] ⟨[(2,(.v (.one (.p (.str ([]:Str)))))),(0,(.v (.one (.p (.str s)))))],[],43,none⟩) (by kernel_rfl) ?_
  simp only [zy]
  refine zG hI zi mixed [] hX [0] (fun(u:Str)=>trR (trL u)=r∧u.length≤1000000) (fun(u:Str)=>⟨[(0,.v (.one (.p (.str u))))],[],43,none⟩) (fun(u:Str)=>u.length) s (by kernel_rfl) (by kernel_rfl) ?_ ?_
  · exact⟨hr,hneed⟩
  rintro u ⟨h1,h2⟩ A hA
  refine zh (let y0:=I.cutb 1 (I.len (α:=UInt8) u) (I.len (α:=UInt8) u);let y1:=I.cut (α:=UInt8) u 1 (I.len (α:=UInt8) u);let y2:=I.b2i (I.get (α:=UInt8) u 0 0);.br (I.ilt 0 (I.len (α:=UInt8) u)) (.need (I.inb 0 (I.len (α:=UInt8) u)) (.br (I.ieq y2 32) (.need y0 (.need (A ⟨[(0,(.v (.one (.p (.str y1)))))],[],43,none⟩) .qed)) (.need (I.inb 0 (I.len (α:=UInt8) u)) (.br (I.ieq y2 9) (.need y0 (.need (A ⟨[(0,(.v (.one (.p (.str y1)))))],[],43,none⟩) .qed)) (.code 1 [1,1,0,0] ⟨[(0,(.v (.one (.p (.str u)))))],[],43,none⟩))))) (.code 1 [1,1,0,0] ⟨[(0,(.v (.one (.p (.str u)))))],[],43,none⟩)) (by kernel_rfl) ?_
  simp only [zy]
  have hc:I.cut (α:=UInt8) u 1 (I.len (α:=UInt8) u)=u.drop 1:=by
    rw [hI,xg,zU]
    simp only [Int.toNat_natCast,show(1:Int).toNat=1 from rfl]
    exact List.take_of_length_le (by rw [List.length_drop];exact Nat.le_refl _)
  rw [hc]
  have hgo:0<u.length→bl (u.getD 0 0)=true→A ⟨[(0,.v (.one (.p (.str ((u.drop 1))))))],[],43,none⟩:=fun q1 q2=>
    hA _ ⟨by rw [← h1,zkk q1 q2],by rw [List.length_drop];omega⟩ (by rw [List.length_drop];omega)
  refine⟨fun c1=>⟨?_,fun c2=> ?_,fun c2=>⟨?_,fun c3=> ?_,fun c3=> ?_⟩⟩,fun c1=> ?_⟩
  · subst hI
    simp only [nrmA,nrmB] at c1
    simp only [nrmA,nrmB]
    omega
  · subst hI
    simp only [nrmA,nrmB] at c1
    simp only [nrmA,nrmB] at c2
    simp only [nrmA,nrmB]
    exact⟨by omega,hgo (by omega) ((zbk _).2 (.inl c2))⟩
  · subst hI
    simp only [nrmA,nrmB] at c1
    simp only [nrmA,nrmB]
    omega
  · subst hI
    simp only [nrmA,nrmB] at c1
    simp only [nrmA,nrmB] at c3
    simp only [nrmA,nrmB]
    exact⟨by omega,hgo (by omega) ((zbk _).2 (.inr c3))⟩
  · have hst:trL u=u:=zcu fun q h=>by
      subst hI
      simp only [nrmA,nrmB] at c2
      simp only [nrmA,nrmB] at c3
      rcases(zbk _).1 h with h|h
      · exact c2 h
      · exact c3 h
    refine zG hI zi mixed [] hX [0] (fun(v:Str)=>trR v=r∧v.length≤1000000) (fun(v:Str)=>⟨[(0,.v (.one (.p (.str v))))],[],43,none⟩) (fun(v:Str)=>v.length) u (by kernel_rfl) (by kernel_rfl) ?_ ?_
    · exact⟨by rw [← h1,hst],h2⟩
    rintro v ⟨k1,k2⟩ B hB
    refine zh (let y0:=I.inr Go.IntKind.i64 (I.sub (I.len (α:=UInt8) v) 1);let y1:=I.cutb 0 (I.sub (I.len (α:=UInt8) v) 1) (I.len (α:=UInt8) v);let y2:=I.b2i (I.get (α:=UInt8) v 0 (I.sub (I.len (α:=UInt8) v) 1));let y3:=I.inb (I.sub (I.len (α:=UInt8) v) 1) (I.len (α:=UInt8) v);let y4:=I.cut (α:=UInt8) v 0 (I.sub (I.len (α:=UInt8) v) 1);.br (I.ilt 0 (I.len (α:=UInt8) v)) (.need y0 (.need y3 (.br (I.ieq y2 32) (.need y0 (.need y1 (.need (B ⟨[(0,(.v (.one (.p (.str y4)))))],[],43,none⟩) .qed))) (.need y0 (.need y3 (.br (I.ieq y2 9) (.need y0 (.need y1 (.need (B ⟨[(0,(.v (.one (.p (.str y4)))))],[],43,none⟩) .qed))) (.fin (.ret (.v (.one (.p (.str v))))) []))))))) (.fin (.ret (.v (.one (.p (.str v))))) [])) (by kernel_rfl) ?_
    simp only [zy]
    subst hI
    simp only [nrmA,nrmB]
    have hgo:0<v.length→bl (v.getD (v.length - 1) 0)=true→B ⟨[(0,.v (.one (.p (.str ((v.take (v.length - 1)))))))],[],43,none⟩:=fun q1 q2=>
      hB _ ⟨by rw [← k1,ziQ q1 q2],by rw [List.length_take];omega⟩ (by rw [List.length_take];omega)
    have hend:(0<v.length→¬ bl (v.getD (v.length - 1) 0)=true)→v=r:=fun q=>by rw [← k1,zcr q]
    rw [zbk] at hgo hend
    simp only [show((v.length:Int) - 1).toNat=v.length - 1 by omega]
    (repeat' (first|refine And.intro ?_ ?_|intro _))<;>first|omega|exact True.intro|exact False.elim ‹False›|skip
    all_goals first
      |exact hgo (by omega) (.inl ‹_›)
      |exact hgo (by omega) (.inr ‹_›)
      |(refine hend fun _ h=> ?_;rcases h with h|h<;>contradiction)
      |exact hend (fun h=>by omega)
  · have hst:trL u=u:=zcu fun q h=>by
      subst hI
      simp only [nrmA,nrmB] at c1
      omega
    refine zG hI zi mixed [] hX [0] (fun(v:Str)=>trR v=r∧v.length≤1000000) (fun(v:Str)=>⟨[(0,.v (.one (.p (.str v))))],[],43,none⟩) (fun(v:Str)=>v.length) u (by kernel_rfl) (by kernel_rfl) ?_ ?_
    · exact⟨by rw [← h1,hst],h2⟩
    rintro v ⟨k1,k2⟩ B hB
    refine zh (let y0:=I.inr Go.IntKind.i64 (I.sub (I.len (α:=UInt8) v) 1);let y1:=I.cutb 0 (I.sub (I.len (α:=UInt8) v) 1) (I.len (α:=UInt8) v);let y2:=I.b2i (I.get (α:=UInt8) v 0 (I.sub (I.len (α:=UInt8) v) 1));let y3:=I.inb (I.sub (I.len (α:=UInt8) v) 1) (I.len (α:=UInt8) v);let y4:=I.cut (α:=UInt8) v 0 (I.sub (I.len (α:=UInt8) v) 1);.br (I.ilt 0 (I.len (α:=UInt8) v)) (.need y0 (.need y3 (.br (I.ieq y2 32) (.need y0 (.need y1 (.need (B ⟨[(0,(.v (.one (.p (.str y4)))))],[],43,none⟩) .qed))) (.need y0 (.need y3 (.br (I.ieq y2 9) (.need y0 (.need y1 (.need (B ⟨[(0,(.v (.one (.p (.str y4)))))],[],43,none⟩) .qed))) (.fin (.ret (.v (.one (.p (.str v))))) []))))))) (.fin (.ret (.v (.one (.p (.str v))))) [])) (by kernel_rfl) ?_
    simp only [zy]
    subst hI
    simp only [nrmA,nrmB]
    have hgo:0<v.length→bl (v.getD (v.length - 1) 0)=true→B ⟨[(0,.v (.one (.p (.str ((v.take (v.length - 1)))))))],[],43,none⟩:=fun q1 q2=>
      hB _ ⟨by rw [← k1,ziQ q1 q2],by rw [List.length_take];omega⟩ (by rw [List.length_take];omega)
    have hend:(0<v.length→¬ bl (v.getD (v.length - 1) 0)=true)→v=r:=fun q=>by rw [← k1,zcr q]
    rw [zbk] at hgo hend
    simp only [show((v.length:Int) - 1).toNat=v.length - 1 by omega]
    (repeat' (first|refine And.intro ?_ ?_|intro _))<;>first|omega|exact True.intro|exact False.elim ‹False›|skip
    all_goals first
      |exact hgo (by omega) (.inl ‹_›)
      |exact hgo (by omega) (.inr ‹_›)
      |(refine hend fun _ h=> ?_;rcases h with h|h<;>contradiction)
      |exact hend (fun h=>by omega)
def qG (I:Alg) (args:List D) (hp:List HO):Option CT:=match args,hp with
  |[.v (.one (.p (.str s)))],[]=>(fun(s:Str)=>(some (.one ⟨I.hid (s.length≤1000000),(.ret (.v (.one (.p (.str (I.hid (Lib.trimS s [32,9]))))))),[]⟩):Option CT)) s
  |_,_=>none
theorem UO:zD Tryz.prog 52 (qG alg):=by
  intro args hp r h
  unfold qG at h
  split at h
  · cases h;exact fun hn=>zhG _ hn
  · cases h
def uX:Know Tryz.prog:=⟨52,qG,UO⟩
def uV:Know Tryz.prog:=⟨52,fun I=>zH I (qG I),zf UO⟩
theorem zkc (s:Str) (hneed:s.length≤1000000):Spc Tryz.prog 63 [.v (.one (.p (.str s)))] [] (.ret (.v (.one (.p (.str (lowS s)))))) []:=by
  refine spcG zi mixed Tryz.func63 (by kernel_rfl) { keep:=some [0,2,3,4,5,8,9,10]} [WG,WE] (by kernel_rfl) ?_
  intro I X hI hX
  refine zh (.code 0 [1,1,0,1,0] ⟨[(10,(.v (.one (.p (.int .i64 0))))),(9,(.v (.one (.p (.int .i64 (I.len (α:=UInt8) s)))))),(8,(.v (.one (.row 0)))),(3,(.v (.one (.row 0)))),(2,(.v (.one (.p (.str ([]:Str)))))),(0,(.v (.one (.p (.str s)))))],[(.row .byte 5 s)],23,none⟩) (by kernel_rfl) ?_
  simp only [zy]
  refine zG hI zi mixed [WG,WE] hX [0,3,8,9,10] (fun(g:Nat × Str)=>match g with|(i,b)=>i≤s.length∧b=lowS (s.take i)++s.drop i) (fun(g:Nat × Str)=>match g with|(i,b)=>⟨[(0,.v (.one (.p (.str s)))),(3,.v (.one (.row 0))),(8,.v (.one (.row 0))),(9,.v (.one (.p (.int .i64 ((I.len (α:=UInt8) s)))))),(10,.v (.one (.p (.int .i64 i))))],[.row .byte 5 b],23,none⟩) (fun(g:Nat × Str)=>match g with|(i,b)=>s.length - i) (0,s) (by kernel_rfl) (by kernel_rfl) ?_ ?_
  · exact⟨Nat.zero_le _,rfl⟩
  rintro⟨i,b⟩ ⟨h1,h2⟩ A hA
  simp only at hA
  refine zh (let y0:=I.b2i (I.get (α:=UInt8) b 0 (Nat.cast i));let y1:=I.inb (Nat.cast i) (I.len (α:=UInt8) b);.br (I.ilt (Nat.cast i) (I.len (α:=UInt8) s)) (.need y1 (.need y1 (.need (I.hid (α:=(Prop)) (And (LE.le (0:Int) y0) (LE.le y0 (255:Int)))) (.need y1 (.need (I.inr Go.IntKind.u8 (I.hid (α:=Int) (lowK y0))) (.need y1 (.need (I.inr Go.IntKind.i64 (I.add (Nat.cast i) 1)) (.need (A ⟨[(0,(.v (.one (.p (.str s))))),(3,(.v (.one (.row 0)))),(8,(.v (.one (.row 0)))),(9,(.v (.one (.p (.int .i64 (I.len (α:=UInt8) s)))))),(10,(.v (.one (.p (.int .i64 (I.add (Nat.cast i) 1))))))],[(.row .byte 5 (I.set (α:=UInt8) b (Nat.cast i) (I.i2b (I.hid (α:=Int) (lowK y0)))))],23,none⟩) .qed)))))))) (.fin (.ret (.v (.one (.p (.str b))))) [])) (by kernel_rfl) ?_
  simp only [zy]
  subst hI
  simp only [nrmA,nrmB]
  have hlen:b.length=s.length:=by rw [h2,List.length_append,Yu,List.length_take,List.length_drop];omega
  have hx:i<s.length→b.getD i 0=s.getD i 0:=fun h=>by
    rw [h2,List.getD_eq_getElem?_getD,List.getD_eq_getElem?_getD,List.getElem?_append_right (by rw [Yu,List.length_take];omega),Yu,List.length_take,List.getElem?_drop]
    congr 2
    omega
  have hset:i<s.length→b.set i (lowC (s.getD i 0))=lowS (s.take (i+1))++s.drop (i+1):=fun h=>by
    have e:(lowS (s.take i)).length=i:=by rw [Yu,List.length_take];omega
    rw [h2,List.set_append_right _ _ (by omega),e,Nat.sub_self,List.drop_eq_getElem_cons h,List.set_cons_zero,List.take_succ_eq_append_getElem h,show s.getD i 0=s[i] by simp [h]]
    unfold lowS
    rw [List.map_append,List.append_assoc]
    rfl
  have hby:=ve (s.getD i 0)
  have hlk:=zgp hby
  refine⟨fun c=> ?_,fun c=> ?_⟩
  · rw [hx (by omega),zjK,hset (by omega)]
    exact⟨by omega,by omega,by omega,by omega,by omega,by omega,by omega,hA (i+1,_) ⟨by simp only;omega,rfl⟩ (by simp only;omega)⟩
  · rw [h2,List.drop_of_length_le (by omega),List.take_of_length_le (by omega),List.append_nil]
def YR (I:Alg) (args:List D) (hp:List HO):Option CT:=match args,hp with
  |[.v (.one (.p (.str s)))],[]=>(fun(s:Str)=>(some (.one ⟨I.hid (s.length≤1000000),(.ret (.v (.one (.p (.str (I.hid (lowS s))))))),[]⟩):Option CT)) s
  |_,_=>none
theorem zbi:zD Tryz.prog 63 (YR alg):=by
  intro args hp r h
  unfold YR at h
  split at h
  · cases h;exact fun hn=>zkc _ hn
  · cases h
def YQ:Know Tryz.prog:=⟨63,YR,zbi⟩
def YP:Know Tryz.prog:=⟨63,fun I=>zH I (YR I),zf zbi⟩
theorem zko (s:Str) (hneed:s.length≤1000000):Spc Tryz.prog 54 [.v (.one (.p (.str s)))] [] (.ret (.v (.one (.p (.str (lowS s)))))) []:=by
  refine spcG zi mixed Tryz.func54 (by kernel_rfl) { keep:=some [0,2,3,4,5,6]} [] (by kernel_rfl) ?_
  intro I X hI hX
  refine zh (.code 0 [1,1,0,1,0] ⟨[(4,(.v (.one (.p (.int .i64 0))))),(3,(.v (.one (.p (.str ([]:Str)))))),(2,(.v (.one (.p (.str ([]:Str)))))),(0,(.v (.one (.p (.str s)))))],[],36,none⟩) (by kernel_rfl) ?_
  simp only [zy]
  refine zG hI zi mixed [] hX [0,3,4] (fun(g:Nat × Str)=>match g with|(i,out)=>i≤s.length∧out=lowS (s.take i)) (fun(g:Nat × Str)=>match g with|(i,out)=>⟨[(0,.v (.one (.p (.str s)))),(3,.v (.one (.p (.str out)))),(4,.v (.one (.p (.int .i64 i))))],[],36,none⟩) (fun(g:Nat × Str)=>match g with|(i,out)=>s.length - i) (0,[]) (by kernel_rfl) (by kernel_rfl) ?_ ?_
  · exact⟨Nat.zero_le _,rfl⟩
  rintro⟨i,out⟩ ⟨h1,h2⟩ A hA
  simp only at hA
  refine zh (.br (I.ilt (Nat.cast i) (I.len (α:=UInt8) s)) (.need (I.inr Go.IntKind.i64 (I.add (Nat.cast i) 1)) (.need (I.cutb (Int.ofNat i) (I.add (Nat.cast i) 1) (I.len (α:=UInt8) s)) (.code 0 [1,0,0,1,0,1,0] ⟨[(6,(.v (.one (.p (.int .i64 0))))),(5,(.v (.one (.p (.str (I.cut (α:=UInt8) s (Int.ofNat i) (I.add (Nat.cast i) 1))))))),(0,(.v (.one (.p (.str s))))),(3,(.v (.one (.p (.str out))))),(4,(.v (.one (.p (.int .i64 (Nat.cast i))))))],[],36,none⟩))) (.fin (.ret (.v (.one (.p (.str out))))) [])) (by kernel_rfl) ?_
  simp only [zy]
  refine⟨fun c1=>⟨?_,?_,?_⟩,fun c1=> ?_⟩
  · subst hI
    simp only [nrmA,nrmB] at c1
    simp only [nrmA,nrmB]
    omega
  · subst hI
    simp only [nrmA,nrmB] at c1
    simp only [nrmA,nrmB]
    omega
  · have hi:i<s.length:=by
      subst hI
      simp only [nrmA,nrmB] at c1
      omega
    generalize hc0:I.cut (α:=UInt8) s (Int.ofNat i) (I.add (↑i) 1)=c0
    have hc1:c0=[s.getD i 0]:=by
      rw [← hc0,hI,xg,xK]
      simp only [Int.ofNat_eq_natCast,Int.toNat_natCast,show((i:Int)+1).toNat=i+1 by omega]
      rw [List.drop_eq_getElem_cons hi,Nat.add_sub_cancel_left,List.take_succ_cons,List.take_zero]
      simp [hi]
    generalize hx:s.getD i 0=x at *
    have hxb:=x.toNat_lt
    have hcap: ∀ k:Nat,k<26→((([65,66,67,68,69,70,71,72,73,74,75,76,77,78,79,80,81,82,83,84,85,86,87,88,89,90]:Str).getD k 0).toNat=65+k∧((([97,98,99,100,101,102,103,104,105,106,107,108,109,110,111,112,113,114,115,116,117,118,119,120,121,122]:Str).drop k).take 1)=[UInt8.ofNat (97+k)]):=by decide+kernel
    refine zG hI zi mixed [] hX [0,3,4,5,6] (fun(g:Nat × Str)=>match g with|(k,c)=>k≤26∧c=[if 65≤x.toNat∧x.toNat<65+k then x+32 else x]) (fun(g:Nat × Str)=>match g with|(k,c)=>⟨[(0,.v (.one (.p (.str s)))),(3,.v (.one (.p (.str out)))),(4,.v (.one (.p (.int .i64 i)))),(5,.v (.one (.p (.str c)))),(6,.v (.one (.p (.int .i64 k))))],[],36,none⟩) (fun(g:Nat × Str)=>match g with|(k,c)=>26 - k) (0,c0) (by kernel_rfl) (by kernel_rfl) ?_ ?_
    · refine⟨Nat.zero_le _,?_⟩
      rw [hc1,if_neg (by omega)]
    rintro⟨k,c⟩ ⟨k1,k2⟩ B hB
    simp only at hB
    refine zh (let y0:=([97,98,99,100,101,102,103,104,105,106,107,108,109,110,111,112,113,114,115,116,117,118,119,120,121,122]:Str);let y1:=([65,66,67,68,69,70,71,72,73,74,75,76,77,78,79,80,81,82,83,84,85,86,87,88,89,90]:Str);let y2:=I.inr Go.IntKind.i64 (I.add (Nat.cast k) 1);.br (I.ilt (Nat.cast k) 26) (.need (I.inb (Nat.cast k) (I.len (α:=UInt8) y1)) (.need (I.inb (Nat.cast i) (I.len (α:=UInt8) s)) (.br (I.ieq (I.b2i (I.get (α:=UInt8) y1 0 (Nat.cast k))) (I.b2i (I.get (α:=UInt8) s 0 (Nat.cast i)))) (.need y2 (.need (I.cutb (Int.ofNat k) (I.add (Nat.cast k) 1) (I.len (α:=UInt8) y0)) (.need y2 (.need (B ⟨[(0,(.v (.one (.p (.str s))))),(3,(.v (.one (.p (.str out))))),(4,(.v (.one (.p (.int .i64 (Nat.cast i)))))),(5,(.v (.one (.p (.str (I.cut (α:=UInt8) y0 (Int.ofNat k) (I.add (Nat.cast k) 1))))))),(6,(.v (.one (.p (.int .i64 (I.add (Nat.cast k) 1))))))],[],36,none⟩) .qed)))) (.need y2 (.need (B ⟨[(0,(.v (.one (.p (.str s))))),(3,(.v (.one (.p (.str out))))),(4,(.v (.one (.p (.int .i64 (Nat.cast i)))))),(5,(.v (.one (.p (.str c))))),(6,(.v (.one (.p (.int .i64 (I.add (Nat.cast k) 1))))))],[],36,none⟩) .qed))))) (.need (I.few (I.add (I.len (α:=UInt8) out) (I.len (α:=UInt8) c)) 1000000000) (.need (I.inr Go.IntKind.i64 (I.add (Nat.cast i) 1)) (.need (A ⟨[(0,(.v (.one (.p (.str s))))),(3,(.v (.one (.p (.str (I.app (α:=UInt8) out c)))))),(4,(.v (.one (.p (.int .i64 (I.add (Nat.cast i) 1))))))],[],36,none⟩) .qed)))) (by kernel_rfl) ?_
    simp only [zy]
    subst hI
    simp only [nrmA,nrmB]
    rw [hx]
    generalize hCAP:([65,66,67,68,69,70,71,72,73,74,75,76,77,78,79,80,81,82,83,84,85,86,87,88,89,90]:Str)=CAP at *
    generalize hLOW:([97,98,99,100,101,102,103,104,105,106,107,108,109,110,111,112,113,114,115,116,117,118,119,120,121,122]:Str)=LOW at *
    have hol:out.length≤1000000:=by rw [h2,Yu,List.length_take];omega
    have hc1l:c.length=1:=by rw [k2];rfl
    have hcl:CAP.length=26:=by rw [← hCAP];rfl
    have hll:LOW.length=26:=by rw [← hLOW];rfl
    have hcond:k<26→(CAP.getD k 0=x↔x.toNat=65+k):=fun h=>by rw [← UInt8.toNat_inj,(hcap k h).1];omega
    have heq:k<26→CAP.getD k 0=x→(LOW.drop k).take (((k:Int)+1).toNat - k)=[if 65≤x.toNat∧x.toNat<65+(k+1) then x+32 else x]:=fun h e=>by
      have e:=(hcond h).1 e
      rw [show((k:Int)+1).toNat - k=1 by omega,(hcap k h).2,if_pos (by omega)]
      congr 1
      rw [← UInt8.toNat_inj,UInt8.toNat_ofNat',UInt8.toNat_add,e]
      simp only [show(32:UInt8).toNat=32 from rfl]
      omega
    have hne:k<26→¬ CAP.getD k 0=x→c=[if 65≤x.toNat∧x.toNat<65+(k+1) then x+32 else x]:=fun h e=>by
      have e: ¬ x.toNat=65+k:=fun h'=>e ((hcond h).2 h')
      rw [k2]
      congr 1
      by_cases h1:65≤x.toNat∧x.toNat<65+k
      · rw [if_pos h1,if_pos (by omega)]
      · rw [if_neg h1,if_neg (by omega)]
    have hend: ¬ k<26→out++c=lowS (s.take (i+1)):=fun h=>by
      have hk:k=26:=by omega
      subst hk
      rw [k2,h2,List.take_succ_eq_append_getElem hi]
      unfold lowS
      rw [List.map_append]
      congr 1
      rw [← hx,show s.getD i 0=s[i] by simp [hi]]
      show _=[lowC s[i]]
      unfold lowC
      congr 1
      by_cases h1:65≤s[i].toNat∧s[i].toNat<65+26
      · rw [if_pos h1,if_pos (by omega)]
      · rw [if_neg h1,if_neg (by omega)]
    (repeat' (first|refine And.intro ?_ ?_|intro _))<;>first|omega|exact True.intro|exact False.elim ‹False›|skip
    all_goals first
      |omega
      |exact hB (k+1,_) ⟨by simp only;omega,heq (by omega) ‹_›⟩ (by simp only;omega)
      |exact hB (k+1,_) ⟨by simp only;omega,hne (by omega) ‹_›⟩ (by simp only;omega)
      |(rw [hend (by omega)];exact hA (i+1,_) ⟨by simp only;omega,rfl⟩ (by simp only;omega))
  · subst hI
    simp only [nrmA,nrmB] at c1
    simp only [nrmA,nrmB]
    rw [h2,List.take_of_length_le (by omega)]
def Wh (I:Alg) (args:List D) (hp:List HO):Option CT:=match args,hp with
  |[.v (.one (.p (.str s)))],[]=>(fun(s:Str)=>(some (.one ⟨I.hid (s.length≤1000000),(.ret (.v (.one (.p (.str (I.hid (lowS s))))))),[]⟩):Option CT)) s
  |_,_=>none
theorem zcA:zD Tryz.prog 54 (Wh alg):=by
  intro args hp r h
  unfold Wh at h
  split at h
  · cases h;exact fun hn=>zko _ hn
  · cases h
def qJ:Know Tryz.prog:=⟨54,Wh,zcA⟩
def qI:Know Tryz.prog:=⟨54,fun I=>zH I (Wh I),zf zcA⟩
end Go.Proofs.YtmibhbdfigpkmaaGreatDoor
namespace Go.Proofs.YtmibhbdfigpkmaaGreatDoor
open Go Go.Sep Go.Ab
def ln0:Ln:=⟨[],false,0⟩
def zei (c:UInt8):Bool:=ZX (c.toNat:Int)
def lnF (s:Ln) (c:UInt8):Ln × Str × Bool × Int:=
  if s.code≠0 then(s,[],false,s.code)
  else if s.cr then(if c=10 then(⟨[],false,0⟩,s.b,true,0) else(⟨s.b,s.cr,2⟩,[],false,2))
  else if c=10 then(⟨s.b,s.cr,2⟩,[],false,2)
  else if c=13 then(⟨s.b,true,s.code⟩,[],false,0)
  else if zei c=false then(⟨s.b,s.cr,3⟩,[],false,3)
  else if s.b.length=200 then(⟨s.b,s.cr,4⟩,[],false,4)
  else(⟨s.b++[c],s.cr,s.code⟩,[],false,0)
def lnB (s:Ln):Bool:=decide (0<s.b.length)||s.cr
def xN (pre:Str):Str→Str × Int × Bool × Int
  |[]=>([],0,false,0)
  | c ::r=>
    if c=13 then
      match r with
      |[]=>([],0,false,0)
      |d::_=>if d=10 then(pre,(pre.length:Int)+2,true,0) else([],(pre.length:Int)+2,false,2)
    else if c=10 then([],(pre.length:Int)+1,false,2)
    else if zei c=false then([],(pre.length:Int)+1,false,3)
    else if pre.length=200 then([],(pre.length:Int)+1,false,4)
    else xN (pre++[c]) r
def zu (b:Str):Str × Int × Bool × Int:=xN [] b
inductive LnR where
  |more (s:Ln)
  |line (t rest:Str)
  |bad (e:Int) (rest:Str)
def xE (s:Ln):Str→LnR
  |[]=>.more s
  |c::r=>if(lnF s c).2.2.1=true then .line (lnF s c).2.1 r else if(lnF s c).2.2.2≠0 then .bad (lnF s c).2.2.2 r else xE (lnF s c).1 r
def LnIs (pre r:Str):LnR→Prop
  |.more s=>xN pre r=([],0,false,0)∧s.code=0∧(lnB s=true↔r≠[]∨pre≠[])
  |.line t rest=>∃ n:Nat,xN pre r=(t,((pre.length+n:Nat):Int),true,0)∧n≤r.length∧0<n∧rest=r.drop n
  |.bad e rest=>∃ n:Nat,xN pre r=([],((pre.length+n:Nat):Int),false,e)∧e≠0∧n≤r.length∧0<n∧rest=r.drop n
theorem zgr: ∀ (r pre:Str),LnIs pre r (xE ⟨pre,false,0⟩ r)
  |[],pre=>⟨rfl,rfl,by cases pre<;>simp [lnB]⟩
  | c :: r,pre=>by
    by_cases h10:c=10
    · subst h10
      have e:xE ⟨pre,false,0⟩ (10::r)=.bad 2 r:=by simp [xE,lnF]
      rw [e]
      exact⟨1,by simp [xN],by decide,by simp,by decide,rfl⟩
    by_cases h13:c=13
    · subst h13
      cases r with
      | nil=>
        have e:xE ⟨pre,false,0⟩ [13]=.more ⟨pre,true,0⟩:=by simp [xE,lnF]
        rw [e]
        exact⟨by simp [xN],rfl,by simp [lnB]⟩
      | cons d r=>
        by_cases hd:d=10
        · subst hd
          have e:xE ⟨pre,false,0⟩ (13::10::r)=.line pre r:=by simp [xE,lnF]
          rw [e]
          exact⟨2,by simp [xN],by simp,by decide,by simp⟩
        · have e:xE ⟨pre,false,0⟩ (13::d::r)=.bad 2 r:=by simp [xE,lnF,hd]
          rw [e]
          exact⟨2,by simp [xN,hd],by decide,by simp,by decide,by simp⟩
    by_cases hs:zei c=false
    · have e:xE ⟨pre,false,0⟩ (c::r)=.bad 3 r:=by simp [xE,lnF,h10,h13,hs]
      rw [e]
      exact⟨1,by simp [xN.eq_def,h10,h13,hs],by decide,by simp,by decide,rfl⟩
    by_cases hl:pre.length=200
    · have e:xE ⟨pre,false,0⟩ (c::r)=.bad 4 r:=by simp [xE,lnF,h10,h13,hs,hl]
      rw [e]
      exact⟨1,by rw [xN.eq_def];simp [h10,h13,hs,hl],by decide,by simp,by decide,rfl⟩
    have ih:=zgr r (pre++[c])
    have e1:lnF ⟨pre,false,0⟩ c=(⟨pre++[c],false,0⟩,[],false,0):=by simp [lnF,h10,h13,hs,hl]
    have e2:xN pre (c::r)=xN (pre++[c]) r:=by rw [xN.eq_def];simp [h10,h13,hs,hl]
    have e3:xE ⟨pre,false,0⟩ (c::r)=xE ⟨pre++[c],false,0⟩ r:=by rw [xE,e1];simp
    rw [e3]
    generalize xE ⟨pre++[c],false,0⟩ r=x at ih
    cases x with
    | more s=>
      obtain⟨h1,h2,h3⟩:=ih
      exact⟨by rw [e2,h1],h2,by rw [h3];simp⟩
    | line t rest=>
      obtain⟨n,h1,h2,h3,h4⟩:=ih
      exact⟨n+1,by rw [e2,h1];simp;omega,by simp;omega,by omega,by rw [h4];simp⟩
    | bad e rest=>
      obtain⟨n,h1,h2,h3,h4,h5⟩:=ih
      exact⟨n+1,by rw [e2,h1];simp;omega,h2,by simp;omega,by omega,by rw [h5];simp⟩
theorem RU (r:Str):LnIs [] r (xE ln0 r):=zgr r []
end Go.Proofs.YtmibhbdfigpkmaaGreatDoor
namespace Go.Proofs.YtmibhbdfigpkmaaGreatDoor
open Go Go.Sep Go.Ab
set_option maxRecDepth 100000
def yj (m:Str):Str→Int→Int
  |[],i=>if m.isPrefixOf [] then i else -1
  |x::b,i=>if m.isPrefixOf (x::b) then i else yj m b (i+1)
theorem XR (m:Str): ∀ (b:Str) (i:Int),b.length<m.length→yj m b i= -1
  | [],i,h=>by
    cases m with
    |nil=>simp at h
    |cons y m=>simp [yj,List.isPrefixOf]
  | x ::b,i,h=>by
    have: ¬ m.isPrefixOf (x::b)=true:=fun hp=>by
      have:=(List.isPrefixOf_iff_prefix.1 hp).length_le;omega
    rw [yj,if_neg this]
    exact XR m b _ (by simp at h;omega)
theorem Uh (m b:Str) (i:Nat) (h:i<b.length∨m=[]):yj m (b.drop i) i=if m=(b.drop i).take m.length then(i:Int) else yj m (b.drop (i+1)) (i+1:Nat):=by
  have hp:m.isPrefixOf (b.drop i)=true↔m=(b.drop i).take m.length:=by rw [List.isPrefixOf_iff_prefix,List.prefix_iff_eq_take]
  rcases h with h|h
  · rw [List.drop_eq_getElem_cons h] at hp ⊢
    rw [yj]
    by_cases hc:m.isPrefixOf (b[i]::b.drop (i+1))=true
    · rw [if_pos hc,if_pos (hp.1 hc)]
    · rw [if_neg hc,if_neg (fun e=>hc (hp.2 e))];rfl
  · subst h
    have h2:([]:Str).isPrefixOf (b.drop i)=true:=by cases b.drop i<;>rfl
    rw [if_pos (hp.1 h2)]
    cases hd:b.drop i with
    |nil=>simp [yj]
    |cons y r=>simp [yj]
theorem zeM (b m:Str) (hneed:b.length≤1000000∧m.length≤1000000):Spc Tryz.prog 41 [.v (.one (.p (.list .byte b))),.v (.one (.p (.str m)))] [] (.ret (.v (.one (.p (.int .i64 (yj m b 0)))))) []:=by
  refine spcG zi mixed Tryz.func41 (by kernel_rfl) { keep:=some [0,1,4,5]} [] (by kernel_rfl) ?_
  intro I X hI hX
  refine zh (.code 0 [1,0,1,0] ⟨[(5,(.v (.one (.p (.int .i64 0))))),(4,(.v (.one (.p (.int .i64 0))))),(0,(.v (.one (.p (.list .byte b))))),(1,(.v (.one (.p (.str m)))))],[],26,none⟩) (by kernel_rfl) ?_
  simp only [zy]
  refine zG hI zi mixed [] hX [0,1,5] (fun(i:Nat)=>yj m b 0=yj m (b.drop i) i∧i≤b.length) (fun(i:Nat)=>⟨[(0,.v (.one (.p (.list .byte b)))),(1,.v (.one (.p (.str m)))),(5,.v (.one (.p (.int .i64 i))))],[],26,none⟩) (fun(i:Nat)=>b.length - i) 0 (by kernel_rfl) (by kernel_rfl) ?_ ?_
  · exact⟨by simp,Nat.zero_le _⟩
  rintro i ⟨hf,hib⟩ A hA
  refine zh (let y0:=I.add (Nat.cast i) (I.len (α:=UInt8) m);.need (I.inr Go.IntKind.i64 y0) (.br (I.ile y0 (I.len (α:=UInt8) b)) (.need (I.inr Go.IntKind.i64 y0) (.need (I.cutb (Int.ofNat i) y0 (I.len (α:=UInt8) b)) (.br (I.seq (I.cut (α:=UInt8) b (Int.ofNat i) y0) m) (.fin (.ret (.v (.one (.p (.int .i64 (Nat.cast i)))))) []) (.need (I.inr Go.IntKind.i64 (I.add (Nat.cast i) 1)) (.need (A ⟨[(0,(.v (.one (.p (.list .byte b))))),(1,(.v (.one (.p (.str m))))),(5,(.v (.one (.p (.int .i64 (I.add (Nat.cast i) 1))))))],[],26,none⟩) .qed))))) (.fin (.ret (.v (.one (.p (.int .i64 (Neg.neg (1:Int))))))) []))) (by kernel_rfl) ?_
  simp only [zy]
  subst hI
  simp only [nrmA,nrmB]
  simp only [show((i:Int)+(m.length:Int)).toNat=i+m.length by omega,Nat.add_sub_cancel_left]
  have hor:i+m.length≤b.length→(i<b.length∨m=[]):=fun h=>by
    rcases m with _|⟨y,m⟩
    · exact .inr rfl
    · left;simp at h;omega
  (repeat' (first|refine And.intro ?_ ?_|intro _))<;>first|omega|exact True.intro|exact False.elim ‹False›|skip
  · rename_i hle heq
    rw [hf,Uh m b i (hor (by omega)),if_pos heq.symm]
  · rename_i hle hne
    have hlt:i<b.length:=(hor (by omega)).resolve_right (fun e=>hne (by subst e;simp))
    refine hA (i+1) ⟨?_,by omega⟩ (by omega)
    rw [hf,Uh m b i (hor (by omega)),if_neg (fun h=>hne h.symm)]
  · rename_i hgt
    rw [hf,XR m (b.drop i) i (by simp only [List.length_drop];omega)]
def uz (I:Alg) (args:List D) (hp:List HO):Option CT:=match args,hp with
  |[.v (.one (.p (.list .byte b))),.v (.one (.p (.str m)))],[]=>(fun(b m:Str)=>(some (.one ⟨I.hid (b.length≤1000000∧m.length≤1000000),(.ret (.v (.one (.p (.int .i64 (I.hid (yj m b 0))))))),[]⟩):Option CT)) b m
  |_,_=>none
theorem XQ:zD Tryz.prog 41 (uz alg):=by
  intro args hp r h
  unfold uz at h
  split at h
  · cases h;exact fun hn=>zeM _ _ hn
  · cases h
def yX:Know Tryz.prog:=⟨41,uz,XQ⟩
def yV:Know Tryz.prog:=⟨41,fun I=>zH I (uz I),zf XQ⟩
end Go.Proofs.YtmibhbdfigpkmaaGreatDoor
namespace Go.Proofs.YtmibhbdfigpkmaaGreatDoor
open Go Go.Sep Go.Ab
set_option maxRecDepth 100000
def cutB (s:Str) (c:UInt8):Str × Str × Bool:=
  if 0≤Lib.indexByte s c then(s.take (Lib.indexByte s c).toNat,s.drop ((Lib.indexByte s c).toNat+1),true) else(s,[],false)
def zM (s:Str):Fld × Int:=
  if(cutB s 58).2.2=false then(⟨[],[]⟩,5)
  else if yF (cutB s 58).1=false then(⟨[],[]⟩,6)
  else if 40<(cutB s 58).1.length then(⟨[],[]⟩,4)
  else if xR (cutB s 58).2.1=false then(⟨[],[]⟩,3)
  else(⟨(cutB s 58).1,Lib.trimS (cutB s 58).2.1 [32,9]⟩,0)
def textF (f:Fld):Str × Int:=
  if yF f.name=false then([],6)
  else if 40<f.name.length∨200<f.name.length+2+f.value.length then([],4)
  else if xR f.value=false∨¬ Lib.trimS f.value [32,9]=f.value then([],3)
  else(f.name++[58,32]++f.value,0)
theorem WT (s:Str) (c:UInt8):(cutB s c).1.length≤s.length∧(cutB s c).2.1.length≤s.length:=by
  unfold cutB
  split
  · simp only [List.length_take,List.length_drop];omega
  · simp
theorem zkp (s:Str) (c:UInt8) (hneed:s.length≤1000000):Spc Tryz.prog 109 [.v (.one (.p (.str s))),.v (.one (.p (.str ([c]))))] [] (.ret (.tup [(.one (.p (.str ((cutB s c).1)))),(.one (.p (.str ((cutB s c).2.1)))),(.one (.p (.bool ((cutB s c).2.2))))])) []:=by
  generalize hr:cutB s c=r
  obtain⟨a,b,d⟩:=r
  refine spcG zi mixed Tryz.func109 (by kernel_rfl) { keep:=some [0,1,4,5,6,7]} [zgG,zgF] (by kernel_rfl) ?_
  intro I X hI hX
  refine zh (let y0:=I.hid (α:=Int) (Go.Lib.indexByte s c);let y1:=I.add y0 (I.len (α:=UInt8) ([c]:Str));.need (I.hid (α:=(Prop)) True) (.br (I.ile 0 y0) (.need (I.cutb 0 y0 (I.len (α:=UInt8) s)) (.need (I.inr Go.IntKind.i64 y1) (.need (I.cutb y1 (I.len (α:=UInt8) s) (I.len (α:=UInt8) s)) (.fin (.ret (.tup [(.one (.p (.str (I.cut (α:=UInt8) s 0 y0)))),(.one (.p (.str (I.cut (α:=UInt8) s y1 (I.len (α:=UInt8) s))))),(.one (.p (.bool Bool.true)))])) [])))) (.fin (.ret (.tup [(.one (.p (.str s))),(.one (.p (.str ([]:Str)))),(.one (.p (.bool Bool.false)))])) []))) (by kernel_rfl) ?_
  simp only [zy]
  subst hI
  simp only [nrmA,nrmB]
  have hx:=yN s c
  simp only [List.length_cons,List.length_nil]
  refine⟨fun h=> ?_,fun h=> ?_⟩
  · rw [cutB,if_pos h] at hr
    simp only [Prod.mk.injEq] at hr
    obtain⟨rfl,rfl,rfl⟩:=hr
    refine⟨by omega,by omega,by omega,?_⟩
    rw [show(Lib.indexByte s c+((0+1:Nat):Int)).toNat=(Lib.indexByte s c).toNat+1 by omega]
    have e:List.take (s.length - ((Lib.indexByte s c).toNat+1)) (List.drop ((Lib.indexByte s c).toNat+1) s)=List.drop ((Lib.indexByte s c).toNat+1) s:=List.take_of_length_le (by rw [List.length_drop];exact Nat.le_refl _)
    rw [e]
  · rw [cutB,if_neg h] at hr
    simp only [Prod.mk.injEq] at hr
    obtain⟨rfl,rfl,rfl⟩:=hr
    rfl
def Wj (I:Alg) (args:List D) (hp:List HO):Option CT:=match args,hp with
  |[.v (.one (.p (.str s))),.v (.one (.p (.str ([c]))))],[]=>(fun(s:Str) (c:UInt8)=>(some (.one ⟨I.hid (s.length≤1000000),(.ret (.tup [(.one (.p (.str (I.hid ((cutB s c).1))))),(.one (.p (.str (I.hid ((cutB s c).2.1))))),(.one (.p (.bool (I.hid ((cutB s c).2.2)))))])),[]⟩):Option CT)) s c
  |_,_=>none
theorem zcB:zD Tryz.prog 109 (Wj alg):=by
  intro args hp r h
  unfold Wj at h
  split at h
  · cases h;exact fun hn=>zkp _ _ hn
  · cases h
def zhN:Know Tryz.prog:=⟨109,Wj,zcB⟩
def zhM:Know Tryz.prog:=⟨109,fun I=>zH I (Wj I),zf zcB⟩
theorem zll (s:Str) (c:UInt8) (hneed:s.length≤1000000):Spc Tryz.prog 90 [.v (.one (.p (.str s))),.v (.one (.p (.str ([c]))))] [] (.ret (.tup [(.one (.p (.str ((cutB s c).1)))),(.one (.p (.str ((cutB s c).2.1)))),(.one (.p (.bool ((cutB s c).2.2))))])) []:=by
  refine spcG zi mixed Tryz.func90 (by kernel_rfl) { keep:=some [0,1,4,5,6]} [zhN,zhM] (by kernel_rfl) ?_
  intro I X hI hX
  refine zh (.need (I.hid (α:=(Prop)) (LE.le (List.length s) 1000000)) (.fin (.ret (.tup [(.one (.p (.str (I.hid (α:=Str) (Prod.fst (cutB s c)))))),(.one (.p (.str (I.hid (α:=Str) (Prod.fst (Prod.snd (cutB s c))))))),(.one (.p (.bool (I.hid (α:=Bool) (Prod.snd (Prod.snd (cutB s c)))))))])) [])) (by kernel_rfl) ?_
  simp only [zy]
  subst hI
  simp only [nrmA,nrmB]
  exact hneed
def SQ (I:Alg) (args:List D) (hp:List HO):Option CT:=match args,hp with
  |[.v (.one (.p (.str s))),.v (.one (.p (.str ([c]))))],[]=>(fun(s:Str) (c:UInt8)=>(some (.one ⟨I.hid (s.length≤1000000),(.ret (.tup [(.one (.p (.str (I.hid ((cutB s c).1))))),(.one (.p (.str (I.hid ((cutB s c).2.1))))),(.one (.p (.bool (I.hid ((cutB s c).2.2)))))])),[]⟩):Option CT)) s c
  |_,_=>none
theorem zfo:zD Tryz.prog 90 (SQ alg):=by
  intro args hp r h
  unfold SQ at h
  split at h
  · cases h;exact fun hn=>zll _ _ hn
  · cases h
def zfn:Know Tryz.prog:=⟨90,SQ,zfo⟩
def zfm:Know Tryz.prog:=⟨90,fun I=>zH I (SQ I),zf zfo⟩
theorem zkD (s:Str) (hneed:s.length≤1000000):Spc Tryz.prog 72 [.v (.one (.p (.str s)))] [] (.ret (.tup [(.agg [(.p (.str ((zM s).1.name))),(.p (.str ((zM s).1.value)))]),(.one (.p (.int .i64 ((zM s).2))))])) []:=by
  generalize hr:zM s=r
  obtain⟨⟨a,b⟩,d⟩:=r
  refine spcG zi mixed Tryz.func72 (by kernel_rfl) { keep:=some [0,2,3,4,5,6]} [vw,vk,uh,ug,Qv,Qu,zfn,zfm] (by kernel_rfl) ?_
  intro I X hI hX
  refine zh (let y0:=I.hid (α:=Str) (Prod.fst (cutB s (58:UInt8)));let y1:=I.hid (α:=Str) (Prod.fst (Prod.snd (cutB s (58:UInt8))));.need (I.hid (α:=(Prop)) (LE.le (List.length s) 1000000)) (.br (I.bnot (I.hid (α:=Bool) (Prod.snd (Prod.snd (cutB s (58:UInt8)))))) (.fin (.ret (.tup [(.agg [(.p (.str ([]:Str))),(.p (.str ([]:Str)))]),(.one (.p (.int .i64 5)))])) []) (.need (I.hid (α:=(Prop)) (LE.le (List.length y0) 1000000)) (.br (I.bnot (I.hid (α:=Bool) (yF y0))) (.fin (.ret (.tup [(.agg [(.p (.str ([]:Str))),(.p (.str ([]:Str)))]),(.one (.p (.int .i64 6)))])) []) (.br (I.ilt 40 (I.len (α:=UInt8) y0)) (.fin (.ret (.tup [(.agg [(.p (.str ([]:Str))),(.p (.str ([]:Str)))]),(.one (.p (.int .i64 4)))])) []) (.need (I.hid (α:=(Prop)) (LE.le (List.length y1) 1000000)) (.br (I.bnot (I.hid (α:=Bool) (xR y1))) (.fin (.ret (.tup [(.agg [(.p (.str ([]:Str))),(.p (.str ([]:Str)))]),(.one (.p (.int .i64 3)))])) []) (.need (I.hid (α:=(Prop)) True) (.fin (.ret (.tup [(.agg [(.p (.str y0)),(.p (.str (I.hid (α:=Str) (Go.Lib.trimS y1 ([32,9]:Str)))))]),(.one (.p (.int .i64 0)))])) []))))))))) (by kernel_rfl) ?_
  simp only [zy]
  subst hI
  simp only [nrmA,nrmB]
  have hl:=WT s 58
  unfold zM at hr
  (repeat' (first|refine And.intro ?_ ?_|intro _))<;>first|omega|exact True.intro|exact False.elim ‹False›|skip
  all_goals first
    |(rw [if_pos (by assumption)] at hr;cases hr;rfl)
    |(rw [if_neg (by simp [*]),if_pos (by assumption)] at hr;cases hr;rfl)
    |(rw [if_neg (by simp [*]),if_neg (by simp [*]),if_pos (by omega)] at hr;cases hr;rfl)
    |(rw [if_neg (by simp [*]),if_neg (by simp [*]),if_neg (by omega),if_pos (by assumption)] at hr;cases hr;rfl)
    |(rw [if_neg (by simp [*]),if_neg (by simp [*]),if_neg (by omega),if_neg (by simp [*])] at hr;cases hr;rfl)
def WB (I:Alg) (args:List D) (hp:List HO):Option CT:=match args,hp with
  |[.v (.one (.p (.str s)))],[]=>(fun(s:Str)=>(some (.one ⟨I.hid (s.length≤1000000),(.ret (.tup [(.agg [(.p (.str (I.hid ((zM s).1.name)))),(.p (.str (I.hid ((zM s).1.value))))]),(.one (.p (.int .i64 (I.hid ((zM s).2)))))])),[]⟩):Option CT)) s
  |_,_=>none
theorem zc6:zD Tryz.prog 72 (WB alg):=by
  intro args hp r h
  unfold WB at h
  split at h
  · cases h;exact fun hn=>zkD _ hn
  · cases h
def Rj:Know Tryz.prog:=⟨72,WB,zc6⟩
def Ri:Know Tryz.prog:=⟨72,fun I=>zH I (WB I),zf zc6⟩
theorem zlj (n v:Str) (hneed:n.length≤1000000∧v.length≤1000000):Spc Tryz.prog 38 [.v (.agg [(.p (.str n)),(.p (.str v))])] [] (.ret (.tup [(.one (.p (.str ((textF ⟨n,v⟩).1)))),(.one (.p (.int .i64 ((textF ⟨n,v⟩).2))))])) []:=by
  generalize hr:textF ⟨n,v⟩=r
  obtain⟨a,d⟩:=r
  refine spcG zi mixed Tryz.func38 (by kernel_rfl) { keep:=some [0,1,2,3,4]} [vw,vk,uh,ug,Qv,Qu] (by kernel_rfl) ?_
  intro I X hI hX
  refine zh (.need (I.few (I.add (I.len (α:=UInt8) n) (I.len (α:=UInt8) ([58,32]:Str))) 1000000000) (.need (I.few (I.add (I.len (α:=UInt8) (I.app (α:=UInt8) n ([58,32]:Str))) (I.len (α:=UInt8) v)) 1000000000) (.need (I.hid (α:=(Prop)) (LE.le (List.length n) 1000000)) (.br (I.bnot (I.hid (α:=Bool) (yF n))) (.fin (.ret (.tup [(.one (.p (.str ([]:Str)))),(.one (.p (.int .i64 6)))])) []) (.br (I.ilt 40 (I.len (α:=UInt8) n)) (.fin (.ret (.tup [(.one (.p (.str ([]:Str)))),(.one (.p (.int .i64 4)))])) []) (.br (I.ilt 200 (I.len (α:=UInt8) (I.app (α:=UInt8) (I.app (α:=UInt8) n ([58,32]:Str)) v))) (.fin (.ret (.tup [(.one (.p (.str ([]:Str)))),(.one (.p (.int .i64 4)))])) []) (.need (I.hid (α:=(Prop)) (LE.le (List.length v) 1000000)) (.br (I.bnot (I.hid (α:=Bool) (xR v))) (.fin (.ret (.tup [(.one (.p (.str ([]:Str)))),(.one (.p (.int .i64 3)))])) []) (.need (I.hid (α:=(Prop)) True) (.br (I.bnot (I.seq (I.hid (α:=Str) (Go.Lib.trimS v ([32,9]:Str))) v)) (.fin (.ret (.tup [(.one (.p (.str ([]:Str)))),(.one (.p (.int .i64 3)))])) []) (.fin (.ret (.tup [(.one (.p (.str (I.app (α:=UInt8) (I.app (α:=UInt8) n ([58,32]:Str)) v)))),(.one (.p (.int .i64 0)))])) []))))))))))) (by kernel_rfl) ?_
  simp only [zy]
  subst hI
  simp only [nrmA,nrmB]
  simp only [List.length_append,List.length_cons,List.length_nil]
  unfold textF at hr
  simp only at hr
  (repeat' (first|refine And.intro ?_ ?_|intro _))<;>first|omega|exact True.intro|exact False.elim ‹False›|skip
  all_goals first
    |(rw [if_pos (by assumption)] at hr;cases hr;rfl)
    |(rw [if_neg (by simp [*]),if_pos (by omega)] at hr;cases hr;rfl)
    |(rw [if_neg (by simp [*]),if_neg (by omega),if_pos (.inl (by assumption))] at hr;cases hr;rfl)
    |(rw [if_neg (by simp [*]),if_neg (by omega),if_pos (.inr (by assumption))] at hr;cases hr;rfl)
    |(rw [if_neg (by simp [*]),if_neg (by omega),if_neg (by simp [*])] at hr;cases hr;rfl)
def SI (I:Alg) (args:List D) (hp:List HO):Option CT:=match args,hp with
  |[.v (.agg [(.p (.str n)),(.p (.str v))])],[]=>(fun(n v:Str)=>(some (.one ⟨I.hid (n.length≤1000000∧v.length≤1000000),(.ret (.tup [(.one (.p (.str (I.hid ((textF ⟨n,v⟩).1))))),(.one (.p (.int .i64 (I.hid ((textF ⟨n,v⟩).2)))))])),[]⟩):Option CT)) n v
  |_,_=>none
theorem ze8:zD Tryz.prog 38 (SI alg):=by
  intro args hp r h
  unfold SI at h
  split at h
  · cases h;exact fun hn=>zlj _ _ hn
  · cases h
def ze7:Know Tryz.prog:=⟨38,SI,ze8⟩
def ze6:Know Tryz.prog:=⟨38,fun I=>zH I (SI I),zf ze8⟩
end Go.Proofs.YtmibhbdfigpkmaaGreatDoor
namespace Go.Proofs.YtmibhbdfigpkmaaGreatDoor
open Go Go.Sep Go.Ab
set_option maxRecDepth 100000
def numG (base:Int):Int→Str→Int × Bool
  |n,[]=>(n,true)
  |n,c::l=>if hexK c.toNat<0∨base≤hexK c.toNat then(0,false) else numG base (n * base+hexK c.toNat) l
def numA (s:Str) (base most:Int):Int × Bool:=if s=[]∨most<s.length then(0,false) else numG base 0 s
def top9:Nat→Nat
  |0=>0
  |i+1=>16 * top9 i+15
theorem SG {i:Nat} (h:i≤9):top9 i≤68719476735:=(by decide: ∀ i:Fin 10,top9 i.1≤68719476735) ⟨i,by omega⟩
theorem Yr {base n:Int} {s:Str} {i:Nat} (h:i<s.length):numG base n (s.drop i)=if hexK (s.getD i 0).toNat<0∨base≤hexK (s.getD i 0).toNat then(0,false) else numG base (n * base+hexK (s.getD i 0).toNat) (s.drop (i+1)):=by
  rw [List.drop_eq_getElem_cons h,numG];simp [h]
theorem Qa {k:Int} (hk:0≤k∧k≤255): -1≤hexK k∧hexK k≤15:=ziJ (p:=fun k=> -1≤hexK k∧hexK k≤15) (by decide+kernel) hk
theorem TY {k:Int} (hk:0≤k∧k≤255):([48,49,50,51,52,53,54,55,56,57]:Str).contains (UInt8.ofNat k.toNat)=decide (0≤hexK k∧hexK k<10):=
  ziJ (p:=fun k=>([48,49,50,51,52,53,54,55,56,57]:Str).contains (UInt8.ofNat k.toNat)=decide (0≤hexK k∧hexK k<10)) (by decide+kernel) hk
theorem zir {k:Int} (hk:0≤k∧k≤255):(∀ j:Fin 16,lowC (UInt8.ofNat k.toNat)=([48,49,50,51,52,53,54,55,56,57,97,98,99,100,101,102]:Str).getD j.1 0→hexK k=(j.1:Int))∧((∀ j:Fin 16,¬ lowC (UInt8.ofNat k.toNat)=([48,49,50,51,52,53,54,55,56,57,97,98,99,100,101,102]:Str).getD j.1 0)→hexK k= -1):=
  ziJ (p:=fun k=>(∀ j:Fin 16,lowC (UInt8.ofNat k.toNat)=([48,49,50,51,52,53,54,55,56,57,97,98,99,100,101,102]:Str).getD j.1 0→hexK k=(j.1:Int))∧((∀ j:Fin 16,¬ lowC (UInt8.ofNat k.toNat)=([48,49,50,51,52,53,54,55,56,57,97,98,99,100,101,102]:Str).getD j.1 0)→hexK k= -1)) (by decide+kernel) hk
theorem zf7 (s:Str):Spc Tryz.prog 119 [.v (.one (.p (.str s))),.v (.one (.p (.int .i64 10))),.v (.one (.p (.int .i64 9)))] [] (.ret (.tup [(.one (.p (.int .i64 ((numA s 10 9).1)))),(.one (.p (.bool ((numA s 10 9).2))))])) []:=by
  generalize hr:numA s 10 9=r
  refine spcG zi mixed Tryz.func119 (by kernel_rfl) { keep:=some [0,1,2,6,7,8,9,10,20,21]} [zdz,zdy] (by kernel_rfl) ?_
  intro I X hI hX
  refine zh (.br (I.seq s ([]:Str)) (.fin (.ret (.tup [(.one (.p (.int .i64 0))),(.one (.p (.bool Bool.false)))])) []) (.br (I.ilt 9 (I.len (α:=UInt8) s)) (.fin (.ret (.tup [(.one (.p (.int .i64 0))),(.one (.p (.bool Bool.false)))])) []) (.code 0 [1,1,1,0,1,0] ⟨[(21,(.v (.one (.p (.int .i64 0))))),(20,(.v (.one (.p (.int .i64 (I.len (α:=UInt8) s)))))),(8,(.v (.one (.p (.int .i64 0))))),(7,(.v (.one (.p (.val (.bool .false)))))),(6,(.v (.one (.p (.int .i64 0))))),(0,(.v (.one (.p (.str s))))),(1,(.v (.one (.p (.int .i64 10))))),(2,(.v (.one (.p (.int .i64 9)))))],[],42,none⟩))) (by kernel_rfl) ?_
  simp only [zy]
  have hne:s≠[]→¬ (9:Int)<s.length→numG 10 0 s=r:=fun h1 h2=>by rw [← hr,numA,if_neg (fun h=>by rcases h with h|h;exact h1 h;exact h2 h)]
  have hyes:(s=[]∨(9:Int)<s.length)→r=(0,false):=fun h=>by rw [← hr,numA,if_pos h]
  refine⟨fun c1=> ?_,fun c1=>⟨fun c2=> ?_,fun c2=> ?_⟩⟩
  · subst hI
    simp only [nrmA,nrmB] at c1
    rw [hyes (.inl c1)]
    simp
  · subst hI
    simp only [nrmA,nrmB] at c2
    rw [hyes (.inr c2)]
    simp
  have d1:s≠[]:=by
    subst hI
    simp only [nrmA,nrmB] at c1
    exact c1
  have d2:s.length≤9:=by
    subst hI
    simp only [nrmA,nrmB] at c2
    omega
  refine zG hI zi mixed [zdz,zdy] hX [0,1,2,8,20,21] (fun(g:Nat × Int)=>match g with|(i,n)=>i≤s.length∧0≤n∧n≤top9 i∧numG 10 n (s.drop i)=r) (fun(g:Nat × Int)=>match g with|(i,n)=>⟨[(0,.v (.one (.p (.str s)))),(1,.v (.one (.p (.int .i64 10)))),(2,.v (.one (.p (.int .i64 9)))),(8,.v (.one (.p (.int .i64 n)))),(20,.v (.one (.p (.int .i64 ((I.len (α:=UInt8) s)))))),(21,.v (.one (.p (.int .i64 i))))],[],42,none⟩) (fun(g:Nat × Int)=>match g with|(i,n)=>s.length - i) (0,0) (by kernel_rfl) (by kernel_rfl) ?_ ?_
  · exact⟨Nat.zero_le _,Int.le_refl _,Int.le_refl _,hne d1 (by omega)⟩
  rintro⟨i,n⟩ ⟨h1,h2,h3,h4⟩ A hA
  simp only at hA
  refine zh (let y0:=I.b2i (I.get (α:=UInt8) s 0 (Nat.cast i));let y1:=I.add (I.mul n 10) (I.hid (α:=Int) (hexK y0));.br (I.ilt (Nat.cast i) (I.len (α:=UInt8) s)) (.need (I.inb (Nat.cast i) (I.len (α:=UInt8) s)) (.need (I.hid (α:=(Prop)) (And (LE.le (0:Int) y0) (LE.le y0 (255:Int)))) (.br (I.ilt (I.hid (α:=Int) (hexK y0)) 0) (.fin (.ret (.tup [(.one (.p (.int .i64 0))),(.one (.p (.bool Bool.false)))])) []) (.br (I.ile 10 (I.hid (α:=Int) (hexK y0))) (.fin (.ret (.tup [(.one (.p (.int .i64 0))),(.one (.p (.bool Bool.false)))])) []) (.need (I.inr Go.IntKind.i64 (I.mul n 10)) (.need (I.inr Go.IntKind.i64 y1) (.need (I.inr Go.IntKind.i64 (I.add (Nat.cast i) 1)) (.need (A ⟨[(0,(.v (.one (.p (.str s))))),(1,(.v (.one (.p (.int .i64 10))))),(2,(.v (.one (.p (.int .i64 9))))),(8,(.v (.one (.p (.int .i64 y1))))),(20,(.v (.one (.p (.int .i64 (I.len (α:=UInt8) s)))))),(21,(.v (.one (.p (.int .i64 (I.add (Nat.cast i) 1))))))],[],42,none⟩) .qed)))))))) (.fin (.ret (.tup [(.one (.p (.int .i64 n))),(.one (.p (.bool Bool.true)))])) [])) (by kernel_rfl) ?_
  simp only [zy]
  subst hI
  simp only [nrmA,nrmB]
  have hb:=ve (s.getD i 0)
  have hk:=Qa hb
  have hd:i<s.length→_:=fun h=>Yr (base:=10) (n:=n) h
  have ht:i≤9:=by omega
  have ht:=SG ht
  have ht2:top9 (i+1)=16 * top9 i+15:=rfl
  generalize s.getD i 0=x at *
  generalize hexK (x.toNat:Int)=k at *
  (repeat' (first|refine And.intro ?_ ?_|intro _))<;>first|omega|exact True.intro|exact False.elim ‹False›|skip
  all_goals first
    |omega
    |(rw [← h4,hd (by omega),if_pos (.inl (by omega))])
    |(rw [← h4,hd (by omega),if_pos (.inr (by omega))])
    |(refine hA (i+1,_) ⟨by simp only;omega,by simp only;omega,by simp only;omega,?_⟩ (by simp only;omega);rw [← h4,hd (by omega),if_neg (by omega)])
    |(rw [← h4,List.drop_of_length_le (by omega)];rfl)
def sN (I:Alg) (args:List D) (hp:List HO):Option CT:=match args,hp with
  |[.v (.one (.p (.str s))),.v (.one (.p (.int .i64 10))),.v (.one (.p (.int .i64 9)))],[]=>(fun(s:Str)=>(some (.one ⟨I.hid (True),(.ret (.tup [(.one (.p (.int .i64 (I.hid ((numA s 10 9).1))))),(.one (.p (.bool (I.hid ((numA s 10 9).2)))))])),[]⟩):Option CT)) s
  |_,_=>none
theorem VN:zD Tryz.prog 119 (sN alg):=by
  intro args hp r h
  unfold sN at h
  split at h
  · cases h;exact fun hn=>zf7 _
  · cases h
def sK:Know Tryz.prog:=⟨119,sN,VN⟩
def sJ:Know Tryz.prog:=⟨119,fun I=>zH I (sN I),zf VN⟩
theorem zf6 (s:Str):Spc Tryz.prog 119 [.v (.one (.p (.str s))),.v (.one (.p (.int .i64 16))),.v (.one (.p (.int .i64 6)))] [] (.ret (.tup [(.one (.p (.int .i64 ((numA s 16 6).1)))),(.one (.p (.bool ((numA s 16 6).2))))])) []:=by
  generalize hr:numA s 16 6=r
  refine spcG zi mixed Tryz.func119 (by kernel_rfl) { keep:=some [0,1,2,6,7,8,9,10,20,21]} [zdz,zdy,sK,sJ] (by kernel_rfl) ?_
  intro I X hI hX
  refine zh (.br (I.seq s ([]:Str)) (.fin (.ret (.tup [(.one (.p (.int .i64 0))),(.one (.p (.bool Bool.false)))])) []) (.br (I.ilt 6 (I.len (α:=UInt8) s)) (.fin (.ret (.tup [(.one (.p (.int .i64 0))),(.one (.p (.bool Bool.false)))])) []) (.code 0 [1,1,1,0,1,0] ⟨[(21,(.v (.one (.p (.int .i64 0))))),(20,(.v (.one (.p (.int .i64 (I.len (α:=UInt8) s)))))),(8,(.v (.one (.p (.int .i64 0))))),(7,(.v (.one (.p (.val (.bool .false)))))),(6,(.v (.one (.p (.int .i64 0))))),(0,(.v (.one (.p (.str s))))),(1,(.v (.one (.p (.int .i64 16))))),(2,(.v (.one (.p (.int .i64 6)))))],[],42,none⟩))) (by kernel_rfl) ?_
  simp only [zy]
  have hne:s≠[]→¬ (6:Int)<s.length→numG 16 0 s=r:=fun h1 h2=>by rw [← hr,numA,if_neg (fun h=>by rcases h with h|h;exact h1 h;exact h2 h)]
  have hyes:(s=[]∨(6:Int)<s.length)→r=(0,false):=fun h=>by rw [← hr,numA,if_pos h]
  refine⟨fun c1=> ?_,fun c1=>⟨fun c2=> ?_,fun c2=> ?_⟩⟩
  · subst hI
    simp only [nrmA,nrmB] at c1
    rw [hyes (.inl c1)]
    simp
  · subst hI
    simp only [nrmA,nrmB] at c2
    rw [hyes (.inr c2)]
    simp
  have d1:s≠[]:=by
    subst hI
    simp only [nrmA,nrmB] at c1
    exact c1
  have d2:s.length≤6:=by
    subst hI
    simp only [nrmA,nrmB] at c2
    omega
  refine zG hI zi mixed [zdz,zdy,sK,sJ] hX [0,1,2,8,20,21] (fun(g:Nat × Int)=>match g with|(i,n)=>i≤s.length∧0≤n∧n≤top9 i∧numG 16 n (s.drop i)=r) (fun(g:Nat × Int)=>match g with|(i,n)=>⟨[(0,.v (.one (.p (.str s)))),(1,.v (.one (.p (.int .i64 16)))),(2,.v (.one (.p (.int .i64 6)))),(8,.v (.one (.p (.int .i64 n)))),(20,.v (.one (.p (.int .i64 ((I.len (α:=UInt8) s)))))),(21,.v (.one (.p (.int .i64 i))))],[],42,none⟩) (fun(g:Nat × Int)=>match g with|(i,n)=>s.length - i) (0,0) (by kernel_rfl) (by kernel_rfl) ?_ ?_
  · exact⟨Nat.zero_le _,Int.le_refl _,Int.le_refl _,hne d1 (by omega)⟩
  rintro⟨i,n⟩ ⟨h1,h2,h3,h4⟩ A hA
  simp only at hA
  refine zh (let y0:=I.b2i (I.get (α:=UInt8) s 0 (Nat.cast i));let y1:=I.add (I.mul n 16) (I.hid (α:=Int) (hexK y0));.br (I.ilt (Nat.cast i) (I.len (α:=UInt8) s)) (.need (I.inb (Nat.cast i) (I.len (α:=UInt8) s)) (.need (I.hid (α:=(Prop)) (And (LE.le (0:Int) y0) (LE.le y0 (255:Int)))) (.br (I.ilt (I.hid (α:=Int) (hexK y0)) 0) (.fin (.ret (.tup [(.one (.p (.int .i64 0))),(.one (.p (.bool Bool.false)))])) []) (.br (I.ile 16 (I.hid (α:=Int) (hexK y0))) (.fin (.ret (.tup [(.one (.p (.int .i64 0))),(.one (.p (.bool Bool.false)))])) []) (.need (I.inr Go.IntKind.i64 (I.mul n 16)) (.need (I.inr Go.IntKind.i64 y1) (.need (I.inr Go.IntKind.i64 (I.add (Nat.cast i) 1)) (.need (A ⟨[(0,(.v (.one (.p (.str s))))),(1,(.v (.one (.p (.int .i64 16))))),(2,(.v (.one (.p (.int .i64 6))))),(8,(.v (.one (.p (.int .i64 y1))))),(20,(.v (.one (.p (.int .i64 (I.len (α:=UInt8) s)))))),(21,(.v (.one (.p (.int .i64 (I.add (Nat.cast i) 1))))))],[],42,none⟩) .qed)))))))) (.fin (.ret (.tup [(.one (.p (.int .i64 n))),(.one (.p (.bool Bool.true)))])) [])) (by kernel_rfl) ?_
  simp only [zy]
  subst hI
  simp only [nrmA,nrmB]
  have hb:=ve (s.getD i 0)
  have hk:=Qa hb
  have hd:i<s.length→_:=fun h=>Yr (base:=16) (n:=n) h
  have ht:i≤9:=by omega
  have ht:=SG ht
  have ht2:top9 (i+1)=16 * top9 i+15:=rfl
  generalize s.getD i 0=x at *
  generalize hexK (x.toNat:Int)=k at *
  (repeat' (first|refine And.intro ?_ ?_|intro _))<;>first|omega|exact True.intro|exact False.elim ‹False›|skip
  all_goals first
    |omega
    |(rw [← h4,hd (by omega),if_pos (.inl (by omega))])
    |(rw [← h4,hd (by omega),if_pos (.inr (by omega))])
    |(refine hA (i+1,_) ⟨by simp only;omega,by simp only;omega,by simp only;omega,?_⟩ (by simp only;omega);rw [← h4,hd (by omega),if_neg (by omega)])
    |(rw [← h4,List.drop_of_length_le (by omega)];rfl)
def sH (I:Alg) (args:List D) (hp:List HO):Option CT:=match args,hp with
  |[.v (.one (.p (.str s))),.v (.one (.p (.int .i64 16))),.v (.one (.p (.int .i64 6)))],[]=>(fun(s:Str)=>(some (.one ⟨I.hid (True),(.ret (.tup [(.one (.p (.int .i64 (I.hid ((numA s 16 6).1))))),(.one (.p (.bool (I.hid ((numA s 16 6).2)))))])),[]⟩):Option CT)) s
  |_,_=>none
theorem VL:zD Tryz.prog 119 (sH alg):=by
  intro args hp r h
  unfold sH at h
  split at h
  · cases h;exact fun hn=>zf6 _
  · cases h
def VK:Know Tryz.prog:=⟨119,sH,VL⟩
def VJ:Know Tryz.prog:=⟨119,fun I=>zH I (sH I),zf VL⟩
theorem zkU (k:Int) (hneed:0≤k∧k≤255):Spc Tryz.prog 74 [.v (.one (.p (.int .u8 k)))] [] (.ret (.v (.one (.p (.int .i64 (hexK k)))))) []:=by
  generalize hr:hexK k=r
  obtain⟨f1,f2⟩:=zir hneed
  rw [hr] at f1 f2
  refine spcG zi mixed Tryz.func74 (by kernel_rfl) { keep:=some [0,2,3,4,5]} [qJ,qI] (by kernel_rfl) ?_
  intro I X hI hX
  refine zh (.need (I.inr Go.IntKind.u8 k) (.need (I.hid (α:=(Prop)) (LE.le (List.length ([(I.i2b k)]:Str)) 1000000)) (.code 0 [1,1,1,0,1,0] ⟨[(5,(.v (.one (.p (.int .i64 0))))),(4,(.v (.one (.p (.str (I.hid (α:=Str) (lowS ([(I.i2b k)]:Str)))))))),(3,(.v (.one (.p (.str ([48,49,50,51,52,53,54,55,56,57,97,98,99,100,101,102]:Str)))))),(2,(.v (.one (.p (.int .i64 0))))),(0,(.v (.one (.p (.int .u8 k)))))],[(.row .byte 5 ([(I.i2b k)]:Str))],22,none⟩))) (by kernel_rfl) ?_
  simp only [zy]
  refine⟨(by rw [hI];simp only [nrmA,nrmB];omega),(by rw [hI,UA];simp),?_⟩
  generalize hu:I.hid (lowS [I.i2b k])=u
  have hu1:u=[lowC (UInt8.ofNat k.toNat)]:=by rw [← hu,hI];rfl
  generalize lowC (UInt8.ofNat k.toNat)=x at *
  refine zG hI zi mixed [qJ,qI] hX [0,3,4,5] (fun(j:Nat)=>j≤16∧∀ j':Fin 16,j'.1<j→¬ x=([48,49,50,51,52,53,54,55,56,57,97,98,99,100,101,102]:Str).getD j'.1 0) (fun(j:Nat)=>⟨[(0,.v (.one (.p (.int .u8 k)))),(3,.v (.one (.p (.str ([48,49,50,51,52,53,54,55,56,57,97,98,99,100,101,102]))))),(4,.v (.one (.p (.str u)))),(5,.v (.one (.p (.int .i64 j))))],[],22,none⟩) (fun(j:Nat)=>16 - j) 0 (by kernel_rfl) (by kernel_rfl) ?_ ?_
  · exact⟨Nat.zero_le _,fun _ h=>absurd h (Nat.not_lt_zero _)⟩
  rintro j ⟨h1,h2⟩ A hA
  refine zh (let y0:=([48,49,50,51,52,53,54,55,56,57,97,98,99,100,101,102]:Str);let y1:=I.inr Go.IntKind.i64 (I.add (Nat.cast j) 1);.br (I.ilt (Nat.cast j) 16) (.need y1 (.need (I.cutb (Int.ofNat j) (I.add (Nat.cast j) 1) (I.len (α:=UInt8) y0)) (.br (I.seq u (I.cut (α:=UInt8) y0 (Int.ofNat j) (I.add (Nat.cast j) 1))) (.fin (.ret (.v (.one (.p (.int .i64 (Nat.cast j)))))) []) (.need y1 (.need (A ⟨[(0,(.v (.one (.p (.int .u8 k))))),(3,(.v (.one (.p (.str y0))))),(4,(.v (.one (.p (.str u))))),(5,(.v (.one (.p (.int .i64 (I.add (Nat.cast j) 1))))))],[],22,none⟩) .qed))))) (.fin (.ret (.v (.one (.p (.int .i64 (Neg.neg (1:Int))))))) [])) (by kernel_rfl) ?_
  simp only [zy]
  subst hI
  simp only [nrmA,nrmB]
  generalize hH:([48,49,50,51,52,53,54,55,56,57,97,98,99,100,101,102]:Str)=H at *
  have hHl:H.length=16:=by rw [← hH];rfl
  have hcut:j<16→(H.drop j).take (((j:Int)+1).toNat - j)=[H.getD j 0]:=fun h=>by
    rw [show((j:Int)+1).toNat - j=1 by omega,List.drop_eq_getElem_cons (by omega),List.take_succ_cons,List.take_zero]
    simp [hHl,h]
  have hq:j<16→(u=(H.drop j).take (((j:Int)+1).toNat - j)↔x=H.getD j 0):=fun h=>by
    rw [hcut h,hu1];simp
  (repeat' (first|refine And.intro ?_ ?_|intro _))<;>first|omega|exact True.intro|exact False.elim ‹False›|skip
  all_goals first
    |omega
    |exact(f1 ⟨j,by omega⟩ ((hq (by omega)).1 ‹_›)).symm
    | (refine hA (j+1) ⟨by omega,fun j' hj'=> ?_⟩ (by omega)
       rcases Nat.lt_or_ge j'.1 j with hlt|hge
       · exact h2 j' hlt
       · rw [show j'.1=j by omega];exact fun e=>‹¬ u=_› ((hq (by omega)).2 e))
    |exact(f2 fun j'=>h2 j' (by have:=j'.2;omega)).symm
def WO (I:Alg) (args:List D) (hp:List HO):Option CT:=match args,hp with
  |[.v (.one (.p (.int .u8 k)))],[]=>(fun(k:Int)=>(some (.one ⟨I.hid (0≤k∧k≤255),(.ret (.v (.one (.p (.int .i64 (I.hid (hexK k))))))),[]⟩):Option CT)) k
  |_,_=>none
theorem zdB:zD Tryz.prog 74 (WO alg):=by
  intro args hp r h
  unfold WO at h
  split at h
  · cases h;exact fun hn=>zkU _ hn
  · cases h
def WN:Know Tryz.prog:=⟨74,WO,zdB⟩
def WM:Know Tryz.prog:=⟨74,fun I=>zH I (WO I),zf zdB⟩
theorem zaV (s:Str):Spc Tryz.prog 56 [.v (.one (.p (.str s)))] [] (.ret (.tup [(.one (.p (.int .i64 ((numA s 16 6).1)))),(.one (.p (.bool ((numA s 16 6).2))))])) []:=by
  generalize hr:numA s 16 6=r
  refine spcG zi mixed Tryz.func56 (by kernel_rfl) { keep:=some [0,2,3,4,5]} [WN,WM] (by kernel_rfl) ?_
  intro I X hI hX
  refine zh (.br (I.ilt (I.len (α:=UInt8) s) 1) (.fin (.ret (.tup [(.one (.p (.int .i64 0))),(.one (.p (.bool Bool.false)))])) []) (.br (I.ilt 6 (I.len (α:=UInt8) s)) (.fin (.ret (.tup [(.one (.p (.int .i64 0))),(.one (.p (.bool Bool.false)))])) []) (.code 0 [1,1,1,0,1,0] ⟨[(5,(.v (.one (.p (.int .i64 0))))),(4,(.v (.one (.p (.int .i64 0))))),(3,(.v (.one (.p (.val (.bool .false)))))),(2,(.v (.one (.p (.int .i64 0))))),(0,(.v (.one (.p (.str s)))))],[],33,none⟩))) (by kernel_rfl) ?_
  simp only [zy]
  have hne:s≠[]→¬ (6:Int)<s.length→numG 16 0 s=r:=fun h1 h2=>by rw [← hr,numA,if_neg (fun h=>by rcases h with h|h;exact h1 h;exact h2 h)]
  have hyes:(s=[]∨(6:Int)<s.length)→r=(0,false):=fun h=>by rw [← hr,numA,if_pos h]
  refine⟨fun c1=> ?_,fun c1=>⟨fun c2=> ?_,fun c2=> ?_⟩⟩
  · subst hI
    simp only [nrmA,nrmB] at c1
    rw [hyes (.inl (List.eq_nil_of_length_eq_zero (by omega)))]
    simp
  · subst hI
    simp only [nrmA,nrmB] at c2
    rw [hyes (.inr c2)]
    simp
  have d1:s≠[]:=by
    subst hI
    simp only [nrmA,nrmB] at c1
    rintro rfl
    simp at c1
  have d2:s.length≤6:=by
    subst hI
    simp only [nrmA,nrmB] at c2
    omega
  refine zG hI zi mixed [WN,WM] hX [0,4,5] (fun(g:Nat × Int)=>match g with|(i,n)=>i≤s.length∧0≤n∧n≤top9 i∧numG 16 n (s.drop i)=r) (fun(g:Nat × Int)=>match g with|(i,n)=>⟨[(0,.v (.one (.p (.str s)))),(4,.v (.one (.p (.int .i64 n)))),(5,.v (.one (.p (.int .i64 i))))],[],33,none⟩) (fun(g:Nat × Int)=>match g with|(i,n)=>s.length - i) (0,0) (by kernel_rfl) (by kernel_rfl) ?_ ?_
  · exact⟨Nat.zero_le _,Int.le_refl _,Int.le_refl _,hne d1 (by omega)⟩
  rintro⟨i,n⟩ ⟨h1,h2,h3,h4⟩ A hA
  simp only at hA
  refine zh (let y0:=I.b2i (I.get (α:=UInt8) s 0 (Nat.cast i));let y1:=I.hid (α:=(Prop)) (And (LE.le (0:Int) y0) (LE.le y0 (255:Int)));let y2:=I.add (I.mul 16 n) (I.hid (α:=Int) (hexK y0));let y3:=I.inb (Nat.cast i) (I.len (α:=UInt8) s);.br (I.ilt (Nat.cast i) (I.len (α:=UInt8) s)) (.need y3 (.need y1 (.br (I.ilt (I.hid (α:=Int) (hexK y0)) 0) (.fin (.ret (.tup [(.one (.p (.int .i64 0))),(.one (.p (.bool Bool.false)))])) []) (.need (I.inr Go.IntKind.i64 (I.mul 16 n)) (.need y3 (.need y1 (.need (I.inr Go.IntKind.i64 y2) (.need (I.inr Go.IntKind.i64 (I.add (Nat.cast i) 1)) (.need (A ⟨[(0,(.v (.one (.p (.str s))))),(4,(.v (.one (.p (.int .i64 y2))))),(5,(.v (.one (.p (.int .i64 (I.add (Nat.cast i) 1))))))],[],33,none⟩) .qed))))))))) (.fin (.ret (.tup [(.one (.p (.int .i64 n))),(.one (.p (.bool Bool.true)))])) [])) (by kernel_rfl) ?_
  simp only [zy]
  subst hI
  simp only [nrmA,nrmB]
  have hb:=ve (s.getD i 0)
  have hk:=Qa hb
  have hdg:=TY hb
  rw [Int.toNat_natCast,UInt8.ofNat_toNat] at hdg
  have hd:i<s.length→_:=fun h=>Yr (base:=16) (n:=n) h
  have ht:i≤9:=by omega
  have ht:=SG ht
  have ht2:top9 (i+1)=16 * top9 i+15:=rfl
  generalize s.getD i 0=x at *
  try rw [hdg]
  generalize hexK (x.toNat:Int)=k at *
  simp only [Int.mul_comm 16 n,decide_eq_true_eq,decide_eq_false_iff_not]
  (repeat' (first|refine And.intro ?_ ?_|intro _))<;>first|omega|exact True.intro|exact False.elim ‹False›|skip
  all_goals first
    |omega
    |decide
    |(rw [← h4,hd (by omega),if_pos (by omega)])
    |(refine hA (i+1,_) ⟨by simp only;omega,by simp only;omega,by simp only;omega,?_⟩ (by simp only;omega);rw [← h4,hd (by omega),if_neg (by omega)])
    |(rw [← h4,List.drop_of_length_le (by omega)];rfl)
def wE (I:Alg) (args:List D) (hp:List HO):Option CT:=match args,hp with
  |[.v (.one (.p (.str s)))],[]=>(fun(s:Str)=>(some (.one ⟨I.hid (True),(.ret (.tup [(.one (.p (.int .i64 (I.hid ((numA s 16 6).1))))),(.one (.p (.bool (I.hid ((numA s 16 6).2)))))])),[]⟩):Option CT)) s
  |_,_=>none
theorem Zx:zD Tryz.prog 56 (wE alg):=by
  intro args hp r h
  unfold wE at h
  split at h
  · cases h;exact fun hn=>zaV _
  · cases h
def uP:Know Tryz.prog:=⟨56,wE,Zx⟩
def uO:Know Tryz.prog:=⟨56,fun I=>zH I (wE I),zf Zx⟩
theorem zb9 (s:Str):Spc Tryz.prog 105 [.v (.one (.p (.str s)))] [] (.ret (.tup [(.one (.p (.int .i64 ((numA s 16 6).1)))),(.one (.p (.bool ((numA s 16 6).2))))])) []:=by
  refine spcG zi mixed Tryz.func105 (by kernel_rfl) { keep:=some [0,2,3]} [sK,sJ,VK,VJ] (by kernel_rfl) ?_
  intro I X hI hX
  refine zh (.need (I.hid (α:=(Prop)) True) (.fin (.ret (.tup [(.one (.p (.int .i64 (I.hid (α:=Int) (Prod.fst (numA s (16:Int) (6:Int))))))),(.one (.p (.bool (I.hid (α:=Bool) (Prod.snd (numA s (16:Int) (6:Int)))))))])) [])) (by kernel_rfl) ?_
  simp only [zy]
  subst hI
  simp only [nrmA,nrmB]
  try trivial
def wZ (I:Alg) (args:List D) (hp:List HO):Option CT:=match args,hp with
  |[.v (.one (.p (.str s)))],[]=>(fun(s:Str)=>(some (.one ⟨I.hid (True),(.ret (.tup [(.one (.p (.int .i64 (I.hid ((numA s 16 6).1))))),(.one (.p (.bool (I.hid ((numA s 16 6).2)))))])),[]⟩):Option CT)) s
  |_,_=>none
theorem YS:zD Tryz.prog 105 (wZ alg):=by
  intro args hp r h
  unfold wZ at h
  split at h
  · cases h;exact fun hn=>zb9 _
  · cases h
def Qx:Know Tryz.prog:=⟨105,wZ,YS⟩
def Qw:Know Tryz.prog:=⟨105,fun I=>zH I (wZ I),zf YS⟩
end Go.Proofs.YtmibhbdfigpkmaaGreatDoor
namespace Go.Proofs.YtmibhbdfigpkmaaGreatDoor
open Go Go.Sep Go.Ab
theorem RS {r:Str} {s:Ln} (h:xE ln0 r=.more s):zu r=([],0,false,0):=by
  have:=RU r;rw [h] at this;exact this.1
theorem VZ {r t rest:Str} (h:xE ln0 r=.line t rest): ∃ n:Nat,zu r=(t,(n:Int),true,0)∧n≤r.length∧0<n∧rest=r.drop n:=by
  have:=RU r;rw [h] at this
  obtain⟨n,h1,h2⟩:=this
  exact⟨n,by rw [zu,h1];simp,h2⟩
theorem zdk {r rest:Str} {e:Int} (h:xE ln0 r=.bad e rest): ∃ n:Nat,zu r=([],(n:Int),false,e)∧e≠0∧n≤r.length∧0<n∧rest=r.drop n:=by
  have:=RU r;rw [h] at this
  obtain⟨n,h1,h2⟩:=this
  exact⟨n,by rw [zu,h1];simp,h2⟩
theorem xY (r:Str): ∃ n:Nat,(zu r).2.1=(n:Int)∧n≤r.length∧((zu r).2.2.1=true∨(zu r).2.2.2≠0→0<n)∧((zu r).2.2.1=false→(zu r).2.2.2=0→n=0)∧((zu r).2.2.1=true→(zu r).2.2.2=0):=by
  cases h:xE ln0 r with
  |more s=>rw [RS h];exact⟨0,rfl,Nat.zero_le _,by simp,by simp,by simp⟩
  |line t rest=>obtain⟨n,h1,h2,h3,_⟩:=VZ h;rw [h1];exact⟨n,rfl,h2,fun _=>h3,by simp,by simp⟩
  |bad e rest=>obtain⟨n,h1,h2,h3,h4,_⟩:=zdk h;rw [h1];exact⟨n,rfl,h3,fun _=>h4,fun _ h=>absurd h h2,by simp⟩
theorem zdp {s:Ln} {c:UInt8} (h:(lnF s c).2.2.2=0):(lnF s c).1.code=0:=by
  unfold lnF at h ⊢
  split
  · rename_i h1;rw [if_pos h1] at h;exact h
  rename_i h1
  rw [if_neg h1] at h
  split
  · rename_i h2
    rw [if_pos h2] at h
    split
    · rfl
    · rename_i h3;rw [if_neg h3] at h;cases h
  rename_i h2
  rw [if_neg h2] at h
  split
  · rename_i h3;rw [if_pos h3] at h;cases h
  rename_i h3
  rw [if_neg h3] at h
  split
  · exact Decidable.not_not.1 h1
  rename_i h4
  rw [if_neg h4] at h
  split
  · rename_i h5;rw [if_pos h5] at h;cases h
  rename_i h5
  rw [if_neg h5] at h
  split
  · rename_i h6;rw [if_pos h6] at h;cases h
  · exact Decidable.not_not.1 h1
theorem zdo {s:Ln} {c:UInt8} (h:(lnF s c).2.2.1=true) (h0:s.code=0):(lnF s c).2.2.2=0∧(lnF s c).1=ln0:=by
  unfold lnF at h ⊢
  rw [if_neg (by simp [h0])] at h ⊢
  split
  · rename_i h2
    rw [if_pos h2] at h
    split
    · exact⟨rfl,rfl⟩
    · rename_i h3;rw [if_neg h3] at h;cases h
  rename_i h2
  rw [if_neg h2] at h
  split at h
  · cases h
  split at h
  · cases h
  split at h
  · cases h
  split at h
  · cases h
  · cases h
def yL (line:Str):Int × Bool:=numA (Lib.trimS (cutB line 59).1 [32,9]) 16 6
theorem VO: ∀ (s:Str) (n:Int),0≤n→0≤(numG 16 n s).1
  |[],n,h=>h
  | c::l,n,h=>by
    rw [numG]
    split
    · exact Int.le_refl _
    · exact VO l _ (by omega)
theorem vV (t:Str):0≤(yL t).1:=by
  unfold yL numA
  split
  · exact Int.le_refl _
  · exact VO _ _ (Int.le_refl _)
def ch0:Ch:=⟨ln0,0,0,0,0,0⟩
def chL (s:Ch) (t:Str):Ch × Int:=
  if s.pos=2 then(if t=[] then({ s with pos:=0},0) else(s,5))
  else if s.pos=0 then
    (if(yL t).2=false then(s,7)
    else if 4000 - s.all<(yL t).1 then(s,4)
    else if(yL t).1=0 then({ s with pos:=3},0)
    else({ s with pos:=1,left:=(yL t).1},0))
  else if s.pos=3 then
    (if t=[] then({ s with pos:=4},0)
    else if s.tails=16 then(s,8)
    else({ s with tails:=s.tails+1},(zM t).2))
  else(s,0)
def chF (s:Ch) (c:UInt8):Ch × Str × Bool × Int:=
  if s.code≠0 then(s,[],false,s.code)
  else if s.pos=4 then({ s with code:=18},[],false,18)
  else if s.pos=1 then({ s with left:=s.left - 1,all:=s.all+1,pos:=if s.left - 1=0 then 2 else 1},[c],false,0)
  else if(lnF s.ln c).2.2.2≠0 then({ s with ln:=(lnF s.ln c).1,code:=(lnF s.ln c).2.2.2},[],false,(lnF s.ln c).2.2.2)
  else if(lnF s.ln c).2.2.1=true then
    (if(chL { s with ln:=(lnF s.ln c).1} (lnF s.ln c).2.1).2≠0 then({ (chL { s with ln:=(lnF s.ln c).1} (lnF s.ln c).2.1).1 with code:=(chL { s with ln:=(lnF s.ln c).1} (lnF s.ln c).2.1).2},[],false,(chL { s with ln:=(lnF s.ln c).1} (lnF s.ln c).2.1).2)
    else((chL { s with ln:=(lnF s.ln c).1} (lnF s.ln c).2.1).1,[],decide ((chL { s with ln:=(lnF s.ln c).1} (lnF s.ln c).2.1).1.pos=4),0))
  else({ s with ln:=(lnF s.ln c).1},[],false,0)
inductive ChR where
  |more (out:Str) (held:Nat)
  |over (out rest:Str)
  |bad (out:Str) (e:Int) (rest:Str)
def ChR.pre (o:Str):ChR→ChR
  |.more p h=>.more (o++p) h
  |.over p r=>.over (o++p) r
  |.bad p e r=>.bad (o++p) e r
def ChR.fg:ChR→ChR
  |.more p _=>.more p 0
  |x=>x
theorem ChR.pre_nil (x:ChR):x.pre []=x:=by cases x<;>simp [ChR.pre]
theorem ChR.zfZ (o p:Str) (x:ChR):(x.pre o).pre p=x.pre (p++o):=by cases x<;>simp [ChR.pre]
theorem ChR.zk2 (o:Str) (x:ChR):(x.pre o).fg=x.fg.pre o:=by cases x<;>rfl
def wS (s:Ch):Str→ChR
  |[]=>.more [] 0
  | c::r=>
    if(chF s c).2.2.2≠0 then .bad [] (chF s c).2.2.2 r
    else if(chF s c).2.2.1=true then .over [] r
    else(wS (chF s c).1 r).pre (chF s c).2.1
def Vf:Nat→Int→Str→ChR
  |0,_,r=>.more [] r.length
  | f+1,k,r=>
    if(zu r).2.2.2≠0 then .bad [] (zu r).2.2.2 (r.drop (zu r).2.1.toNat)
    else if(zu r).2.2.1=false then .more [] r.length
    else if(zu r).1=[] then .over [] (r.drop (zu r).2.1.toNat)
    else if k=16 then .bad [] 8 (r.drop (zu r).2.1.toNat)
    else if(zM (zu r).1).2≠0 then .bad [] (zM (zu r).1).2 (r.drop (zu r).2.1.toNat)
    else Vf f (k+1) (r.drop (zu r).2.1.toNat)
def endR (k:Str→ChR) (r:Str):ChR:=
  if(zu r).2.2.2≠0 then .bad [] (zu r).2.2.2 (r.drop (zu r).2.1.toNat)
  else if(zu r).2.2.1=false then .more [] r.length
  else if(zu r).1=[] then k (r.drop (zu r).2.1.toNat)
  else .bad [] 5 (r.drop (zu r).2.1.toNat)
def UI:Nat→Int→Str→ChR
  |0,_,r=>.more [] r.length
  | f+1,a,r=>
    if(zu r).2.2.2≠0 then .bad [] (zu r).2.2.2 (r.drop (zu r).2.1.toNat)
    else if(zu r).2.2.1=false then .more [] r.length
    else if(yL (zu r).1).2=false then .bad [] 7 (r.drop (zu r).2.1.toNat)
    else if 4000 - a<(yL (zu r).1).1 then .bad [] 4 (r.drop (zu r).2.1.toNat)
    else if(yL (zu r).1).1=0 then Vf f 0 (r.drop (zu r).2.1.toNat)
    else if((r.drop (zu r).2.1.toNat).length:Int)<(yL (zu r).1).1 then .more (r.drop (zu r).2.1.toNat) 0
    else(endR (UI f (a+(yL (zu r).1).1)) ((r.drop (zu r).2.1.toNat).drop (yL (zu r).1).1.toNat)).pre ((r.drop (zu r).2.1.toNat).take (yL (zu r).1).1.toNat)
theorem Si {s:Ch} (hc:s.code=0) (hp:s.pos=0∨s.pos=2∨s.pos=3): ∀ (r:Str) (l:Ln),l.code=0→wS { s with ln:=l} r=match xE l r with
    |.more _=>.more [] 0
    |.bad e rest=>.bad [] e rest
    |.line t rest=>if(chL { s with ln:=ln0} t).2≠0 then .bad [] (chL { s with ln:=ln0} t).2 rest else if(chL { s with ln:=ln0} t).1.pos=4 then .over [] rest else wS (chL { s with ln:=ln0} t).1 rest
  |[],l,hl=>rfl
  | c ::r,l,hl=>by
    have e0:chF { s with ln:=l} c=(if(lnF l c).2.2.2≠0 then({ s with ln:=(lnF l c).1,code:=(lnF l c).2.2.2},[],false,(lnF l c).2.2.2)
      else if(lnF l c).2.2.1=true then
        (if(chL { s with ln:=(lnF l c).1} (lnF l c).2.1).2≠0 then({ (chL { s with ln:=(lnF l c).1} (lnF l c).2.1).1 with code:=(chL { s with ln:=(lnF l c).1} (lnF l c).2.1).2},[],false,(chL { s with ln:=(lnF l c).1} (lnF l c).2.1).2)
        else((chL { s with ln:=(lnF l c).1} (lnF l c).2.1).1,[],decide ((chL { s with ln:=(lnF l c).1} (lnF l c).2.1).1.pos=4),0))
      else({ s with ln:=(lnF l c).1},[],false,0)):=by
      unfold chF
      rw [if_neg (show ¬ (s.code≠0) by rw [hc];simp),if_neg (show ¬ s.pos=4 by omega),if_neg (show ¬ s.pos=1 by omega)]
    by_cases h1:(lnF l c).2.2.1=true
    · obtain⟨h2,h3⟩:=zdo h1 hl
      rw [if_neg (by simp [h2]),if_pos h1,h3] at e0
      rw [wS,e0,xE,if_pos h1]
      show _=(if(chL { s with ln:=ln0} (lnF l c).2.1).2≠0 then ChR.bad [] (chL { s with ln:=ln0} (lnF l c).2.1).2 r else if(chL { s with ln:=ln0} (lnF l c).2.1).1.pos=4 then .over [] r else wS (chL { s with ln:=ln0} (lnF l c).2.1).1 r)
      generalize chL { s with ln:=ln0} (lnF l c).2.1=z
      by_cases h4:z.2=0
      · by_cases h5:z.1.pos=4
        · simp [h4,h5]
        · simp [h4,h5,ChR.pre_nil]
      · simp [h4]
    · by_cases h2:(lnF l c).2.2.2=0
      · have ih:=Si hc hp r (lnF l c).1 (zdp h2)
        rw [if_neg (by simp [h2]),if_neg h1] at e0
        rw [wS,e0,xE,if_neg h1]
        simp only [h2,ne_eq,not_true_eq_false,if_false,Bool.false_eq_true,ChR.pre_nil]
        exact ih
      · rw [if_pos h2] at e0
        rw [wS,e0,xE,if_neg h1,if_pos h2]
        simp [h2]
theorem ZQ {s:Ch} (hc:s.code=0) (hp:s.pos=0∨s.pos=2∨s.pos=3) (hl:s.ln=ln0) (r:Str):wS s r=
    if(zu r).2.2.2≠0 then .bad [] (zu r).2.2.2 (r.drop (zu r).2.1.toNat)
    else if(zu r).2.2.1=false then .more [] 0
    else if(chL s (zu r).1).2≠0 then .bad [] (chL s (zu r).1).2 (r.drop (zu r).2.1.toNat)
    else if(chL s (zu r).1).1.pos=4 then .over [] (r.drop (zu r).2.1.toNat)
    else wS (chL s (zu r).1).1 (r.drop (zu r).2.1.toNat):=by
  have e:s= { s with ln:=ln0}:=by rw [← hl]
  have h:=Si hc hp r ln0 rfl
  rw [← e] at h
  rw [h]
  cases hr:xE ln0 r with
  |more x=>rw [RS hr];simp
  |line t rest=>obtain⟨n,h1,h2,h3,rfl⟩:=VZ hr;rw [h1];simp
  |bad e rest=>obtain⟨n,h1,h2,h3,h4,rfl⟩:=zdk hr;rw [h1];simp [h2]
theorem Sj: ∀ (r:Str) (s:Ch) (n:Nat),s.code=0→s.pos=1→s.left=((n+1:Nat):Int)→wS s r=if r.length<n+1 then .more r 0 else(wS { s with pos:=2,left:=0,all:=s.all+(n+1:Nat)} (r.drop (n+1))).pre (r.take (n+1))
  |[],s,n,hc,hp,hl=>by rw [if_pos (by simp)];rfl
  | c ::r,s,n,hc,hp,hl=>by
    have e0:chF s c=({ s with left:=s.left - 1,all:=s.all+1,pos:=if s.left - 1=0 then 2 else 1},[c],false,0):=by
      unfold chF
      rw [if_neg (by simp [hc]),if_neg (by omega),if_pos hp]
    rw [wS,e0]
    simp only [ne_eq,not_true_eq_false,if_false,Bool.false_eq_true]
    cases n with
    | zero=>
      rw [if_pos (by omega),if_neg (by simp)]
      simp only [hl]
      rfl
    | succ n=>
      rw [if_neg (by omega)]
      have ih:=Sj r { s with left:=s.left - 1,all:=s.all+1,pos:=1} n hc rfl (by show s.left - 1=_;omega)
      rw [ih]
      simp only [List.length_cons,List.drop_succ_cons,List.take_succ_cons]
      by_cases h:r.length<n+1
      · rw [if_pos h,if_pos (by omega)];rfl
      · rw [if_neg h,if_neg (by omega),ChR.zfZ]
        congr 2
        simp only [Ch.mk.injEq,true_and,and_true]
        omega
theorem ziF {s:Ch} (hp:s.pos=3) (t:Str):chL s t=(if t=[] then({ s with pos:=4},0) else if s.tails=16 then(s,8) else({ s with tails:=s.tails+1},(zM t).2)):=by
  unfold chL
  rw [if_neg (by omega),if_neg (by omega),if_pos hp]
theorem zcJ: ∀ (f:Nat) (r:Str) (s:Ch),r.length<f→s.code=0→s.pos=3→s.ln=ln0→wS s r=(Vf f s.tails r).fg
  |0,r,s,hf,_,_,_=>by omega
  | f + 1, r, s,hf,hc,hp,hl=>by
    rw [ZQ hc (.inr (.inr hp)) hl,Vf,ziF hp]
    obtain⟨n,hn,h1,h2,h3,h4⟩:=xY r
    rw [hn,Int.toNat_natCast]
    have ih:=fun(hlt:(r.drop n).length<f)=>zcJ f (r.drop n) { s with pos:=3,tails:=s.tails+1} hlt hc rfl hl
    rw [List.length_drop] at ih
    generalize zu r=x at *
    obtain⟨t,n',ok,e⟩:=x
    simp only at *
    by_cases c1:e=0
    · subst c1
      cases ok with
      |false=>simp [ChR.fg]
      | true=>
        have hpos:=h2 (.inl rfl)
        by_cases c3:t=[]
        · simp [c3,ChR.fg]
        · by_cases c4:s.tails=16
          · simp [c3,c4,ChR.fg]
          · by_cases c5:(zM t).2=0
            · simp only [c3,c4,c5,hp,ne_eq,not_true_eq_false,if_false,if_true,Bool.true_eq_false,show ¬ (3:Int)=4 by decide]
              exact ih (by omega)
            · simp [c3,c4,c5,ChR.fg]
    · simp [c1,ChR.fg]
theorem zcK: ∀ (f:Nat) (r:Str) (s:Ch),r.length<f→s.code=0→s.pos=0→s.ln=ln0→s.tails=0→wS s r=(UI f s.all r).fg
  |0,r,s,hf,_,_,_,_=>by omega
  | f + 1, r, s,hf,hc,hp,hl,ht=>by
    have hL: ∀ t,chL s t=(if(yL t).2=false then(s,7) else if 4000 - s.all<(yL t).1 then(s,4) else if(yL t).1=0 then({ s with pos:=3},0) else({ s with pos:=1,left:=(yL t).1},0)):=fun t=>by
      unfold chL
      rw [if_neg (by omega),if_pos hp]
    rw [ZQ hc (.inl hp) hl,UI,hL]
    obtain⟨n,hn,h1,h2,h3,h4⟩:=xY r
    rw [hn,Int.toNat_natCast]
    have hm0:=vV (zu r).1
    have hrl:(r.drop n).length=r.length - n:=List.length_drop
    generalize r.drop n=q at *
    generalize zu r=x at *
    obtain⟨t,n',ok,e⟩:=x
    simp only at *
    by_cases c1:e=0
    · subst c1
      cases ok with
      |false=>simp [ChR.fg]
      | true=>
        have hpos:=h2 (.inl rfl)
        by_cases c3:(yL t).2=false
        · simp [c3,ChR.fg]
        by_cases c4:4000 - s.all<(yL t).1
        · simp [c3,c4,ChR.fg]
        by_cases c5:(yL t).1=0
        · have:=zcJ f q { s with pos:=3} (by omega) hc rfl hl
          rw [c5] at c4
          simp only [c3,c4,c5,ne_eq,not_true_eq_false,if_false,if_true,Bool.true_eq_false,show ¬ (3:Int)=4 by decide]
          rw [this]
          show(Vf f s.tails q).fg=_
          rw [ht]
        generalize hsz:(yL t).1=m at *
        obtain⟨k,rfl⟩: ∃ k:Nat,m=((k+1:Nat):Int):=⟨(m - 1).toNat,by omega⟩
        simp only [c3,c4,c5,ne_eq,not_true_eq_false,if_false,if_true,Bool.true_eq_false,show ¬ (1:Int)=4 by decide]
        rw [Sj q { s with pos:=1,left:=((k+1:Nat):Int)} k hc rfl rfl,Int.toNat_natCast]
        by_cases c6:q.length<k+1
        · rw [if_pos c6,if_pos (by omega)];rfl
        rw [if_neg c6,if_neg (by omega),ChR.zk2]
        congr 1
        have hd:(q.drop (k+1)).length=q.length - (k+1):=List.length_drop
        generalize q.drop (k+1)=q2 at *
        rw [ZQ (by exact hc) (.inr (.inl rfl)) (by exact hl),endR]
        obtain⟨n2,hn2,g1,g2,g3,g4⟩:=xY q2
        rw [hn2,Int.toNat_natCast]
        have ih:=fun(hlt:(q2.drop n2).length<f)=>zcK f (q2.drop n2) { s with pos:=0,left:=0,all:=s.all+((k+1:Nat):Int)} hlt hc rfl hl ht
        rw [List.length_drop] at ih
        unfold chL
        simp only [if_true]
        generalize zu q2=x2 at *
        obtain⟨t2,n2',ok2,e2⟩:=x2
        simp only at *
        by_cases d1:e2=0
        · subst d1
          cases ok2 with
          |false=>simp [ChR.fg]
          | true=>
            by_cases d3:t2=[]
            · simp only [d3,ne_eq,not_true_eq_false,if_false,if_true,Bool.true_eq_false,show ¬ (0:Int)=4 by decide]
              exact ih (by omega)
            · simp [d3,ChR.fg]
        · simp [d1,ChR.fg]
    · simp [c1,ChR.fg]
def zS (b:Str):ChR:=UI (b.length+1) 0 b
theorem Y6 (b:Str):wS ch0 b=(zS b).fg:=zcK (b.length+1) b ch0 (Nat.lt_succ_self _) rfl rfl rfl rfl
theorem ChR.zjC {o o' rest:Str} {e:Int} {x:ChR} (h:x.pre o=.bad o' e rest): ∃ p,x=.bad p e rest∧o'=o++p:=by
  cases x<;>simp only [ChR.pre,ChR.bad.injEq,reduceCtorEq] at h
  obtain⟨rfl,rfl,rfl⟩:=h
  exact⟨_,rfl,rfl⟩
theorem ChR.zc3 {o o' rest:Str} {x:ChR} (h:x.pre o=.over o' rest): ∃ p,x=.over p rest∧o'=o++p:=by
  cases x<;>simp only [ChR.pre,ChR.over.injEq,reduceCtorEq] at h
  obtain⟨rfl,rfl⟩:=h
  exact⟨_,rfl,rfl⟩
theorem XA: ∀ {r:Str} {s:Ch} {o rest:Str} {e:Int},wS s r=.bad o e rest→rest.length<r.length∧e≠0
  |[],s,o,rest,e,h=>by cases h
  | c ::r,s,o,rest,e,h=>by
    rw [wS] at h
    split at h
    · rename_i h0;cases h;exact⟨by simp,h0⟩
    split at h
    · cases h
    · obtain⟨p,h1,_⟩:=ChR.zjC h
      have:=XA h1
      exact⟨by rw [List.length_cons];omega,this.2⟩
theorem Z8: ∀ {r:Str} {s:Ch} {o rest:Str},wS s r=.over o rest→rest.length<r.length
  |[],s,o,rest,h=>by cases h
  | c ::r,s,o,rest,h=>by
    rw [wS] at h
    split at h
    · cases h
    split at h
    · cases h;simp
    · obtain⟨p,h1,_⟩:=ChR.zc3 h
      have:=Z8 h1
      rw [List.length_cons];omega
def rV (b:Str):ChR→Int
  |.more _ h=>(b.length:Int) - h
  |.over _ r=>(b.length:Int) - r.length
  |.bad _ _ r=>(b.length:Int) - r.length
def outR:ChR→Str
  |.more o _=>o
  |.over o _=>o
  |.bad o _ _=>o
def isR:ChR→Bool
  |.over _ _=>true
  |_=>false
def ZP:ChR→Int
  |.bad _ e _=>e
  |_=>0
theorem zd1 {s:Ch} {c:UInt8}:(chF s c).2.1.length≤1∧((chF s c).2.2.2≠0→(chF s c).2.1=[])∧((chF s c).2.2.1=true→(chF s c).2.2.2=0∧(chF s c).2.1=[]∧(chF s c).1.pos=4∧(chF s c).1.code=0)∧((chF s c).2.2.2≠0→(chF s c).2.2.1=false∧(chF s c).1.code=(chF s c).2.2.2):=by
  unfold chF
  split
  · simp
  rename_i h0
  split
  · simp
  split
  · simp
  split
  · simp
  split
  · split
    · simp
    · refine⟨by simp,by simp,fun h=>⟨rfl,rfl,by simpa using h,?_⟩,fun h=>absurd rfl h⟩
      have: ∀ (x:Ch) (t:Str),x.code=0→(chL x t).1.code=0:=by
        intro x t hx
        unfold chL
        split
        · split<;>exact hx
        split
        · split
          · exact hx
          split
          · exact hx
          split<;>exact hx
        split
        · split
          · exact hx
          split<;>exact hx
        · exact hx
      exact this _ _ (by simpa using h0)
  · simp
end Go.Proofs.YtmibhbdfigpkmaaGreatDoor
namespace Go.Proofs.YtmibhbdfigpkmaaGreatDoor
open Go Go.Sep Go.Ab
set_option maxRecDepth 100000
theorem vz (c:UInt8): ∀ (s:Str) (i:Int),yj [c] s i=if Lib.indexByte s c= -1 then -1 else i+Lib.indexByte s c
  |[],i=>by simp [yj,Lib.indexByte,List.isPrefixOf]
  | x ::l,i=>by
    have ih:=vz c l (i+1)
    have hb:=yN l c
    have hp:([c]:Str).isPrefixOf (x::l)=(c == x):=by simp [List.isPrefixOf]
    rw [yj,hp,ih,Lib.indexByte]
    by_cases h:x=c
    · subst h;simp
    · have h1:(c == x)=false:=by simpa using fun e=>h e.symm
      have h2:(x == c)=false:=by simpa using h
      simp only [h1,h2,Bool.false_eq_true,if_false]
      by_cases h3:Lib.indexByte l c= -1
      · simp [h3]
      · simp only [h3,beq_iff_eq,if_false]
        rw [if_neg (by omega)]
        omega
theorem zeN (s:Str):yj [58] s 0=Lib.indexByte s 58:=by
  rw [vz]
  split
  · rename_i h;rw [h]
  · omega
theorem ziw (s:Str) (hneed:s.length≤1000000):Spc Tryz.prog 26 [.v (.one (.p (.str s)))] [] (.ret (.tup [(.agg [(.p (.str ((zM s).1.name))),(.p (.str ((zM s).1.value)))]),(.one (.p (.int .i64 ((zM s).2))))])) []:=by
  generalize hr:zM s=r
  obtain⟨⟨a,b⟩,d⟩:=r
  refine spcG zi mixed Tryz.func26 (by kernel_rfl) { keep:=some [0,2,3,4]} [xP,xO,tZ,tY,uX,uV,yX,yV] (by kernel_rfl) ?_
  intro I X hI hX
  refine zh (let y0:=I.hid (α:=Int) (yj ([58]:Str) s (0:Int));let y1:=I.cut (α:=UInt8) s (I.add y0 1) (I.len (α:=UInt8) s);let y2:=I.cutb (I.add y0 1) (I.len (α:=UInt8) s) (I.len (α:=UInt8) s);let y3:=I.hid (α:=(Prop)) (LE.le (List.length y1) 1000000);let y4:=I.cutb 0 y0 (I.len (α:=UInt8) s);let y5:=I.inr Go.IntKind.i64 (I.add y0 1);.need (I.hid (α:=(Prop)) (And (LE.le (List.length s) 1000000) (LE.le (List.length ([58]:Str)) 1000000))) (.br (I.ilt y0 0) (.fin (.ret (.tup [(.agg [(.p (.str ([]:Str))),(.p (.str ([]:Str)))]),(.one (.p (.int .i64 5)))])) []) (.need y4 (.need (I.hid (α:=(Prop)) (LE.le (List.length (I.cut (α:=UInt8) s 0 y0)) 1000000)) (.br (I.bnot (I.hid (α:=Bool) (yF (I.cut (α:=UInt8) s 0 y0)))) (.fin (.ret (.tup [(.agg [(.p (.str ([]:Str))),(.p (.str ([]:Str)))]),(.one (.p (.int .i64 6)))])) []) (.br (I.ilt 40 y0) (.fin (.ret (.tup [(.agg [(.p (.str ([]:Str))),(.p (.str ([]:Str)))]),(.one (.p (.int .i64 4)))])) []) (.need y5 (.need y2 (.need y3 (.br (I.bnot (I.hid (α:=Bool) (xR y1))) (.fin (.ret (.tup [(.agg [(.p (.str ([]:Str))),(.p (.str ([]:Str)))]),(.one (.p (.int .i64 3)))])) []) (.need y4 (.need y5 (.need y2 (.need y3 (.fin (.ret (.tup [(.agg [(.p (.str (I.cut (α:=UInt8) s 0 y0))),(.p (.str (I.hid (α:=Str) (Go.Lib.trimS y1 ([32,9]:Str)))))]),(.one (.p (.int .i64 0)))])) []))))))))))))))) (by kernel_rfl) ?_
  simp only [zy]
  subst hI
  simp only [nrmA,nrmB]
  rw [zeN]
  have hx:=yN s 58
  simp only [List.length_cons,List.length_nil]
  by_cases h:0≤Lib.indexByte s 58
  · have hcb:cutB s 58=(s.take (Lib.indexByte s 58).toNat,s.drop ((Lib.indexByte s 58).toNat+1),true):=by rw [cutB,if_pos h]
    have e:List.take (s.length - ((Lib.indexByte s 58).toNat+1)) (List.drop ((Lib.indexByte s 58).toNat+1) s)=List.drop ((Lib.indexByte s 58).toNat+1) s:=List.take_of_length_le (by rw [List.length_drop];exact Nat.le_refl _)
    rw [zM,hcb] at hr
    simp only at hr
    rw [show(Lib.indexByte s 58+1).toNat=(Lib.indexByte s 58).toNat+1 by omega,e]
    have l1:(s.take (Lib.indexByte s 58).toNat).length=(Lib.indexByte s 58).toNat:=by rw [List.length_take];omega
    have l2:(s.drop ((Lib.indexByte s 58).toNat+1)).length≤s.length:=by rw [List.length_drop];omega
    generalize s.take (Lib.indexByte s 58).toNat=nm at *
    generalize s.drop ((Lib.indexByte s 58).toNat+1)=vl at *
    rw [if_neg (by decide)] at hr
    (repeat' (first|refine And.intro ?_ ?_|intro _))<;>first|omega|exact True.intro|exact False.elim ‹False›|skip
    all_goals first
      |(rw [if_pos (by assumption)] at hr;cases hr;rfl)
      |(rw [if_neg (by simp [*]),if_pos (by omega)] at hr;cases hr;rfl)
      |(rw [if_neg (by simp [*]),if_neg (by omega),if_pos (by assumption)] at hr;cases hr;rfl)
      |(rw [if_neg (by simp [*]),if_neg (by omega),if_neg (by simp [*])] at hr;cases hr;rfl)
  · have hcb:cutB s 58=(s,[],false):=by rw [cutB,if_neg h]
    rw [zM,hcb] at hr
    simp only [if_true] at hr
    cases hr
    exact⟨⟨hneed,by omega⟩,fun _=>rfl,fun h'=>absurd h (by omega)⟩
def Zj (I:Alg) (args:List D) (hp:List HO):Option CT:=match args,hp with
  |[.v (.one (.p (.str s)))],[]=>(fun(s:Str)=>(some (.one ⟨I.hid (s.length≤1000000),(.ret (.tup [(.agg [(.p (.str (I.hid ((zM s).1.name)))),(.p (.str (I.hid ((zM s).1.value))))]),(.one (.p (.int .i64 (I.hid ((zM s).2)))))])),[]⟩):Option CT)) s
  |_,_=>none
theorem TV:zD Tryz.prog 26 (Zj alg):=by
  intro args hp r h
  unfold Zj at h
  split at h
  · cases h;exact fun hn=>ziw _ hn
  · cases h
def vF:Know Tryz.prog:=⟨26,Zj,TV⟩
def vC:Know Tryz.prog:=⟨26,fun I=>zH I (Zj I),zf TV⟩
theorem zeO (n v:Str) (hneed:n.length≤1000000∧v.length≤1000000):Spc Tryz.prog 44 [.v (.agg [(.p (.str n)),(.p (.str v))])] [] (.ret (.tup [(.one (.p (.str ((textF ⟨n,v⟩).1)))),(.one (.p (.int .i64 ((textF ⟨n,v⟩).2))))])) []:=by
  generalize hr:textF ⟨n,v⟩=r
  obtain⟨a,d⟩:=r
  refine spcG zi mixed Tryz.func44 (by kernel_rfl) { keep:=some [0,1,2,3]} [xP,xO,tZ,tY,uX,uV] (by kernel_rfl) ?_
  intro I X hI hX
  refine zh (let y0:=I.add (I.add (I.len (α:=UInt8) n) 2) (I.len (α:=UInt8) v);let y1:=I.hid (α:=(Prop)) (LE.le (List.length v) 1000000);.need (I.hid (α:=(Prop)) (LE.le (List.length n) 1000000)) (.br (I.bnot (I.hid (α:=Bool) (yF n))) (.fin (.ret (.tup [(.one (.p (.str ([]:Str)))),(.one (.p (.int .i64 6)))])) []) (.br (I.ilt 40 (I.len (α:=UInt8) n)) (.fin (.ret (.tup [(.one (.p (.str ([]:Str)))),(.one (.p (.int .i64 4)))])) []) (.need (I.inr Go.IntKind.i64 (I.add (I.len (α:=UInt8) n) 2)) (.need (I.inr Go.IntKind.i64 y0) (.br (I.ilt 200 y0) (.fin (.ret (.tup [(.one (.p (.str ([]:Str)))),(.one (.p (.int .i64 4)))])) []) (.need y1 (.br (I.bnot (I.hid (α:=Bool) (xR v))) (.fin (.ret (.tup [(.one (.p (.str ([]:Str)))),(.one (.p (.int .i64 3)))])) []) (.need y1 (.br (I.bnot (I.seq (I.hid (α:=Str) (Go.Lib.trimS v ([32,9]:Str))) v)) (.fin (.ret (.tup [(.one (.p (.str ([]:Str)))),(.one (.p (.int .i64 3)))])) []) (.need (I.few (I.add (I.len (α:=UInt8) n) (I.len (α:=UInt8) ([58,32]:Str))) 1000000000) (.need (I.few (I.add (I.len (α:=UInt8) (I.app (α:=UInt8) n ([58,32]:Str))) (I.len (α:=UInt8) v)) 1000000000) (.fin (.ret (.tup [(.one (.p (.str (I.app (α:=UInt8) (I.app (α:=UInt8) n ([58,32]:Str)) v)))),(.one (.p (.int .i64 0)))])) []))))))))))))) (by kernel_rfl) ?_
  simp only [zy]
  subst hI
  simp only [nrmA,nrmB]
  simp only [List.length_append,List.length_cons,List.length_nil]
  unfold textF at hr
  simp only at hr
  (repeat' (first|refine And.intro ?_ ?_|intro _))<;>first|omega|exact True.intro|exact False.elim ‹False›|skip
  all_goals first
    |(rw [if_pos (by assumption)] at hr;cases hr;rfl)
    |(rw [if_neg (by simp [*]),if_pos (by omega)] at hr;cases hr;rfl)
    |(rw [if_neg (by simp [*]),if_neg (by omega),if_pos (.inl (by assumption))] at hr;cases hr;rfl)
    |(rw [if_neg (by simp [*]),if_neg (by omega),if_pos (.inr (by assumption))] at hr;cases hr;rfl)
    |(rw [if_neg (by simp [*]),if_neg (by omega),if_neg (by simp [*])] at hr;cases hr;rfl)
def uD (I:Alg) (args:List D) (hp:List HO):Option CT:=match args,hp with
  |[.v (.agg [(.p (.str n)),(.p (.str v))])],[]=>(fun(n v:Str)=>(some (.one ⟨I.hid (n.length≤1000000∧v.length≤1000000),(.ret (.tup [(.one (.p (.str (I.hid ((textF ⟨n,v⟩).1))))),(.one (.p (.int .i64 (I.hid ((textF ⟨n,v⟩).2)))))])),[]⟩):Option CT)) n v
  |_,_=>none
theorem XV:zD Tryz.prog 44 (uD alg):=by
  intro args hp r h
  unfold uD at h
  split at h
  · cases h;exact fun hn=>zeO _ _ hn
  · cases h
def XU:Know Tryz.prog:=⟨44,uD,XV⟩
def XT:Know Tryz.prog:=⟨44,fun I=>zH I (uD I),zf XV⟩
def XK (l:List Fld):Bool:=decide (100<l.length)||l.any fun f=>decide (1000<f.name.length+f.value.length)
theorem zkW (l:List Fld) (hneed: ∀ f ∈ l,f.name.length≤140737488355328∧f.value.length≤140737488355328):Spc Tryz.prog 7 [.v (.one (.p (.list .fld l)))] [] (.ret (.v (.one (.p (.bool (XK l)))))) []:=by
  generalize hr:XK l=r
  refine spcG zi mixed Tryz.func7 (by kernel_rfl) { keep:=some [0,2,3]} [] (by kernel_rfl) ?_
  intro I X hI hX
  refine zh (.br (I.ilt 100 (I.len (α:=Fld) l)) (.fin (.ret (.v (.one (.p (.bool Bool.true))))) []) (.code 0 [1,1,0,1,0] ⟨[(3,(.v (.one (.p (.int .i64 0))))),(2,(.v (.one (.p (.val (.bool .false)))))),(0,(.v (.one (.p (.list .fld l)))))],[],27,none⟩)) (by kernel_rfl) ?_
  simp only [zy]
  refine⟨fun c1=> ?_,fun c1=> ?_⟩
  · subst hI
    simp only [nrmA,nrmB] at c1
    simp only [nrmA,nrmB]
    rw [← hr,XK,decide_eq_true (by omega),Bool.true_or]
  have hl:l.length≤100:=by
    subst hI
    simp only [nrmA,nrmB] at c1
    omega
  have hr2:(l.any fun f=>decide (1000<f.name.length+f.value.length))=r:=by rw [← hr,XK,decide_eq_false (by omega),Bool.false_or]
  refine zG hI zi mixed [] hX [0,3] (fun(i:Nat)=>i≤l.length∧((l.drop i).any fun f=>decide (1000<f.name.length+f.value.length))=r) (fun(i:Nat)=>⟨[(0,.v (.one (.p (.list .fld l)))),(3,.v (.one (.p (.int .i64 i))))],[],27,none⟩) (fun(i:Nat)=>l.length - i) 0 (by kernel_rfl) (by kernel_rfl) ?_ ?_
  · exact⟨Nat.zero_le _,hr2⟩
  rintro i ⟨h1,h2⟩ A hA
  refine zh (let y0:=I.add (I.len (α:=UInt8) (Fld.name (I.get (α:=Fld) l (Fld.mk ([]:Str) ([]:Str)) (Nat.cast i)))) (I.len (α:=UInt8) (Fld.value (I.get (α:=Fld) l (Fld.mk ([]:Str) ([]:Str)) (Nat.cast i))));let y1:=I.inb (Nat.cast i) (I.len (α:=Fld) l);.br (I.ilt (Nat.cast i) (I.len (α:=Fld) l)) (.need y1 (.need y1 (.need y1 (.need y1 (.need (I.inr Go.IntKind.i64 y0) (.br (I.ilt 1000 y0) (.fin (.ret (.v (.one (.p (.bool Bool.true))))) []) (.need (I.inr Go.IntKind.i64 (I.add (Nat.cast i) 1)) (.need (A ⟨[(0,(.v (.one (.p (.list .fld l))))),(3,(.v (.one (.p (.int .i64 (I.add (Nat.cast i) 1))))))],[],27,none⟩) .qed)))))))) (.fin (.ret (.v (.one (.p (.bool Bool.false))))) [])) (by kernel_rfl) ?_
  simp only [zy]
  subst hI
  simp only [nrmA,nrmB]
  have hd:i<l.length→((l.drop i).any fun f=>decide (1000<f.name.length+f.value.length))=(decide (1000<(l.getD i ⟨[],[]⟩).name.length+(l.getD i ⟨[],[]⟩).value.length)||((l.drop (i+1)).any fun f=>decide (1000<f.name.length+f.value.length))):=fun h=>by
    rw [List.drop_eq_getElem_cons h,List.any_cons];simp [h]
  have hxl:i<l.length→(l.getD i ⟨[],[]⟩).name.length≤140737488355328∧(l.getD i ⟨[],[]⟩).value.length≤140737488355328:=fun h=>hneed _ (by
    rw [show l.getD i ⟨[],[]⟩=l[i] by simp [h]]
    exact List.getElem_mem h)
  generalize l.getD i ⟨[],[]⟩=x at *
  (repeat' (first|refine And.intro ?_ ?_|intro _))<;>first|omega|exact True.intro|exact False.elim ‹False›|skip
  all_goals first
    |(have:=hxl (by omega);omega)
    |(rw [← h2,hd (by omega),decide_eq_true (by omega),Bool.true_or])
    |(refine hA (i+1) ⟨by omega,?_⟩ (by omega);rw [← h2,hd (by omega),decide_eq_false (by omega),Bool.false_or])
    |(rw [← h2,List.drop_of_length_le (by omega)];rfl)
def WR (I:Alg) (args:List D) (hp:List HO):Option CT:=match args,hp with
  |[.v (.one (.p (.list .fld l)))],[]=>(fun(l:List Fld)=>(some (.one ⟨I.hid (∀ f ∈ l,f.name.length≤140737488355328∧f.value.length≤140737488355328),(.ret (.v (.one (.p (.bool (I.hid (XK l))))))),[]⟩):Option CT)) l
  |_,_=>none
theorem zdE:zD Tryz.prog 7 (WR alg):=by
  intro args hp r h
  unfold WR at h
  split at h
  · cases h;exact fun hn=>zkW _ hn
  · cases h
def zdD:Know Tryz.prog:=⟨7,WR,zdE⟩
def zdC:Know Tryz.prog:=⟨7,fun I=>zH I (WR I),zf zdE⟩
end Go.Proofs.YtmibhbdfigpkmaaGreatDoor
namespace Go.Proofs.YtmibhbdfigpkmaaGreatDoor
open Go Go.Sep Go.Ab
set_option maxRecDepth 100000
end Go.Proofs.YtmibhbdfigpkmaaGreatDoor
namespace Go.Proofs.YtmibhbdfigpkmaaGreatDoor
open Go Go.Sep Go.Ab
set_option maxRecDepth 100000
def valsF (l:List Fld) (n:Str):List Str:=(l.filter fun f=>decide (lowS f.name=lowS n)).map (·.value)
theorem zlD (l:List Fld) (n:Str) (hneed:l.length≤1000∧n.length≤1000000∧∀ f ∈ l,f.name.length≤1000000∧f.value.length≤1000000):Spc Tryz.prog 36 [.v (.one (.p (.list .fld l))),.v (.one (.p (.str n)))] [] (.ret (.v (.one (.row 0)))) [.row .str 9 ((valsF l n))]:=by
  refine spcG zi mixed Tryz.func36 (by kernel_rfl) { nr:=[5],keep:=some [0,1,4,5,7,8,9,10]} [YQ,YP] (by kernel_rfl) ?_
  intro I X hI hX
  refine zh (.code 0 [1,1,0,1,0] ⟨[(10,(.v (.one (.p (.int .i64 0))))),(9,(.v (.one (.p (.int .i64 (I.len (α:=Fld) l)))))),(8,(.v (.one (.p (.list .fld l))))),(5,(.v (.one (.row 0)))),(4,(.v (.one .nilS))),(0,(.v (.one (.p (.list .fld l))))),(1,(.v (.one (.p (.str n)))))],[(.row .str 9 ([]:List (Str)))],27,none⟩) (by kernel_rfl) ?_
  simp only [zy]
  refine zG hI zi mixed [YQ,YP] hX [0,1,5,8,9,10] (fun(g:Nat × List Str)=>match g with|(i,o)=>i≤l.length∧o=valsF (l.take i) n) (fun(g:Nat × List Str)=>match g with|(i,o)=>⟨[(0,.v (.one (.p (.list .fld l)))),(1,.v (.one (.p (.str n)))),(5,.v (.one (.row 0))),(8,.v (.one (.p (.list .fld l)))),(9,.v (.one (.p (.int .i64 ((I.len (α:=Fld) l)))))),(10,.v (.one (.p (.int .i64 i))))],[.row .str 9 o],27,none⟩) (fun(g:Nat × List Str)=>match g with|(i,o)=>l.length - i) (0,[]) (by kernel_rfl) (by kernel_rfl) ?_ ?_
  · exact⟨Nat.zero_le _,rfl⟩
  rintro⟨i,o⟩ ⟨h1,h2⟩ A hA
  simp only at hA
  refine zh (let y0:=I.get (α:=Fld) l (Fld.mk ([]:Str) ([]:Str)) (Nat.cast i);let y1:=I.inr Go.IntKind.i64 (I.add (Nat.cast i) 1);let y2:=I.inb (Nat.cast i) (I.len (α:=Fld) l);.br (I.ilt (Nat.cast i) (I.len (α:=Fld) l)) (.need y2 (.need y2 (.need (I.hid (α:=(Prop)) (LE.le (List.length (Fld.name y0)) 1000000)) (.need (I.hid (α:=(Prop)) (LE.le (List.length n) 1000000)) (.br (I.seq (I.hid (α:=Str) (lowS (Fld.name y0))) (I.hid (α:=Str) (lowS n))) (.need (I.few (I.add (I.len (α:=Str) o) (I.len (α:=Str) ([(Fld.value y0)]:List (Str)))) 100000000) (.need y1 (.need (A ⟨[(0,(.v (.one (.p (.list .fld l))))),(1,(.v (.one (.p (.str n))))),(5,(.v (.one (.row 0)))),(8,(.v (.one (.p (.list .fld l))))),(9,(.v (.one (.p (.int .i64 (I.len (α:=Fld) l)))))),(10,(.v (.one (.p (.int .i64 (I.add (Nat.cast i) 1))))))],[(.row .str 9 (I.app (α:=Str) o ([(Fld.value y0)]:List (Str))))],27,none⟩) .qed))) (.need y1 (.need (A ⟨[(0,(.v (.one (.p (.list .fld l))))),(1,(.v (.one (.p (.str n))))),(5,(.v (.one (.row 0)))),(8,(.v (.one (.p (.list .fld l))))),(9,(.v (.one (.p (.int .i64 (I.len (α:=Fld) l)))))),(10,(.v (.one (.p (.int .i64 (I.add (Nat.cast i) 1))))))],[(.row .str 9 o)],27,none⟩) .qed))))))) (.fin (.ret (.v (.one (.row 0)))) [(.row .str 9 o)])) (by kernel_rfl) ?_
  simp only [zy]
  subst hI
  simp only [nrmA,nrmB]
  have hx:i<l.length→(l.getD i ⟨[],[]⟩) ∈ l:=fun h=>by rw [show l.getD i ⟨[],[]⟩=l[i] by simp [h]];exact List.getElem_mem h
  have hs:i<l.length→valsF (l.take (i+1)) n=if lowS (l.getD i ⟨[],[]⟩).name=lowS n then o++[(l.getD i ⟨[],[]⟩).value] else o:=fun h=>by
    rw [show l.getD i ⟨[],[]⟩=l[i] by simp [h],List.take_succ_eq_append_getElem h,h2]
    unfold valsF
    rw [List.filter_append,List.map_append]
    by_cases hc:lowS l[i].name=lowS n<;>simp [hc]
  have hol:o.length≤i:=by
    rw [h2]
    unfold valsF
    rw [List.length_map]
    exact Nat.le_trans (List.length_filter_le _ _) (by rw [List.length_take];omega)
  have hn:=fun h=>hneed.2.2 _ (hx h)
  generalize l.getD i ⟨[],[]⟩=x at *
  simp only [List.length_cons,List.length_nil]
  (repeat' (first|refine And.intro ?_ ?_|intro _))<;>first|omega|exact True.intro|exact False.elim ‹False›|skip
  all_goals first
    |(have:=hn (by omega);omega)
    |exact hA (i+1,_) ⟨by simp only;omega,by simp only;rw [hs (by omega),if_pos (by assumption)]⟩ (by simp only;omega)
    |exact hA (i+1,_) ⟨by simp only;omega,by simp only;rw [hs (by omega),if_neg (by assumption)]⟩ (by simp only;omega)
    |(rw [h2,List.take_of_length_le (by omega)])
def Qj (I:Alg) (args:List D) (hp:List HO):Option CT:=match args,hp with
  |[.v (.one (.p (.list .fld l))),.v (.one (.p (.str n)))],[]=>(fun(l:List Fld) (n:Str)=>(some (.one ⟨I.hid (l.length≤1000∧n.length≤1000000∧∀ f ∈ l,f.name.length≤1000000∧f.value.length≤1000000),(.ret (.v (.one (.row 0)))),[.row .str 9 (I.hid ((valsF l n)))]⟩):Option CT)) l n
  |_,_=>none
theorem zgU:zD Tryz.prog 36 (Qj alg):=by
  intro args hp r h
  unfold Qj at h
  split at h
  · cases h;exact fun hn=>zlD _ _ hn
  · cases h
def Ul:Know Tryz.prog:=⟨36,Qj,zgU⟩
def Uk:Know Tryz.prog:=⟨36,fun I=>zH I (Qj I),zf zgU⟩
theorem ze1 (l:List Fld) (n:Str) (hneed:l.length≤1000∧n.length≤1000000∧∀ f ∈ l,f.name.length≤1000000∧f.value.length≤1000000):Spc Tryz.prog 43 [.v (.one (.p (.list .fld l))),.v (.one (.p (.str n)))] [] (.ret (.v (.one (.row 0)))) [.row .str 9 ((valsF l n))]:=by
  refine spcG zi mixed Tryz.func43 (by kernel_rfl) { nr:=[5],keep:=some [0,1,4,5,6]} [qJ,qI] (by kernel_rfl) ?_
  intro I X hI hX
  refine zh (.code 0 [1,1,0,1,0] ⟨[(6,(.v (.one (.p (.int .i64 0))))),(5,(.v (.one (.row 0)))),(4,(.v (.one .nilS))),(0,(.v (.one (.p (.list .fld l))))),(1,(.v (.one (.p (.str n)))))],[(.row .str 9 ([]:List (Str)))],31,none⟩) (by kernel_rfl) ?_
  simp only [zy]
  refine zG hI zi mixed [qJ,qI] hX [0,1,5,6] (fun(g:Nat × List Str)=>match g with|(i,o)=>i≤l.length∧o=valsF (l.take i) n) (fun(g:Nat × List Str)=>match g with|(i,o)=>⟨[(0,.v (.one (.p (.list .fld l)))),(1,.v (.one (.p (.str n)))),(5,.v (.one (.row 0))),(6,.v (.one (.p (.int .i64 i))))],[.row .str 9 o],31,none⟩) (fun(g:Nat × List Str)=>match g with|(i,o)=>l.length - i) (0,[]) (by kernel_rfl) (by kernel_rfl) ?_ ?_
  · exact⟨Nat.zero_le _,rfl⟩
  rintro⟨i,o⟩ ⟨h1,h2⟩ A hA
  simp only at hA
  refine zh (let y0:=I.get (α:=Fld) l (Fld.mk ([]:Str) ([]:Str)) (Nat.cast i);let y1:=I.inb (Nat.cast i) (I.len (α:=Fld) l);let y2:=I.inr Go.IntKind.i64 (I.add (Nat.cast i) 1);.br (I.ilt (Nat.cast i) (I.len (α:=Fld) l)) (.need y1 (.need y1 (.need (I.hid (α:=(Prop)) (LE.le (List.length (Fld.name y0)) 1000000)) (.need (I.hid (α:=(Prop)) (LE.le (List.length n) 1000000)) (.br (I.seq (I.hid (α:=Str) (lowS (Fld.name y0))) (I.hid (α:=Str) (lowS n))) (.need y1 (.need y1 (.need (I.few (I.add (I.len (α:=Str) o) (I.len (α:=Str) ([(Fld.value y0)]:List (Str)))) 100000000) (.need y2 (.need (A ⟨[(0,(.v (.one (.p (.list .fld l))))),(1,(.v (.one (.p (.str n))))),(5,(.v (.one (.row 0)))),(6,(.v (.one (.p (.int .i64 (I.add (Nat.cast i) 1))))))],[(.row .str 9 (I.app (α:=Str) o ([(Fld.value y0)]:List (Str))))],31,none⟩) .qed))))) (.need y2 (.need (A ⟨[(0,(.v (.one (.p (.list .fld l))))),(1,(.v (.one (.p (.str n))))),(5,(.v (.one (.row 0)))),(6,(.v (.one (.p (.int .i64 (I.add (Nat.cast i) 1))))))],[(.row .str 9 o)],31,none⟩) .qed))))))) (.fin (.ret (.v (.one (.row 0)))) [(.row .str 9 o)])) (by kernel_rfl) ?_
  simp only [zy]
  subst hI
  simp only [nrmA,nrmB]
  have hx:i<l.length→(l.getD i ⟨[],[]⟩) ∈ l:=fun h=>by rw [show l.getD i ⟨[],[]⟩=l[i] by simp [h]];exact List.getElem_mem h
  have hs:i<l.length→valsF (l.take (i+1)) n=if lowS (l.getD i ⟨[],[]⟩).name=lowS n then o++[(l.getD i ⟨[],[]⟩).value] else o:=fun h=>by
    rw [show l.getD i ⟨[],[]⟩=l[i] by simp [h],List.take_succ_eq_append_getElem h,h2]
    unfold valsF
    rw [List.filter_append,List.map_append]
    by_cases hc:lowS l[i].name=lowS n<;>simp [hc]
  have hol:o.length≤i:=by
    rw [h2]
    unfold valsF
    rw [List.length_map]
    exact Nat.le_trans (List.length_filter_le _ _) (by rw [List.length_take];omega)
  have hn:=fun h=>hneed.2.2 _ (hx h)
  generalize l.getD i ⟨[],[]⟩=x at *
  simp only [List.length_cons,List.length_nil]
  (repeat' (first|refine And.intro ?_ ?_|intro _))<;>first|omega|exact True.intro|exact False.elim ‹False›|skip
  all_goals first
    |(have:=hn (by omega);omega)
    |exact hA (i+1,_) ⟨by simp only;omega,by simp only;rw [hs (by omega),if_pos (by assumption)]⟩ (by simp only;omega)
    |exact hA (i+1,_) ⟨by simp only;omega,by simp only;rw [hs (by omega),if_neg (by assumption)]⟩ (by simp only;omega)
    |(rw [h2,List.take_of_length_le (by omega)])
def tX (I:Alg) (args:List D) (hp:List HO):Option CT:=match args,hp with
  |[.v (.one (.p (.list .fld l))),.v (.one (.p (.str n)))],[]=>(fun(l:List Fld) (n:Str)=>(some (.one ⟨I.hid (l.length≤1000∧n.length≤1000000∧∀ f ∈ l,f.name.length≤1000000∧f.value.length≤1000000),(.ret (.v (.one (.row 0)))),[.row .str 9 (I.hid ((valsF l n)))]⟩):Option CT)) l n
  |_,_=>none
theorem Vb:zD Tryz.prog 43 (tX alg):=by
  intro args hp r h
  unfold tX at h
  split at h
  · cases h;exact fun hn=>ze1 _ _ hn
  · cases h
def vH:Know Tryz.prog:=⟨43,tX,Vb⟩
def vG:Know Tryz.prog:=⟨43,fun I=>zH I (tX I),zf Vb⟩
end Go.Proofs.YtmibhbdfigpkmaaGreatDoor
namespace Go.Proofs.YtmibhbdfigpkmaaGreatDoor
open Go Go.Sep Go.Ab
set_option maxRecDepth 100000
def oneF (l:List Str):Str × Int:=if l.length=0 then([],10) else if l.length=1 then(l.getD 0 [],0) else([],9)
theorem zlC (l:List Fld) (n:Str) (hneed:l.length≤1000∧n.length≤1000000∧∀ f ∈ l,f.name.length≤1000000∧f.value.length≤1000000):Spc Tryz.prog 37 [.v (.one (.p (.list .fld l))),.v (.one (.p (.str n)))] [] (.ret (.tup [(.one (.p (.str ((oneF (valsF l n)).1)))),(.one (.p (.int .i64 ((oneF (valsF l n)).2))))])) []:=by
  generalize hr:oneF (valsF l n)=r
  obtain⟨a,d⟩:=r
  refine spcG zi mixed Tryz.func37 (by kernel_rfl) { keep:=some [0,1,4,5,6,11]} [Ul,Uk] (by kernel_rfl) ?_
  intro I X hI hX
  refine zh (let y0:=I.len (α:=Str) (I.hid (α:=(List (Str))) (valsF l n));.need (I.hid (α:=(Prop)) (And (LE.le (List.length l) 1000) (And (LE.le (List.length n) 1000000) (∀ (f:Fld),f ∈ l→List.length f.name≤1000000∧List.length f.value≤1000000)))) (.br (I.ieq y0 0) (.fin (.ret (.tup [(.one (.p (.str ([]:Str)))),(.one (.p (.int .i64 10)))])) []) (.br (I.ieq y0 1) (.need (I.inb 0 y0) (.need (I.inb 0 y0) (.fin (.ret (.tup [(.one (.p (.str (I.get (α:=Str) (I.hid (α:=(List (Str))) (valsF l n)) ([]:Str) 0)))),(.one (.p (.int .i64 0)))])) []))) (.fin (.ret (.tup [(.one (.p (.str ([]:Str)))),(.one (.p (.int .i64 9)))])) [])))) (by kernel_rfl) ?_
  simp only [zy]
  subst hI
  simp only [nrmA,nrmB]
  unfold oneF at hr
  (repeat' (first|refine And.intro ?_ ?_|intro _))<;>first|omega|exact True.intro|exact False.elim ‹False›|skip
  all_goals first
    |assumption
    |exact(hneed.2.2 _ (by assumption)).1
    |exact(hneed.2.2 _ (by assumption)).2
    |(rw [if_pos (by omega)] at hr;cases hr;rfl)
    |(rw [if_neg (by omega),if_pos (by omega)] at hr;cases hr;rfl)
    |(rw [if_neg (by omega),if_neg (by omega)] at hr;cases hr;rfl)
def Qi (I:Alg) (args:List D) (hp:List HO):Option CT:=match args,hp with
  |[.v (.one (.p (.list .fld l))),.v (.one (.p (.str n)))],[]=>(fun(l:List Fld) (n:Str)=>(some (.one ⟨I.hid (l.length≤1000∧n.length≤1000000∧∀ f ∈ l,f.name.length≤1000000∧f.value.length≤1000000),(.ret (.tup [(.one (.p (.str (I.hid ((oneF (valsF l n)).1))))),(.one (.p (.int .i64 (I.hid ((oneF (valsF l n)).2)))))])),[]⟩):Option CT)) l n
  |_,_=>none
theorem zgT:zD Tryz.prog 37 (Qi alg):=by
  intro args hp r h
  unfold Qi at h
  split at h
  · cases h;exact fun hn=>zlC _ _ hn
  · cases h
def Qh:Know Tryz.prog:=⟨37,Qi,zgT⟩
def Qg:Know Tryz.prog:=⟨37,fun I=>zH I (Qi I),zf zgT⟩
theorem zkE (l:List Fld) (n:Str) (hneed:l.length≤1000∧n.length≤1000000∧∀ f ∈ l,f.name.length≤1000000∧f.value.length≤1000000):Spc Tryz.prog 53 [.v (.one (.p (.list .fld l))),.v (.one (.p (.str n)))] [] (.ret (.tup [(.one (.p (.str ((oneF (valsF l n)).1)))),(.one (.p (.int .i64 ((oneF (valsF l n)).2))))])) []:=by
  generalize hr:oneF (valsF l n)=r
  obtain⟨a,d⟩:=r
  refine spcG zi mixed Tryz.func53 (by kernel_rfl) { keep:=some [0,1,4,5,6]} [vH,vG] (by kernel_rfl) ?_
  intro I X hI hX
  refine zh (let y0:=I.len (α:=Str) (I.hid (α:=(List (Str))) (valsF l n));.need (I.hid (α:=(Prop)) (And (LE.le (List.length l) 1000) (And (LE.le (List.length n) 1000000) (∀ (f:Fld),f ∈ l→List.length f.name≤1000000∧List.length f.value≤1000000)))) (.br (I.ieq y0 0) (.fin (.ret (.tup [(.one (.p (.str ([]:Str)))),(.one (.p (.int .i64 10)))])) []) (.br (I.ilt 1 y0) (.fin (.ret (.tup [(.one (.p (.str ([]:Str)))),(.one (.p (.int .i64 9)))])) []) (.need (I.inb 0 y0) (.need (I.inb 0 y0) (.fin (.ret (.tup [(.one (.p (.str (I.get (α:=Str) (I.hid (α:=(List (Str))) (valsF l n)) ([]:Str) 0)))),(.one (.p (.int .i64 0)))])) [])))))) (by kernel_rfl) ?_
  simp only [zy]
  subst hI
  simp only [nrmA,nrmB]
  unfold oneF at hr
  (repeat' (first|refine And.intro ?_ ?_|intro _))<;>first|omega|exact True.intro|exact False.elim ‹False›|skip
  all_goals first
    |assumption
    |exact(hneed.2.2 _ (by assumption)).1
    |exact(hneed.2.2 _ (by assumption)).2
    |(rw [if_pos (by omega)] at hr;cases hr;rfl)
    |(rw [if_neg (by omega),if_pos (by omega)] at hr;cases hr;rfl)
    |(rw [if_neg (by omega),if_neg (by omega)] at hr;cases hr;rfl)
def WC (I:Alg) (args:List D) (hp:List HO):Option CT:=match args,hp with
  |[.v (.one (.p (.list .fld l))),.v (.one (.p (.str n)))],[]=>(fun(l:List Fld) (n:Str)=>(some (.one ⟨I.hid (l.length≤1000∧n.length≤1000000∧∀ f ∈ l,f.name.length≤1000000∧f.value.length≤1000000),(.ret (.tup [(.one (.p (.str (I.hid ((oneF (valsF l n)).1))))),(.one (.p (.int .i64 (I.hid ((oneF (valsF l n)).2)))))])),[]⟩):Option CT)) l n
  |_,_=>none
theorem zda:zD Tryz.prog 53 (WC alg):=by
  intro args hp r h
  unfold WC at h
  split at h
  · cases h;exact fun hn=>zkE _ _ hn
  · cases h
def zc9:Know Tryz.prog:=⟨53,WC,zda⟩
def zc8:Know Tryz.prog:=⟨53,fun I=>zH I (WC I),zf zda⟩
end Go.Proofs.YtmibhbdfigpkmaaGreatDoor
namespace Go.Proofs.YtmibhbdfigpkmaaGreatDoor
open Go Go.Sep Go.Ab
def hd0:Hd:=⟨[],[],0,[],0⟩
def prt0:Prt:=⟨[],[],[],[]⟩
def evH (h:Hd):Evt:=⟨1,h,[],prt0,0⟩
def evB (b:Str):Evt:=⟨2,hd0,b,prt0,0⟩
def evE:Evt:=⟨3,hd0,[],prt0,0⟩
def evF (c:Int):Evt:=⟨4,hd0,[],prt0,c⟩
def zK:Str→List Str
  |[]=>[[]]
  |c::r=>if c=32 then []::zK r else(match zK r with|[]=>[[c]]|w::ws=>(c::w)::ws)
theorem qH (s:Str):zK s≠[]:=by
  cases s with
  |nil=>simp [zK]
  | cons c r=>
    simp only [zK]
    split
    · simp
    · split<;>simp
def qm:Str:=[72,84,84,80,47,49,46,49]
def YE:Str:=[72,84,84,80,47,49,46,48]
def begM (s:Str):Int × Hd:=
  match zK s with
  | [a,b,c]=>
    if yF a=false then(6,hd0)
    else if b.head?≠some 47∨b.contains 9=true then(5,hd0)
    else if c=qm then(0,⟨a,b,1,[],0⟩)
    else if c=YE then(0,⟨a,b,0,[],0⟩)
    else(11,⟨a,b,0,[],0⟩)
  |_=>(5,hd0)
def wX:Str:=[104,111,115,116]
def wR:Str:=[99,111,110,116,101,110,116,45,108,101,110,103,116,104]
def rW:Str:=[116,114,97,110,115,102,101,114,45,101,110,99,111,100,105,110,103]
def YN:Str:=[99,104,117,110,107,101,100]
def sizM (z0:Str) (n:Int):List Str→Int × Int
  |[]=>(n,0)
  |s::r=>if(numA s 10 9).2=false then(0,7) else if s≠z0 then(0,12) else sizM z0 (numA s 10 9).1 r
def lenM (mi:Int) (f:List Fld):Int × Int:=
  if valsF f rW≠[] then
    if valsF f wR≠[]∨mi=0 then(0,12)
    else if 1<(valsF f rW).length∨lowS ((valsF f rW).getD 0 [])≠YN then(0,11)
    else(-1,0)
  else if(sizM ((valsF f wR).getD 0 []) 0 (valsF f wR)).2≠0 then(0,(sizM ((valsF f wR).getD 0 []) 0 (valsF f wR)).2)
  else if 4000<(sizM ((valsF f wR).getD 0 []) 0 (valsF f wR)).1 then(0,4)
  else((sizM ((valsF f wR).getD 0 []) 0 (valsF f wR)).1,0)
def zbU (mi:Int) (f:List Fld):Bool:=decide ((oneF (valsF f wX)).2=9)||(decide ((oneF (valsF f wX)).2=10)&&decide (mi=1))
def lenH (h:Hd):Int × Int:=if zbU h.minor h.fields=true then(0,13) else lenM h.minor h.fields
def zku (q:Rq) (e:Evt):Rq:= { q with out:=q.out++[e]}
def yc (q:Rq) (c:Int):Rq:= { q with pos:=4,out:=q.out++[evF c]}
def yU (q:Rq):Rq:= { q with out:=q.out++[evE],pos:=0,h:=hd0,own:=true}
def yx (q:Rq):Rq × Int:=
  if zbU q.h.minor q.h.fields=true then(q,13)
  else if(lenM q.h.minor q.h.fields).2≠0 then({ q with own:=false},(lenM q.h.minor q.h.fields).2)
  else if(lenM q.h.minor q.h.fields).1=0 then(yU { q with h:= { q.h with length:=0},own:=false,out:=q.out++[evH { q.h with length:=0}]},0)
  else if 0<(lenM q.h.minor q.h.fields).1 then({ q with h:= { q.h with length:=(lenM q.h.minor q.h.fields).1},own:=false,out:=q.out++[evH { q.h with length:=(lenM q.h.minor q.h.fields).1}],pos:=2,left:=(lenM q.h.minor q.h.fields).1},0)
  else({ q with h:= { q.h with length:=(lenM q.h.minor q.h.fields).1},own:=false,out:=q.out++[evH { q.h with length:=(lenM q.h.minor q.h.fields).1}],pos:=3,ck:=some ch0},0)
def zI (q:Rq) (s:Str):Rq × Int:=
  if q.pos=0 then
    if s=[] then(q,0)
    else if(begM s).1=0 then({ q with h:=(begM s).2,pos:=1},0)
    else if(begM s).1=11 then({ q with h:=(begM s).2},11)
    else(q,(begM s).1)
  else if s=[] then yx q
  else if q.h.fields.length=16 then(q,8)
  else({ q with h:= { q.h with fields:=q.h.fields++[(zM s).1]}},(zM s).2)
def ckOf (q:Rq):Ch:=match q.ck with|some c=>c|none=>ch0
def rqF (q:Rq) (c:UInt8):Rq:=
  if q.pos=2 then
    if q.left - 1=0 then yU { q with out:=q.out++[evB [c]],left:=0} else { q with out:=q.out++[evB [c]],left:=q.left - 1}
  else if q.pos=3 then
    if(chF (ckOf q) c).2.2.2≠0 then yc { q with ck:=some (chF (ckOf q) c).1} (chF (ckOf q) c).2.2.2
    else if(chF (ckOf q) c).2.2.1=true then yU { q with ck:=some (chF (ckOf q) c).1,out:=if(chF (ckOf q) c).2.1≠[] then q.out++[evB (chF (ckOf q) c).2.1] else q.out}
    else { q with ck:=some (chF (ckOf q) c).1,out:=if(chF (ckOf q) c).2.1≠[] then q.out++[evB (chF (ckOf q) c).2.1] else q.out}
  else if q.pos=0∨q.pos=1 then
    if(lnF q.ln c).2.2.2≠0 then yc { q with ln:=(lnF q.ln c).1} (lnF q.ln c).2.2.2
    else if(lnF q.ln c).2.2.1=true then
      if(zI { q with ln:=(lnF q.ln c).1} (lnF q.ln c).2.1).2≠0 then yc (zI { q with ln:=(lnF q.ln c).1} (lnF q.ln c).2.1).1 (zI { q with ln:=(lnF q.ln c).1} (lnF q.ln c).2.1).2
      else(zI { q with ln:=(lnF q.ln c).1} (lnF q.ln c).2.1).1
    else { q with ln:=(lnF q.ln c).1}
  else q
def rq0:Rq:=⟨ln0,0,hd0,0,none,true,[]⟩
def xC (q:Rq) (b:Str):Rq:=b.foldl rqF q
def vT (out:List Evt) (e:Evt):List Evt:=
  match out.getLast? with
  |some x=>if e.kind=2∧x.kind=2 then out.dropLast++[evB (x.bytes++e.bytes)] else out++[e]
  |none=>out++[e]
def zF (l:List Evt):List Evt:=l.foldl vT []
def yh (q:Rq) (b:Str):Rq:=xC { q with out:=[]} b
def xZ (q:Rq):Bool:=decide (q.pos≠4)&&(decide (q.pos≠0)||lnB q.ln)
end Go.Proofs.YtmibhbdfigpkmaaGreatDoor
namespace Go.Proofs.YtmibhbdfigpkmaaGreatDoor
open Go Go.Sep Go.Ab
theorem yR (z:List Evt) (x e:Evt):vT (z++[x]) e=if e.kind=2∧x.kind=2 then z++[evB (x.bytes++e.bytes)] else z++[x]++[e]:=by
  unfold vT
  simp
theorem tJ (e:Evt):vT [] e=[e]:=rfl
end Go.Proofs.YtmibhbdfigpkmaaGreatDoor
namespace Go.Proofs.YtmibhbdfigpkmaaGreatDoor
open Go Go.Sep Go.Ab
set_option maxRecDepth 100000
def ziG:Cfg:= { sl:=[⟨82,0,.byte,some 5⟩]}
theorem zkL:Spc Tryz.prog 21 [] [] (.ret (.v (.one (.ptr 0 0)))) [.pack [.obj 82 [(.row 1),(.p (.bool false)),(.p (.int .i64 0))],.row .byte 5 ([])]]:=by
  refine spcG zi mixed Tryz.func21 (by kernel_rfl) { ziG with keep:=some [0]} [] (by kernel_rfl) ?_
  intro I X hI hX
  refine zh (.fin (.ret (.v (.one (.ptr 0 0)))) [(.pack [(.obj 82 [(.row 1),(.p (.bool Bool.false)),(.p (.int .i64 0))]),(.row .byte 5 ([]:Str))])]) (by kernel_rfl) ?_
  simp only [zy]
  trivial
def WJ (I:Alg) (args:List D) (hp:List HO):Option CT:=match args,hp with
  |[],[]=>(fun(_:Unit)=>(some (.one ⟨I.hid (True),(.ret (.v (.one (.ptr 0 0)))),[.pack [.obj 82 [(.row 1),(.p (.bool false)),(.p (.int .i64 0))],.row .byte 5 (I.hid ([]))]]⟩):Option CT)) ()
  |_,_=>none
theorem zdn:zD Tryz.prog 21 (WJ alg):=by
  intro args hp r h
  unfold WJ at h
  split at h
  · cases h;exact fun hn=>zkL
  · cases h
def zdm:Know Tryz.prog:=⟨21,WJ,zdn⟩
def zdl:Know Tryz.prog:=⟨21,fun I=>zH I (WJ I),zf zdn⟩
theorem zjM (b:Str) (cr:Bool) (code c:Int):Spc Tryz.prog 69 [.v (.one (.ptr 0 0)),.v (.one (.p (.int .i64 c)))] [.pack [.obj 82 [(.row 1),(.p (.bool cr)),(.p (.int .i64 code))],.row .byte 5 b]] (.ret (.tup [(.one (.p (.str ([])))),(.one (.p (.bool false))),(.one (.p (.int .i64 c)))])) [.pack [.obj 82 [(.row 1),(.p (.bool cr)),(.p (.int .i64 c))],.row .byte 5 b]]:=by
  refine spcG zi mixed Tryz.func69 (by kernel_rfl) { ziG with keep:=some [0,1,4,5,6]} [] (by kernel_rfl) ?_
  intro I X hI hX
  refine zh (.fin (.ret (.tup [(.one (.p (.str ([]:Str)))),(.one (.p (.bool Bool.false))),(.one (.p (.int .i64 c)))])) [(.pack [(.obj 82 [(.row 1),(.p (.bool cr)),(.p (.int .i64 c))]),(.row .byte 5 b)])]) (by kernel_rfl) ?_
  simp only [zy]
  subst hI
  simp only [nrmA,nrmB,nrlB,reduceCtorEq,HO.pack.injEq,HO.obj.injEq]
  try trivial
def Yx (I:Alg) (args:List D) (hp:List HO):Option CT:=match args,hp with
  |[.v (.one (.ptr 0 0)),.v (.one (.p (.int .i64 c)))],[.pack [.obj 82 [(.row 1),(.p (.bool cr)),(.p (.int .i64 code))],.row .byte 5 b]]=>(fun(b:Str) (cr:Bool) (code c:Int)=>(some (.one ⟨I.hid (True),(.ret (.tup [(.one (.p (.str (I.hid ([]))))),(.one (.p (.bool false))),(.one (.p (.int .i64 c)))])),[.pack [.obj 82 [(.row 1),(.p (.bool cr)),(.p (.int .i64 c))],.row .byte 5 b]]⟩):Option CT)) b cr code c
  |_,_=>none
theorem zaC:zD Tryz.prog 69 (Yx alg):=by
  intro args hp r h
  unfold Yx at h
  split at h
  · cases h;exact fun hn=>zjM _ _ _ _
  · cases h
def zgt:Know Tryz.prog:=⟨69,Yx,zaC⟩
def zgs:Know Tryz.prog:=⟨69,fun I=>zH I (Yx I),zf zaC⟩
set_option maxHeartbeats 4000000 in
theorem zjL (b:Str) (cr:Bool) (code k:Int) (hneed:0≤k∧k≤255∧b.length≤1000000):Spc Tryz.prog 49 [.v (.one (.ptr 0 0)),.v (.one (.p (.int .u8 k)))] [.pack [.obj 82 [(.row 1),(.p (.bool cr)),(.p (.int .i64 code))],.row .byte 5 b]] (.ret (.tup [(.one (.p (.str ((lnF ⟨b,cr,code⟩ (UInt8.ofNat k.toNat)).2.1)))),(.one (.p (.bool ((lnF ⟨b,cr,code⟩ (UInt8.ofNat k.toNat)).2.2.1)))),(.one (.p (.int .i64 ((lnF ⟨b,cr,code⟩ (UInt8.ofNat k.toNat)).2.2.2))))])) [.pack [.obj 82 [(.row 1),(.p (.bool ((lnF ⟨b,cr,code⟩ (UInt8.ofNat k.toNat)).1.cr))),(.p (.int .i64 ((lnF ⟨b,cr,code⟩ (UInt8.ofNat k.toNat)).1.code)))],.row .byte 5 ((lnF ⟨b,cr,code⟩ (UInt8.ofNat k.toNat)).1.b)]]:=by
  obtain⟨hk0,hk1,hbl⟩:=hneed
  have hkk:((UInt8.ofNat k.toNat).toNat:Int)=k:=by rw [UInt8.toNat_ofNat',Nat.mod_eq_of_lt (by omega)];omega
  generalize hr:lnF ⟨b,cr,code⟩ (UInt8.ofNat k.toNat)=r
  have h10:UInt8.ofNat k.toNat=10↔k=10:=⟨fun h=>by rw [h] at hkk;exact hkk.symm,fun h=>by subst h;rfl⟩
  have h13:UInt8.ofNat k.toNat=13↔k=13:=⟨fun h=>by rw [h] at hkk;exact hkk.symm,fun h=>by subst h;rfl⟩
  unfold lnF zei at hr
  rw [hkk] at hr
  simp only [h10,h13] at hr
  obtain⟨⟨rb,rc,rcode⟩,rt,ro,re⟩:=r
  refine spcG zi mixed Tryz.func49 (by kernel_rfl) { ziG with nr:=[8],keep:=some [0,1,4,5,6,7]} [qE,UM,zgt,zgs] (by kernel_rfl) ?_
  intro I X hI hX
  refine zh (let y0:HO:=.pack [(.obj 82 [(.row 1),(.p (.bool cr)),(.p (.int .i64 code))]),(.row .byte 5 (I.app (α:=UInt8) b ([(I.i2b k)]:Str)))];let y1:HO:=.pack [(.obj 82 [(.row 1),(.p (.bool Bool.false)),(.p (.int .i64 code))]),(.row .byte 5 ([]:Str))];let y2:=I.few (I.add (I.len (α:=UInt8) b) (I.len (α:=UInt8) ([(I.i2b k)]:Str))) 140737488355328;let y3:HO:=.pack [(.obj 82 [(.row 1),(.p (.bool Bool.true)),(.p (.int .i64 code))]),(.row .byte 5 b)];let y4:HO:=.pack [(.obj 82 [(.row 1),(.p (.bool cr)),(.p (.int .i64 3))]),(.row .byte 5 b)];let y5:HO:=.pack [(.obj 82 [(.row 1),(.p (.bool cr)),(.p (.int .i64 4))]),(.row .byte 5 b)];let y6:HO:=.pack [(.obj 82 [(.row 1),(.p (.bool cr)),(.p (.int .i64 2))]),(.row .byte 5 b)];let y7:=I.bnot (I.hid (α:=Bool) (ZX k));let y8:=I.ieq (I.len (α:=UInt8) b) 200;.br (I.bnot (I.ieq code 0)) (.fin (.ret (.tup [(.one (.p (.str ([]:Str)))),(.one (.p (.bool Bool.false))),(.one (.p (.int .i64 code)))])) [(.pack [(.obj 82 [(.row 1),(.p (.bool cr)),(.p (.int .i64 code))]),(.row .byte 5 b)])]) (.br cr (.br (I.bnot (I.ieq k 10)) (.need (I.hid (α:=(Prop)) True) (.fin (.ret (.tup [(.one (.p (.str (I.hid (α:=Str) ([]:Str))))),(.one (.p (.bool Bool.false))),(.one (.p (.int .i64 2)))])) [y6])) (.br (I.bnot cr) (.br (I.ieq k 10) (.need (I.hid (α:=(Prop)) True) (.fin (.ret (.tup [(.one (.p (.str (I.hid (α:=Str) ([]:Str))))),(.one (.p (.bool Bool.false))),(.one (.p (.int .i64 2)))])) [y6])) (.br cr (.fin (.ret (.tup [(.one (.p (.str b))),(.one (.p (.bool Bool.true))),(.one (.p (.int .i64 0)))])) [y1]) (.br (I.ieq k 13) (.fin (.ret (.tup [(.one (.p (.str ([]:Str)))),(.one (.p (.bool Bool.false))),(.one (.p (.int .i64 0)))])) [y3]) (.need (I.hid (α:=(Prop)) True) (.br y7 (.need (I.hid (α:=(Prop)) True) (.fin (.ret (.tup [(.one (.p (.str (I.hid (α:=Str) ([]:Str))))),(.one (.p (.bool Bool.false))),(.one (.p (.int .i64 3)))])) [y4])) (.br y8 (.need (I.hid (α:=(Prop)) True) (.fin (.ret (.tup [(.one (.p (.str (I.hid (α:=Str) ([]:Str))))),(.one (.p (.bool Bool.false))),(.one (.p (.int .i64 4)))])) [y5])) (.need (I.inr Go.IntKind.u8 k) (.need y2 (.fin (.ret (.tup [(.one (.p (.str ([]:Str)))),(.one (.p (.bool Bool.false))),(.one (.p (.int .i64 0)))])) [y0]))))))))) (.br cr (.fin (.ret (.tup [(.one (.p (.str b))),(.one (.p (.bool Bool.true))),(.one (.p (.int .i64 0)))])) [y1]) (.br (I.ieq k 13) (.fin (.ret (.tup [(.one (.p (.str ([]:Str)))),(.one (.p (.bool Bool.false))),(.one (.p (.int .i64 0)))])) [y3]) (.need (I.hid (α:=(Prop)) True) (.br y7 (.need (I.hid (α:=(Prop)) True) (.fin (.ret (.tup [(.one (.p (.str (I.hid (α:=Str) ([]:Str))))),(.one (.p (.bool Bool.false))),(.one (.p (.int .i64 3)))])) [y4])) (.br y8 (.need (I.hid (α:=(Prop)) True) (.fin (.ret (.tup [(.one (.p (.str (I.hid (α:=Str) ([]:Str))))),(.one (.p (.bool Bool.false))),(.one (.p (.int .i64 4)))])) [y5])) (.need (I.inr Go.IntKind.u8 k) (.need y2 (.fin (.ret (.tup [(.one (.p (.str ([]:Str)))),(.one (.p (.bool Bool.false))),(.one (.p (.int .i64 0)))])) [y0])))))))))) (.br (I.bnot cr) (.br (I.ieq k 10) (.need (I.hid (α:=(Prop)) True) (.fin (.ret (.tup [(.one (.p (.str (I.hid (α:=Str) ([]:Str))))),(.one (.p (.bool Bool.false))),(.one (.p (.int .i64 2)))])) [y6])) (.br cr (.fin (.ret (.tup [(.one (.p (.str b))),(.one (.p (.bool Bool.true))),(.one (.p (.int .i64 0)))])) [y1]) (.br (I.ieq k 13) (.fin (.ret (.tup [(.one (.p (.str ([]:Str)))),(.one (.p (.bool Bool.false))),(.one (.p (.int .i64 0)))])) [y3]) (.need (I.hid (α:=(Prop)) True) (.br y7 (.need (I.hid (α:=(Prop)) True) (.fin (.ret (.tup [(.one (.p (.str (I.hid (α:=Str) ([]:Str))))),(.one (.p (.bool Bool.false))),(.one (.p (.int .i64 3)))])) [y4])) (.br y8 (.need (I.hid (α:=(Prop)) True) (.fin (.ret (.tup [(.one (.p (.str (I.hid (α:=Str) ([]:Str))))),(.one (.p (.bool Bool.false))),(.one (.p (.int .i64 4)))])) [y5])) (.need (I.inr Go.IntKind.u8 k) (.need y2 (.fin (.ret (.tup [(.one (.p (.str ([]:Str)))),(.one (.p (.bool Bool.false))),(.one (.p (.int .i64 0)))])) [y0]))))))))) (.br cr (.fin (.ret (.tup [(.one (.p (.str b))),(.one (.p (.bool Bool.true))),(.one (.p (.int .i64 0)))])) [y1]) (.br (I.ieq k 13) (.fin (.ret (.tup [(.one (.p (.str ([]:Str)))),(.one (.p (.bool Bool.false))),(.one (.p (.int .i64 0)))])) [y3]) (.need (I.hid (α:=(Prop)) True) (.br y7 (.need (I.hid (α:=(Prop)) True) (.fin (.ret (.tup [(.one (.p (.str (I.hid (α:=Str) ([]:Str))))),(.one (.p (.bool Bool.false))),(.one (.p (.int .i64 3)))])) [y4])) (.br y8 (.need (I.hid (α:=(Prop)) True) (.fin (.ret (.tup [(.one (.p (.str (I.hid (α:=Str) ([]:Str))))),(.one (.p (.bool Bool.false))),(.one (.p (.int .i64 4)))])) [y5])) (.need (I.inr Go.IntKind.u8 k) (.need y2 (.fin (.ret (.tup [(.one (.p (.str ([]:Str)))),(.one (.p (.bool Bool.false))),(.one (.p (.int .i64 0)))])) [y0]))))))))))) (by kernel_rfl) ?_
  simp only [zy]
  subst hI
  simp only [nrmA,nrmB,nrlB,reduceCtorEq,HO.pack.injEq,HO.obj.injEq]
  generalize UInt8.ofNat k.toNat=c at *
  cases cr
  all_goals simp only [Bool.false_eq_true,if_false,if_true] at hr
  all_goals(repeat' (first|refine And.intro ?_ ?_|intro _))<;>first|omega|exact True.intro|exact False.elim ‹False›|skip
  all_goals first
    |omega
    |(exfalso;simp at *;done)
    |(((repeat(first|rewrite [if_pos (by first|omega|assumption|(simp only [*,or_self,or_true,true_or,or_false,false_or,not_true_eq_false,not_false_eq_true,Bool.false_eq_true,Bool.true_eq_false,and_self,and_true,true_and];done)|(simp only [*];omega)|(simp [*];done)|(simp [*];omega))] at hr|rewrite [if_neg (by first|omega|assumption|(simp only [*,or_self,or_true,true_or,or_false,false_or,not_true_eq_false,not_false_eq_true,Bool.false_eq_true,Bool.true_eq_false,and_self,and_true,true_and];done)|(simp only [*];omega)|(simp [*];done)|(simp [*];omega))] at hr)));cases hr;first|rfl|done|with_reducible assumption|exact⟨rfl,rfl,rfl⟩|(simp;done)|(simp;omega))
def Yw (I:Alg) (args:List D) (hp:List HO):Option CT:=match args,hp with
  |[.v (.one (.ptr 0 0)),.v (.one (.p (.int .u8 k)))],[.pack [.obj 82 [(.row 1),(.p (.bool cr)),(.p (.int .i64 code))],.row .byte 5 b]]=>(fun(b:Str) (cr:Bool) (code k:Int)=>(some (.one ⟨I.hid (0≤k∧k≤255∧b.length≤1000000),(.ret (.tup [(.one (.p (.str (I.hid ((lnF ⟨b,cr,code⟩ (UInt8.ofNat k.toNat)).2.1))))),(.one (.p (.bool (I.hid ((lnF ⟨b,cr,code⟩ (UInt8.ofNat k.toNat)).2.2.1))))),(.one (.p (.int .i64 (I.hid ((lnF ⟨b,cr,code⟩ (UInt8.ofNat k.toNat)).2.2.2)))))])),[.pack [.obj 82 [(.row 1),(.p (.bool (I.hid ((lnF ⟨b,cr,code⟩ (UInt8.ofNat k.toNat)).1.cr)))),(.p (.int .i64 (I.hid ((lnF ⟨b,cr,code⟩ (UInt8.ofNat k.toNat)).1.code))))],.row .byte 5 (I.hid ((lnF ⟨b,cr,code⟩ (UInt8.ofNat k.toNat)).1.b))]]⟩):Option CT)) b cr code k
  |_,_=>none
theorem zaB:zD Tryz.prog 49 (Yw alg):=by
  intro args hp r h
  unfold Yw at h
  split at h
  · cases h;exact fun hn=>zjL _ _ _ _ hn
  · cases h
def qi:Know Tryz.prog:=⟨49,Yw,zaB⟩
def qh:Know Tryz.prog:=⟨49,fun I=>zH I (Yw I),zf zaB⟩
end Go.Proofs.YtmibhbdfigpkmaaGreatDoor
namespace Go.Proofs.YtmibhbdfigpkmaaGreatDoor
open Go Go.Sep Go.Ab
set_option maxRecDepth 100000
def ziH:Cfg:= { sl:=[⟨82,0,.byte,some 5⟩]}
theorem zk9:Spc Tryz.prog 89 [] [] (.ret (.v (.one (.ptr 0 0)))) [.pack [.obj 98 [(.ptr 1 0),(.p (.int .i64 0)),(.p (.int .i64 0)),(.p (.int .i64 0)),(.p (.int .i64 0)),(.p (.int .i64 0))],.pack [.obj 82 [(.row 1),(.p (.bool false)),(.p (.int .i64 0))],.row .byte 5 ([])]]]:=by
  refine spcG zi mixed Tryz.func89 (by kernel_rfl) { ziH with keep:=some [0]} [zdm,zdl] (by kernel_rfl) ?_
  intro I X hI hX
  refine zh (.need (I.hid (α:=(Prop)) True) (.fin (.ret (.v (.one (.ptr 0 0)))) [(.pack [(.obj 98 [(.ptr 1 0),(.p (.int .i64 0)),(.p (.int .i64 0)),(.p (.int .i64 0)),(.p (.int .i64 0)),(.p (.int .i64 0))]),(.pack [(.obj 82 [(.row 1),(.p (.bool Bool.false)),(.p (.int .i64 0))]),(.row .byte 5 (I.hid (α:=Str) ([]:Str)))])])])) (by kernel_rfl) ?_
  simp only [zy]
  subst hI
  exact⟨trivial,trivial,rfl⟩
def WX (I:Alg) (args:List D) (hp:List HO):Option CT:=match args,hp with
  |[],[]=>(fun(_:Unit)=>(some (.one ⟨I.hid (True),(.ret (.v (.one (.ptr 0 0)))),[.pack [.obj 98 [(.ptr 1 0),(.p (.int .i64 0)),(.p (.int .i64 0)),(.p (.int .i64 0)),(.p (.int .i64 0)),(.p (.int .i64 0))],.pack [.obj 82 [(.row 1),(.p (.bool false)),(.p (.int .i64 0))],.row .byte 5 (I.hid ([]))]]]⟩):Option CT)) ()
  |_,_=>none
theorem zdY:zD Tryz.prog 89 (WX alg):=by
  intro args hp r h
  unfold WX at h
  split at h
  · cases h;exact fun hn=>zk9
  · cases h
def zdX:Know Tryz.prog:=⟨89,WX,zdY⟩
def zdW:Know Tryz.prog:=⟨89,fun I=>zH I (WX I),zf zdY⟩
theorem zj8 (lb:Str) (lc:Bool) (lo p l a t c k:Int):Spc Tryz.prog 67 [.v (.one (.ptr 0 0)),.v (.one (.p (.int .i64 k)))] [.pack [.obj 98 [(.ptr 1 0),(.p (.int .i64 p)),(.p (.int .i64 l)),(.p (.int .i64 a)),(.p (.int .i64 t)),(.p (.int .i64 c))],.pack [.obj 82 [(.row 1),(.p (.bool lc)),(.p (.int .i64 lo))],.row .byte 5 lb]]] (.ret (.tup [(.one (.row 1)),(.one (.p (.bool false))),(.one (.p (.int .i64 k)))])) [.pack [.obj 98 [(.ptr 1 0),(.p (.int .i64 p)),(.p (.int .i64 l)),(.p (.int .i64 a)),(.p (.int .i64 t)),(.p (.int .i64 k))],.pack [.obj 82 [(.row 1),(.p (.bool lc)),(.p (.int .i64 lo))],.row .byte 5 lb]],.row .byte 5 ([])]:=by
  refine spcG zi mixed Tryz.func67 (by kernel_rfl) { ziH with nr:=[4],keep:=some [0,1,4,5,6]} [] (by kernel_rfl) ?_
  intro I X hI hX
  refine zh (.fin (.ret (.tup [(.one (.row 1)),(.one (.p (.bool Bool.false))),(.one (.p (.int .i64 k)))])) [(.pack [(.obj 98 [(.ptr 1 0),(.p (.int .i64 p)),(.p (.int .i64 l)),(.p (.int .i64 a)),(.p (.int .i64 t)),(.p (.int .i64 k))]),(.pack [(.obj 82 [(.row 1),(.p (.bool lc)),(.p (.int .i64 lo))]),(.row .byte 5 lb)])]),(.row .byte 5 ([]:Str))]) (by kernel_rfl) ?_
  simp only [zy]
  subst hI
  simp only [nrmA,nrmB,nrlB,reduceCtorEq,HO.pack.injEq,HO.obj.injEq]
  try trivial
def YM (I:Alg) (args:List D) (hp:List HO):Option CT:=match args,hp with
  |[.v (.one (.ptr 0 0)),.v (.one (.p (.int .i64 k)))],[.pack [.obj 98 [(.ptr 1 0),(.p (.int .i64 p)),(.p (.int .i64 l)),(.p (.int .i64 a)),(.p (.int .i64 t)),(.p (.int .i64 c))],.pack [.obj 82 [(.row 1),(.p (.bool lc)),(.p (.int .i64 lo))],.row .byte 5 lb]]]=>(fun(lb:Str) (lc:Bool) (lo p l a t c k:Int)=>(some (.one ⟨I.hid (True),(.ret (.tup [(.one (.row 1)),(.one (.p (.bool false))),(.one (.p (.int .i64 k)))])),[.pack [.obj 98 [(.ptr 1 0),(.p (.int .i64 p)),(.p (.int .i64 l)),(.p (.int .i64 a)),(.p (.int .i64 t)),(.p (.int .i64 k))],.pack [.obj 82 [(.row 1),(.p (.bool lc)),(.p (.int .i64 lo))],.row .byte 5 lb]],.row .byte 5 (I.hid ([]))]⟩):Option CT)) lb lc lo p l a t c k
  |_,_=>none
theorem zbe:zD Tryz.prog 67 (YM alg):=by
  intro args hp r h
  unfold YM at h
  split at h
  · cases h;exact fun hn=>zj8 _ _ _ _ _ _ _ _ _
  · cases h
def zhf:Know Tryz.prog:=⟨67,YM,zbe⟩
def zhe:Know Tryz.prog:=⟨67,fun I=>zH I (YM I),zf zbe⟩
theorem zhd (s:Str) (hneed:s.length≤1000000):Spc Tryz.prog 85 [.v (.one (.p (.str s)))] [] (.ret (.tup [(.one (.p (.int .i64 ((if(yL s).2 then(yL s).1 else 0))))),(.one (.p (.int .i64 ((if(yL s).2 then 0 else 7)))))])) []:=by
  generalize hr:yL s=r
  obtain⟨n,ok⟩:=r
  unfold yL at hr
  have hl:=(WT s 59).1
  refine spcG zi mixed Tryz.func85 (by kernel_rfl) { keep:=some [0,2,3,4,7,8]} [Qv,Qu,zfn,zfm,Qx,Qw] (by kernel_rfl) ?_
  intro I X hI hX
  refine zh (let y0:=I.hid (α:=Str) (Go.Lib.trimS (I.hid (α:=Str) (Prod.fst (cutB s (59:UInt8)))) ([32,9]:Str));.need (I.hid (α:=(Prop)) (LE.le (List.length s) 1000000)) (.need (I.hid (α:=(Prop)) True) (.need (I.hid (α:=(Prop)) True) (.br (I.bnot (I.hid (α:=Bool) (Prod.snd (numA y0 (16:Int) (6:Int))))) (.fin (.ret (.tup [(.one (.p (.int .i64 0))),(.one (.p (.int .i64 7)))])) []) (.fin (.ret (.tup [(.one (.p (.int .i64 (I.hid (α:=Int) (Prod.fst (numA y0 (16:Int) (6:Int))))))),(.one (.p (.int .i64 0)))])) []))))) (by kernel_rfl) ?_
  simp only [zy]
  subst hI
  simp only [nrmA,nrmB,nrlB,reduceCtorEq]
  rw [hr]
  cases ok
  all_goals(repeat' (first|refine And.intro ?_ ?_|intro _))<;>first|omega|exact True.intro|exact False.elim ‹False›|skip
  all_goals first
    |exact hneed
    |trivial
    |omega
    |(simp at *;done)
def sZ (I:Alg) (args:List D) (hp:List HO):Option CT:=match args,hp with
  |[.v (.one (.p (.str s)))],[]=>(fun(s:Str)=>(some (.one ⟨I.hid (s.length≤1000000),(.ret (.tup [(.one (.p (.int .i64 (I.hid ((if(yL s).2 then(yL s).1 else 0)))))),(.one (.p (.int .i64 (I.hid ((if(yL s).2 then 0 else 7))))))])),[]⟩):Option CT)) s
  |_,_=>none
theorem Us:zD Tryz.prog 85 (sZ alg):=by
  intro args hp r h
  unfold sZ at h
  split at h
  · cases h;exact fun hn=>zhd _ hn
  · cases h
def zb4:Know Tryz.prog:=⟨85,sZ,Us⟩
def zb3:Know Tryz.prog:=⟨85,fun I=>zH I (sZ I),zf Us⟩
set_option maxHeartbeats 4000000 in
theorem zj6 (lb:Str) (lc:Bool) (lo p l a t c:Int) (s:Str) (hneed:s.length≤1000000∧(0≤a∧a≤1000000)∧0≤t∧t≤1000000):Spc Tryz.prog 68 [.v (.one (.ptr 0 0)),.v (.one (.p (.str s)))] [.pack [.obj 98 [(.ptr 1 0),(.p (.int .i64 p)),(.p (.int .i64 l)),(.p (.int .i64 a)),(.p (.int .i64 t)),(.p (.int .i64 c))],.pack [.obj 82 [(.row 1),(.p (.bool lc)),(.p (.int .i64 lo))],.row .byte 5 lb]]] (.ret (.v (.one (.p (.int .i64 ((chL ⟨⟨lb,lc,lo⟩,p,l,a,t,c⟩ s).2)))))) [.pack [.obj 98 [(.ptr 1 0),(.p (.int .i64 ((chL ⟨⟨lb,lc,lo⟩,p,l,a,t,c⟩ s).1.pos))),(.p (.int .i64 ((chL ⟨⟨lb,lc,lo⟩,p,l,a,t,c⟩ s).1.left))),(.p (.int .i64 ((chL ⟨⟨lb,lc,lo⟩,p,l,a,t,c⟩ s).1.all))),(.p (.int .i64 ((chL ⟨⟨lb,lc,lo⟩,p,l,a,t,c⟩ s).1.tails))),(.p (.int .i64 c))],.pack [.obj 82 [(.row 1),(.p (.bool lc)),(.p (.int .i64 lo))],.row .byte 5 lb]]]:=by
  obtain⟨hs,⟨ha0,ha1⟩,ht0,ht1⟩:=hneed
  generalize hr:chL ⟨⟨lb,lc,lo⟩,p,l,a,t,c⟩ s=r
  unfold chL at hr
  simp only at hr
  have hsz:=vV s
  have hsz2:(yL s).2=false∨(yL s).2=true:=by cases(yL s).2<;>simp
  obtain⟨⟨⟨rb,rc,ro⟩,rp,rl,ra,rt,rc2⟩,re⟩:=r
  refine spcG zi mixed Tryz.func68 (by kernel_rfl) { ziH with keep:=some [0,1,4,5,6,8,12]} [Rj,Ri,zb4,zb3] (by kernel_rfl) ?_
  intro I X hI hX
  refine zh (let y1:HO:=.pack [(.obj 82 [(.row 1),(.p (.bool lc)),(.p (.int .i64 lo))]),(.row .byte 5 lb)];let y0:HO:=.pack [(.obj 98 [(.ptr 1 0),(.p (.int .i64 p)),(.p (.int .i64 l)),(.p (.int .i64 a)),(.p (.int .i64 t)),(.p (.int .i64 c))]),y1];let y2:=I.hid (α:=Int) (ite (Eq (Prod.snd (yL s)) Bool.true) (Prod.fst (yL s)) (0:Int));let y3:=I.hid (α:=Int) (ite (Eq (Prod.snd (yL s)) Bool.true) (0:Int) (7:Int));let y4:=I.hid (α:=(Prop)) (LE.le (List.length s) 1000000);.br (I.ieq p 2) (.br (I.bnot (I.seq s ([]:Str))) (.fin (.ret (.v (.one (.p (.int .i64 5))))) [y0]) (.fin (.ret (.v (.one (.p (.int .i64 0))))) [(.pack [(.obj 98 [(.ptr 1 0),(.p (.int .i64 0)),(.p (.int .i64 l)),(.p (.int .i64 a)),(.p (.int .i64 t)),(.p (.int .i64 c))]),y1])])) (.br (I.ieq p 0) (.need y4 (.br (I.bnot (I.ieq y3 0)) (.fin (.ret (.v (.one (.p (.int .i64 y3))))) [y0]) (.need (I.inr Go.IntKind.i64 (I.sub 4000 a)) (.br (I.ilt (I.sub 4000 a) y2) (.fin (.ret (.v (.one (.p (.int .i64 4))))) [y0]) (.br (I.ieq y2 0) (.fin (.ret (.v (.one (.p (.int .i64 0))))) [(.pack [(.obj 98 [(.ptr 1 0),(.p (.int .i64 3)),(.p (.int .i64 l)),(.p (.int .i64 a)),(.p (.int .i64 t)),(.p (.int .i64 c))]),y1])]) (.fin (.ret (.v (.one (.p (.int .i64 0))))) [(.pack [(.obj 98 [(.ptr 1 0),(.p (.int .i64 1)),(.p (.int .i64 y2)),(.p (.int .i64 a)),(.p (.int .i64 t)),(.p (.int .i64 c))]),y1])])))))) (.br (I.ieq p 3) (.br (I.seq s ([]:Str)) (.fin (.ret (.v (.one (.p (.int .i64 0))))) [(.pack [(.obj 98 [(.ptr 1 0),(.p (.int .i64 4)),(.p (.int .i64 l)),(.p (.int .i64 a)),(.p (.int .i64 t)),(.p (.int .i64 c))]),y1])]) (.br (I.ieq t 16) (.fin (.ret (.v (.one (.p (.int .i64 8))))) [y0]) (.need (I.inr Go.IntKind.i64 (I.add t 1)) (.need y4 (.fin (.ret (.v (.one (.p (.int .i64 (I.hid (α:=Int) (Prod.snd (zM s)))))))) [(.pack [(.obj 98 [(.ptr 1 0),(.p (.int .i64 p)),(.p (.int .i64 l)),(.p (.int .i64 a)),(.p (.int .i64 (I.add t 1))),(.p (.int .i64 c))]),y1])]))))) (.fin (.ret (.v (.one (.p (.int .i64 0))))) [y0])))) (by kernel_rfl) ?_
  simp only [zy]
  subst hI
  simp only [nrmA,nrmB,nrlB,reduceCtorEq,HO.pack.injEq,HO.obj.injEq]
  generalize yL s=z at *
  obtain⟨n,ok⟩:=z
  simp only at *
  cases ok
  all_goals simp only [Bool.false_eq_true,if_false,if_true] at *
  all_goals(repeat' (first|refine And.intro ?_ ?_|intro _))<;>first|omega|exact True.intro|exact False.elim ‹False›|skip
  all_goals first
    |exact hs
    |omega
    |(exfalso;simp at *;done)
    |(((repeat(first|rewrite [if_pos (by first|omega|assumption|(simp only [*,or_self,or_true,true_or,or_false,false_or,not_true_eq_false,not_false_eq_true,Bool.false_eq_true,Bool.true_eq_false,and_self,and_true,true_and];done)|(simp only [*];omega)|(simp [*];done)|(simp [*];omega))] at hr|rewrite [if_neg (by first|omega|assumption|(simp only [*,or_self,or_true,true_or,or_false,false_or,not_true_eq_false,not_false_eq_true,Bool.false_eq_true,Bool.true_eq_false,and_self,and_true,true_and];done)|(simp only [*];omega)|(simp [*];done)|(simp [*];omega))] at hr)));cases hr;first|rfl|done|with_reducible assumption|exact⟨rfl,rfl,rfl⟩|(simp;done)|(simp;omega))
def YI (I:Alg) (args:List D) (hp:List HO):Option CT:=match args,hp with
  |[.v (.one (.ptr 0 0)),.v (.one (.p (.str s)))],[.pack [.obj 98 [(.ptr 1 0),(.p (.int .i64 p)),(.p (.int .i64 l)),(.p (.int .i64 a)),(.p (.int .i64 t)),(.p (.int .i64 c))],.pack [.obj 82 [(.row 1),(.p (.bool lc)),(.p (.int .i64 lo))],.row .byte 5 lb]]]=>(fun(lb:Str) (lc:Bool) (lo p l a t c:Int) (s:Str)=>(some (.one ⟨I.hid (s.length≤1000000∧(0≤a∧a≤1000000)∧0≤t∧t≤1000000),(.ret (.v (.one (.p (.int .i64 (I.hid ((chL ⟨⟨lb,lc,lo⟩,p,l,a,t,c⟩ s).2))))))),[.pack [.obj 98 [(.ptr 1 0),(.p (.int .i64 (I.hid ((chL ⟨⟨lb,lc,lo⟩,p,l,a,t,c⟩ s).1.pos)))),(.p (.int .i64 (I.hid ((chL ⟨⟨lb,lc,lo⟩,p,l,a,t,c⟩ s).1.left)))),(.p (.int .i64 (I.hid ((chL ⟨⟨lb,lc,lo⟩,p,l,a,t,c⟩ s).1.all)))),(.p (.int .i64 (I.hid ((chL ⟨⟨lb,lc,lo⟩,p,l,a,t,c⟩ s).1.tails)))),(.p (.int .i64 c))],.pack [.obj 82 [(.row 1),(.p (.bool lc)),(.p (.int .i64 lo))],.row .byte 5 lb]]]⟩):Option CT)) lb lc lo p l a t c s
  |_,_=>none
theorem zbc:zD Tryz.prog 68 (YI alg):=by
  intro args hp r h
  unfold YI at h
  split at h
  · cases h;exact fun hn=>zj6 _ _ _ _ _ _ _ _ _ hn
  · cases h
def zhc:Know Tryz.prog:=⟨68,YI,zbc⟩
def zhb:Know Tryz.prog:=⟨68,fun I=>zH I (YI I),zf zbc⟩
theorem zdZ (s:Ch) (t:Str):(chL s t).1.ln=s.ln∧(chL s t).1.code=s.code:=by
  unfold chL
  split
  · split<;>exact⟨rfl,rfl⟩
  split
  · split
    · exact⟨rfl,rfl⟩
    split
    · exact⟨rfl,rfl⟩
    split<;>exact⟨rfl,rfl⟩
  split
  · split
    · exact⟨rfl,rfl⟩
    split<;>exact⟨rfl,rfl⟩
  · exact⟨rfl,rfl⟩
theorem Xi (s:Ln) (c:UInt8):(lnF s c).2.1.length≤s.b.length:=by
  unfold lnF
  repeat' split
  all_goals simp
set_option maxHeartbeats 8000000 in
theorem zj7 (lb:Str) (lc:Bool) (lo p l a t c k:Int) (hneed:(0≤k∧k≤255)∧lb.length≤1000000∧(-1000000≤l∧l≤100000000)∧(0≤a∧a≤1000000)∧0≤t∧t≤1000000):Spc Tryz.prog 47 [.v (.one (.ptr 0 0)),.v (.one (.p (.int .u8 k)))] [.pack [.obj 98 [(.ptr 1 0),(.p (.int .i64 p)),(.p (.int .i64 l)),(.p (.int .i64 a)),(.p (.int .i64 t)),(.p (.int .i64 c))],.pack [.obj 82 [(.row 1),(.p (.bool lc)),(.p (.int .i64 lo))],.row .byte 5 lb]]] (.ret (.tup [(.one (.row 1)),(.one (.p (.bool ((chF ⟨⟨lb,lc,lo⟩,p,l,a,t,c⟩ (UInt8.ofNat k.toNat)).2.2.1)))),(.one (.p (.int .i64 ((chF ⟨⟨lb,lc,lo⟩,p,l,a,t,c⟩ (UInt8.ofNat k.toNat)).2.2.2))))])) [.pack [.obj 98 [(.ptr 1 0),(.p (.int .i64 ((chF ⟨⟨lb,lc,lo⟩,p,l,a,t,c⟩ (UInt8.ofNat k.toNat)).1.pos))),(.p (.int .i64 ((chF ⟨⟨lb,lc,lo⟩,p,l,a,t,c⟩ (UInt8.ofNat k.toNat)).1.left))),(.p (.int .i64 ((chF ⟨⟨lb,lc,lo⟩,p,l,a,t,c⟩ (UInt8.ofNat k.toNat)).1.all))),(.p (.int .i64 ((chF ⟨⟨lb,lc,lo⟩,p,l,a,t,c⟩ (UInt8.ofNat k.toNat)).1.tails))),(.p (.int .i64 ((chF ⟨⟨lb,lc,lo⟩,p,l,a,t,c⟩ (UInt8.ofNat k.toNat)).1.code)))],.pack [.obj 82 [(.row 1),(.p (.bool ((chF ⟨⟨lb,lc,lo⟩,p,l,a,t,c⟩ (UInt8.ofNat k.toNat)).1.ln.cr))),(.p (.int .i64 ((chF ⟨⟨lb,lc,lo⟩,p,l,a,t,c⟩ (UInt8.ofNat k.toNat)).1.ln.code)))],.row .byte 5 ((chF ⟨⟨lb,lc,lo⟩,p,l,a,t,c⟩ (UInt8.ofNat k.toNat)).1.ln.b)]],.row .byte 5 ((chF ⟨⟨lb,lc,lo⟩,p,l,a,t,c⟩ (UInt8.ofNat k.toNat)).2.1)]:=by
  obtain⟨⟨hk0,hk1⟩,hlb,⟨hl0,hl1⟩,⟨ha0,ha1⟩,ht0,ht1⟩:=hneed
  generalize hr:chF ⟨⟨lb,lc,lo⟩,p,l,a,t,c⟩ (UInt8.ofNat k.toNat)=r
  unfold chF at hr
  simp only at hr
  have hkeep:=zdZ ⟨(lnF ⟨lb,lc,lo⟩ (UInt8.ofNat k.toNat)).1,p,l,a,t,c⟩ (lnF ⟨lb,lc,lo⟩ (UInt8.ofNat k.toNat)).2.1
  have hlen:=Xi ⟨lb,lc,lo⟩ (UInt8.ofNat k.toNat)
  obtain⟨⟨⟨rb,rc,ro⟩,rp,rl,ra,rt,rc2⟩,rd,ris,re⟩:=r
  refine spcG zi mixed Tryz.func47 (by kernel_rfl) { ziH with nr:=[4],keep:=some [0,1,4,5,6,7,8,9]} [qi,qh,zhf,zhe,zhc,zhb] (by kernel_rfl) ?_
  intro I X hI hX
  refine zh (let y3:=I.hid (α:=Bool) (Go.Ab.Ln.cr (Prod.fst (lnF (Go.Ab.Ln.mk lb lc lo) (UInt8.ofNat (Int.toNat k)))));let y2:=I.hid (α:=Int) (Go.Ab.Ln.code (Prod.fst (lnF (Go.Ab.Ln.mk lb lc lo) (UInt8.ofNat (Int.toNat k)))));let y4:=I.hid (α:=Str) (Go.Ab.Ln.b (Prod.fst (lnF (Go.Ab.Ln.mk lb lc lo) (UInt8.ofNat (Int.toNat k)))));let y0:HO:=.pack [(.obj 82 [(.row 1),(.p (.bool y3)),(.p (.int .i64 y2))]),(.row .byte 5 y4)];let y1:=I.hid (α:=Str) (Prod.fst (Prod.snd (lnF (Go.Ab.Ln.mk lb lc lo) (UInt8.ofNat (Int.toNat k)))));let y5:=I.hid (α:=Int) (Prod.snd (Prod.snd (Prod.snd (lnF (Go.Ab.Ln.mk lb lc lo) (UInt8.ofNat (Int.toNat k))))));let y6:HO:=.pack [(.obj 82 [(.row 1),(.p (.bool lc)),(.p (.int .i64 lo))]),(.row .byte 5 lb)];let y7:HO:=.obj 98 [(.ptr 1 0),(.p (.int .i64 p)),(.p (.int .i64 l)),(.p (.int .i64 a)),(.p (.int .i64 t)),(.p (.int .i64 c))];let y8:=I.hid (α:=Int) (Go.Ab.Ch.pos (Prod.fst (chL (Go.Ab.Ch.mk (Go.Ab.Ln.mk y4 y3 y2) p l a t c) y1)));let y9:=I.hid (α:=Int) (Prod.snd (chL (Go.Ab.Ch.mk (Go.Ab.Ln.mk y4 y3 y2) p l a t c) y1));let y10:HO:=.pack [(.obj 98 [(.ptr 1 0),(.p (.int .i64 p)),(.p (.int .i64 l)),(.p (.int .i64 a)),(.p (.int .i64 t)),(.p (.int .i64 y5))]),y0];let y11:HO:=.row .byte 5 (I.hid (α:=Str) ([]:Str));let y12:=I.hid (α:=Int) (Go.Ab.Ch.tails (Prod.fst (chL (Go.Ab.Ch.mk (Go.Ab.Ln.mk y4 y3 y2) p l a t c) y1)));let y13:=I.hid (α:=Int) (Go.Ab.Ch.left (Prod.fst (chL (Go.Ab.Ch.mk (Go.Ab.Ln.mk y4 y3 y2) p l a t c) y1)));let y14:=I.hid (α:=Int) (Go.Ab.Ch.all (Prod.fst (chL (Go.Ab.Ch.mk (Go.Ab.Ln.mk y4 y3 y2) p l a t c) y1)));let y15:HO:=.row .byte 5 ([(I.i2b k)]:Str);.br (I.bnot (I.ieq c 0)) (.fin (.ret (.tup [(.one (.row 1)),(.one (.p (.bool Bool.false))),(.one (.p (.int .i64 c)))])) [(.pack [y7,y6]),(.row .byte 5 ([]:Str))]) (.br (I.ieq p 4) (.need (I.hid (α:=(Prop)) True) (.fin (.ret (.tup [(.one (.row 1)),(.one (.p (.bool Bool.false))),(.one (.p (.int .i64 18)))])) [(.pack [(.obj 98 [(.ptr 1 0),(.p (.int .i64 p)),(.p (.int .i64 l)),(.p (.int .i64 a)),(.p (.int .i64 t)),(.p (.int .i64 18))]),y6]),y11])) (.br (I.ieq p 1) (.need (I.inr Go.IntKind.i64 (I.sub l 1)) (.need (I.inr Go.IntKind.i64 (I.add a 1)) (.br (I.ieq (I.sub l 1) 0) (.need (I.inr Go.IntKind.u8 k) (.fin (.ret (.tup [(.one (.row 1)),(.one (.p (.bool Bool.false))),(.one (.p (.int .i64 0)))])) [(.pack [(.obj 98 [(.ptr 1 0),(.p (.int .i64 2)),(.p (.int .i64 (I.sub l 1))),(.p (.int .i64 (I.add a 1))),(.p (.int .i64 t)),(.p (.int .i64 c))]),y6]),y15])) (.need (I.inr Go.IntKind.u8 k) (.fin (.ret (.tup [(.one (.row 1)),(.one (.p (.bool Bool.false))),(.one (.p (.int .i64 0)))])) [(.pack [(.obj 98 [(.ptr 1 0),(.p (.int .i64 p)),(.p (.int .i64 (I.sub l 1))),(.p (.int .i64 (I.add a 1))),(.p (.int .i64 t)),(.p (.int .i64 c))]),y6]),y15]))))) (.need (I.hid (α:=(Prop)) (And (LE.le (0:Int) k) (And (LE.le k (255:Int)) (LE.le (List.length lb) 1000000)))) (.br (I.ieq y5 0) (.br (I.hid (α:=Bool) (Prod.fst (Prod.snd (Prod.snd (lnF (Go.Ab.Ln.mk lb lc lo) (UInt8.ofNat (Int.toNat k))))))) (.need (I.hid (α:=(Prop)) (And (LE.le (List.length y1) 1000000) (And (And (LE.le (0:Int) a) (LE.le a (1000000:Int))) (And (LE.le (0:Int) t) (LE.le t (1000000:Int)))))) (.br (I.bnot (I.ieq y9 0)) (.need (I.hid (α:=(Prop)) True) (.fin (.ret (.tup [(.one (.row 1)),(.one (.p (.bool Bool.false))),(.one (.p (.int .i64 y9)))])) [(.pack [(.obj 98 [(.ptr 1 0),(.p (.int .i64 y8)),(.p (.int .i64 y13)),(.p (.int .i64 y14)),(.p (.int .i64 y12)),(.p (.int .i64 y9))]),y0]),y11])) (.fin (.ret (.tup [(.one (.row 1)),(.one (.p (.bool (I.ieq y8 4)))),(.one (.p (.int .i64 0)))])) [(.pack [(.obj 98 [(.ptr 1 0),(.p (.int .i64 y8)),(.p (.int .i64 y13)),(.p (.int .i64 y14)),(.p (.int .i64 y12)),(.p (.int .i64 c))]),y0]),(.row .byte 5 ([]:Str))]))) (.br (I.bnot (I.ieq y5 0)) (.need (I.hid (α:=(Prop)) True) (.fin (.ret (.tup [(.one (.row 1)),(.one (.p (.bool Bool.false))),(.one (.p (.int .i64 y5)))])) [y10,y11])) (.fin (.ret (.tup [(.one (.row 1)),(.one (.p (.bool (I.ieq p 4)))),(.one (.p (.int .i64 0)))])) [(.pack [y7,y0]),(.row .byte 5 ([]:Str))]))) (.br (I.bnot (I.ieq y5 0)) (.need (I.hid (α:=(Prop)) True) (.fin (.ret (.tup [(.one (.row 1)),(.one (.p (.bool Bool.false))),(.one (.p (.int .i64 y5)))])) [y10,y11])) (.fin (.ret (.tup [(.one (.row 1)),(.one (.p (.bool (I.ieq p 4)))),(.one (.p (.int .i64 0)))])) [(.pack [y7,y0]),(.row .byte 5 ([]:Str))]))))))) (by kernel_rfl) ?_
  simp only [zy]
  subst hI
  simp only [nrmA,nrmB,nrlB,reduceCtorEq,HO.pack.injEq,HO.obj.injEq]
  generalize lnF ⟨lb,lc,lo⟩ (UInt8.ofNat k.toNat)=q at *
  obtain⟨⟨qb,qc,qo⟩,qs,qis,qe⟩:=q
  simp only at *
  generalize chL ⟨⟨qb,qc,qo⟩,p,l,a,t,c⟩ qs=z at *
  obtain⟨⟨⟨zb,zc,zo⟩,zp,zl,za,zt,zk⟩,ze⟩:=z
  simp only [Ln.mk.injEq] at *
  obtain⟨⟨rfl,rfl,rfl⟩,rfl⟩:=hkeep
  cases qis
  all_goals simp only [Bool.false_eq_true,if_false,if_true] at *
  all_goals(repeat' (first|refine And.intro ?_ ?_|intro _))<;>first|omega|exact True.intro|exact False.elim ‹False›|skip
  all_goals first
    |omega
    |(exfalso;simp at *;done)
    |(((repeat(first|rewrite [if_pos (by first|omega|assumption|(simp only [*,or_self,or_true,true_or,or_false,false_or,not_true_eq_false,not_false_eq_true,Bool.false_eq_true,Bool.true_eq_false,and_self,and_true,true_and];done)|(simp only [*];omega)|(simp [*];done)|(simp [*];omega))] at hr|rewrite [if_neg (by first|omega|assumption|(simp only [*,or_self,or_true,true_or,or_false,false_or,not_true_eq_false,not_false_eq_true,Bool.false_eq_true,Bool.true_eq_false,and_self,and_true,true_and];done)|(simp only [*];omega)|(simp [*];done)|(simp [*];omega))] at hr)));cases hr;first|rfl|done|with_reducible assumption|exact⟨rfl,rfl,rfl⟩|(simp;done)|(simp;omega))
def YL (I:Alg) (args:List D) (hp:List HO):Option CT:=match args,hp with
  |[.v (.one (.ptr 0 0)),.v (.one (.p (.int .u8 k)))],[.pack [.obj 98 [(.ptr 1 0),(.p (.int .i64 p)),(.p (.int .i64 l)),(.p (.int .i64 a)),(.p (.int .i64 t)),(.p (.int .i64 c))],.pack [.obj 82 [(.row 1),(.p (.bool lc)),(.p (.int .i64 lo))],.row .byte 5 lb]]]=>(fun(lb:Str) (lc:Bool) (lo p l a t c k:Int)=>(some (.one ⟨I.hid ((0≤k∧k≤255)∧lb.length≤1000000∧(-1000000≤l∧l≤100000000)∧(0≤a∧a≤1000000)∧0≤t∧t≤1000000),(.ret (.tup [(.one (.row 1)),(.one (.p (.bool (I.hid ((chF ⟨⟨lb,lc,lo⟩,p,l,a,t,c⟩ (UInt8.ofNat k.toNat)).2.2.1))))),(.one (.p (.int .i64 (I.hid ((chF ⟨⟨lb,lc,lo⟩,p,l,a,t,c⟩ (UInt8.ofNat k.toNat)).2.2.2)))))])),[.pack [.obj 98 [(.ptr 1 0),(.p (.int .i64 (I.hid ((chF ⟨⟨lb,lc,lo⟩,p,l,a,t,c⟩ (UInt8.ofNat k.toNat)).1.pos)))),(.p (.int .i64 (I.hid ((chF ⟨⟨lb,lc,lo⟩,p,l,a,t,c⟩ (UInt8.ofNat k.toNat)).1.left)))),(.p (.int .i64 (I.hid ((chF ⟨⟨lb,lc,lo⟩,p,l,a,t,c⟩ (UInt8.ofNat k.toNat)).1.all)))),(.p (.int .i64 (I.hid ((chF ⟨⟨lb,lc,lo⟩,p,l,a,t,c⟩ (UInt8.ofNat k.toNat)).1.tails)))),(.p (.int .i64 (I.hid ((chF ⟨⟨lb,lc,lo⟩,p,l,a,t,c⟩ (UInt8.ofNat k.toNat)).1.code))))],.pack [.obj 82 [(.row 1),(.p (.bool (I.hid ((chF ⟨⟨lb,lc,lo⟩,p,l,a,t,c⟩ (UInt8.ofNat k.toNat)).1.ln.cr)))),(.p (.int .i64 (I.hid ((chF ⟨⟨lb,lc,lo⟩,p,l,a,t,c⟩ (UInt8.ofNat k.toNat)).1.ln.code))))],.row .byte 5 (I.hid ((chF ⟨⟨lb,lc,lo⟩,p,l,a,t,c⟩ (UInt8.ofNat k.toNat)).1.ln.b))]],.row .byte 5 (I.hid ((chF ⟨⟨lb,lc,lo⟩,p,l,a,t,c⟩ (UInt8.ofNat k.toNat)).2.1))]⟩):Option CT)) lb lc lo p l a t c k
  |_,_=>none
theorem zbd:zD Tryz.prog 47 (YL alg):=by
  intro args hp r h
  unfold YL at h
  split at h
  · cases h;exact fun hn=>zj7 _ _ _ _ _ _ _ _ _ hn
  · cases h
def YK:Know Tryz.prog:=⟨47,YL,zbd⟩
def YJ:Know Tryz.prog:=⟨47,fun I=>zH I (YL I),zf zbd⟩
end Go.Proofs.YtmibhbdfigpkmaaGreatDoor
namespace Go.Proofs.YtmibhbdfigpkmaaGreatDoor
open Go Go.Sep Go.Ab
set_option maxRecDepth 100000
theorem zf8: ∀ (s:Str) (n:Int),0≤n→(numG 16 n s).1+1≤(n+1) * 16 ^ s.length
  |[],n,h=>by simp [numG]
  | c ::l,n,h=>by
    have h16:(0:Int)<16 ^ l.length:=Int.pow_pos (by decide)
    have e:((n+1) * 16 ^ (c::l).length:Int)=((n+1) * 16) * 16 ^ l.length:=by rw [List.length_cons,Int.pow_succ,Int.mul_assoc,Int.mul_comm (16 ^ l.length) 16]
    rw [e,numG]
    split
    · have h1:(1:Int) * 1≤((n+1) * 16) * 16 ^ l.length:=Int.mul_le_mul (by omega) (by omega) (by decide) (by omega)
      simpa using h1
    · rename_i hc
      have h2:=zf8 l (n * 16+hexK c.toNat) (by omega)
      exact Int.le_trans h2 (Int.mul_le_mul_of_nonneg_right (by omega) (by omega))
theorem zcC (t:Str):(yL t).1≤16777215:=by
  unfold yL numA
  split
  · exact by decide
  · rename_i h
    have h1:=zf8 (Lib.trimS (cutB t 59).1 [32,9]) 0 (Int.le_refl _)
    have h2:(Lib.trimS (cutB t 59).1 [32,9]).length≤6:=by omega
    have h3:(16:Int) ^ (Lib.trimS (cutB t 59).1 [32,9]).length≤16 ^ 6:=by
      have:=Nat.pow_le_pow_right (show 0<16 by decide) h2
      exact_mod_cast this
    have h4:(16:Int) ^ 6=16777216:=by decide
    omega
structure ChI (s:Ch) (i:Nat):Prop where
  b:s.ln.b.length≤i
  a0:0≤s.all
  a1:s.all≤i
  t0:0≤s.tails
  t1:s.tails≤i
  l0: -(i:Int)≤s.left
  l1:s.left≤16777215
theorem zla:ChI ch0 0:=⟨by decide,by decide,by decide,by decide,by decide,by decide,by decide⟩
theorem zkM (s:Ln) (c:UInt8):(lnF s c).1.b.length≤s.b.length+1:=by
  unfold lnF
  repeat' split
  all_goals simp
theorem zlG {s:Ch} {i:Nat} (h:ChI s i) (c:UInt8):ChI (chF s c).1 (i+1):=by
  have hb:=zkM s.ln c
  have h0:=h
  obtain⟨h1,h2,h3,h4,h5,h6,h7⟩:=h
  unfold chF
  split
  · exact⟨by show s.ln.b.length≤i+1;omega,h2,by show s.all≤_;omega,h4,by show s.tails≤_;omega,by show _≤s.left;omega,h7⟩
  split
  · constructor<;>simp only<;>omega
  split
  · constructor<;>simp only<;>omega
  split
  · constructor<;>simp only<;>omega
  split
  · have hl: ∀ t,(chL { s with ln:=(lnF s.ln c).1} t).1.ln=(lnF s.ln c).1:=fun t=>(zdZ _ _).1
    have key: ∀ t,ChI (chL { s with ln:=(lnF s.ln c).1} t).1 (i+1):=fun t=>by
      have hz:=vV t
      have hz2:=zcC t
      unfold chL
      repeat' split
      all_goals constructor
      all_goals simp only
      all_goals omega
    split
    · obtain⟨k1,k2,k3,k4,k5,k6,k7⟩:=key (lnF s.ln c).2.1
      exact⟨k1,k2,k3,k4,k5,k6,k7⟩
    · exact key _
  · constructor<;>simp only<;>omega
theorem zd0 {s:Ch} {i:Nat} (h:ChI s i) (hi:i≤1000000):s.ln.b.length≤1000000∧(-1000000≤s.left∧s.left≤100000000)∧(0≤s.all∧s.all≤1000000)∧0≤s.tails∧s.tails≤1000000:=by
  obtain⟨h1,h2,h3,h4,h5,h6,h7⟩:=h
  omega
theorem Qq {s:Ch} {i j:Nat} (h:ChI s i) (k:i≤j):ChI s j:=by
  obtain⟨h1,h2,h3,h4,h5,h6,h7⟩:=h
  exact⟨by omega,h2,by omega,h4,by omega,by omega,h7⟩
end Go.Proofs.YtmibhbdfigpkmaaGreatDoor
namespace Go.Proofs.YtmibhbdfigpkmaaGreatDoor
open Go Go.Sep Go.Ab
set_option maxRecDepth 100000
theorem zas (s:Str):(zM s).1.name.length≤s.length∧(zM s).1.value.length≤s.length:=by
  have h:=WT s 58
  have ht:=zcq (cutB s 58).2.1 [32,9]
  unfold zM
  repeat' split
  all_goals simp only [List.length_nil]
  all_goals omega
end Go.Proofs.YtmibhbdfigpkmaaGreatDoor
namespace Go.Proofs.YtmibhbdfigpkmaaGreatDoor
open Go Go.Sep Go.Ab
set_option maxRecDepth 100000
theorem zf5 (s:Str):Spc Tryz.prog 55 [.v (.one (.p (.str s)))] [] (.ret (.tup [(.one (.p (.int .i64 ((numA s 10 9).1)))),(.one (.p (.bool ((numA s 10 9).2))))])) []:=by
  generalize hr:numA s 10 9=r
  refine spcG zi mixed Tryz.func55 (by kernel_rfl) { keep:=some [0,2,3,4,5]} [zf4,zf3,WN,WM] (by kernel_rfl) ?_
  intro I X hI hX
  refine zh (.br (I.ilt (I.len (α:=UInt8) s) 1) (.fin (.ret (.tup [(.one (.p (.int .i64 0))),(.one (.p (.bool Bool.false)))])) []) (.br (I.ilt 9 (I.len (α:=UInt8) s)) (.fin (.ret (.tup [(.one (.p (.int .i64 0))),(.one (.p (.bool Bool.false)))])) []) (.code 0 [1,1,1,0,1,0] ⟨[(5,(.v (.one (.p (.int .i64 0))))),(4,(.v (.one (.p (.int .i64 0))))),(3,(.v (.one (.p (.val (.bool .false)))))),(2,(.v (.one (.p (.int .i64 0))))),(0,(.v (.one (.p (.str s)))))],[],33,none⟩))) (by kernel_rfl) ?_
  simp only [zy]
  have hne:s≠[]→¬ (9:Int)<s.length→numG 10 0 s=r:=fun h1 h2=>by rw [← hr,numA,if_neg (fun h=>by rcases h with h|h;exact h1 h;exact h2 h)]
  have hyes:(s=[]∨(9:Int)<s.length)→r=(0,false):=fun h=>by rw [← hr,numA,if_pos h]
  refine⟨fun c1=> ?_,fun c1=>⟨fun c2=> ?_,fun c2=> ?_⟩⟩
  · subst hI
    simp only [nrmA,nrmB] at c1
    rw [hyes (.inl (List.eq_nil_of_length_eq_zero (by omega)))]
    simp
  · subst hI
    simp only [nrmA,nrmB] at c2
    rw [hyes (.inr c2)]
    simp
  have d1:s≠[]:=by
    subst hI
    simp only [nrmA,nrmB] at c1
    rintro rfl
    simp at c1
  have d2:s.length≤9:=by
    subst hI
    simp only [nrmA,nrmB] at c2
    omega
  refine zG hI zi mixed [zf4,zf3,WN,WM] hX [0,4,5] (fun(g:Nat × Int)=>match g with|(i,n)=>i≤s.length∧0≤n∧n≤top9 i∧numG 10 n (s.drop i)=r) (fun(g:Nat × Int)=>match g with|(i,n)=>⟨[(0,.v (.one (.p (.str s)))),(4,.v (.one (.p (.int .i64 n)))),(5,.v (.one (.p (.int .i64 i))))],[],33,none⟩) (fun(g:Nat × Int)=>match g with|(i,n)=>s.length - i) (0,0) (by kernel_rfl) (by kernel_rfl) ?_ ?_
  · exact⟨Nat.zero_le _,Int.le_refl _,Int.le_refl _,hne d1 (by omega)⟩
  rintro⟨i,n⟩ ⟨h1,h2,h3,h4⟩ A hA
  simp only at hA
  refine zh (let y0:=I.b2i (I.get (α:=UInt8) s 0 (Nat.cast i));let y1:=I.add (I.mul 10 n) (I.hid (α:=Int) (hexK y0));let y2:=([48,49,50,51,52,53,54,55,56,57]:Str);let y3:=I.inb (Nat.cast i) (I.len (α:=UInt8) s);.br (I.ilt (Nat.cast i) (I.len (α:=UInt8) s)) (.need y3 (.need (I.hid (α:=(Prop)) (And (LE.le (List.length y2) 1000000) (And (LE.le (0:Int) y0) (LE.le y0 (255:Int))))) (.br (I.bnot (I.hid (α:=Bool) (List.contains y2 (UInt8.ofNat (Int.toNat y0))))) (.fin (.ret (.tup [(.one (.p (.int .i64 0))),(.one (.p (.bool Bool.false)))])) []) (.need (I.inr Go.IntKind.i64 (I.mul 10 n)) (.need y3 (.need (I.hid (α:=(Prop)) (And (LE.le (0:Int) y0) (LE.le y0 (255:Int)))) (.need (I.inr Go.IntKind.i64 y1) (.need (I.inr Go.IntKind.i64 (I.add (Nat.cast i) 1)) (.need (A ⟨[(0,(.v (.one (.p (.str s))))),(4,(.v (.one (.p (.int .i64 y1))))),(5,(.v (.one (.p (.int .i64 (I.add (Nat.cast i) 1))))))],[],33,none⟩) .qed))))))))) (.fin (.ret (.tup [(.one (.p (.int .i64 n))),(.one (.p (.bool Bool.true)))])) [])) (by kernel_rfl) ?_
  simp only [zy]
  subst hI
  simp only [nrmA,nrmB]
  have hb:=ve (s.getD i 0)
  have hk:=Qa hb
  have hdg:=TY hb
  rw [Int.toNat_natCast,UInt8.ofNat_toNat] at hdg
  have hd:i<s.length→_:=fun h=>Yr (base:=10) (n:=n) h
  have ht:i≤9:=by omega
  have ht:=SG ht
  have ht2:top9 (i+1)=16 * top9 i+15:=rfl
  generalize s.getD i 0=x at *
  try rw [hdg]
  generalize hexK (x.toNat:Int)=k at *
  simp only [Int.mul_comm 10 n,decide_eq_true_eq,decide_eq_false_iff_not]
  (repeat' (first|refine And.intro ?_ ?_|intro _))<;>first|omega|exact True.intro|exact False.elim ‹False›|skip
  all_goals first
    |omega
    |decide
    |(rw [← h4,hd (by omega),if_pos (by omega)])
    |(refine hA (i+1,_) ⟨by simp only;omega,by simp only;omega,by simp only;omega,?_⟩ (by simp only;omega);rw [← h4,hd (by omega),if_neg (by omega)])
    |(rw [← h4,List.drop_of_length_le (by omega)];rfl)
def sG (I:Alg) (args:List D) (hp:List HO):Option CT:=match args,hp with
  |[.v (.one (.p (.str s)))],[]=>(fun(s:Str)=>(some (.one ⟨I.hid (True),(.ret (.tup [(.one (.p (.int .i64 (I.hid ((numA s 10 9).1))))),(.one (.p (.bool (I.hid ((numA s 10 9).2)))))])),[]⟩):Option CT)) s
  |_,_=>none
theorem VI:zD Tryz.prog 55 (sG alg):=by
  intro args hp r h
  unfold sG at h
  split at h
  · cases h;exact fun hn=>zf5 _
  · cases h
def VH:Know Tryz.prog:=⟨55,sG,VI⟩
def VG:Know Tryz.prog:=⟨55,fun I=>zH I (sG I),zf VI⟩
theorem ziI (s:Str):Spc Tryz.prog 108 [.v (.one (.p (.str s)))] [] (.ret (.tup [(.one (.p (.int .i64 ((numA s 10 9).1)))),(.one (.p (.bool ((numA s 10 9).2))))])) []:=by
  refine spcG zi mixed Tryz.func108 (by kernel_rfl) { keep:=some [0,2,3]} [sK,sJ,VK,VJ] (by kernel_rfl) ?_
  intro I X hI hX
  refine zh (.need (I.hid (α:=(Prop)) True) (.fin (.ret (.tup [(.one (.p (.int .i64 (I.hid (α:=Int) (Prod.fst (numA s (10:Int) (9:Int))))))),(.one (.p (.bool (I.hid (α:=Bool) (Prod.snd (numA s (10:Int) (9:Int)))))))])) [])) (by kernel_rfl) ?_
  simp only [zy]
  subst hI
  simp only [nrmA,nrmB]
  try trivial
def Zl (I:Alg) (args:List D) (hp:List HO):Option CT:=match args,hp with
  |[.v (.one (.p (.str s)))],[]=>(fun(s:Str)=>(some (.one ⟨I.hid (True),(.ret (.tup [(.one (.p (.int .i64 (I.hid ((numA s 10 9).1))))),(.one (.p (.bool (I.hid ((numA s 10 9).2)))))])),[]⟩):Option CT)) s
  |_,_=>none
theorem Sr:zD Tryz.prog 108 (Zl alg):=by
  intro args hp r h
  unfold Zl at h
  split at h
  · cases h;exact fun hn=>ziI _
  · cases h
def Sm:Know Tryz.prog:=⟨108,Zl,Sr⟩
def Sl:Know Tryz.prog:=⟨108,fun I=>zH I (Zl I),zf Sr⟩
theorem zaw: ∀ (s:Str) (n:Int),0≤n→(numG 10 n s).1+1≤(n+1) * 10 ^ s.length∧0≤(numG 10 n s).1
  |[],n,h=>by simp [numG];exact h
  | c ::l,n,h=>by
    have h16:(0:Int)<10 ^ l.length:=Int.pow_pos (by decide)
    have e:((n+1) * 10 ^ (c::l).length:Int)=((n+1) * 10) * 10 ^ l.length:=by rw [List.length_cons,Int.pow_succ,Int.mul_assoc,Int.mul_comm (10 ^ l.length) 10]
    rw [e,numG]
    split
    · have h1:(1:Int) * 1≤((n+1) * 10) * 10 ^ l.length:=Int.mul_le_mul (by omega) (by omega) (by decide) (by omega)
      exact⟨by simpa using h1,Int.le_refl _⟩
    · rename_i hc
      have h2:=zaw l (n * 10+hexK c.toNat) (by omega)
      exact⟨Int.le_trans h2.1 (Int.mul_le_mul_of_nonneg_right (by omega) (by omega)),h2.2⟩
theorem ZG (x:Str):0≤(numA x 10 9).1∧(numA x 10 9).1<1000000000:=by
  unfold numA
  split
  · exact by decide
  · rename_i h
    have h1:=zaw x 0 (Int.le_refl _)
    have h2:x.length≤9:=by omega
    have h3:(10:Int) ^ x.length≤10 ^ 9:=by
      have:(10 ^ x.length:Nat)≤10 ^ 9:=Nat.pow_le_pow_right (by decide) h2
      exact_mod_cast this
    refine⟨h1.2,?_⟩
    have h4:(10:Int) ^ 9=1000000000:=by decide
    omega
end Go.Proofs.YtmibhbdfigpkmaaGreatDoor
