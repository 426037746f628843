/- Texts of this proof, one behind the other: AbP AbO ShpR Tab Laid Wrap InZ Shelf Lib ChrA ChrB ChrC LnL Fnd FldA ChrD ChkL FldB FldG FldD FldE ReqL ReqP LnA ChkA ChkI FldP ChrN ReqB Num. -/
import Derived.Deep.LoopGhost
import Derived.Recover
import Derived.KernelRfl
import Derived.Test.YtmibhbdfigpkmaaGreatDoorProg
import Derived.WalkKit
import Derived.Lib.ItoaNum
import Derived.Lib.LaidTab
import Derived.Shelf.Vars
import Derived.HandedShaped
import Derived.WideShapes
import Derived.ChangeArms
import Derived.SizedLaws
import Derived.Shelf.Strings.SlTrimAscii
import Derived.Shelf.Strings.Trim
import Derived.Shelf.Small.Utf8
import Derived.Shelf.Small.Strs
import Derived.Shelf.Strconv.Itoa0
import Derived.Shelf.Strconv.Itoa1
import Derived.Shelf.LaysM
import Derived.Shelf.Strconv.Itoa2
import Derived.Shelf.Strconv.Itoa3
import Derived.Shelf.Strings.Search1
import Derived.Shelf.Strings.Search2
import Derived.Shelf.Strings.Search3
import Derived.Shelf.Strings.Cut
import Derived.Shelf.Strings.Count
import Derived.Shelf.Strings.Shaped
import Derived.Shelf.Strings.Prefix
import Derived.Shelf.Strings.Split
import Derived.Shelf.Strings.Runes
import Derived.Shelf.Strings.IndexAny
import Derived.Shelf.Strings.AsciiSet
import Derived.Shelf.Strings.IndexAnyAll
import Derived.Shelf.Unicode.DecodeSlow
import Derived.Below
import Derived.Test.YtmibhbdfigpkmaaGreatDoorMb
set_option linter.all false
namespace Go.Ab
open Go Go.Sep
variable [Facts]
theorem Ri {α:Type} (x:α):alg.hid x=x:=rfl
theorem zgw (k:IntKind) (x y:Int):alg.shl k x y=k.wrap (x * 2 ^ (min y.toNat k.bits)):=rfl
theorem zgv (x y:Int):alg.shr x y=x.fdiv (2 ^ (min y.toNat 64)):=rfl
theorem zc3 (op:BinOp) (k:IntKind) (x y:Int):alg.bits op k x y=k.wrap (match op with
    |.and=>(BitVec.ofInt k.bits x&&& BitVec.ofInt k.bits y).toNat
    |.or=>(BitVec.ofInt k.bits x|||BitVec.ofInt k.bits y).toNat
    |_=>(BitVec.ofInt k.bits x ^^^ BitVec.ofInt k.bits y).toNat:Nat):=rfl
theorem zfE:IntKind.i64.min= -9223372036854775808:=by decide
theorem zfF:IntKind.i64.max=9223372036854775807:=by decide
theorem zhG:IntKind.u8.min=0:=by decide
theorem zhH:IntKind.u8.max=255:=by decide
theorem Qn (c:UInt8):UInt8.ofNat ((c.toNat:Int)).toNat=c:=by simp
theorem zgn (c d:UInt8):((c.toNat:Int)=(d.toNat:Int))↔c=d:=by
  constructor
  · intro h;exact UInt8.toNat_inj.1 (by omega)
  · intro h;rw [h]
structure CR where
  need:Prop
  out:AOut
  hp:List HO
inductive CT where
  |one (r:CR)
  |br (b:Bool) (t f:CT)
def CT.Good (Pr:Program) (f:Nat) (args:List D) (hp:List HO):CT→Prop
  |.one r=>r.need→Spc Pr f args hp r.out r.hp
  |.br b t e=>(b=true→t.Good Pr f args hp)∧(b=false→e.Good Pr f args hp)
def CT.map (g:CR→CR):CT→CT
  |.one r=>.one (g r)
  |.br b t e=>.br b (t.map g) (e.map g)
def CT.mapO (g:CR→Option CR):CT→Option CT
  |.one r=>match g r with|some r=>some (.one r)|none=>none
  |.br b t e=>match t.mapO g,e.mapO g with|some t,some e=>some (.br b t e)|_,_=>none
def CT.tree (k:CR→Tree):CT→Tree
  |.one r=>k r
  |.br b t e=>.br b (t.tree k) (e.tree k)
theorem CT.Good.map {Pr:Program} {f f':Nat} {args args':List D} {hp hp':List HO} {g:CR→CR} (h: ∀ r:CR,(r.need→Spc Pr f args hp r.out r.hp)→(g r).need→Spc Pr f' args' hp' (g r).out (g r).hp): ∀ {c:CT},c.Good Pr f args hp→(c.map g).Good Pr f' args' hp'
  |.one r,hc=>h r hc
  |.br _ _ _,hc=>⟨fun e=>CT.Good.map h (hc.1 e),fun e=>CT.Good.map h (hc.2 e)⟩
theorem CT.Good.mapO {Pr:Program} {f f':Nat} {args args':List D} {hp hp':List HO} {g:CR→Option CR} (h: ∀ r r':CR,g r=some r'→(r.need→Spc Pr f args hp r.out r.hp)→r'.need→Spc Pr f' args' hp' r'.out r'.hp): ∀ {c c':CT},c.mapO g=some c'→c.Good Pr f args hp→c'.Good Pr f' args' hp'
  | .one r,c',e,hc=>by
    simp only [CT.mapO] at e
    split at e
    · rename_i r' hr;cases e;exact h r r' hr hc
    · cases e
  | .br b t f,c',e,hc=>by
    simp only [CT.mapO] at e
    split at e
    · rename_i t' f' ht hf;cases e;exact⟨fun e=>CT.Good.mapO h ht (hc.1 e),fun e=>CT.Good.mapO h hf (hc.2 e)⟩
    · cases e
structure Know (Pr:Program) where
  f:Nat
  c:Alg→List D→List HO→Option CT
  ok: ∀ args hp r,c alg args hp=some r→r.Good Pr f args hp
def zhJ:List D→List Nat
  |[]=>[]
  |d::ds=>zha d++zhJ ds
def U0 (hp:List HO) (args:List D):List Nat:=gather hp 60 (zhJ args) []
def frameC (c:List D→List HO→Option CT) (args:List D) (hp:List HO):Option CT:=
  match ve (U0 hp args) hp with
  |none=>none
  | some (os,hpr)=>match c (args.map (D.ren fun q=>idx q (U0 hp args) 0)) (os.map (HO.ren fun q=>idx q (U0 hp args) 0)) with
    |none=>none
    |some r=>some (r.map fun r=>⟨r.need,r.out.ren (YU (U0 hp args) hp.length),uH (YU (U0 hp args) hp.length) (U0 hp args) r.hp hpr⟩)
def WZ (I:Alg) (c:List D→List HO→Option CT):Nat→List D→List HO→Option CT
  |0,args,hp=>frameC c args hp
  | n + 1,args,hp=>match nth hp n with
    | some (.row u E l)=>(match WZ I c n (args.map (D.frz I n u l)) (setN (hp.map (HO.frz I n u l)) n .gone) with
      | some r=>r.mapO fun r=>(match noLA r.out,Qr r.hp with
        |true,true=>some ⟨r.need,r.out,setN r.hp n (.row u E l)⟩
        |_,_=>none)
      |none=>none)
    |_=>WZ I c n args hp
def zK (I:Alg) (c:List D→List HO→Option CT) (args:List D) (hp:List HO):Option CT:=WZ I c hp.length args hp
def ask {Pr:Program} (I:Alg):List (Know Pr)→Nat→List D→List HO→Option CT
  |[],_,_,_=>none
  | k::r,f,args,hp=>match Nat.beq k.f f with
    |true=>(match frameC (k.c I) args hp with|some x=>some x|none=>ask I r f args hp)
    |false=>ask I r f args hp
def drive (q:Nat→List D→List HO→Option CT):Tree→Tree
  |.need p t=>.need p (drive q t)
  |.br b t f=>.br b (drive q t) (drive q f)
  | .call f args hp k=>Uy hp fun hp=>match q f args hp with
    |some r=>r.tree fun r=>.need r.need (Uy r.hp fun h=>drive q (k r.out h))
    |none=>.call f args hp fun o h=>drive q (k o h)
  |.code c st k=>.code c st k
  |.fin o hp=>.fin o hp
  |.both t f=>.both (drive q t) (drive q f)
  |.qed=>.qed
  |.stop n=>.stop n
def zI (Pr:Program) (f:Nat) (c:List D→List HO→Option CT):Prop:=∀ args hp r,c args hp=some r→r.Good Pr f args hp
section
variable {Pr:Program} {T:Tab} {X:Ctx} {G:AOut→List HO→Prop} {a:Act} {w:World}
theorem Vh {f:Nat} {c:List D→List HO→Option CT} (h:zI Pr f c):zI Pr f (frameC c):=by
  intro args hp r hr
  unfold frameC at hr
  split at hr
  · cases hr
  · rename_i os hpr ht
    split at hr
    · cases hr
    · rename_i r0 hc
      cases hr
      exact CT.Good.map (g:=fun r=>⟨r.need,r.out.ren (YU (U0 hp args) hp.length),uH (YU (U0 hp args) hp.length) (U0 hp args) r.hp hpr⟩) (fun r hs hn=>(hs hn).frame _ ht rfl rfl) (h _ _ _ hc)
theorem sV {f:Nat} {c:List D→List HO→Option CT} (h:zI Pr f c): ∀ n,zI Pr f (WZ alg c n)
  |0=>Vh h
  | n + 1 =>by
    intro args hp r hr
    unfold WZ at hr
    split at hr
    · rename_i u E l ho
      rw [yc] at ho
      split at hr
      · rename_i r0 hc
        refine CT.Good.mapO (fun r r' hrr hs hn=> ?_) hr (sV h n _ _ _ hc)
        split at hrr
        · rename_i h1 h2
          cases hrr
          exact Spc.zjD (hs hn) ho rfl rfl h1 h2
        · cases hrr
      · cases hr
    · exact sV h n _ _ _ hr
theorem zf {f:Nat} {c:List D→List HO→Option CT} (h:zI Pr f c):zI Pr f (zK alg c):=fun args hp=>sV h hp.length args hp
theorem Yj: ∀ {kn:List (Know Pr)} {f:Nat},zI Pr f (ask alg kn f)
  |[],f=>fun args hp r hr=>by cases hr
  | k ::r,f=>fun args hp x hr=>by
    unfold ask at hr
    split at hr
    · rename_i hb
      obtain rfl:=Nat.eq_of_beq_eq_true hb
      split at hr
      · rename_i y hy;cases hr;exact Vh k.ok args hp _ hy
      · exact Yj args hp x hr
    · exact Yj args hp x hr
theorem CT.xI {f:Nat} {args:List D} {hp:List HO} {k:AOut→List HO→Tree} {k':AOut→List HO→Tree} (ih: ∀ o h,(k' o h).ok Pr X G→(k o h).ok Pr X G): ∀ {c:CT},c.Good Pr f args hp→(c.tree fun r=>.need r.need (k' r.out r.hp)).ok Pr X G→∃ out hp',Spc Pr f args hp out hp'∧(k out hp').ok Pr X G
  |.one r,hc,h=>⟨r.out,r.hp,hc h.1,ih _ _ h.2⟩
  | .br b t e,hc,h=>by
    cases b with
    |true=>exact CT.xI ih (hc.1 rfl) (h.1 rfl)
    |false=>exact CT.xI ih (hc.2 rfl) (h.2 rfl)
theorem Sv {q:Nat→List D→List HO→Option CT} (hq: ∀ f,zI Pr f (q f)): ∀ {t:Tree},(drive q t).ok Pr X G→t.ok Pr X G:=by
  intro t
  induction t with
  |need p t ih=>exact fun h=>⟨h.1,ih h.2⟩
  |br b t f ih1 ih2=>exact fun h=>⟨fun e=>ih1 (h.1 e),fun e=>ih2 (h.2 e)⟩
  | call f args hp k ih=>
    intro h
    simp only [drive,Vk] at h
    split at h
    · rename_i r hr;exact CT.xI (k':=fun o h=>drive q (k o h)) (fun o h=>ih o h) (hq f args hp r hr) h
    · obtain⟨o,hp',h1,h2⟩:=h;exact⟨o,hp',h1,ih _ _ h2⟩
  |code c st k ih=>exact fun h=>h
  |fin o hp=>exact fun h=>h
  |both t f ih1 ih2=>exact fun h=>⟨ih1 h.1,ih2 h.2⟩
  |qed=>exact fun h=>h
  |stop n=>exact fun h=>h
structure Rt where
  B:Code
  K:AEx→St→Tree
def zcX (fn:Func):Code:=match fn.body with|some c=>c|none=>.skip
def loopBody:Code→Code
  |.loop b=>b
  |c=>c
def cAt:List Nat→Code→Code
  |[],c=>c
  | n::p,c=>match c with
    |.seq a b=>(match n with|0=>cAt p a|_=>cAt p b)
    |.cond _ t e=>(match n with|0=>cAt p t|_=>cAt p e)
    |.block _ b=>cAt p b
    |c=>c
def kAt (I:Alg) (T:Tab) (cfg:Cfg):List Nat→Code→(AEx→St→Tree)→AEx→St→Tree
  |[],_,K=>K
  | n ::p,c,K=>match c with
    |.seq a b=>(match n with|0=>kAt I T cfg p a (fun e st=>match e with|.normal=>vc I T cfg b K st|e=>K e st)|_=>kAt I T cfg p b K)
    |.cond _ t e=>(match n with|0=>kAt I T cfg p t K|_=>kAt I T cfg p e K)
    | .block id b=>kAt I T cfg p b (fun e st=>match e with
      |.exit j=>(match Nat.beq j id with|true=>K .normal st|false=>K (.exit j) st)
      |e=>K e st)
    |_=>K
def rtAt:Nat→List Rt→Rt
  |_,[]=>⟨.skip,fun _ _=>.stop 50⟩
  |0,r::_=>r
  |n+1,_::l=>rtAt n l
def leaf (I:Alg) (T:Tab) (cfg:Cfg) (R:List Rt) (i:Nat) (p:List Nat) (st:St):Tree:=
  .code (cAt p (rtAt i R).B) st (kAt I T cfg p (rtAt i R).B (rtAt i R).K)
def zjL (I:Alg) (T:Tab) (cfg:Cfg) (c:Code) (K:AEx→St→Tree) (st:St):Tree:=
  match c with
  |.region _ ops draw=>regT I T cfg ops draw K (st.tidy cfg.keep)
  |c=>vc I T cfg c K st
def go (I:Alg) (T:Tab) (cfg:Cfg) (kn:List (Know Pr)) (R:List Rt) (i:Nat) (p:List Nat) (st:St):Tree:=
  drive (ask I kn) (zjL I T cfg (cAt p (rtAt i R).B) (kAt I T cfg p (rtAt i R).B (rtAt i R).K) st)
def cutM (cfg:Cfg) (k0:Nat) (dom:List Nat) (st:St):Option St:=St.cut cfg.fsl k0 dom (qU cfg.mv st)
def zjq (cfg:Cfg) (k0:Nat) (dom:List Nat) (A:St→Prop) (k:AEx→St→Tree):AEx→St→Tree:=fun e st=>
  match e with
  |.normal=>(match cutM cfg k0 dom st with|some s=>.need (A s) .qed|none=>.stop 19)
  |e=>k e st
def round (I:Alg) (T:Tab) (cfg:Cfg) (k0:Nat) (dom:List Nat) (A:St→Prop) (R:List Rt) (i:Nat) (p:List Nat):Rt:=
  ⟨loopBody (cAt p (rtAt i R).B),zjq cfg k0 dom A (kAt I T cfg p (rtAt i R).B (rtAt i R).K)⟩
inductive PT where
  |need (p:Prop) (t:PT)
  |br (b:Bool) (t f:PT)
  |code (i:Nat) (p:List Nat) (st:St)
  |fin (o:AOut) (hp:List HO)
  |both (t f:PT)
  |qed
  |stop (n:Nat)
def PT.inst (I:Alg) (T:Tab) (cfg:Cfg) (R:List Rt):PT→Tree
  |.need p t=>.need p (t.inst I T cfg R)
  |.br b t f=>.br b (t.inst I T cfg R) (f.inst I T cfg R)
  |.code i p st=>leaf I T cfg R i p st
  |.fin o hp=>.fin o hp
  |.both t f=>.both (t.inst I T cfg R) (f.inst I T cfg R)
  |.qed=>.qed
  |.stop n=>.stop n
theorem zh {I:Alg} {cfg:Cfg} {kn:List (Know Pr)} {R:List Rt} {i:Nat} {p:List Nat} {st:St} (pt:PT) (h:go I T cfg kn R i p st=pt.inst I T cfg R) (k:Ok Pr X G (pt.inst I T cfg R)):Ok Pr X G (go I T cfg kn R i p st):=h▸k
theorem QH {I:Alg} {cfg:Cfg} {R:List Rt} {p:Prop} {t:PT}:Ok Pr X G (PT.inst I T cfg R (.need p t))↔p∧Ok Pr X G (t.inst I T cfg R):=ziy
theorem zfA {I:Alg} {cfg:Cfg} {R:List Rt} {b:Bool} {t f:PT}:Ok Pr X G (PT.inst I T cfg R (.br b t f))↔(b=true→Ok Pr X G (t.inst I T cfg R))∧(b=false→Ok Pr X G (f.inst I T cfg R)):=zkf
theorem QJ {I:Alg} {cfg:Cfg} {R:List Rt} {t f:PT}:Ok Pr X G (PT.inst I T cfg R (.both t f))↔Ok Pr X G (t.inst I T cfg R)∧Ok Pr X G (f.inst I T cfg R):=ziz
theorem zcr {I:Alg} {cfg:Cfg} {R:List Rt} {o:AOut} {hp:List HO}:Ok Pr X G (PT.inst I T cfg R (.fin o hp))↔G o hp:=zjw
theorem zcq {I:Alg} {cfg:Cfg} {R:List Rt}:Ok Pr X G (PT.inst I T cfg R .qed)↔True:=zjv
theorem QG {I:Alg} {cfg:Cfg} {R:List Rt} {n:Nat}:Ok Pr X G (PT.inst I T cfg R (.stop n))↔False:=zix
theorem QI {I:Alg} {cfg:Cfg} {R:List Rt} {i:Nat} {p:List Nat} {st:St}:Ok Pr X G (PT.inst I T cfg R (.code i p st))↔Ok Pr X G (leaf I T cfg R i p st):=Iff.rfl
def TS (cfg:Cfg):Code→Bool
  |.region id _ _=>memN id cfg.seam
  |_=>false
theorem spcG {P:Program} {T:Tab} (hT:T.fits P) (hm:P.follows .mixedOrders=true) {f:Nat} {fn:Func} (hf:P.funcs[f]? =some fn) (hn:(fn.name == "runtime.NumGoroutine")=false) (cfg:Cfg) (kn:List (Know P)) {args:List D} {hp:List HO} {out:AOut} {hp':List HO}
    (hb:(fn.body.isSome&& !TS cfg (zcX fn)&&Nat.ble args.length fn.ntmps)=true)
    (h: ∀ (I:Alg) (X:Ctx),I=alg→X.bs0.length=hp.length→Ok P X (fun o h=>o=out∧h=hp') (go I T cfg kn [⟨zcX fn,finK I T cfg hp.length fn⟩] 0 [] { env:=zfY 0 args,hp:=hp,n:=fn.ntmps})):Spc P f args hp out hp':=by
  simp only [Bool.and_eq_true,Bool.not_eq_true'] at hb
  refine zc9 hT hm hf hn (cfg:=cfg) hb.1.1 hb.2 fun I X hI hX=> ?_
  subst hI
  have h1:=(h alg X rfl hX).out
  have h2:=Sv (fun f=>Yj) h1
  have hs:=hb.1.2
  unfold funT
  unfold zcX at h2 hs
  cases hbd:fn.body with
  |none=>rw [hbd] at hb;cases hb.1.1
  | some c=>
    rw [hbd] at h2 hs
    simp only [rtAt,cAt,kAt] at h2
    simp only at hs ⊢
    cases c<;>first|exact h2|skip
    simp only [TS] at hs
    simp only [vc,hs]
    exact h2
theorem Ve (hT:T.fits Pr) (hm:Pr.follows .mixedOrders=true) {cfg:Cfg} {c:Code} {K:AEx→St→Tree} {st:St} (h:(zjL alg T cfg c K st).ok Pr X G) (hn:Now X st a w):c.wp Pr (Post X fun e st'=>(K e st').ok Pr X G) a w:=by
  cases c with
  |region id ops draw=>exact V8 hT hm h (hn.tidy cfg.keep)
  |_=>exact zbs hT hm (cfg:=cfg) h hn
theorem YS {cfg:Cfg} {k0:Nat} (hk:X.bs0.length=k0) {dom:List Nat} {st s:St} (hc:cutM cfg k0 dom st=some s) (hn:Now X st a w):Now X s a w:=by
  obtain⟨S,K,hH,hE⟩:=hn
  obtain⟨K',h1,h2⟩:=uP cfg.mv hH hE
  exact zf5 hk hc ⟨S,K',h1,h2⟩
theorem yw {I:Alg} (hI:I=alg) (hT:T.fits Pr) (hm:Pr.follows .mixedOrders=true) {cfg:Cfg} (kn:List (Know Pr)) {R:List Rt} {i:Nat} {p:List Nat} {st:St} {k0:Nat} (hk:X.bs0.length=k0) (dom:List Nat) {ι:Type} (Inv:ι→Prop) (Iv:ι→St) (μ:ι→Nat) (g0:ι)
    (hc:(match cAt p (rtAt i R).B with|.loop b=> !TS cfg b|_=>false)=true) (h0:cutM cfg k0 dom st=some (Iv g0)) (hg0:Inv g0)
    (hr: ∀ (g:ι),Inv g→∀ (A:St→Prop),(∀ g',Inv g'→μ g'<μ g→A (Iv g'))→Ok Pr X G (go I T cfg kn (round I T cfg k0 dom A R i p::R) 0 [] (Iv g))):Ok Pr X G (leaf I T cfg R i p st):=by
  subst hI
  constructor
  unfold leaf
  intro S K a w hH hE
  obtain⟨b,hb⟩: ∃ b,cAt p (rtAt i R).B=.loop b:=by
    cases h:cAt p (rtAt i R).B<;>rw [h] at hc<;>first|exact⟨_,rfl⟩|cases hc
  rw [hb]
  refine wp_loop_ghost (fun n a w=>∃ g,Inv g∧μ g=n∧Now X (Iv g) a w) (μ g0) ⟨g0,hg0,rfl,YS hk h0 ⟨S,K,hH,hE⟩⟩ ?_
  rintro n a w ⟨g,hg,rfl,hn⟩
  have h1:=(hr g hg (fun s=>∃ g',Inv g'∧μ g'<μ g∧s=Iv g') (fun g' hi hl=>⟨g',hi,hl,rfl⟩)).out
  have h2:=Sv (fun f=>Yj) h1
  simp only [rtAt,cAt,kAt,round,hb,loopBody] at h2
  refine wp_mono (Ve hT hm h2 hn) fun e a' w' hq=> ?_
  obtain⟨e',st',h1,S',K',hH',hE',hem⟩:=hq
  generalize kAt alg T cfg p (rtAt i R).B (rtAt i R).K=k at h1
  have keep: ∀ {e:Exit} {e':AEx},(∀ (h:e'=.normal),False)→EM S' (K'.map CO.base) e e'→(k e' st').ok Pr X G→Post X (fun e st'=>(k e st').ok Pr X G) e a' w':=fun {e e'} _ hem h=>⟨e',st',h,S',K',hH',hE',hem⟩
  cases e' with
  | normal=>
    cases e with
    | normal=>
      have h1:((match cutM cfg k0 dom st' with|some s=>Tree.need (∃ g',Inv g'∧μ g'<μ g∧s=Iv g') .qed|none=>.stop 19):Tree).ok Pr X G:=h1
      split at h1
      · rename_i s hs
        obtain⟨⟨g',hi,hlt,rfl⟩,_⟩:=h1
        exact⟨μ g',hlt,g',hi,rfl,YS hk hs ⟨S',K',hH',hE'⟩⟩
      · exact h1.elim
    |exit i=>exact hem.elim
    |goto l=>exact hem.elim
    |ret=>exact hem.elim
    |panic ch=>exact hem.elim
    |outgrown=>exact hem.elim
  | exit j=>cases e with
    |exit i=>exact keep (fun h=>by cases h) hem h1
    |normal=>exact hem.elim
    |goto l=>exact hem.elim
    |ret=>exact hem.elim
    |panic ch=>exact hem.elim
    |outgrown=>exact hem.elim
  | ret=>cases e with
    |ret=>exact keep (fun h=>by cases h) hem h1
    |normal=>exact hem.elim
    |goto l=>exact hem.elim
    |exit j=>exact hem.elim
    |panic ch=>exact hem.elim
    |outgrown=>exact hem.elim
  | pan c=>cases e with
    |panic ch=>exact keep (fun h=>by cases h) hem h1
    |normal=>exact hem.elim
    |goto l=>exact hem.elim
    |exit j=>exact hem.elim
    |ret=>exact hem.elim
    |outgrown=>exact hem.elim
theorem seam {I:Alg} (hI:I=alg) (hT:T.fits Pr) (hm:Pr.follows .mixedOrders=true) {cfg:Cfg} (kn:List (Know Pr)) {R:List Rt} {i:Nat} {p:List Nat} {st:St} {k0:Nat} (hk:X.bs0.length=k0) (dom:List Nat) (st1:St)
    (h0:cutM cfg k0 dom st=some st1) (hr:Ok Pr X G (go I T cfg kn R i p st1)):Ok Pr X G (leaf I T cfg R i p st):=by
  subst hI
  constructor
  intro S K a w hH hE
  exact Ve hT hm (Sv (fun f=>Yj) hr.out) (YS hk h0 ⟨S,K,hH,hE⟩)
end
inductive AM where
  |ret
  |pan (c:C)
def AM.out:AM→AEx
  |.ret=>.ret
  |.pan c=>.pan c
section
variable {Pr:Program} {T:Tab} {a:Act} {w:World}
end
theorem nrmA:type_of% (And.intro @zbq <| And.intro @zgy <| And.intro @wS <| And.intro @tq <| And.intro @zbn <| And.intro @zbm <| And.intro @zgx <| And.intro @zc2 <| And.intro @SY <| And.intro @S9 <| And.intro @Rf <| And.intro @Rh <| And.intro @YW <| And.intro @tH <| And.intro @VD <| And.intro @zbp <| And.intro @VA <| And.intro @yu <| And.intro @rD <| And.intro @wR <| And.intro @Rj <| And.intro @zbl <| And.intro @VB <| And.intro @zbo <| And.intro @tu <| And.intro @Yq <| And.intro @qA <| And.intro @tC <| And.intro @SX <| And.intro @YV <| And.intro @Ri <| And.intro @zgw <| And.intro @zgv <| @zc3):=And.intro @zbq <| And.intro @zgy <| And.intro @wS <| And.intro @tq <| And.intro @zbn <| And.intro @zbm <| And.intro @zgx <| And.intro @zc2 <| And.intro @SY <| And.intro @S9 <| And.intro @Rf <| And.intro @Rh <| And.intro @YW <| And.intro @tH <| And.intro @VD <| And.intro @zbp <| And.intro @VA <| And.intro @yu <| And.intro @rD <| And.intro @wR <| And.intro @Rj <| And.intro @zbl <| And.intro @VB <| And.intro @zbo <| And.intro @tu <| And.intro @Yq <| And.intro @qA <| And.intro @tC <| And.intro @SX <| And.intro @YV <| And.intro @Ri <| And.intro @zgw <| And.intro @zgv <| @zc3
theorem nrmB:type_of% (And.intro @decide_eq_true_eq <| And.intro @decide_eq_false_iff_not <| And.intro @beq_iff_eq.{0} <| And.intro @beq_eq_false_iff_ne.{0} <| And.intro @Bool.not_eq_true' <| And.intro @Bool.not_eq_false' <| And.intro @Bool.and_eq_true <| And.intro @Bool.and_true <| And.intro @Bool.true_and <| And.intro @and_true <| And.intro @true_and <| And.intro @ne_eq.{1} <| And.intro @Int.toNat_zero <| And.intro @Nat.sub_zero <| And.intro @List.drop_zero.{0} <| And.intro @zfE <| And.intro @zfF <| And.intro @zhG <| And.intro @zhH <| And.intro @Qn <| And.intro @zgn <| And.intro @Int.toNat_natCast <| And.intro @Int.ofNat_eq_natCast <| And.intro @UInt8.ofNat_toNat <| And.intro @AOut.ret.injEq <| And.intro @AOut.pan.injEq <| And.intro @C.ifc.injEq <| And.intro @D.v.injEq <| And.intro @D.tup.injEq <| And.intro @V0.one.injEq <| And.intro @C.p.injEq <| And.intro @P.bool.injEq <| And.intro @P.int.injEq <| And.intro @P.str.injEq <| And.intro @Bool.false_eq_true <| And.intro @Bool.true_eq_false <| And.intro @imp_false <| And.intro @Decidable.not_not <| And.intro @not_true_eq_false <| @not_false_eq_true):=And.intro @decide_eq_true_eq <| And.intro @decide_eq_false_iff_not <| And.intro @beq_iff_eq.{0} <| And.intro @beq_eq_false_iff_ne.{0} <| And.intro @Bool.not_eq_true' <| And.intro @Bool.not_eq_false' <| And.intro @Bool.and_eq_true <| And.intro @Bool.and_true <| And.intro @Bool.true_and <| And.intro @and_true <| And.intro @true_and <| And.intro @ne_eq.{1} <| And.intro @Int.toNat_zero <| And.intro @Nat.sub_zero <| And.intro @List.drop_zero.{0} <| And.intro @zfE <| And.intro @zfF <| And.intro @zhG <| And.intro @zhH <| And.intro @Qn <| And.intro @zgn <| And.intro @Int.toNat_natCast <| And.intro @Int.ofNat_eq_natCast <| And.intro @UInt8.ofNat_toNat <| And.intro @AOut.ret.injEq <| And.intro @AOut.pan.injEq <| And.intro @C.ifc.injEq <| And.intro @D.v.injEq <| And.intro @D.tup.injEq <| And.intro @V0.one.injEq <| And.intro @C.p.injEq <| And.intro @P.bool.injEq <| And.intro @P.int.injEq <| And.intro @P.str.injEq <| And.intro @Bool.false_eq_true <| And.intro @Bool.true_eq_false <| And.intro @imp_false <| And.intro @Decidable.not_not <| And.intro @not_true_eq_false <| @not_false_eq_true
theorem nrlB:type_of% (And.intro @List.cons.injEq.{0} <| And.intro @P.list.injEq <| And.intro @HO.row.injEq <| And.intro @heq_eq_eq.{1} <| And.intro @false_and <| @and_false):=And.intro @List.cons.injEq.{0} <| And.intro @P.list.injEq <| And.intro @HO.row.injEq <| And.intro @heq_eq_eq.{1} <| And.intro @false_and <| @and_false
theorem zC:type_of% (And.intro @QH <| And.intro @zfA <| And.intro @QJ <| And.intro @zcr <| And.intro @zcq <| And.intro @QG <| @QI):=And.intro @QH <| And.intro @zfA <| And.intro @QJ <| And.intro @zcr <| And.intro @zcq <| And.intro @QG <| @QI
end Go.Ab
namespace Go.Ab
open Go Go.Sep Go.RowKit
variable [Facts]
def Holds (W:World):Prop:=∀ w:World,(∀ (k:Nat) (o:Obj),W.heap[k]? =some o→w.heap[k]? =some o)→Facts.p w
def frzW (W:World) (hF:Holds W):Frz:=⟨fun k=>W.heap[k]?,W.os,W.tape,W.output,fun w hw=>hF w hw.2.2.2⟩
theorem tabIs_of {Pr:Program} {W w:World} (h: ∀ (k:Nat) (o:Obj),W.heap[k]? =some o→w.heap[k]? =some o) {name:String} {cs:Array Value} (hv:W.var? Pr name=some cs):w.var? Pr name=some cs:=by
  unfold World.var? at hv ⊢
  cases hg:Pr.globalNamed name with
  |none=>rw [hg] at hv;cases hv
  | some g=>
    rw [hg] at hv
    simp only [Option.bind_some] at hv ⊢
    split at hv
    · rename_i cs' t f hc;rw [h _ _ hc];exact hv
    · cases hv
theorem ziQ (W:World) (hF:Holds W):At W [frzC (frzW W hF)]:=
  ⟨fun k=>(W.heap[k]?).isSome=true,fun k=>(W.heap[k]?).isSome=true,fun _=>False,fun k=>by simp,fun _ _ h=>h,⟨fun _=>Iff.rfl,rfl,rfl,rfl,fun _ _ h=>h⟩,fun _ h=>h⟩
theorem Uu {W w:World} {hF:Holds W} (h:(frzW W hF).on w):Below W.heap.size W w:=by
  obtain⟨h1,h2,h3,h4⟩:=h
  have hb: ∀ k,k<W.heap.size→w.heap[k]? =W.heap[k]? :=fun k hk=>by
    have:W.heap[k]? =some W.heap[k]:=by simp [hk]
    rw [h4 k _ this,this]
  refine⟨h1,h2,h3,?_,hb⟩
  rcases Nat.lt_or_ge w.heap.size W.heap.size with hlt|hge
  · have:=hb w.heap.size hlt
    simp at this
    omega
  · exact hge
theorem ziP {W:World} {hF:Holds W} {size:Nat} {v:Value} {n:Nat} {cs:List Value} (h:Rd W size v n cs):RdS (frzW W hF) size v n cs:=by
  intro w hw
  obtain⟨ao,cap,e,h1,h2,h4,h3,hc⟩:=h
  refine⟨ao,cap,e,h1,h2,h4,h3,fun j u hu=> ?_⟩
  obtain⟨hs,hcell⟩:=hc j u hu
  exact⟨hs,((Uu hw).cell (block_lt hcell)).trans hcell⟩
theorem Spc.law {Pr:Program} {f:Nat} {args:List D} {hp':List HO} {W:World} {hF:Holds W} {vs:List Value} (h:Spc Pr f args [] (.ret (.v (.one (.p (.bool true))))) hp') (ha:MDs (frzW W hF) [] args vs):
    Calls Pr f vs.toArray W fun e w'=>e=.returned (.bool true)∧Below W.heap.size W w':=by
  refine(h.2 (frzW W hF) [] [] W vs ⟨rfl,fun i o c h=>by simp at h⟩ ha (ziQ W hF)).mono fun e w' he=> ?_
  obtain⟨S',K',hle,_,_,hat,ho⟩:=he
  refine⟨?_,Uu ((At.frz hat).mono hle)⟩
  cases e with
  |returned v=>cases ho;rfl
  |panicked ch=>exact ho.elim
  |outgrown=>exact ho.elim
theorem ziK {W:World} {hF:Holds W} {v:Value} {u:U} {R:Sep.Rel u.den} (hR: ∀ cs x,R W cs x→MPs (frzW W hF) (enc alg u x) cs) {xs:List u.den} (h:RSl u.size R W [v] xs):MD (frzW W hF) [] (.v (.one (.p (.list u xs)))) v:=by
  obtain⟨v',vs,e,hr,hx⟩:=h
  cases e
  have hlen:=hr.len
  obtain⟨ao,cap,rfl,_⟩:=id hr
  refine MP.list u xs ao cap vs hlen (ziP hr) fun i x j p v hi hj hv=> ?_
  have hm:=hR _ _ (hx i x hi)
  obtain⟨v',h1,h2⟩:=hm.get hj
  rw [List.getElem?_take] at h1
  split at h1
  · rw [List.getElem?_drop,hv] at h1
    cases h1;exact h2
  · cases h1
theorem ziL {W:World} {hF:Holds W} {cs:List Value} {x:UInt8} (h:zhE W cs x):MPs (frzW W hF) (enc alg .byte x) cs:=by
  rw [show cs=[bv x] from h];exact⟨.int _ _,trivial⟩
end Go.Ab
namespace Go.Proofs.YtmibhbdfigpkmaaGreatDoor
open Go Go.Ab
def lnS (l:Ln):HO:=.pack [.obj 82 [.row 1,.p (.bool l.cr),.p (.int .i64 l.code)],.row .byte 5 l.b]
def chS (c:Ch):HO:=.pack [.obj 98 [.ptr 1 0,.p (.int .i64 c.pos),.p (.int .i64 c.left),.p (.int .i64 c.all),.p (.int .i64 c.tails),.p (.int .i64 c.code)],lnS c.ln]
def rqS:Rq→List HO
  |⟨ln,p,⟨m,t,mi,f,le⟩,n,none,true,out⟩=>[.obj 57 [.ptr 1 0,.p (.int .i64 p),.p (.str m),.p (.str t),.p (.int .i64 mi),.row 2,.p (.int .i64 le),.p (.int .i64 n),.p (.val (.pointer none)),.row 3],lnS ln,.row .fld 51 f,.row .evt 32 out]
  |⟨ln,p,⟨m,t,mi,f,le⟩,n,some c,true,out⟩=>[.obj 57 [.ptr 1 0,.p (.int .i64 p),.p (.str m),.p (.str t),.p (.int .i64 mi),.row 2,.p (.int .i64 le),.p (.int .i64 n),.ptr 3 0,.row 4],lnS ln,.row .fld 51 f,chS c,.row .evt 32 out]
  |⟨ln,p,⟨m,t,mi,f,le⟩,n,none,false,out⟩=>[.obj 57 [.ptr 1 0,.p (.int .i64 p),.p (.str m),.p (.str t),.p (.int .i64 mi),.p (.list .fld f),.p (.int .i64 le),.p (.int .i64 n),.p (.val (.pointer none)),.row 2],lnS ln,.row .evt 32 out]
  |⟨ln,p,⟨m,t,mi,f,le⟩,n,some c,false,out⟩=>[.obj 57 [.ptr 1 0,.p (.int .i64 p),.p (.str m),.p (.str t),.p (.int .i64 mi),.p (.list .fld f),.p (.int .i64 le),.p (.int .i64 n),.ptr 2 0,.row 3],lnS ln,chS c,.row .evt 32 out]
def shapes:Gh→List HO
  |.rq q=>rqS q
  |_=>[]
def lnU:HO→Option Ln
  |.pack [.obj t [.row 1,.p (.bool cr),.p (.int .i64 co)],.row .byte e b]=>match Nat.beq t 82,Nat.beq e 5 with|true,true=>some ⟨b,cr,co⟩|_,_=>none
  |_=>none
theorem Qw {o:HO} {l:Ln} (h:lnU o=some l):o=lnS l:=by
  unfold lnU at h
  split at h
  · split at h
    · rename_i h1 h2;cases h;rw [Nat.eq_of_beq_eq_true h1,Nat.eq_of_beq_eq_true h2];rfl
    · cases h
  · cases h
def chU:HO→Option Ch
  |.pack [.obj t [.ptr 1 0,.p (.int .i64 p),.p (.int .i64 l),.p (.int .i64 a),.p (.int .i64 tl),.p (.int .i64 co)],o]=>match Nat.beq t 98,lnU o with|true,some ln=>some ⟨ln,p,l,a,tl,co⟩|_,_=>none
  |_=>none
theorem zhW {o:HO} {l:Ch} (h:chU o=some l):o=chS l:=by
  unfold chU at h
  split at h
  · split at h
    · rename_i h1 h2;cases h;rw [Nat.eq_of_beq_eq_true h1,Qw h2];rfl
    · cases h
  · cases h
def evU:HO→Option (List Evt)
  |.row .evt e l=>match Nat.beq e 32 with|true=>some l|false=>none
  |_=>none
theorem zcH {o:HO} {l:List Evt} (h:evU o=some l):o=.row .evt 32 l:=by
  unfold evU at h
  split at h
  · split at h
    · rename_i h1;cases h;rw [Nat.eq_of_beq_eq_true h1]
    · cases h
  · cases h
def flU:HO→Option (List Fld)
  |.row .fld e l=>match Nat.beq e 51 with|true=>some l|false=>none
  |_=>none
theorem zhQ {o:HO} {l:List Fld} (h:flU o=some l):o=.row .fld 51 l:=by
  unfold flU at h
  split at h
  · split at h
    · rename_i h1;cases h;rw [Nat.eq_of_beq_eq_true h1]
    · cases h
  · cases h
def rqU:List HO→Option Rq
  | .obj t [.ptr 1 0,.p (.int .i64 p),.p (.str m),.p (.str tg),.p (.int .i64 mi),.row 2,.p (.int .i64 le),.p (.int .i64 n),.p (.val (.pointer none)),.row 3]::r=>(match Nat.beq t 57,r with
    |true,[a,b,c]=>(match lnU a,flU b,evU c with|some ln,some f,some out=>some ⟨ln,p,⟨m,tg,mi,f,le⟩,n,none,true,out⟩|_,_,_=>none)
    |_,_=>none)
  | .obj t [.ptr 1 0,.p (.int .i64 p),.p (.str m),.p (.str tg),.p (.int .i64 mi),.row 2,.p (.int .i64 le),.p (.int .i64 n),.ptr 3 0,.row 4]::r=>(match Nat.beq t 57,r with
    |true,[a,b,c,d]=>(match lnU a,flU b,chU c,evU d with|some ln,some f,some ck,some out=>some ⟨ln,p,⟨m,tg,mi,f,le⟩,n,some ck,true,out⟩|_,_,_,_=>none)
    |_,_=>none)
  | .obj t [.ptr 1 0,.p (.int .i64 p),.p (.str m),.p (.str tg),.p (.int .i64 mi),.p (.list .fld f),.p (.int .i64 le),.p (.int .i64 n),.p (.val (.pointer none)),.row 2]::r=>(match Nat.beq t 57,r with
    |true,[a,c]=>(match lnU a,evU c with|some ln,some out=>some ⟨ln,p,⟨m,tg,mi,f,le⟩,n,none,false,out⟩|_,_=>none)
    |_,_=>none)
  | .obj t [.ptr 1 0,.p (.int .i64 p),.p (.str m),.p (.str tg),.p (.int .i64 mi),.p (.list .fld f),.p (.int .i64 le),.p (.int .i64 n),.ptr 2 0,.row 3]::r=>(match Nat.beq t 57,r with
    |true,[a,c,d]=>(match lnU a,chU c,evU d with|some ln,some ck,some out=>some ⟨ln,p,⟨m,tg,mi,f,le⟩,n,some ck,false,out⟩|_,_,_=>none)
    |_,_=>none)
  |_=>none
theorem zjh {l:List HO} {q:Rq} (h:rqU l=some q):l=rqS q:=by
  unfold rqU at h
  split at h
  · split at h
    · rename_i h1;split at h
      · rename_i h2 h3 h4;cases h;rw [Nat.eq_of_beq_eq_true h1,Qw h2,zhQ h3,zcH h4];rfl
      · cases h
    · cases h
  · split at h
    · rename_i h1;split at h
      · rename_i h2 h3 h5 h4;cases h;rw [Nat.eq_of_beq_eq_true h1,Qw h2,zhQ h3,zhW h5,zcH h4];rfl
      · cases h
    · cases h
  · split at h
    · rename_i h1;split at h
      · rename_i h2 h4;cases h;rw [Nat.eq_of_beq_eq_true h1,Qw h2,zcH h4];rfl
      · cases h
    · cases h
  · split at h
    · rename_i h1;split at h
      · rename_i h2 h5 h4;cases h;rw [Nat.eq_of_beq_eq_true h1,Qw h2,zhW h5,zcH h4];rfl
      · cases h
    · cases h
  · cases h
def shapeOf (l:List HO):Option Gh:=match rqU l with
  |some q=>some (.rq q)
  |none=>none
theorem zdb (l:List HO) (g:Gh) (h:shapeOf l=some g):shapes g=l:=by
  unfold shapeOf at h
  split at h
  · rename_i q hq;cases h;exact(zjh hq).symm
  · cases h
end Go.Proofs.YtmibhbdfigpkmaaGreatDoor
namespace Go.Proofs.YtmibhbdfigpkmaaGreatDoor
open Go Go.Ab
instance facts:Facts:= { p:=fun w=>Lib.TabIs Tryz.prog w "internal/strconv.uint64pow10" .u64 Lib.pow10Tab∧∃ m:Int,w.cell? ⟨0,0,none⟩=some (.int .i64 m),sh:=shapes,ab:=shapeOf,abok:=zdb}
def tabT:TT:=
 (.node (.node (.node (.node (.node (.node (.node (.node .nil 0 ⟨.other,1,0,none,none⟩
 .nil) 1 ⟨.other,1,8,(some [.val .nilFunc]),none⟩
 .nil) 2 ⟨.int .i64,1,8,(some [.int .i64 0]),none⟩
 (.node .nil 3 ⟨.int .i64,1,8,(some [.int .i64 0]),none⟩
 .nil)) 4 ⟨.bool,1,1,(some [.bool false]),none⟩
 (.node (.node (.node .nil 5 ⟨.int .u8,1,1,(some [.int .u8 0]),none⟩
 .nil) 6 ⟨.int .u8,1,1,(some [.int .u8 0]),none⟩
 .nil) 9 ⟨.str,1,16,(some [.str []]),none⟩
 (.node .nil 10 ⟨.str,1,16,(some [.str []]),none⟩
 .nil))) 11 ⟨.str,1,16,(some [.str []]),none⟩
 (.node (.node (.node (.node .nil 12 ⟨.int .u64,1,8,(some [.int .u64 0]),none⟩
 .nil) 15 ⟨.ptr,1,8,(some [.val (.pointer none)]),none⟩
 .nil) 16 ⟨.ptr,1,8,(some [.val (.pointer none)]),none⟩
 (.node .nil 17 ⟨.ptr,1,8,(some [.val (.pointer none)]),none⟩
 .nil)) 20 ⟨.iface,1,16,(some [.val .nilIface]),none⟩
 (.node (.node (.node .nil 21 ⟨.int .i32,1,4,(some [.int .i32 0]),none⟩
 .nil) 22 ⟨.slice 5,1,24,(some [.list .byte []]),(some .byte)⟩
 .nil) 23 ⟨.slice 51,1,24,(some [.list .fld []]),(some .fld)⟩
 (.node .nil 24 ⟨.struct [(0,9),(1,9),(2,3),(3,23),(4,3)],5,72,(some [.str [],.str [],.int .i64 0,.list .fld [],.int .i64 0]),none⟩
 .nil)))) 25 ⟨.struct [(0,9),(1,9),(2,3),(3,23),(4,3)],5,72,(some [.str [],.str [],.int .i64 0,.list .fld [],.int .i64 0]),none⟩
 (.node (.node (.node (.node (.node .nil 26 ⟨.slice 32,1,24,(some [.list .evt []]),(some .evt)⟩
 .nil) 27 ⟨.other,1,8,(some [.val .nilFunc]),none⟩
 .nil) 28 ⟨.other,1,8,(some [.val .nilFunc]),none⟩
 (.node .nil 29 ⟨.struct [(0,9),(1,9),(2,9),(3,22)],4,72,(some [.str [],.str [],.str [],.list .byte []]),none⟩
 .nil)) 30 ⟨.struct [(0,9),(1,9),(2,9),(3,22)],4,72,(some [.str [],.str [],.str [],.list .byte []]),none⟩
 (.node (.node (.node .nil 31 ⟨.struct [(0,3),(1,25),(6,22),(7,30),(11,3)],12,184,(some [.int .i64 0,.str [],.str [],.int .i64 0,.list .fld [],.int .i64 0,.list .byte [],.str [],.str [],.str [],.list .byte [],.int .i64 0]),none⟩
 .nil) 32 ⟨.struct [(0,3),(1,25),(6,22),(7,30),(11,3)],12,184,(some [.int .i64 0,.str [],.str [],.int .i64 0,.list .fld [],.int .i64 0,.list .byte [],.str [],.str [],.str [],.list .byte [],.int .i64 0]),none⟩
 .nil) 33 ⟨.ptr,1,8,(some [.val (.pointer none)]),none⟩
 (.node .nil 34 ⟨.other,1,8,(some [.val .nilFunc]),none⟩
 .nil))) 35 ⟨.other,1,8,(some [.val .nilFunc]),none⟩
 (.node (.node (.node (.node .nil 36 ⟨.other,1,0,none,none⟩
 .nil) 37 ⟨.other,1,8,(some [.val .nilFunc]),none⟩
 .nil) 38 ⟨.other,1,8,(some [.val .nilFunc]),none⟩
 (.node .nil 39 ⟨.other,1,0,none,none⟩
 .nil)) 40 ⟨.other,1,8,(some [.val .nilFunc]),none⟩
 (.node (.node .nil 41 ⟨.other,1,8,(some [.val .nilFunc]),none⟩
 .nil) 42 ⟨.other,1,8,(some [.val .nilFunc]),none⟩
 (.node .nil 43 ⟨.other,1,8,(some [.val .nilFunc]),none⟩
 .nil))))) 44 ⟨.slice 3,1,24,(some [.list .int []]),(some .int)⟩
 (.node (.node (.node (.node (.node (.node .nil 45 ⟨.slice 22,1,24,(some [.list .bytes []]),(some .bytes)⟩
 .nil) 46 ⟨.other,1,8,(some [.val .nilFunc]),none⟩
 .nil) 47 ⟨.other,1,8,(some [.val .nilFunc]),none⟩
 (.node .nil 48 ⟨.slice 25,1,24,(some [.list .hd []]),(some .hd)⟩
 .nil)) 49 ⟨.other,1,8,(some [.val .nilFunc]),none⟩
 (.node (.node (.node .nil 50 ⟨.struct [(0,9),(1,9)],2,32,(some [.str [],.str []]),none⟩
 .nil) 51 ⟨.struct [(0,9),(1,9)],2,32,(some [.str [],.str []]),none⟩
 .nil) 52 ⟨.other,1,8,(some [.val .nilFunc]),none⟩
 (.node .nil 53 ⟨.ptr,1,8,(some [.val (.pointer none)]),none⟩
 .nil))) 54 ⟨.other,1,8,(some [.val .nilFunc]),none⟩
 (.node (.node (.node (.node .nil 55 ⟨.ptr,1,8,(some [.val (.pointer none)]),none⟩
 .nil) 56 ⟨.struct [(0,53),(1,3),(2,25),(7,3),(8,55),(9,26)],10,128,(some [.val (.pointer none),.int .i64 0,.str [],.str [],.int .i64 0,.list .fld [],.int .i64 0,.int .i64 0,.val (.pointer none),.list .evt []]),none⟩
 .nil) 57 ⟨.struct [(0,53),(1,3),(2,25),(7,3),(8,55),(9,26)],10,128,(some [.val (.pointer none),.int .i64 0,.str [],.str [],.int .i64 0,.list .fld [],.int .i64 0,.int .i64 0,.val (.pointer none),.list .evt []]),none⟩
 (.node .nil 58 ⟨.other,1,8,(some [.val .nilFunc]),none⟩
 .nil)) 59 ⟨.other,1,8,(some [.val .nilFunc]),none⟩
 (.node (.node (.node .nil 60 ⟨.other,1,0,none,none⟩
 .nil) 61 ⟨.other,1,8,(some [.val .nilFunc]),none⟩
 .nil) 62 ⟨.other,1,0,none,none⟩
 (.node .nil 63 ⟨.other,1,8,(some [.val .nilFunc]),none⟩
 .nil)))) 64 ⟨.other,1,0,none,none⟩
 (.node (.node (.node (.node (.node .nil 65 ⟨.other,1,8,(some [.val .nilFunc]),none⟩
 .nil) 66 ⟨.other,1,0,none,none⟩
 .nil) 67 ⟨.other,1,8,(some [.val .nilFunc]),none⟩
 (.node .nil 68 ⟨.other,1,0,none,none⟩
 .nil)) 69 ⟨.other,1,8,(some [.val .nilFunc]),none⟩
 (.node (.node (.node .nil 70 ⟨.other,1,8,(some [.val .nilFunc]),none⟩
 .nil) 71 ⟨.other,1,8,(some [.val .nilFunc]),none⟩
 .nil) 72 ⟨.other,1,8,(some [.val .nilFunc]),none⟩
 (.node .nil 73 ⟨.other,1,8,(some [.val .nilFunc]),none⟩
 .nil))) 74 ⟨.slice 9,1,24,(some [.list .str []]),(some .str)⟩
 (.node (.node (.node (.node .nil 75 ⟨.other,1,8,(some [.val .nilFunc]),none⟩
 .nil) 76 ⟨.other,1,0,none,none⟩
 .nil) 77 ⟨.other,1,8,(some [.val .nilFunc]),none⟩
 (.node .nil 78 ⟨.other,1,8,(some [.val .nilFunc]),none⟩
 .nil)) 79 ⟨.other,1,8,(some [.val .nilFunc]),none⟩
 (.node (.node .nil 80 ⟨.int .u64,1,8,(some [.int .u64 0]),none⟩
 .nil) 81 ⟨.struct [(0,22),(1,4),(2,3)],3,40,(some [.list .byte [],.bool false,.int .i64 0]),none⟩
 (.node .nil 82 ⟨.struct [(0,22),(1,4),(2,3)],3,40,(some [.list .byte [],.bool false,.int .i64 0]),none⟩
 .nil)))))) 83 ⟨.other,1,8,(some [.val .nilFunc]),none⟩
 (.node (.node (.node (.node (.node (.node (.node .nil 84 ⟨.other,1,0,none,none⟩
 .nil) 85 ⟨.other,1,8,(some [.val .nilFunc]),none⟩
 .nil) 86 ⟨.other,1,8,(some [.val .nilFunc]),none⟩
 (.node .nil 87 ⟨.other,1,0,none,none⟩
 .nil)) 88 ⟨.other,1,8,(some [.val .nilFunc]),none⟩
 (.node (.node (.node .nil 89 ⟨.other,1,8,(some [.val .nilFunc]),none⟩
 .nil) 90 ⟨.other,1,8,(some [.val .nilFunc]),none⟩
 .nil) 91 ⟨.other,1,8,(some [.val .nilFunc]),none⟩
 (.node .nil 92 ⟨.other,1,0,none,none⟩
 .nil))) 93 ⟨.other,1,8,(some [.val .nilFunc]),none⟩
 (.node (.node (.node (.node .nil 94 ⟨.other,1,8,(some [.val .nilFunc]),none⟩
 .nil) 95 ⟨.other,1,8,(some [.val .nilFunc]),none⟩
 .nil) 96 ⟨.other,1,8,(some [.val .nilFunc]),none⟩
 (.node .nil 97 ⟨.struct [(0,53),(1,3),(2,3),(3,3),(4,3),(5,3)],6,48,(some [.val (.pointer none),.int .i64 0,.int .i64 0,.int .i64 0,.int .i64 0,.int .i64 0]),none⟩
 .nil)) 98 ⟨.struct [(0,53),(1,3),(2,3),(3,3),(4,3),(5,3)],6,48,(some [.val (.pointer none),.int .i64 0,.int .i64 0,.int .i64 0,.int .i64 0,.int .i64 0]),none⟩
 (.node (.node (.node .nil 99 ⟨.other,1,8,(some [.val .nilFunc]),none⟩
 .nil) 100 ⟨.other,1,8,(some [.val .nilFunc]),none⟩
 .nil) 101 ⟨.other,1,8,(some [.val .nilFunc]),none⟩
 (.node .nil 102 ⟨.other,1,8,(some [.val .nilFunc]),none⟩
 .nil)))) 103 ⟨.other,1,8,(some [.val .nilFunc]),none⟩
 (.node (.node (.node (.node (.node .nil 104 ⟨.other,1,8,(some [.val .nilFunc]),none⟩
 .nil) 105 ⟨.other,1,8,(some [.val .nilFunc]),none⟩
 .nil) 106 ⟨.other,1,8,(some [.val .nilFunc]),none⟩
 (.node .nil 107 ⟨.array 256 4,256,256,none,none⟩
 .nil)) 108 ⟨.array 256 4,256,256,none,none⟩
 (.node (.node (.node .nil 109 ⟨.other,1,0,none,none⟩
 .nil) 110 ⟨.other,1,8,(some [.val .nilFunc]),none⟩
 .nil) 111 ⟨.other,1,8,(some [.val .nilFunc]),none⟩
 (.node .nil 112 ⟨.other,1,8,(some [.val .nilFunc]),none⟩
 .nil))) 113 ⟨.other,1,8,(some [.val .nilFunc]),none⟩
 (.node (.node (.node (.node .nil 114 ⟨.other,1,8,(some [.val .nilFunc]),none⟩
 .nil) 115 ⟨.other,1,8,(some [.val .nilFunc]),none⟩
 .nil) 116 ⟨.other,1,8,(some [.val .nilFunc]),none⟩
 (.node .nil 117 ⟨.other,1,0,none,none⟩
 .nil)) 118 ⟨.other,1,8,(some [.val .nilFunc]),none⟩
 (.node (.node .nil 119 ⟨.other,1,8,(some [.val .nilFunc]),none⟩
 .nil) 120 ⟨.other,1,8,(some [.val .nilFunc]),none⟩
 (.node .nil 121 ⟨.ptr,1,8,(some [.val (.pointer none)]),none⟩
 .nil))))) 122 ⟨.other,1,8,(some [.val .nilFunc]),none⟩
 (.node (.node (.node (.node (.node (.node .nil 123 ⟨.other,1,8,(some [.val .nilFunc]),none⟩
 .nil) 124 ⟨.array 24 5,24,24,(some [.int .u8 0,.int .u8 0,.int .u8 0,.int .u8 0,.int .u8 0,.int .u8 0,.int .u8 0,.int .u8 0,.int .u8 0,.int .u8 0,.int .u8 0,.int .u8 0,.int .u8 0,.int .u8 0,.int .u8 0,.int .u8 0,.int .u8 0,.int .u8 0,.int .u8 0,.int .u8 0,.int .u8 0,.int .u8 0,.int .u8 0,.int .u8 0]),none⟩
 .nil) 125 ⟨.int .u64,1,8,(some [.int .u64 0]),none⟩
 (.node .nil 126 ⟨.other,1,8,(some [.val .nilFunc]),none⟩
 .nil)) 127 ⟨.other,1,8,(some [.val .nilFunc]),none⟩
 (.node (.node (.node .nil 128 ⟨.other,1,0,none,none⟩
 .nil) 129 ⟨.other,1,8,(some [.val .nilFunc]),none⟩
 .nil) 130 ⟨.other,1,8,(some [.val .nilFunc]),none⟩
 (.node .nil 131 ⟨.other,1,0,none,none⟩
 .nil))) 132 ⟨.other,1,8,(some [.val .nilFunc]),none⟩
 (.node (.node (.node (.node .nil 133 ⟨.other,1,8,(some [.val .nilFunc]),none⟩
 .nil) 134 ⟨.other,1,8,(some [.val .nilFunc]),none⟩
 .nil) 135 ⟨.array 20 125,20,160,(some [.int .u64 0,.int .u64 0,.int .u64 0,.int .u64 0,.int .u64 0,.int .u64 0,.int .u64 0,.int .u64 0,.int .u64 0,.int .u64 0,.int .u64 0,.int .u64 0,.int .u64 0,.int .u64 0,.int .u64 0,.int .u64 0,.int .u64 0,.int .u64 0,.int .u64 0,.int .u64 0]),none⟩
 (.node .nil 136 ⟨.int .u32,1,4,(some [.int .u32 0]),none⟩
 .nil)) 137 ⟨.array 65 5,65,65,(some [.int .u8 0,.int .u8 0,.int .u8 0,.int .u8 0,.int .u8 0,.int .u8 0,.int .u8 0,.int .u8 0,.int .u8 0,.int .u8 0,.int .u8 0,.int .u8 0,.int .u8 0,.int .u8 0,.int .u8 0,.int .u8 0,.int .u8 0,.int .u8 0,.int .u8 0,.int .u8 0,.int .u8 0,.int .u8 0,.int .u8 0,.int .u8 0,.int .u8 0,.int .u8 0,.int .u8 0,.int .u8 0,.int .u8 0,.int .u8 0,.int .u8 0,.int .u8 0,.int .u8 0,.int .u8 0,.int .u8 0,.int .u8 0,.int .u8 0,.int .u8 0,.int .u8 0,.int .u8 0,.int .u8 0,.int .u8 0,.int .u8 0,.int .u8 0,.int .u8 0,.int .u8 0,.int .u8 0,.int .u8 0,.int .u8 0,.int .u8 0,.int .u8 0,.int .u8 0,.int .u8 0,.int .u8 0,.int .u8 0,.int .u8 0,.int .u8 0,.int .u8 0,.int .u8 0,.int .u8 0,.int .u8 0,.int .u8 0,.int .u8 0,.int .u8 0,.int .u8 0]),none⟩
 (.node (.node (.node .nil 138 ⟨.other,1,8,(some [.val .nilFunc]),none⟩
 .nil) 139 ⟨.other,1,8,(some [.val .nilFunc]),none⟩
 .nil) 140 ⟨.other,1,8,(some [.val .nilFunc]),none⟩
 (.node .nil 141 ⟨.other,1,8,(some [.val .nilFunc]),none⟩
 .nil)))) 142 ⟨.array 256 5,256,256,none,none⟩
 (.node (.node (.node (.node (.node .nil 143 ⟨.struct [(0,5),(1,5)],2,2,(some [.int .u8 0,.int .u8 0]),none⟩
 .nil) 144 ⟨.struct [(0,5),(1,5)],2,2,(some [.int .u8 0,.int .u8 0]),none⟩
 .nil) 145 ⟨.array 16 144,32,32,(some [.int .u8 0,.int .u8 0,.int .u8 0,.int .u8 0,.int .u8 0,.int .u8 0,.int .u8 0,.int .u8 0,.int .u8 0,.int .u8 0,.int .u8 0,.int .u8 0,.int .u8 0,.int .u8 0,.int .u8 0,.int .u8 0,.int .u8 0,.int .u8 0,.int .u8 0,.int .u8 0,.int .u8 0,.int .u8 0,.int .u8 0,.int .u8 0,.int .u8 0,.int .u8 0,.int .u8 0,.int .u8 0,.int .u8 0,.int .u8 0,.int .u8 0,.int .u8 0]),none⟩
 (.node .nil 146 ⟨.array 32 5,32,32,(some [.int .u8 0,.int .u8 0,.int .u8 0,.int .u8 0,.int .u8 0,.int .u8 0,.int .u8 0,.int .u8 0,.int .u8 0,.int .u8 0,.int .u8 0,.int .u8 0,.int .u8 0,.int .u8 0,.int .u8 0,.int .u8 0,.int .u8 0,.int .u8 0,.int .u8 0,.int .u8 0,.int .u8 0,.int .u8 0,.int .u8 0,.int .u8 0,.int .u8 0,.int .u8 0,.int .u8 0,.int .u8 0,.int .u8 0,.int .u8 0,.int .u8 0,.int .u8 0]),none⟩
 .nil)) 147 ⟨.array 64 5,64,64,(some [.int .u8 0,.int .u8 0,.int .u8 0,.int .u8 0,.int .u8 0,.int .u8 0,.int .u8 0,.int .u8 0,.int .u8 0,.int .u8 0,.int .u8 0,.int .u8 0,.int .u8 0,.int .u8 0,.int .u8 0,.int .u8 0,.int .u8 0,.int .u8 0,.int .u8 0,.int .u8 0,.int .u8 0,.int .u8 0,.int .u8 0,.int .u8 0,.int .u8 0,.int .u8 0,.int .u8 0,.int .u8 0,.int .u8 0,.int .u8 0,.int .u8 0,.int .u8 0,.int .u8 0,.int .u8 0,.int .u8 0,.int .u8 0,.int .u8 0,.int .u8 0,.int .u8 0,.int .u8 0,.int .u8 0,.int .u8 0,.int .u8 0,.int .u8 0,.int .u8 0,.int .u8 0,.int .u8 0,.int .u8 0,.int .u8 0,.int .u8 0,.int .u8 0,.int .u8 0,.int .u8 0,.int .u8 0,.int .u8 0,.int .u8 0,.int .u8 0,.int .u8 0,.int .u8 0,.int .u8 0,.int .u8 0,.int .u8 0,.int .u8 0,.int .u8 0]),none⟩
 (.node (.node (.node .nil 148 ⟨.other,1,0,none,none⟩
 .nil) 149 ⟨.other,1,8,(some [.val .nilFunc]),none⟩
 .nil) 150 ⟨.other,1,8,(some [.val .nilFunc]),none⟩
 (.node .nil 153 ⟨.array 0 16,0,0,(some []),none⟩
 .nil))) 156 ⟨.int .u8,1,1,(some [.int .u8 0]),none⟩
 (.node (.node (.node (.node .nil 157 ⟨.int .u8,1,1,(some [.int .u8 0]),none⟩
 .nil) 158 ⟨.other,1,8,(some [.val .nilFunc]),none⟩
 .nil) 159 ⟨.ptr,1,8,(some [.val (.pointer none)]),none⟩
 (.node .nil 160 ⟨.int .i32,1,4,(some [.int .i32 0]),none⟩
 .nil)) 161 ⟨.int .i32,1,4,(some [.int .i32 0]),none⟩
 (.node (.node .nil 162 ⟨.struct [(0,12),(1,12),(2,136),(3,156),(4,5),(5,5),(6,157),(7,158),(8,159),(9,160),(10,161)],11,48,(some [.int .u64 0,.int .u64 0,.int .u32 0,.int .u8 0,.int .u8 0,.int .u8 0,.int .u8 0,.val .nilFunc,.val (.pointer none),.int .i32 0,.int .i32 0]),none⟩
 .nil) 163 ⟨.struct [(0,12),(1,12),(2,136),(3,156),(4,5),(5,5),(6,157),(7,158),(8,159),(9,160),(10,161)],11,48,(some [.int .u64 0,.int .u64 0,.int .u32 0,.int .u8 0,.int .u8 0,.int .u8 0,.int .u8 0,.val .nilFunc,.val (.pointer none),.int .i32 0,.int .i32 0]),none⟩
 (.node .nil 164 ⟨.other,1,8,none,none⟩
 .nil)))))))
def tab:Tab:=tabT.get
theorem zu:tab.fits Tryz.prog:=Tab.ziS (by kernel_rfl)
theorem mixed:Tryz.prog.follows .mixedOrders=true:=by kernel_rfl
end Go.Proofs.YtmibhbdfigpkmaaGreatDoor
namespace Go.Ab
open Go
theorem laid_tail {P:Program} {x:String × DataW Unit} {rest:List (String × DataW Unit)} {w:World} (h:laidMet P (x::rest) w):laidMet P rest w:=by
  obtain⟨ps,⟨g,t,cs,fuel,p,q,h1,h2,h3,h4,h5,rfl⟩,hn,hc⟩:=h
  exact⟨q,h5,(List.nodup_append.1 hn).2.1,fun b off hm=>hc b off (List.mem_append_right _ hm)⟩
theorem pow10_of {P:Program} {W:World} {d:DataW Unit} {rest:List (String × DataW Unit)} (g t e:Nat) (hd:d=Lib.tabData .u64 Lib.pow10Tab)
    (hg:P.globalNamed "internal/strconv.uint64pow10" =some g) (hty:(P.globals[g]?).map (·.type)=some t) (ht:P.underlying t=some (.array 20 e)) (he:P.underlying e=some (.int .u64)) (hce:P.cellsOf e=1) (hct:P.cellsOf t=20)
    (h:laidMet P (("internal/strconv.uint64pow10",d)::rest) W):Lib.TabIs P W "internal/strconv.uint64pow10" .u64 Lib.pow10Tab:=by
  subst hd
  exact Lib.tabIs_of_head hg hty ht he hce hct h
end Go.Ab
namespace Go.Ab
open Go Go.Sep
variable {H:Type} {enc:TypeId × Value→H}
theorem retShaped {a:Assume} {C:Checked} {os:Os} {f:FuncId} {fn:Func} {s:ChangeSpec} {conds:List PathCond} {apart fresh handsOn again:Bool} {X:World→Array Value→Prop}
    (hX: ∀ (w w':World) (args:Array Value),w.heap=w'.heap→X w args→X w' args)
    (own:ownKnob C.prog.godebug=none) (started:os.Started) (noInit:C.prog.inits.idxOf? f=none) (hfn:C.prog.funcs[f]? =some fn)
    (witness: ∃ (w:World) (tape:Tape) (i:Input),w.os=os∧(w.forCall tape i).Shaped C.prog∧i.vars=[]∧Input.okWide C.prog (w.forCall tape i) .any w.heap.size f i∧
      ((s.pre enc C.prog fn conds apart (w.forCall tape i).memory i.args∧X (w.forCall tape i).memory i.args)∧sizedMet enc C.prog fn (OpenSpec.ofChange s) apart (w.forCall tape i).memory i.args)∧a.holds C.prog (lone (Frame.enter C.prog f i.args .normal) [] (w.forCall tape i)))
    (contract: ∀ (W:World) (base:Nat) (args:Array Value) (ds gs:List (DataW H)) (before:List MemPlace),
      (∀ (j:Nat) t v,fn.params[j]? =some t→args[j]? =some v→Value.okWide C.prog W .any base t v)→
      DataW.Whole enc C.prog fn.params.toList s.vars apart W args.toList ds gs before→
      conds.all (PathCond.test C.prog ⟨fn.params.toList,ds,s.plain.varTypes C.prog,gs⟩)=true→
      (DataW.weightsEach C.prog (fn.params.toList++s.plain.varTypes C.prog) (ds++gs)).all (· ≤reachBytes)=true→X W args→W.ShapedOpen C.prog→
      a.holds C.prog (lone (Frame.enter C.prog f args .normal) [] W)→
      Calls C.prog f args W fun e W'=>∃ v,e=.returned v∧s.post enc C.prog fn apart fresh handsOn again W args v W'):
    ReturnsInHanded a C os f .any (fun w args=>(s.pre enc C.prog fn conds apart w args∧X w args)∧sizedMet enc C.prog fn (OpenSpec.ofChange s) apart w args) (s.post enc C.prog fn apart fresh handsOn again):=by
  refine returnsInHanded_of_calls own started noInit witness ?_
  intro w tape i _ hsh _ hok hpre hholds
  obtain⟨_,_,_,fn',hfn',_,_,_,_,hval⟩:=hok
  have e:fn'=fn:=Option.some.inj (hfn'.symm.trans hfn)
  subst e
  obtain⟨⟨⟨ds,gs,before,hw,hc⟩,hx⟩,hz⟩:=hpre
  have hw':=DataW.Whole.of_heap (w':=w.forCall tape i) (by rfl) hw
  refine(contract (w.forCall tape i) w.heap.size i.args ds gs before hval hw' hc (hz.weights hw) (hX _ _ _ (by rfl) hx) hsh hholds).mono fun e W' ⟨v,he,hp⟩=> ?_
  subst he
  exact ChangeSpec.post_blind hp
theorem cell_re {W w:World} (h: ∀ (k:Nat) (o:Obj),W.heap[k]? =some o→w.heap[k]? =some o) {a:Addr} (e: ∃ m,W.cell? a=some (.int .i64 m)): ∃ m,w.cell? a=some (.int .i64 m):=by
  obtain⟨m,e⟩:=e
  refine⟨m,?_⟩
  unfold World.cell? at e ⊢
  cases ho:W.heap[a.block]? with
  |none=>rw [ho] at e;simp at e
  |some o=>rw [h _ _ ho];rw [ho] at e;exact e
end Go.Ab
namespace Go.Ab
open Go Go.Sep
variable [Facts]
def wfI (n:Int):Prop:= -9223372036854775808≤n∧n≤9223372036854775807
theorem zjc {n:Int} (h:(Lit.int .i64 n).wf=true):wfI n:=by
  simp only [Lit.wf,Bool.and_eq_true,decide_eq_true_eq] at h
  have h1:IntKind.i64.min= -9223372036854775808:=by decide
  have h2:IntKind.i64.max=9223372036854775807:=by decide
  rw [h1,h2] at h;exact h
def wfS {α:Type} (s:List α):Prop:=s.length≤140737488355328
def zgF (f:Fld):Prop:=wfS f.name∧wfS f.value
def wfHd (h:Hd):Prop:=wfS h.method∧wfS h.target∧wfI h.minor∧(wfS h.fields∧∀ f ∈ h.fields,zgF f)∧wfI h.length
def zjb (p:Prt):Prop:=wfS p.name∧wfS p.file∧wfS p.type∧wfS p.bytes
def wfZ:(u:U)→u.den→Prop
  |.byte,_=>True
  |.int,n=>wfI n
  |.str,(s:Str)=>wfS s
  |.fld,f=>zgF f
  |.bytes,(b:Str)=>wfS b
  |.hd,h=>wfHd h
  |.prt,p=>zjb p
  |.evt,(e:Evt)=>wfI e.kind∧wfHd e.head∧wfS e.bytes∧zjb e.part∧wfI e.code
  |.upl,(x:Upl)=>wfI x.id∧wfI x.size∧wfS x.note∧wfS x.bytes∧wfI x.sent
  |.ent,(e:Ent)=>wfI e.kind∧wfI e.id∧wfI e.n∧wfS e.text
  |.stp,(e:Stp)=>wfI e.kind∧wfI e.conn∧wfI e.n∧wfS e.bytes
  |.ask,(a:Ask)=>wfHd a.h∧wfS a.body
  |.cal,(c:Cal)=>wfI c.conn∧wfS c.b
  |.lst,(e:Lst)=>wfI e.op∧wfI e.n∧wfS e.b
  |.sst,(e:Sst)=>wfI e.op∧wfI e.id∧wfI e.n∧wfS e.text
  |.rpl,(r:Rpl)=>wfI r.status∧(wfS r.fields∧∀ f ∈ r.fields,zgF f)∧wfS r.body
  |.med,(m:Med)=>wfS m.word∧(wfS m.params∧∀ f ∈ m.params,zgF f)
  |_,_=>True
abbrev Small {H:Type} (Pr:Program) (t:TypeId) (d:DataW H):Prop:=(d.weights Pr t).all (· ≤reachBytes)=true
section
variable {H:Type} {hsh:TypeId × Value→H} {Pr:Program} {w:World} {hF:Holds w} {base:Nat} {spare:Nat→Bool} {held:Bool}
def uF (hsh:TypeId × Value→H) (Pr:Program) (w:World) (hF:Holds w) (base:Nat) (spare:Nat→Bool) (held:Bool) (t:TypeId) (Q:List P→Prop):Prop:=
  ∀ fuel cs y,DataW.trod hsh Pr w base spare held fuel t cs=some y→Small Pr t y.1→∃ ps,MPs (frzW w hF) ps cs∧Q ps
theorem uF.mono {t:TypeId} {Q Q':List P→Prop} (h:uF hsh Pr w hF base spare held t Q) (hq: ∀ ps,Q ps→Q' ps):uF hsh Pr w hF base spare held t Q':=by
  intro fuel cs y hy hs
  obtain⟨ps,h1,h2⟩:=h fuel cs y hy hs
  exact⟨ps,h1,hq _ h2⟩
def QU (u:U) (ps:List P):Prop:=∃ x:u.den,ps=enc alg u x∧wfZ u x
def QL (u:U) (ps:List P):Prop:=∃ l:List u.den,ps=[.list u l]∧wfS l∧∀ x ∈ l,wfZ u x
theorem op_int {t:TypeId} (ht:Pr.underlying t=some (.int .i64)):uF hsh Pr w hF base spare held t (QU .int):=by
  intro fuel cs y h _
  obtain⟨n,rfl,hn⟩:=ze2 ht fuel cs y h
  exact⟨[.int .i64 n],⟨.int _ _,trivial⟩,n,rfl,zjc hn⟩
theorem op_byte {t:TypeId} (ht:Pr.underlying t=some (.int .u8)):uF hsh Pr w hF base spare held t (QU .byte):=by
  intro fuel cs y h _
  obtain⟨c,hc⟩:=zdq ht fuel cs y h
  exact⟨enc alg .byte c,ziL hc,c,rfl,trivial⟩
theorem zb1 {n:Nat} (h:n≤reachBytes):n≤140737488355328:=Nat.le_trans h (by decide)
theorem op_str {t:TypeId} (ht:Pr.underlying t=some .string):uF hsh Pr w hF base spare held t (QU .str):=by
  intro fuel cs y h hs
  obtain⟨s,rfl,hy,hl⟩:=DataW.trod_string ht h
  have e:Sep.S s.data.toList=s:=by cases s;rfl
  refine⟨[.str s.data.toList],⟨by rw [← e];exact .str _ (by simpa using hl),trivial⟩,s.data.toList,rfl,?_⟩
  rw [hy] at hs
  simp only [Small,DataW.weights,List.all_cons,List.all_nil,Bool.and_true,decide_eq_true_eq] at hs
  exact zb1 hs
def elemsOf:DataW H→List (DataW H)
  |.slice es _=>es
  |_=>[]
theorem zaF {α:Type} {t e:TypeId} {size:Nat} {R:Sep.Rel α} (ht:Pr.underlying t=some (.slice e)) (hs:Pr.cellsOf e=size) {fuel:Nat} {cs:List Value} {y:DataW H × List MemPlace}
    (h:DataW.trod hsh Pr w base spare held fuel t cs=some y) (he: ∀ n ci z,z.1 ∈ elemsOf y.1→DataW.trod hsh Pr w base spare held n e ci=some z→∃ x,R w ci x):
    ∃ xs,RSl size R w cs xs∧xs.length=(elemsOf y.1).length:=by
  rcases DataW.trod_slice ht h with⟨rfl,rfl⟩|⟨a,len,cap,elems,rest,n,_,rfl,rfl,_,hl,hm,hlen,hel,_,_⟩
  · exact⟨[],⟨_,[],rfl,⟨none,0,rfl,Nat.le_refl _,Nat.zero_le _,fun _=>rfl,by simp,fun j u h=>by simp at h⟩,fun i x h=>by simp at h⟩,rfl⟩
  · subst hs
    have each: ∀ i,i<len→∃ ci:List Value,ci.length=Pr.cellsOf e∧(∀ j u,ci[j]? =some u→w.cell? ((a.add (i * Pr.cellsOf e)).add j)=some u)∧∃ x,R w ci x:=by
      intro i hi
      have h1:=hel i hi
      rw [List.getElem?_eq_getElem (by omega),Option.bind_eq_some_iff] at h1
      obtain⟨ci,hci,hy⟩:=h1
      obtain⟨h2,h3⟩:=cells?_get hci
      exact⟨ci,h2,h3,he n ci _ (List.mem_map_of_mem (List.getElem_mem _)) hy⟩
    have all: ∀ m,m≤len→∃ (vs:List Value) (xs:List α),xs.length=m∧vs.length=m * Pr.cellsOf e∧(∀ j u,vs[j]? =some u→w.cell? (a.add j)=some u)∧∀ i x,xs[i]? =some x→R w ((vs.drop (i * Pr.cellsOf e)).take (Pr.cellsOf e)) x:=by
      intro m
      induction m with
      |zero=>intro _;exact⟨[],[],rfl,by simp,fun j u h=>by simp at h,fun i x h=>by simp at h⟩
      | succ m ih=>
        intro hm'
        obtain⟨vs,xs,h1,h2,h3,h4⟩:=ih (by omega)
        obtain⟨ci,c1,c2,x,c3⟩:=each m (by omega)
        refine⟨vs++ci,xs++[x],by simp [h1],by simp [h2,c1,Nat.succ_mul],fun j u hj=> ?_,fun i z hi=> ?_⟩
        · rcases Nat.lt_or_ge j vs.length with hj1|hj1
          · rw [List.getElem?_append_left hj1] at hj;exact h3 j u hj
          · rw [List.getElem?_append_right hj1] at hj
            have h5:=c2 _ _ hj
            rw [Addr.add_add,h2,show m * Pr.cellsOf e+(j - m * Pr.cellsOf e)=j by omega] at h5
            exact h5
        · rcases Nat.lt_or_ge i xs.length with hi1|hi1
          · rw [List.getElem?_append_left hi1] at hi
            have h5:=h4 i z hi
            have h6:i * Pr.cellsOf e+Pr.cellsOf e≤vs.length:=by rw [h2,← Nat.succ_mul];exact Nat.mul_le_mul_right _ (by omega)
            rw [List.drop_append_of_le_length (by omega),List.take_append_of_le_length (by simp;omega)]
            exact h5
          · rw [List.getElem?_append_right hi1] at hi
            have hi2:i=m:=by
              have:=(List.getElem?_eq_some_iff.1 hi).1
              simp at this;omega
            subst hi2
            rw [h1,Nat.sub_self] at hi
            simp at hi
            subst hi
            rw [← h2,List.drop_left,List.take_of_length_le (by omega)]
            exact c3
    obtain⟨vs,xs,h1,h2,h3,h4⟩:=all len (Nat.le_refl _)
    refine⟨xs,⟨_,vs,rfl,⟨some a,cap,by rw [h1],by omega,hm,(fun h=>by cases h),by rw [h1];exact h2,fun j u hj=> ?_⟩,h4⟩,by simp [elemsOf,h1,hlen]⟩
    have hsp:a.spot=none:=by
      cases hv:vs with
      |nil=>rw [hv] at hj;simp at hj
      | cons u0 r=>
        have:=h3 0 u0 (by rw [hv];rfl)
        rw [show a.add 0=a by simp [Addr.add]] at this
        exact zh7 this
    exact⟨⟨a,rfl,hsp⟩,by rw [← YX hsp];exact h3 j u hj⟩
theorem weightsAll_mem {e:TypeId}: ∀ {es:List (DataW H)} {d:DataW H},d ∈ es→∀ n ∈ d.weights Pr e,n ∈ DataW.weightsAll Pr e es
  | x::es,d,hd,n,hn=>by
    simp only [DataW.weightsAll,List.mem_append]
    rcases List.mem_cons.1 hd with rfl|hd
    · exact .inl hn
    · exact .inr (weightsAll_mem hd n hn)
theorem zda {t e:TypeId} (ht:Pr.underlying t=some (.slice e)) {d z:DataW H} (h:Small Pr t d) (hz:z ∈ elemsOf d):Small Pr e z:=by
  cases d<;>simp only [elemsOf,List.not_mem_nil] at hz
  refine List.all_eq_true.2 fun n hn=>List.all_eq_true.1 h n ?_
  simp only [DataW.weights,ht,List.mem_cons,List.mem_append]
  exact .inr (.inl (weightsAll_mem hz n hn))
theorem zed {t e:TypeId} (ht:Pr.underlying t=some (.slice e)) (hb:Nat.blt 0 (Pr.bytesOf e)=true) {d:DataW H} (h:Small Pr t d):(elemsOf d).length≤140737488355328:=by
  cases d<;>simp only [elemsOf]<;>try exact Nat.zero_le _
  rename_i es ss
  have h1:=List.all_eq_true.1 h ((es.length+ss.length) * Pr.bytesOf e) (by simp [DataW.weights,ht])
  have hb:0<Pr.bytesOf e:=by simpa [Nat.blt_eq] using hb
  refine zb1 (Nat.le_trans (Nat.le_trans (Nat.le_add_right _ ss.length) (Nat.le_mul_of_pos_right _ hb)) (by simpa using h1))
theorem op_list {t e:TypeId} {u:U} (ht:Pr.underlying t=some (.slice e)) (hc:Pr.cellsOf e=u.size) (hb:Nat.blt 0 (Pr.bytesOf e)=true) (he:uF hsh Pr w hF base spare held e (QU u)):
    uF hsh Pr w hF base spare held t (QL u):=by
  intro fuel cs y h hs
  obtain⟨l,hl,hlen⟩:=zaF (R:=fun _ cs (x:u.den)=>MPs (frzW w hF) (enc alg u x) cs∧wfZ u x) ht hc h (fun n ci z hz ht'=>by
    obtain⟨ps,h1,x,rfl,hx⟩:=he n ci z ht' (zda ht hs hz)
    exact⟨x,h1,hx⟩)
  have hl':=hl
  obtain⟨v,vs,rfl,_,hx⟩:=hl
  refine⟨[.list u l],⟨ziK (fun _ _ h=>h.1) hl',trivial⟩,l,rfl,by unfold wfS;rw [hlen];exact zed ht hb hs,fun x hm=> ?_⟩
  obtain⟨i,hi⟩:=List.getElem?_of_mem hm
  exact(hx i x hi).2
def QAll:List (List P→Prop)→List P→Prop
  |[],ps=>ps=[]
  |Q::Qs,ps=>∃ a b,ps=a++b∧Q a∧QAll Qs b
def lays (Pr:Program):Nat→List Field→Nat→Bool
  |o,[],n=>Nat.beq o n
  |o,f::fs,n=>Nat.beq f.offset o&&lays Pr (o+Pr.cellsOf f.type) fs n
def zaB (hsh:TypeId × Value→H) (Pr:Program) (w:World) (hF:Holds w) (base:Nat) (spare:Nat→Bool) (held:Bool):List Field→List (List P→Prop)→Prop
  |[],[]=>True
  |f::fs,Q::Qs=>uF hsh Pr w hF base spare held f.type Q∧zaB hsh Pr w hF base spare held fs Qs
  |_,_=>False
theorem zaB.nil:zaB hsh Pr w hF base spare held [] []:=trivial
theorem zaB.cons {f:Field} {fs:List Field} {Q:List P→Prop} {Qs:List (List P→Prop)} (h:uF hsh Pr w hF base spare held f.type Q) (k:zaB hsh Pr w hF base spare held fs Qs):zaB hsh Pr w hF base spare held (f::fs) (Q::Qs):=⟨h,k⟩
theorem MPs.append {S:Frz}: ∀ {a b:List P} {x y:List Value},MPs S a x→MPs S b y→MPs S (a++b) (x++y)
  |[],_,[],_,_,h=>h
  |_::_,_,_::_,_,h,k=>⟨h.1,MPs.append h.2 k⟩
theorem Qm {cs:List Value}: ∀ (fs:List Field) (Qs:List (List P→Prop)) (o:Nat),lays Pr o fs cs.length=true→zaB hsh Pr w hF base spare held fs Qs→
    (∀ f ∈ fs,∃ n z,DataW.trod hsh Pr w base spare held n f.type ((cs.drop f.offset).take (Pr.cellsOf f.type))=some z∧Small Pr f.type z.1)→∃ ps,MPs (frzW w hF) ps (cs.drop o)∧QAll Qs ps
  | [],[],o,hl,_,_=>by
    have:=Nat.eq_of_beq_eq_true hl
    exact⟨[],by rw [List.drop_of_length_le (by omega)];trivial,rfl⟩
  | f::fs,Q::Qs,o,hl,hq,hz=>by
    simp only [lays,Bool.and_eq_true] at hl
    have ho:=Nat.eq_of_beq_eq_true hl.1
    obtain⟨n,z,h1,h2⟩:=hz f (by simp)
    rw [ho] at h1
    obtain⟨p1,m1,q1⟩:=hq.1 n _ z h1 h2
    obtain⟨p2,m2,q2⟩:=Qm fs Qs _ hl.2 hq.2 (fun g hg=>hz g (by simp [hg]))
    refine⟨p1++p2,?_,p1,p2,rfl,q1,q2⟩
    have:=m1.append m2
    rwa [← List.drop_drop,List.take_append_drop] at this
  |[],_::_,_,_,h,_=>h.elim
  |_::_,[],_,_,h,_=>h.elim
theorem op_struct {t:TypeId} {fs:Array Field} {Qs:List (List P→Prop)} (ht:Pr.underlying t=some (.struct fs)) (hl:lays Pr 0 fs.toList (Pr.cellsOf t)=true) (hq:zaB hsh Pr w hF base spare held fs.toList Qs):
    uF hsh Pr w hF base spare held t (QAll Qs):=by
  intro fuel cs y h hs
  obtain⟨xs,n,_,rfl,hcl,hxl,hf⟩:=DataW.trod_struct ht h
  have:=Qm fs.toList Qs 0 (by rw [hcl];exact hl) hq (fun f hfm=>by
    obtain⟨i,hi⟩:=List.getElem?_of_mem hfm
    have hi':fs[i]? =some f:=by simpa using hi
    have hlt:i<xs.length:=by rw [hxl];exact(Array.getElem?_eq_some_iff.1 hi').1
    refine⟨n,xs[i],by rw [hf i f hi',List.getElem?_eq_getElem hlt],List.all_eq_true.2 fun k hk=>List.all_eq_true.1 hs k ?_⟩
    simp only [DataW.weights,ht]
    exact DataW.weights_mem_each (j:=i) (t:=f.type) (by simp [hi']) (by simp [hlt]) k hk)
  simpa using this
theorem q_fld (ps:List P) (h:QAll [QU .str,QU .str] ps):QU .fld ps:=by
  obtain⟨_,_,rfl,⟨a,rfl,ha⟩,_,_,rfl,⟨b,rfl,hb⟩,rfl⟩:=h
  exact⟨(⟨a,b⟩:Fld),rfl,ha,hb⟩
theorem q_hd (ps:List P) (h:QAll [QU .str,QU .str,QU .int,QL .fld,QU .int] ps):QU .hd ps:=by
  obtain⟨_,_,rfl,⟨a,rfl,ha⟩,_,_,rfl,⟨b,rfl,hb⟩,_,_,rfl,⟨c,rfl,hc⟩,_,_,rfl,⟨d,rfl,hd⟩,_,_,rfl,⟨e,rfl,he⟩,rfl⟩:=h
  exact⟨(⟨a,b,c,d,e⟩:Hd),rfl,ha,hb,hc,hd,he⟩
theorem z_one {t:TypeId} {v:Value} {d:DataW H} {ps:List MemPlace} {Q:List P→Prop} (hr:v.oneCell'=true) (h:DataW.Trod hsh Pr w base spare held t v d ps) (hs:Small Pr t d) (ho:uF hsh Pr w hF base spare held t Q): ∃ qs,MPs (frzW w hF) qs [v]∧Q qs:=by
  obtain⟨fuel,hf⟩:=h
  have hc:v.cells.toList=[v]:=by cases v<;>first|rfl|cases hr
  rw [hc] at hf
  exact ho fuel _ _ hf hs
theorem z_agg {t:TypeId} {cs:Array Value} {d:DataW H} {ps:List MemPlace} {Q:List P→Prop} (h:DataW.Trod hsh Pr w base spare held t (.agg cs) d ps) (hs:Small Pr t d) (ho:uF hsh Pr w hF base spare held t Q): ∃ qs,MPs (frzW w hF) qs cs.toList∧Q qs:=by
  obtain⟨fuel,hf⟩:=h
  exact ho fuel _ _ hf hs
theorem md_agg {S:Frz} {cs:Array Value} {u:U} {x:u.den} (h:MPs S (enc alg u x) cs.toList):MD S [] (.v (.agg ((enc alg u x).map C.p))) (.agg cs):=⟨cs.toList,h.mcs,by simp⟩
theorem small_nth {ts:List TypeId} {ds:List (DataW H)} (h:(DataW.weightsEach Pr ts ds).all (· ≤reachBytes)=true) {j:Nat} {t:TypeId} {d:DataW H} (ht:ts[j]? =some t) (hd:ds[j]? =some d):Small Pr t d:=
  List.all_eq_true.2 fun n hn=>List.all_eq_true.1 h n (DataW.weights_mem_each ht hd n hn)
end
end Go.Ab
namespace Go.Proofs
open Go.Shelf
def Tryz.zaU:Go.Shelf.Ren:=⟨fun|160=>83|232=>96|231=>95|227=>80|234=>98|233=>97|236=>100|235=>99|228=>81|271=>113|151=>112|197=>111|120=>124|152=>78|260=>123|137=>77|119=>92|224=>93|225=>94|217=>91|266=>110|n=>n,fun|9=>9|4=>4|3=>3|5=>5|117=>109|116=>108|0=>0|124=>121|21=>21|105=>131|46=>80|119=>142|139=>145|138=>144|n=>n,fun|3=>2|4=>3|n=>n⟩
theorem Tryz.lays160:Go.Proofs.Lays.n160 Tryz.prog Tryz.zaU:= {
  mixed:=by kernel_rfl
  f119:=Tryz.func92.trans (congrArg some (by kernel_rfl))
  f120:=Tryz.func124.trans (congrArg some (by kernel_rfl))
  f137:=Tryz.func77.trans (congrArg some (by kernel_rfl))
  f151:=Tryz.func112.trans (congrArg some (by kernel_rfl))
  f152:=Tryz.func78.trans (congrArg some (by kernel_rfl))
  f160:=Tryz.func83.trans (congrArg some (by kernel_rfl))
  f197:=Tryz.func111.trans (congrArg some (by kernel_rfl))
  f217:=Tryz.func91.trans (congrArg some (by kernel_rfl))
  f224:=Tryz.func93.trans (congrArg some (by kernel_rfl))
  f225:=Tryz.func94.trans (congrArg some (by kernel_rfl))
  f227:=Tryz.func80.trans (congrArg some (by kernel_rfl))
  f228:=Tryz.func81.trans (congrArg some (by kernel_rfl))
  f231:=Tryz.func95.trans (congrArg some (by kernel_rfl))
  f232:=Tryz.func96.trans (congrArg some (by kernel_rfl))
  f233:=Tryz.func97.trans (congrArg some (by kernel_rfl))
  f234:=Tryz.func98.trans (congrArg some (by kernel_rfl))
  f235:=Tryz.func99.trans (congrArg some (by kernel_rfl))
  f236:=Tryz.func100.trans (congrArg some (by kernel_rfl))
  f260:=Tryz.func123.trans (congrArg some (by kernel_rfl))
  f266:=Tryz.func110.trans (congrArg some (by kernel_rfl))
  f271:=Tryz.func113.trans (congrArg some (by kernel_rfl))
  t0:=Tryz.underlying0
  a0:=Tryz.isAgg0
  z0:=Tryz.sizeOf0
  v0:=Tryz.zeroValue0
  t3:=Tryz.underlying3
  a3:=Tryz.isAgg3
  z3:=Tryz.sizeOf3
  v3:=Tryz.zeroValue3
  t4:=Tryz.underlying4
  a4:=Tryz.isAgg4
  z4:=Tryz.sizeOf4
  v4:=Tryz.zeroValue4
  t5:=Tryz.underlying5
  a5:=Tryz.isAgg5
  z5:=Tryz.sizeOf5
  v5:=Tryz.zeroValue5
  t9:=Tryz.underlying9
  a9:=Tryz.isAgg9
  z9:=Tryz.sizeOf9
  v9:=Tryz.zeroValue9
  t21:=Tryz.underlying21
  a21:=Tryz.isAgg21
  z21:=Tryz.sizeOf21
  v21:=Tryz.zeroValue21
  t46:=Tryz.underlying80
  a46:=Tryz.isAgg80
  z46:=Tryz.sizeOf80
  v46:=Tryz.zeroValue80
  t105:=Tryz.underlying131
  a105:=Tryz.isAgg131
  z105:=Tryz.sizeOf131
  v105:=Tryz.zeroValue131
  t116:=Tryz.underlying108
  a116:=Tryz.isAgg108
  z116:=Tryz.sizeOf108
  t117:=Tryz.underlying109
  a117:=Tryz.isAgg109
  z117:=Tryz.sizeOf109
  v117:=Tryz.zeroValue109
  t119:=Tryz.underlying142
  a119:=Tryz.isAgg142
  z119:=Tryz.sizeOf142
  t124:=Tryz.underlying121
  a124:=Tryz.isAgg121
  z124:=Tryz.sizeOf121
  v124:=Tryz.zeroValue121
  t138:=Tryz.underlying144
  a138:=Tryz.isAgg144
  z138:=Tryz.sizeOf144
  v138:=Tryz.zeroValue144
  t139:=Tryz.underlying145
  a139:=Tryz.isAgg145
  z139:=Tryz.sizeOf145
  v139:=Tryz.zeroValue145
  g3:=by kernel_rfl
  g4:=by kernel_rfl}
def Tryz.zaW:Go.Shelf.Ren:=⟨fun|137=>77|217=>91|266=>110|n=>n,fun|9=>9|5=>5|3=>3|n=>n,fun|n=>n⟩
theorem Tryz.lays137:Go.Proofs.Lays.n137 Tryz.prog Tryz.zaW:= {
  mixed:=by kernel_rfl
  f137:=Tryz.func77.trans (congrArg some (by kernel_rfl))
  f217:=Tryz.func91.trans (congrArg some (by kernel_rfl))
  f266:=Tryz.func110.trans (congrArg some (by kernel_rfl))
  t3:=Tryz.underlying3
  a3:=Tryz.isAgg3
  z3:=Tryz.sizeOf3
  v3:=Tryz.zeroValue3
  t5:=Tryz.underlying5
  a5:=Tryz.isAgg5
  z5:=Tryz.sizeOf5
  v5:=Tryz.zeroValue5
  t9:=Tryz.underlying9
  a9:=Tryz.isAgg9
  z9:=Tryz.sizeOf9
  v9:=Tryz.zeroValue9}
def Tryz.QC:Go.Shelf.Ren:=⟨fun|171=>39|243=>65|246=>84|283=>101|284=>102|285=>103|286=>104|129=>115|317=>114|318=>116|319=>117|320=>118|337=>125|338=>126|n=>n,fun|3=>3|9=>9|2=>2|4=>4|171=>124|0=>0|53=>125|37=>22|5=>5|173=>128|212=>135|51=>136|20=>20|213=>137|46=>80|232=>146|233=>147|n=>n,fun|17=>1|18=>4|19=>5|n=>n⟩
theorem Tryz.laysM171:Go.Proofs.LaysM.n171 Tryz.prog Tryz.QC:= {
  mixed:=by kernel_rfl
  f129:=Tryz.func115.trans (congrArg some (by kernel_rfl))
  f171:=Tryz.func39.trans (congrArg some (by kernel_rfl))
  f243:=Tryz.func65.trans (congrArg some (by kernel_rfl))
  f246:=Tryz.func84.trans (congrArg some (by kernel_rfl))
  f283:=Tryz.func101.trans (congrArg some (by kernel_rfl))
  f284:=Tryz.func102.trans (congrArg some (by kernel_rfl))
  f285:=Tryz.func103.trans (congrArg some (by kernel_rfl))
  f286:=Tryz.func104.trans (congrArg some (by kernel_rfl))
  f317:=Tryz.func114.trans (congrArg some (by kernel_rfl))
  f318:=Tryz.func116.trans (congrArg some (by kernel_rfl))
  f319:=Tryz.func117.trans (congrArg some (by kernel_rfl))
  f320:=Tryz.func118.trans (congrArg some (by kernel_rfl))
  f337:=Tryz.func125.trans (congrArg some (by kernel_rfl))
  f338:=Tryz.func126.trans (congrArg some (by kernel_rfl))
  t0:=Tryz.underlying0
  a0:=Tryz.isAgg0
  z0:=Tryz.sizeOf0
  v0:=Tryz.zeroValue0
  t2:=Tryz.underlying2
  a2:=Tryz.isAgg2
  z2:=Tryz.sizeOf2
  v2:=Tryz.zeroValue2
  t3:=Tryz.underlying3
  a3:=Tryz.isAgg3
  z3:=Tryz.sizeOf3
  v3:=Tryz.zeroValue3
  t4:=Tryz.underlying4
  a4:=Tryz.isAgg4
  z4:=Tryz.sizeOf4
  v4:=Tryz.zeroValue4
  t5:=Tryz.underlying5
  a5:=Tryz.isAgg5
  z5:=Tryz.sizeOf5
  v5:=Tryz.zeroValue5
  t9:=Tryz.underlying9
  a9:=Tryz.isAgg9
  z9:=Tryz.sizeOf9
  v9:=Tryz.zeroValue9
  t20:=Tryz.underlying20
  a20:=Tryz.isAgg20
  z20:=Tryz.sizeOf20
  v20:=Tryz.zeroValue20
  t37:=Tryz.underlying22
  a37:=Tryz.isAgg22
  z37:=Tryz.sizeOf22
  v37:=Tryz.zeroValue22
  t46:=Tryz.underlying80
  a46:=Tryz.isAgg80
  z46:=Tryz.sizeOf80
  v46:=Tryz.zeroValue80
  t51:=Tryz.underlying136
  a51:=Tryz.isAgg136
  z51:=Tryz.sizeOf136
  v51:=Tryz.zeroValue136
  t53:=Tryz.underlying125
  a53:=Tryz.isAgg125
  z53:=Tryz.sizeOf125
  v53:=Tryz.zeroValue125
  t171:=Tryz.underlying124
  a171:=Tryz.isAgg124
  z171:=Tryz.sizeOf124
  v171:=Tryz.zeroValue124
  t173:=Tryz.underlying128
  a173:=Tryz.isAgg128
  z173:=Tryz.sizeOf128
  v173:=Tryz.zeroValue128
  t212:=Tryz.underlying135
  a212:=Tryz.isAgg135
  z212:=Tryz.sizeOf135
  v212:=Tryz.zeroValue135
  t213:=Tryz.underlying137
  a213:=Tryz.isAgg137
  z213:=Tryz.sizeOf137
  t232:=Tryz.underlying146
  a232:=Tryz.isAgg146
  z232:=Tryz.sizeOf146
  v232:=Tryz.zeroValue146
  t233:=Tryz.underlying147
  a233:=Tryz.isAgg147
  z233:=Tryz.sizeOf147
  v233:=Tryz.zeroValue147
  g17:=by kernel_rfl
  g18:=by kernel_rfl
  g19:=by kernel_rfl
  i0:=by kernel_rfl
  i2:=by kernel_rfl
  i3:=by kernel_rfl
  i4:=by kernel_rfl
  i5:=by kernel_rfl
  i9:=by kernel_rfl
  i20:=by kernel_rfl
  i37:=by kernel_rfl
  i46:=by kernel_rfl
  i51:=by kernel_rfl
  i53:=by kernel_rfl
  i171:=by kernel_rfl
  i173:=by kernel_rfl
  i212:=by kernel_rfl
  i232:=by kernel_rfl
  i233:=by kernel_rfl
  m17:=by kernel_rfl
  m18:=by kernel_rfl
  m19:=by kernel_rfl}
def Tryz.zaT:Go.Shelf.Ren:=⟨fun|219=>122|217=>91|225=>94|224=>93|267=>130|266=>110|314=>131|n=>n,fun|9=>9|3=>3|4=>4|5=>5|46=>80|146=>148|51=>136|n=>n,fun|1=>0|n=>n⟩
theorem Tryz.lays219:Go.Proofs.Lays.n219 Tryz.prog Tryz.zaT:= {
  mixed:=by kernel_rfl
  f217:=Tryz.func91.trans (congrArg some (by kernel_rfl))
  f219:=Tryz.func122.trans (congrArg some (by kernel_rfl))
  f224:=Tryz.func93.trans (congrArg some (by kernel_rfl))
  f225:=Tryz.func94.trans (congrArg some (by kernel_rfl))
  f266:=Tryz.func110.trans (congrArg some (by kernel_rfl))
  f267:=Tryz.func130.trans (congrArg some (by kernel_rfl))
  f314:=Tryz.func131.trans (congrArg some (by kernel_rfl))
  t3:=Tryz.underlying3
  a3:=Tryz.isAgg3
  z3:=Tryz.sizeOf3
  v3:=Tryz.zeroValue3
  t4:=Tryz.underlying4
  a4:=Tryz.isAgg4
  z4:=Tryz.sizeOf4
  v4:=Tryz.zeroValue4
  t5:=Tryz.underlying5
  a5:=Tryz.isAgg5
  z5:=Tryz.sizeOf5
  v5:=Tryz.zeroValue5
  t9:=Tryz.underlying9
  a9:=Tryz.isAgg9
  z9:=Tryz.sizeOf9
  v9:=Tryz.zeroValue9
  t46:=Tryz.underlying80
  a46:=Tryz.isAgg80
  z46:=Tryz.sizeOf80
  v46:=Tryz.zeroValue80
  t51:=Tryz.underlying136
  a51:=Tryz.isAgg136
  z51:=Tryz.sizeOf136
  v51:=Tryz.zeroValue136
  t146:=Tryz.underlying148
  a146:=Tryz.isAgg148
  z146:=Tryz.sizeOf148
  v146:=Tryz.zeroValue148
  g1:=by kernel_rfl}
def Tryz.zaV:Go.Shelf.Ren:=⟨fun|144=>87|143=>107|219=>122|217=>91|225=>94|224=>93|267=>130|266=>110|314=>131|n=>n,fun|9=>9|4=>4|3=>3|5=>5|46=>80|146=>148|51=>136|n=>n,fun|1=>0|n=>n⟩
theorem Tryz.lays144:Go.Proofs.Lays.n144 Tryz.prog Tryz.zaV:= {
  mixed:=by kernel_rfl
  f143:=Tryz.func107.trans (congrArg some (by kernel_rfl))
  f144:=Tryz.func87.trans (congrArg some (by kernel_rfl))
  f217:=Tryz.func91.trans (congrArg some (by kernel_rfl))
  f219:=Tryz.func122.trans (congrArg some (by kernel_rfl))
  f224:=Tryz.func93.trans (congrArg some (by kernel_rfl))
  f225:=Tryz.func94.trans (congrArg some (by kernel_rfl))
  f266:=Tryz.func110.trans (congrArg some (by kernel_rfl))
  f267:=Tryz.func130.trans (congrArg some (by kernel_rfl))
  f314:=Tryz.func131.trans (congrArg some (by kernel_rfl))
  t3:=Tryz.underlying3
  a3:=Tryz.isAgg3
  z3:=Tryz.sizeOf3
  v3:=Tryz.zeroValue3
  t4:=Tryz.underlying4
  a4:=Tryz.isAgg4
  z4:=Tryz.sizeOf4
  v4:=Tryz.zeroValue4
  t5:=Tryz.underlying5
  a5:=Tryz.isAgg5
  z5:=Tryz.sizeOf5
  v5:=Tryz.zeroValue5
  t9:=Tryz.underlying9
  a9:=Tryz.isAgg9
  z9:=Tryz.sizeOf9
  v9:=Tryz.zeroValue9
  t46:=Tryz.underlying80
  a46:=Tryz.isAgg80
  z46:=Tryz.sizeOf80
  v46:=Tryz.zeroValue80
  t51:=Tryz.underlying136
  a51:=Tryz.isAgg136
  z51:=Tryz.sizeOf136
  v51:=Tryz.zeroValue136
  t146:=Tryz.underlying148
  a146:=Tryz.isAgg148
  z146:=Tryz.sizeOf148
  v146:=Tryz.zeroValue148
  g1:=by kernel_rfl}
def Tryz.lays99_ren:Go.Shelf.Ren:=⟨fun|99=>33|206=>60|n=>n,fun|9=>9|4=>4|3=>3|n=>n,fun|n=>n⟩
theorem Tryz.lays99:Go.Proofs.Lays.n99 Tryz.prog Tryz.lays99_ren:= {
  mixed:=by kernel_rfl
  f99:=Tryz.func33.trans (congrArg some (by kernel_rfl))
  f206:=Tryz.func60.trans (congrArg some (by kernel_rfl))
  t3:=Tryz.underlying3
  a3:=Tryz.isAgg3
  z3:=Tryz.sizeOf3
  v3:=Tryz.zeroValue3
  t4:=Tryz.underlying4
  a4:=Tryz.isAgg4
  z4:=Tryz.sizeOf4
  v4:=Tryz.zeroValue4
  t9:=Tryz.underlying9
  a9:=Tryz.isAgg9
  z9:=Tryz.sizeOf9
  v9:=Tryz.zeroValue9}
def Tryz.lays146_ren:Go.Shelf.Ren:=⟨fun|146=>86|221=>106|268=>120|138=>121|143=>107|195=>128|197=>111|218=>129|219=>122|260=>123|217=>91|225=>94|224=>93|267=>130|266=>110|314=>131|n=>n,fun|9=>9|31=>74|3=>3|4=>4|0=>0|105=>131|21=>21|5=>5|46=>80|119=>142|139=>145|138=>144|146=>148|51=>136|n=>n,fun|1=>0|3=>2|4=>3|n=>n⟩
theorem Tryz.lays146:Go.Proofs.Lays.n146 Tryz.prog Tryz.lays146_ren:= {
  mixed:=by kernel_rfl
  f138:=Tryz.func121.trans (congrArg some (by kernel_rfl))
  f143:=Tryz.func107.trans (congrArg some (by kernel_rfl))
  f146:=Tryz.func86.trans (congrArg some (by kernel_rfl))
  f195:=Tryz.func128.trans (congrArg some (by kernel_rfl))
  f197:=Tryz.func111.trans (congrArg some (by kernel_rfl))
  f217:=Tryz.func91.trans (congrArg some (by kernel_rfl))
  f218:=Tryz.func129.trans (congrArg some (by kernel_rfl))
  f219:=Tryz.func122.trans (congrArg some (by kernel_rfl))
  f221:=Tryz.func106.trans (congrArg some (by kernel_rfl))
  f224:=Tryz.func93.trans (congrArg some (by kernel_rfl))
  f225:=Tryz.func94.trans (congrArg some (by kernel_rfl))
  f260:=Tryz.func123.trans (congrArg some (by kernel_rfl))
  f266:=Tryz.func110.trans (congrArg some (by kernel_rfl))
  f267:=Tryz.func130.trans (congrArg some (by kernel_rfl))
  f268:=Tryz.func120.trans (congrArg some (by kernel_rfl))
  f314:=Tryz.func131.trans (congrArg some (by kernel_rfl))
  t0:=Tryz.underlying0
  a0:=Tryz.isAgg0
  z0:=Tryz.sizeOf0
  v0:=Tryz.zeroValue0
  t3:=Tryz.underlying3
  a3:=Tryz.isAgg3
  z3:=Tryz.sizeOf3
  v3:=Tryz.zeroValue3
  t4:=Tryz.underlying4
  a4:=Tryz.isAgg4
  z4:=Tryz.sizeOf4
  v4:=Tryz.zeroValue4
  t5:=Tryz.underlying5
  a5:=Tryz.isAgg5
  z5:=Tryz.sizeOf5
  v5:=Tryz.zeroValue5
  t9:=Tryz.underlying9
  a9:=Tryz.isAgg9
  z9:=Tryz.sizeOf9
  v9:=Tryz.zeroValue9
  t21:=Tryz.underlying21
  a21:=Tryz.isAgg21
  z21:=Tryz.sizeOf21
  v21:=Tryz.zeroValue21
  t31:=Tryz.underlying74
  a31:=Tryz.isAgg74
  z31:=Tryz.sizeOf74
  v31:=Tryz.zeroValue74
  t46:=Tryz.underlying80
  a46:=Tryz.isAgg80
  z46:=Tryz.sizeOf80
  v46:=Tryz.zeroValue80
  t51:=Tryz.underlying136
  a51:=Tryz.isAgg136
  z51:=Tryz.sizeOf136
  v51:=Tryz.zeroValue136
  t105:=Tryz.underlying131
  a105:=Tryz.isAgg131
  z105:=Tryz.sizeOf131
  v105:=Tryz.zeroValue131
  t119:=Tryz.underlying142
  a119:=Tryz.isAgg142
  z119:=Tryz.sizeOf142
  t138:=Tryz.underlying144
  a138:=Tryz.isAgg144
  z138:=Tryz.sizeOf144
  v138:=Tryz.zeroValue144
  t139:=Tryz.underlying145
  a139:=Tryz.isAgg145
  z139:=Tryz.sizeOf145
  v139:=Tryz.zeroValue145
  t146:=Tryz.underlying148
  a146:=Tryz.isAgg148
  z146:=Tryz.sizeOf148
  v146:=Tryz.zeroValue148
  g1:=by kernel_rfl
  g3:=by kernel_rfl
  g4:=by kernel_rfl}
def Tryz.lays150_ren:Go.Shelf.Ren:=⟨fun|150=>34|153=>61|152=>78|226=>79|227=>80|228=>81|137=>77|119=>92|224=>93|225=>94|217=>91|266=>110|n=>n,fun|9=>9|4=>4|3=>3|5=>5|21=>21|117=>109|116=>108|0=>0|46=>80|124=>121|n=>n,fun|n=>n⟩
theorem Tryz.lays150:Go.Proofs.Lays.n150 Tryz.prog Tryz.lays150_ren:= {
  mixed:=by kernel_rfl
  f119:=Tryz.func92.trans (congrArg some (by kernel_rfl))
  f137:=Tryz.func77.trans (congrArg some (by kernel_rfl))
  f150:=Tryz.func34.trans (congrArg some (by kernel_rfl))
  f152:=Tryz.func78.trans (congrArg some (by kernel_rfl))
  f153:=Tryz.func61.trans (congrArg some (by kernel_rfl))
  f217:=Tryz.func91.trans (congrArg some (by kernel_rfl))
  f224:=Tryz.func93.trans (congrArg some (by kernel_rfl))
  f225:=Tryz.func94.trans (congrArg some (by kernel_rfl))
  f226:=Tryz.func79.trans (congrArg some (by kernel_rfl))
  f227:=Tryz.func80.trans (congrArg some (by kernel_rfl))
  f228:=Tryz.func81.trans (congrArg some (by kernel_rfl))
  f266:=Tryz.func110.trans (congrArg some (by kernel_rfl))
  t0:=Tryz.underlying0
  a0:=Tryz.isAgg0
  z0:=Tryz.sizeOf0
  v0:=Tryz.zeroValue0
  t3:=Tryz.underlying3
  a3:=Tryz.isAgg3
  z3:=Tryz.sizeOf3
  v3:=Tryz.zeroValue3
  t4:=Tryz.underlying4
  a4:=Tryz.isAgg4
  z4:=Tryz.sizeOf4
  v4:=Tryz.zeroValue4
  t5:=Tryz.underlying5
  a5:=Tryz.isAgg5
  z5:=Tryz.sizeOf5
  v5:=Tryz.zeroValue5
  t9:=Tryz.underlying9
  a9:=Tryz.isAgg9
  z9:=Tryz.sizeOf9
  v9:=Tryz.zeroValue9
  t21:=Tryz.underlying21
  a21:=Tryz.isAgg21
  z21:=Tryz.sizeOf21
  v21:=Tryz.zeroValue21
  t46:=Tryz.underlying80
  a46:=Tryz.isAgg80
  z46:=Tryz.sizeOf80
  v46:=Tryz.zeroValue80
  t116:=Tryz.underlying108
  a116:=Tryz.isAgg108
  z116:=Tryz.sizeOf108
  t117:=Tryz.underlying109
  a117:=Tryz.isAgg109
  z117:=Tryz.sizeOf109
  v117:=Tryz.zeroValue109
  t124:=Tryz.underlying121
  a124:=Tryz.isAgg121
  z124:=Tryz.sizeOf121
  v124:=Tryz.zeroValue121}
open Go.RowKit in
theorem Tryz.strings_IndexByte (s:ByteArray) (c:Int) (w:World):
    Calls Tryz.prog 77 #[.string s,.int .u8 c] w fun e w'=>e=.returned (.int .i64 (Lib.indexByte s.data.toList c.toNat.toUInt8))∧w'=w:=Any.strings_IndexByte Tryz.lays137 s c w
open Go.RowKit Go.Sort Go.Lib in
theorem Tryz.strconv_Itoa (n:Int) (h0: -9223372036854775808≤n) (h1:n≤9223372036854775807) (w:World) (htab:Lib.TabIs Tryz.prog w "internal/strconv.uint64pow10" .u64 Lib.pow10Tab):
    Calls Tryz.prog 39 #[.int .i64 n] w fun e w'=>e=.returned (.string ⟨(Lib.itoa n).toArray⟩)∧∃ k os,w'=grow (w.drewN k) os:=Any.strconv_Itoa Tryz.laysM171 n h0 h1 w htab
open Go.RowKit Go.Lib in
theorem Tryz.stringslite_Index_one (s:ByteArray) (c:UInt8) (w:World):
    Calls Tryz.prog 122 #[.string s,.string ⟨#[c]⟩] w fun e w'=>e=.returned (.int .i64 (Lib.indexByte s.data.toList c))∧w'=w:=Any.stringslite_Index_one Tryz.lays219 s c w
open Go.RowKit Go.Lib in
theorem Tryz.strings_Contains_one (s:ByteArray) (c:UInt8) (w:World):
    Calls Tryz.prog 87 #[.string s,.string ⟨#[c]⟩] w fun e w'=>e=.returned (.bool (decide (0≤Lib.indexByte s.data.toList c)))∧w'=w:=Any.strings_Contains_one Tryz.lays144 s c w
open Go.RowKit Go.Lib in
theorem Tryz.strings_HasPrefix (s p:ByteArray) (w:World):
    Calls Tryz.prog 33 #[.string s,.string p] w fun e w'=>e=.returned (.bool (Lib.hasPrefix s.data.toList p.data.toList))∧w'=w:=Any.strings_HasPrefix Tryz.lays99 s p w
open Go.RowKit Go.Lib in
theorem Tryz.strings_Split (s sep:ByteArray) (m:Int) (w:World) (hs:s.size<4294967281) (hm:w.cell? ⟨0,0,none⟩=some (.int .i64 m)) (h1:1≤sep.size):
    Calls Tryz.prog 86 #[.string s,.string sep] w fun e w'=>
      e=.returned (.slice (some ⟨w.heap.size,0,none⟩) (Lib.countB s sep+1) (Lib.countB s sep+1))∧w'=w.alloc (.cells ((Lib.splitB sep 0 (Lib.countB s sep) s).map Value.string).toArray 9):=Any.strings_Split Tryz.lays146 (by kernel_rfl) s sep m w hs hm h1
open Go.RowKit Go.Lib in
theorem Tryz.strings_Trim_laid (s cutset:ByteArray) (w:World) (hs:s.size≤9223372036854775807) (hcs:cutset.size<4294967281) (hascii: ∀ (j:Nat) b,cutset.data.toList[j]? =some b→b.toNat<128):
    Calls Tryz.prog 83 #[.string s,.string cutset] w fun e w'=>e=.returned (.string ⟨(Lib.trimS s.data.toList cutset.data.toList).toArray⟩)∧Go.RowKit.Below w.heap.size w w':=Any.strings_Trim_laid Tryz.lays160 (by kernel_rfl) s cutset w hs hcs hascii
end Go.Proofs
namespace Go.Ab
open Go Go.Sep
variable [Facts]
theorem zbh {w w':World} (h:RowKit.Below w.heap.size w w'):Keeps (fun k=>k<w.heap.size) w w':=⟨h.1,h.2,h.3,h.4,h.5⟩
theorem Spc.of_below {Pr:Program} {f:Nat} {args:List D} {hp:List HO} {d:D} (hf: ∃ fn,Pr.funcs[f]? =some fn∧(fn.name == "runtime.NumGoroutine")=false∧fn.body.isNone=false)
    (h: ∀ (S:Frz) (bs:List Value) (w:World) (vs:List Value),Facts.p w→MDs S bs args vs→∃ v,MD S bs d v∧Calls Pr f vs.toArray w fun e w'=>e=.returned v∧RowKit.Below w.heap.size w w'):Spc Pr f args hp (.ret d) hp:=by
  refine⟨hf,fun S K fr w vs hH hM hA=> ?_⟩
  obtain⟨v,hv,hc⟩:=h S _ w vs (At.frz hA).facts hM
  refine hc.mono fun e w' he=> ?_
  obtain⟨he,hb⟩:=he
  subst he
  exact⟨S,K,Frz.le.refl S,Ext.refl _,hH,hA.keep (zbh hb),hv⟩
end Go.Ab
namespace Go.Proofs.YtmibhbdfigpkmaaGreatDoor
open Go Go.Sep Go.Ab
set_option maxRecDepth 100000
theorem zbu (s cs:Str):(Lib.trimS s cs).length≤s.length:=by
  unfold Lib.trimS Lib.trimLeftS Lib.trimRightS
  refine Nat.le_trans (List.dropWhile_sublist _).length_le ?_
  rw [List.length_reverse]
  exact Nat.le_trans (List.dropWhile_sublist _).length_le (by rw [List.length_reverse];exact Nat.le_refl _)
theorem xE: ∀ (s:Str) (c:UInt8),-1≤Lib.indexByte s c∧Lib.indexByte s c<s.length
  |[],c=>by simp [Lib.indexByte]
  | b ::l,c=>by
    have:=xE l c
    unfold Lib.indexByte
    rw [List.length_cons]
    split
    · omega
    · split
      · omega
      · omega
theorem zj5 (s:Str):Spc Tryz.prog 83 [.v (.one (.p (.str s))),.v (.one (.p (.str ([32,9]))))] [] (.ret (.v (.one (.p (.str (Lib.trimS s [32,9])))))) []:=by
  refine Spc.of_below ⟨_,Tryz.func83,by kernel_rfl,by kernel_rfl⟩ fun S bs w vs _ hM=> ?_
  obtain⟨v,r,rfl⟩: ∃ v r,vs=v::r:=by cases vs with|nil=>exact hM.elim|cons v r=>exact⟨v,r,rfl⟩
  obtain⟨h1,hM⟩:=hM
  obtain⟨v2,r2,rfl⟩: ∃ v r2,r=v::r2:=by cases r with|nil=>exact hM.elim|cons v r=>exact⟨v,r,rfl⟩
  obtain⟨h2,hM⟩:=hM
  obtain rfl:r2=[]:=by cases r2 with|nil=>rfl|cons v r=>exact hM.elim
  cases h1 with
  | str _ hl1=>
    cases h2 with
    | str _ hl2=>
      refine⟨.string (Sep.S (Lib.trimS s [32,9])),.str _ (Nat.le_trans (zbu _ _) hl1),?_⟩
      exact Tryz.strings_Trim_laid (Sep.S s) (Sep.S [32,9]) w (by have:=hl1;unfold maxLen at this;exact this) (by decide) (fun j b hb=>by
        have:=List.mem_of_getElem? hb
        rcases(by simpa [Sep.S] using this:b=32∨b=9) with rfl|rfl<;>decide)
def UO (I:Alg) (args:List D) (hp:List HO):Option CT:=match args,hp with
  |[.v (.one (.p (.str s))),.v (.one (.p (.str ([32,9]))))],[]=>(fun(s:Str)=>(some (.one ⟨I.hid (True),(.ret (.v (.one (.p (.str (I.hid (Lib.trimS s [32,9]))))))),[]⟩):Option CT)) s
  |_,_=>none
theorem zd1:zI Tryz.prog 83 (UO alg):=by
  intro args hp r h
  unfold UO at h
  split at h
  · cases h;exact fun hn=>zj5 _
  · cases h
def zh6:Know Tryz.prog:=⟨83,UO,zd1⟩
def zh5:Know Tryz.prog:=⟨83,fun I=>zK I (UO I),zf zd1⟩
theorem zdG (s:Str) (k:Int):Spc Tryz.prog 77 [.v (.one (.p (.str s))),.v (.one (.p (.int .u8 k)))] [] (.ret (.v (.one (.p (.int .i64 (Lib.indexByte s k.toNat.toUInt8)))))) []:=by
  refine Spc.of_below ⟨_,Tryz.func77,by kernel_rfl,by kernel_rfl⟩ fun S bs w vs _ hM=> ?_
  obtain⟨v,r,rfl⟩: ∃ v r,vs=v::r:=by cases vs with|nil=>exact hM.elim|cons v r=>exact⟨v,r,rfl⟩
  obtain⟨h1,hM⟩:=hM
  obtain⟨v2,r2,rfl⟩: ∃ v r2,r=v::r2:=by cases r with|nil=>exact hM.elim|cons v r=>exact⟨v,r,rfl⟩
  obtain⟨h2,hM⟩:=hM
  obtain rfl:r2=[]:=by cases r2 with|nil=>rfl|cons v r=>exact hM.elim
  cases h1 with
  | str _ hl1=>
    cases h2 with
    | int _ _=>
      refine⟨.int .i64 (Lib.indexByte s k.toNat.toUInt8),.int _ _,?_⟩
      refine(Tryz.strings_IndexByte (Sep.S s) k w).mono fun e w' h=> ?_
      obtain⟨he,rfl⟩:=h
      exact⟨he,RowKit.Below.refl _ _⟩
def vT (I:Alg) (args:List D) (hp:List HO):Option CT:=match args,hp with
  |[.v (.one (.p (.str s))),.v (.one (.p (.int .u8 k)))],[]=>(fun(s:Str) (k:Int)=>(some (.one ⟨I.hid (True),(.ret (.v (.one (.p (.int .i64 (I.hid (Lib.indexByte s k.toNat.toUInt8))))))),[]⟩):Option CT)) s k
  |_,_=>none
theorem Xa:zI Tryz.prog 77 (vT alg):=by
  intro args hp r h
  unfold vT at h
  split at h
  · cases h;exact fun hn=>zdG _ _
  · cases h
def QO:Know Tryz.prog:=⟨77,vT,Xa⟩
def QN:Know Tryz.prog:=⟨77,fun I=>zK I (vT I),zf Xa⟩
theorem ziJ (s:Str) (c:UInt8):Spc Tryz.prog 122 [.v (.one (.p (.str s))),.v (.one (.p (.str ([c]))))] [] (.ret (.v (.one (.p (.int .i64 (Lib.indexByte s c)))))) []:=by
  refine Spc.of_below ⟨_,Tryz.func122,by kernel_rfl,by kernel_rfl⟩ fun S bs w vs _ hM=> ?_
  obtain⟨v,r,rfl⟩: ∃ v r,vs=v::r:=by cases vs with|nil=>exact hM.elim|cons v r=>exact⟨v,r,rfl⟩
  obtain⟨h1,hM⟩:=hM
  obtain⟨v2,r2,rfl⟩: ∃ v r2,r=v::r2:=by cases r with|nil=>exact hM.elim|cons v r=>exact⟨v,r,rfl⟩
  obtain⟨h2,hM⟩:=hM
  obtain rfl:r2=[]:=by cases r2 with|nil=>rfl|cons v r=>exact hM.elim
  cases h1 with
  | str _ hl1=>
    cases h2 with
    | str _ _=>
      refine⟨.int .i64 (Lib.indexByte s c),.int _ _,?_⟩
      refine(Tryz.stringslite_Index_one (Sep.S s) c w).mono fun e w' h=> ?_
      obtain⟨he,rfl⟩:=h
      exact⟨he,RowKit.Below.refl _ _⟩
def ZU (I:Alg) (args:List D) (hp:List HO):Option CT:=match args,hp with
  |[.v (.one (.p (.str s))),.v (.one (.p (.str ([c]))))],[]=>(fun(s:Str) (c:UInt8)=>(some (.one ⟨I.hid (True),(.ret (.v (.one (.p (.int .i64 (I.hid (Lib.indexByte s c))))))),[]⟩):Option CT)) s c
  |_,_=>none
theorem QS:zI Tryz.prog 122 (ZU alg):=by
  intro args hp r h
  unfold ZU at h
  split at h
  · cases h;exact fun hn=>ziJ _ _
  · cases h
def zfC:Know Tryz.prog:=⟨122,ZU,QS⟩
def zfB:Know Tryz.prog:=⟨122,fun I=>zK I (ZU I),zf QS⟩
end Go.Proofs.YtmibhbdfigpkmaaGreatDoor
namespace Go.Proofs.YtmibhbdfigpkmaaGreatDoor
open Go Go.Sep Go.Ab
set_option maxRecDepth 100000
def lowK (k:Int):Int:=if 65≤k∧k≤90 then k+32 else k
def tN (k:Int):Bool:=decide (48≤k∧k≤57)
def ug (k:Int):Bool:=decide (97≤lowK k∧lowK k≤122)
def marks:Str:=[33,35,36,37,38,39,42,43,45,46,94,95,96,124,126]
def tokB (k:Int):Bool:=tN k||(ug k||decide (0≤Lib.indexByte marks k.toNat.toUInt8))
def Zg (k:Int):Bool:=decide (k=9∨32≤k∧k≠127)
def hexK (k:Int):Int:=if tN k then k - 48 else if ug k&&decide (lowK k≤102) then lowK k - 97+10 else -1
theorem wrap64 (n:Int) (h: -9223372036854775808≤n∧n≤9223372036854775807):IntKind.i64.wrap n=n:=by
  unfold IntKind.wrap
  simp only [show IntKind.i64.signed=true by decide,show IntKind.i64.bits=64 by decide]
  split<;>simp_all<;>omega
theorem zfr {k:Int} (h:0≤k∧k≤255):0≤lowK k∧lowK k≤255:=by unfold lowK;split<;>omega
theorem zjS (k:Int):Spc Tryz.prog 75 [.v (.one (.p (.int .u8 k)))] [] (.ret (.v (.one (.p (.bool (tN k)))))) []:=by
  refine spcG zu mixed Tryz.func75 (by kernel_rfl) { keep:=some [0,2]} [] (by kernel_rfl) ?_
  intro I X hI hX
  refine zh (.br (I.ile 48 k) (.fin (.ret (.v (.one (.p (.bool (I.ile k 57)))))) []) (.fin (.ret (.v (.one (.p (.bool Bool.false))))) [])) (by kernel_rfl) ?_
  simp only [zC]
  subst hI
  simp only [nrmA,nrmB]
  unfold tN
  exact⟨fun h=>decide_eq_decide.2 (by omega),fun h=>(decide_eq_false (by omega)).symm⟩
def XQ (I:Alg) (args:List D) (hp:List HO):Option CT:=match args,hp with
  |[.v (.one (.p (.int .u8 k)))],[]=>(fun(k:Int)=>(some (.one ⟨I.hid (True),(.ret (.v (.one (.p (.bool (I.hid (tN k))))))),[]⟩):Option CT)) k
  |_,_=>none
theorem zcM:zI Tryz.prog 75 (XQ alg):=by
  intro args hp r h
  unfold XQ at h
  split at h
  · cases h;exact fun hn=>zjS _
  · cases h
def zcL:Know Tryz.prog:=⟨75,XQ,zcM⟩
def zcK:Know Tryz.prog:=⟨75,fun I=>zK I (XQ I),zf zcM⟩
theorem zjz (k:Int) (hneed:0≤k∧k≤255):Spc Tryz.prog 82 [.v (.one (.p (.int .u8 k)))] [] (.ret (.v (.one (.p (.int .u8 (lowK k)))))) []:=by
  refine spcG zu mixed Tryz.func82 (by kernel_rfl) { keep:=some [0,2]} [] (by kernel_rfl) ?_
  intro I X hI hX
  refine zh (.br (I.ile 65 k) (.br (I.ile k 90) (.need (I.inr Go.IntKind.u8 (I.add k 32)) (.fin (.ret (.v (.one (.p (.int .u8 (I.add k 32)))))) [])) (.fin (.ret (.v (.one (.p (.int .u8 k))))) [])) (.fin (.ret (.v (.one (.p (.int .u8 k))))) [])) (by kernel_rfl) ?_
  simp only [zC]
  subst hI
  simp only [nrmA,nrmB]
  unfold lowK
  (repeat' (first|refine And.intro ?_ ?_|intro _))<;>first|omega|exact True.intro|exact False.elim ‹False›|skip
def XI (I:Alg) (args:List D) (hp:List HO):Option CT:=match args,hp with
  |[.v (.one (.p (.int .u8 k)))],[]=>(fun(k:Int)=>(some (.one ⟨I.hid (0≤k∧k≤255),(.ret (.v (.one (.p (.int .u8 (I.hid (lowK k))))))),[]⟩):Option CT)) k
  |_,_=>none
theorem zce:zI Tryz.prog 82 (XI alg):=by
  intro args hp r h
  unfold XI at h
  split at h
  · cases h;exact fun hn=>zjz _ hn
  · cases h
def XH:Know Tryz.prog:=⟨82,XI,zce⟩
def XG:Know Tryz.prog:=⟨82,fun I=>zK I (XI I),zf zce⟩
theorem ziH (k:Int) (hneed:0≤k∧k≤255):Spc Tryz.prog 76 [.v (.one (.p (.int .u8 k)))] [] (.ret (.v (.one (.p (.bool (ug k)))))) []:=by
  refine spcG zu mixed Tryz.func76 (by kernel_rfl) { keep:=some [0,2]} [XH,XG] (by kernel_rfl) ?_
  intro I X hI hX
  refine zh (let y0:=I.hid (α:=(Prop)) (And (LE.le (0:Int) k) (LE.le k (255:Int)));.need y0 (.br (I.ile 97 (I.hid (α:=Int) (lowK k))) (.need y0 (.fin (.ret (.v (.one (.p (.bool (I.ile (I.hid (α:=Int) (lowK k)) 122)))))) [])) (.fin (.ret (.v (.one (.p (.bool Bool.false))))) []))) (by kernel_rfl) ?_
  simp only [zC]
  subst hI
  simp only [nrmA,nrmB]
  unfold ug
  (repeat' (first|refine And.intro ?_ ?_|intro _))<;>first|omega|exact True.intro|exact False.elim ‹False›|skip
  all_goals first|exact decide_eq_decide.2 (by omega)|exact(decide_eq_false (by omega)).symm|exact(decide_eq_true (by omega)).symm|(rw [show(k == 127)=decide (k=127) from rfl,← decide_not];exact decide_eq_decide.2 (by omega))
def ZP (I:Alg) (args:List D) (hp:List HO):Option CT:=match args,hp with
  |[.v (.one (.p (.int .u8 k)))],[]=>(fun(k:Int)=>(some (.one ⟨I.hid (0≤k∧k≤255),(.ret (.v (.one (.p (.bool (I.hid (ug k))))))),[]⟩):Option CT)) k
  |_,_=>none
theorem QB:zI Tryz.prog 76 (ZP alg):=by
  intro args hp r h
  unfold ZP at h
  split at h
  · cases h;exact fun hn=>ziH _ hn
  · cases h
def QA:Know Tryz.prog:=⟨76,ZP,QB⟩
def Qz:Know Tryz.prog:=⟨76,fun I=>zK I (ZP I),zf QB⟩
theorem zjd (k:Int) (hneed:0≤k∧k≤255):Spc Tryz.prog 59 [.v (.one (.p (.int .u8 k)))] [] (.ret (.v (.one (.p (.bool (tokB k)))))) []:=by
  refine spcG zu mixed Tryz.func59 (by kernel_rfl) { keep:=some [0,2]} [QO,QN,zcL,zcK,QA,Qz] (by kernel_rfl) ?_
  intro I X hI hX
  refine zh (.need (I.hid (α:=(Prop)) True) (.br (I.hid (α:=Bool) (tN k)) (.fin (.ret (.v (.one (.p (.bool Bool.true))))) []) (.need (I.hid (α:=(Prop)) (And (LE.le (0:Int) k) (LE.le k (255:Int)))) (.br (I.hid (α:=Bool) (ug k)) (.fin (.ret (.v (.one (.p (.bool Bool.true))))) []) (.need (I.hid (α:=(Prop)) True) (.fin (.ret (.v (.one (.p (.bool (I.ile 0 (I.hid (α:=Int) (Go.Lib.indexByte ([33,35,36,37,38,39,42,43,45,46,94,95,96,124,126]:Str) (Nat.toUInt8 (Int.toNat k)))))))))) [])))))) (by kernel_rfl) ?_
  simp only [zC]
  subst hI
  simp only [nrmA,nrmB]
  unfold tokB marks
  (repeat' (first|refine And.intro ?_ ?_|intro _))<;>first|omega|exact True.intro|exact False.elim ‹False›|skip
  all_goals simp [*]
def Xo (I:Alg) (args:List D) (hp:List HO):Option CT:=match args,hp with
  |[.v (.one (.p (.int .u8 k)))],[]=>(fun(k:Int)=>(some (.one ⟨I.hid (0≤k∧k≤255),(.ret (.v (.one (.p (.bool (I.hid (tokB k))))))),[]⟩):Option CT)) k
  |_,_=>none
theorem zbw:zI Tryz.prog 59 (Xo alg):=by
  intro args hp r h
  unfold Xo at h
  split at h
  · cases h;exact fun hn=>zjd _ hn
  · cases h
def UR:Know Tryz.prog:=⟨59,Xo,zbw⟩
def zgJ:Know Tryz.prog:=⟨59,fun I=>zK I (Xo I),zf zbw⟩
theorem zgG (k:Int):Spc Tryz.prog 62 [.v (.one (.p (.int .u8 k)))] [] (.ret (.v (.one (.p (.bool (Zg k)))))) []:=by
  refine spcG zu mixed Tryz.func62 (by kernel_rfl) { keep:=some [0,2]} [] (by kernel_rfl) ?_
  intro I X hI hX
  refine zh (.br (I.ieq k 9) (.fin (.ret (.v (.one (.p (.bool Bool.true))))) []) (.br (I.ile 32 k) (.fin (.ret (.v (.one (.p (.bool (I.bnot (I.ieq k 127))))))) []) (.fin (.ret (.v (.one (.p (.bool Bool.false))))) []))) (by kernel_rfl) ?_
  simp only [zC]
  subst hI
  simp only [nrmA,nrmB]
  unfold Zg
  (repeat' (first|refine And.intro ?_ ?_|intro _))<;>first|omega|exact True.intro|exact False.elim ‹False›|skip
  all_goals first|exact decide_eq_decide.2 (by omega)|exact(decide_eq_false (by omega)).symm|exact(decide_eq_true (by omega)).symm|(rw [show(k == 127)=decide (k=127) from rfl,← decide_not];exact decide_eq_decide.2 (by omega))
def rG (I:Alg) (args:List D) (hp:List HO):Option CT:=match args,hp with
  |[.v (.one (.p (.int .u8 k)))],[]=>(fun(k:Int)=>(some (.one ⟨I.hid (True),(.ret (.v (.one (.p (.bool (I.hid (Zg k))))))),[]⟩):Option CT)) k
  |_,_=>none
theorem VQ:zI Tryz.prog 62 (rG alg):=by
  intro args hp r h
  unfold rG at h
  split at h
  · cases h;exact fun hn=>zgG _
  · cases h
def rF:Know Tryz.prog:=⟨62,rG,VQ⟩
def VP:Know Tryz.prog:=⟨62,fun I=>zK I (rG I),zf VQ⟩
theorem hex_ (k:Int) (hneed:0≤k∧k≤255):Spc Tryz.prog 127 [.v (.one (.p (.int .u8 k)))] [] (.ret (.v (.one (.p (.int .i64 (hexK k)))))) []:=by
  refine spcG zu mixed Tryz.func127 (by kernel_rfl) { keep:=some [0,2]} [zcL,zcK,XH,XG,QA,Qz] (by kernel_rfl) ?_
  intro I X hI hX
  refine zh (let y0:=I.hid (α:=(Prop)) (And (LE.le (0:Int) k) (LE.le k (255:Int)));let y1:=I.add (I.wrap Go.IntKind.i64 (I.sub (I.hid (α:=Int) (lowK k)) 97)) 10;.need (I.hid (α:=(Prop)) True) (.br (I.hid (α:=Bool) (tN k)) (.need (I.inr Go.IntKind.u8 (I.sub k 48)) (.fin (.ret (.v (.one (.p (.int .i64 (I.wrap Go.IntKind.i64 (I.sub k 48))))))) [])) (.need y0 (.br (I.hid (α:=Bool) (ug k)) (.need y0 (.br (I.ile (I.hid (α:=Int) (lowK k)) 102) (.need y0 (.need (I.inr Go.IntKind.u8 (I.sub (I.hid (α:=Int) (lowK k)) 97)) (.need (I.inr Go.IntKind.i64 y1) (.fin (.ret (.v (.one (.p (.int .i64 y1))))) [])))) (.fin (.ret (.v (.one (.p (.int .i64 (Neg.neg (1:Int))))))) []))) (.fin (.ret (.v (.one (.p (.int .i64 (Neg.neg (1:Int))))))) []))))) (by kernel_rfl) ?_
  simp only [zC]
  subst hI
  simp only [nrmA,nrmB]
  (repeat' (first|refine And.intro ?_ ?_|intro _))<;>first|omega|exact True.intro|exact False.elim ‹False›|skip
  all_goals first
    |(have:=of_decide_eq_true ‹tN k=true›;omega)
    |(have:=of_decide_eq_true ‹tN k=true›;unfold hexK;rw [if_pos ‹tN k=true›,wrap64 _ (by omega)])
    |(have:=of_decide_eq_true ‹ug k=true›;omega)
    |(have:=of_decide_eq_true ‹ug k=true›;rw [wrap64 _ (by omega)];omega)
    |(have:=of_decide_eq_true ‹ug k=true›;rw [wrap64 _ (by omega)];unfold hexK;simp [*])
    |(unfold hexK;simp [*])
def zcw (I:Alg) (args:List D) (hp:List HO):Option CT:=match args,hp with
  |[.v (.one (.p (.int .u8 k)))],[]=>(fun(k:Int)=>(some (.one ⟨I.hid (0≤k∧k≤255),(.ret (.v (.one (.p (.int .i64 (I.hid (hexK k))))))),[]⟩):Option CT)) k
  |_,_=>none
theorem zhN:zI Tryz.prog 127 (zcw alg):=by
  intro args hp r h
  unfold zcw at h
  split at h
  · cases h;exact fun hn=>hex_ _ hn
  · cases h
def zcv:Know Tryz.prog:=⟨127,zcw,zhN⟩
def zcu:Know Tryz.prog:=⟨127,fun I=>zK I (zcw I),zf zhN⟩
end Go.Proofs.YtmibhbdfigpkmaaGreatDoor
namespace Go.Proofs.YtmibhbdfigpkmaaGreatDoor
open Go Go.Sep Go.Ab
set_option maxRecDepth 100000
def tokA (s:Str):Bool:=s.all fun c=>tokB (c.toNat:Int)
def yK (s:Str):Bool:=s.all fun c=>Zg (c.toNat:Int)
theorem Yh (c:UInt8):0≤(c.toNat:Int)∧(c.toNat:Int)≤255:=by have:=c.toNat_lt;omega
theorem zc1 {p:UInt8→Bool} {s:Str} {i:Nat} (h:i<s.length):(s.drop i).all p=(p (s.getD i 0)&&(s.drop (i+1)).all p):=by
  rw [List.drop_eq_getElem_cons h,List.all_cons];simp [h]
theorem zi8 (s:Str) (hneed:s.length≤1000000):Spc Tryz.prog 58 [.v (.one (.p (.str s))),.v (.one (.fn 59 []))] [] (.ret (.v (.one (.p (.bool (tokA s)))))) []:=by
  generalize hr:tokA s=r
  refine spcG zu mixed Tryz.func58 (by kernel_rfl) { keep:=some [0,1,4,5,7,8]} [UR] (by kernel_rfl) ?_
  intro I X hI hX
  refine zh (.code 0 [1,0,1,0] ⟨[(8,(.v (.one (.p (.int .i64 0))))),(7,(.v (.one (.p (.int .i64 (I.len (α:=UInt8) s)))))),(4,(.v (.one (.p (.val (.bool .false)))))),(0,(.v (.one (.p (.str s))))),(1,(.v (.one (.fn 59 []))))],[],18,none⟩) (by kernel_rfl) ?_
  simp only [zC]
  refine yw hI zu mixed [UR] hX [0,1,7,8] (fun(i:Nat)=>i≤s.length∧tokA (s.drop i)=r) (fun(i:Nat)=>⟨[(0,.v (.one (.p (.str s)))),(1,.v (.one (.fn 59 []))),(7,.v (.one (.p (.int .i64 ((I.len (α:=UInt8) s)))))),(8,.v (.one (.p (.int .i64 i))))],[],18,none⟩) (fun(i:Nat)=>s.length - i) 0 (by kernel_rfl) (by kernel_rfl) ?_ ?_
  · exact⟨Nat.zero_le _,hr⟩
  rintro i ⟨h1,h2⟩ A hA
  refine zh (let y0:=I.b2i (I.get (α:=UInt8) s 0 (Nat.cast i));.br (I.ilt (Nat.cast i) (I.len (α:=UInt8) s)) (.need (I.inb (Nat.cast i) (I.len (α:=UInt8) s)) (.need (I.hid (α:=(Prop)) (And (LE.le (0:Int) y0) (LE.le y0 (255:Int)))) (.br (I.bnot (I.hid (α:=Bool) (tokB y0))) (.fin (.ret (.v (.one (.p (.bool Bool.false))))) []) (.need (I.inr Go.IntKind.i64 (I.add (Nat.cast i) 1)) (.need (A ⟨[(0,(.v (.one (.p (.str s))))),(1,(.v (.one (.fn 59 [])))),(7,(.v (.one (.p (.int .i64 (I.len (α:=UInt8) s)))))),(8,(.v (.one (.p (.int .i64 (I.add (Nat.cast i) 1))))))],[],18,none⟩) .qed))))) (.fin (.ret (.v (.one (.p (.bool Bool.true))))) [])) (by kernel_rfl) ?_
  simp only [zC]
  subst hI
  simp only [nrmA,nrmB]
  have hb:=Yh (s.getD i 0)
  have hd:i<s.length→tokA (s.drop i)=(tokB (s.getD i 0).toNat&&tokA (s.drop (i+1))):=fun h=>zc1 h
  generalize s.getD i 0=x at *
  (repeat' (first|refine And.intro ?_ ?_|intro _))<;>first|omega|exact True.intro|exact False.elim ‹False›|skip
  all_goals first
    |(rw [← h2,hd (by omega)];simp [*];done)
    |(refine hA (i+1) ⟨by omega,?_⟩ (by omega);rw [← h2,hd (by omega)];simp [*];done)
    |(rw [← h2,List.drop_of_length_le (by omega)];rfl)
def Yn (I:Alg) (args:List D) (hp:List HO):Option CT:=match args,hp with
  |[.v (.one (.p (.str s))),.v (.one (.fn 59 []))],[]=>(fun(s:Str)=>(some (.one ⟨I.hid (s.length≤1000000),(.ret (.v (.one (.p (.bool (I.hid (tokA s))))))),[]⟩):Option CT)) s
  |_,_=>none
theorem zaz:zI Tryz.prog 58 (Yn alg):=by
  intro args hp r h
  unfold Yn at h
  split at h
  · cases h;exact fun hn=>zi8 _ hn
  · cases h
def Ym:Know Tryz.prog:=⟨58,Yn,zaz⟩
def Yl:Know Tryz.prog:=⟨58,fun I=>zK I (Yn I),zf zaz⟩
theorem zhC (s:Str) (hneed:s.length≤1000000):Spc Tryz.prog 58 [.v (.one (.p (.str s))),.v (.one (.fn 62 []))] [] (.ret (.v (.one (.p (.bool (yK s)))))) []:=by
  generalize hr:yK s=r
  refine spcG zu mixed Tryz.func58 (by kernel_rfl) { keep:=some [0,1,4,5,7,8]} [rF,Ym,Yl] (by kernel_rfl) ?_
  intro I X hI hX
  refine zh (.code 0 [1,0,1,0] ⟨[(8,(.v (.one (.p (.int .i64 0))))),(7,(.v (.one (.p (.int .i64 (I.len (α:=UInt8) s)))))),(4,(.v (.one (.p (.val (.bool .false)))))),(0,(.v (.one (.p (.str s))))),(1,(.v (.one (.fn 62 []))))],[],18,none⟩) (by kernel_rfl) ?_
  simp only [zC]
  refine yw hI zu mixed [rF,Ym,Yl] hX [0,1,7,8] (fun(i:Nat)=>i≤s.length∧yK (s.drop i)=r) (fun(i:Nat)=>⟨[(0,.v (.one (.p (.str s)))),(1,.v (.one (.fn 62 []))),(7,.v (.one (.p (.int .i64 ((I.len (α:=UInt8) s)))))),(8,.v (.one (.p (.int .i64 i))))],[],18,none⟩) (fun(i:Nat)=>s.length - i) 0 (by kernel_rfl) (by kernel_rfl) ?_ ?_
  · exact⟨Nat.zero_le _,hr⟩
  rintro i ⟨h1,h2⟩ A hA
  refine zh (.br (I.ilt (Nat.cast i) (I.len (α:=UInt8) s)) (.need (I.inb (Nat.cast i) (I.len (α:=UInt8) s)) (.need (I.hid (α:=(Prop)) True) (.br (I.bnot (I.hid (α:=Bool) (Zg (I.b2i (I.get (α:=UInt8) s 0 (Nat.cast i)))))) (.fin (.ret (.v (.one (.p (.bool Bool.false))))) []) (.need (I.inr Go.IntKind.i64 (I.add (Nat.cast i) 1)) (.need (A ⟨[(0,(.v (.one (.p (.str s))))),(1,(.v (.one (.fn 62 [])))),(7,(.v (.one (.p (.int .i64 (I.len (α:=UInt8) s)))))),(8,(.v (.one (.p (.int .i64 (I.add (Nat.cast i) 1))))))],[],18,none⟩) .qed))))) (.fin (.ret (.v (.one (.p (.bool Bool.true))))) [])) (by kernel_rfl) ?_
  simp only [zC]
  subst hI
  simp only [nrmA,nrmB]
  have hb:=Yh (s.getD i 0)
  have hd:i<s.length→yK (s.drop i)=(Zg (s.getD i 0).toNat&&yK (s.drop (i+1))):=fun h=>zc1 h
  generalize s.getD i 0=x at *
  (repeat' (first|refine And.intro ?_ ?_|intro _))<;>first|omega|exact True.intro|exact False.elim ‹False›|skip
  all_goals first
    |(rw [← h2,hd (by omega)];simp [*];done)
    |(refine hA (i+1) ⟨by omega,?_⟩ (by omega);rw [← h2,hd (by omega)];simp [*];done)
    |(rw [← h2,List.drop_of_length_le (by omega)];rfl)
def qy (I:Alg) (args:List D) (hp:List HO):Option CT:=match args,hp with
  |[.v (.one (.p (.str s))),.v (.one (.fn 62 []))],[]=>(fun(s:Str)=>(some (.one ⟨I.hid (s.length≤1000000),(.ret (.v (.one (.p (.bool (I.hid (yK s))))))),[]⟩):Option CT)) s
  |_,_=>none
theorem UL:zI Tryz.prog 58 (qy alg):=by
  intro args hp r h
  unfold qy at h
  split at h
  · cases h;exact fun hn=>zhC _ hn
  · cases h
def UK:Know Tryz.prog:=⟨58,qy,UL⟩
def UJ:Know Tryz.prog:=⟨58,fun I=>zK I (qy I),zf UL⟩
def yU (s:Str):Bool:=decide (s≠[])&&tokA s
theorem zhi (s:Str) (hneed:s.length≤1000000):Spc Tryz.prog 32 [.v (.one (.p (.str s)))] [] (.ret (.v (.one (.p (.bool (yU s)))))) []:=by
  refine spcG zu mixed Tryz.func32 (by kernel_rfl) { keep:=some [0,2]} [UR,zgJ,Ym,Yl,UK,UJ] (by kernel_rfl) ?_
  intro I X hI hX
  refine zh (.br (I.bnot (I.seq s ([]:Str))) (.need (I.hid (α:=(Prop)) (LE.le (List.length s) 1000000)) (.fin (.ret (.v (.one (.p (.bool (I.hid (α:=Bool) (tokA s))))))) [])) (.fin (.ret (.v (.one (.p (.bool Bool.false))))) [])) (by kernel_rfl) ?_
  simp only [zC]
  subst hI
  simp only [nrmA,nrmB]
  unfold yU
  (repeat' (first|refine And.intro ?_ ?_|intro _))<;>first|omega|exact True.intro|exact False.elim ‹False›|skip
  all_goals simp [*]
def qj (I:Alg) (args:List D) (hp:List HO):Option CT:=match args,hp with
  |[.v (.one (.p (.str s)))],[]=>(fun(s:Str)=>(some (.one ⟨I.hid (s.length≤1000000),(.ret (.v (.one (.p (.bool (I.hid (yU s))))))),[]⟩):Option CT)) s
  |_,_=>none
theorem Uo:zI Tryz.prog 32 (qj alg):=by
  intro args hp r h
  unfold qj at h
  split at h
  · cases h;exact fun hn=>zhi _ hn
  · cases h
def xO:Know Tryz.prog:=⟨32,qj,Uo⟩
def xN:Know Tryz.prog:=⟨32,fun I=>zK I (qj I),zf Uo⟩
theorem zdF (s:Str) (hneed:s.length≤1000000):Spc Tryz.prog 35 [.v (.one (.p (.str s)))] [] (.ret (.v (.one (.p (.bool (yK s)))))) []:=by
  refine spcG zu mixed Tryz.func35 (by kernel_rfl) { keep:=some [0,2]} [rF,VP,Ym,Yl,UK,UJ] (by kernel_rfl) ?_
  intro I X hI hX
  refine zh (.need (I.hid (α:=(Prop)) (LE.le (List.length s) 1000000)) (.fin (.ret (.v (.one (.p (.bool (I.hid (α:=Bool) (yK s))))))) [])) (by kernel_rfl) ?_
  simp only [zC]
  subst hI
  simp only [nrmA,nrmB]
  exact hneed
def vP (I:Alg) (args:List D) (hp:List HO):Option CT:=match args,hp with
  |[.v (.one (.p (.str s)))],[]=>(fun(s:Str)=>(some (.one ⟨I.hid (s.length≤1000000),(.ret (.v (.one (.p (.bool (I.hid (yK s))))))),[]⟩):Option CT)) s
  |_,_=>none
theorem Y9:zI Tryz.prog 35 (vP alg):=by
  intro args hp r h
  unfold vP at h
  split at h
  · cases h;exact fun hn=>zdF _ hn
  · cases h
def xM:Know Tryz.prog:=⟨35,vP,Y9⟩
def xK:Know Tryz.prog:=⟨35,fun I=>zK I (vP I),zf Y9⟩
theorem zkw {p:Int→Prop} [∀ k,Decidable (p k)] (h: ∀ n:Fin 256,p (n.1:Int)) {k:Int} (hk:0≤k∧k≤255):p k:=by
  have:=h ⟨k.toNat,by omega⟩
  rwa [show((k.toNat:Nat):Int)=k by omega] at this
end Go.Proofs.YtmibhbdfigpkmaaGreatDoor
namespace Go.Proofs.YtmibhbdfigpkmaaGreatDoor
open Go Go.Sep Go.Ab
set_option maxRecDepth 100000
def lowC (x:UInt8):UInt8:=if 65≤x.toNat∧x.toNat≤90 then x+32 else x
def lowS (s:Str):Str:=s.map lowC
theorem XJ (s:Str):(lowS s).length=s.length:=by simp [lowS]
theorem zdy (x:UInt8):((lowC x).toNat:Int)=lowK x.toNat:=by
  unfold lowC lowK
  have:=x.toNat_lt
  split
  · rw [if_pos (by omega),UInt8.toNat_add]
    simp only [show(32:UInt8).toNat=32 from rfl]
    omega
  · rw [if_neg (by omega)]
theorem ziE (x:UInt8):UInt8.ofNat (lowK x.toNat).toNat=lowC x:=by
  rw [← zdy,Int.toNat_natCast,UInt8.ofNat_toNat]
def bl (c:UInt8):Bool:=([32,9]:Str).contains c
def trL (s:Str):Str:=s.dropWhile bl
def trR (s:Str):Str:=(s.reverse.dropWhile bl).reverse
theorem UQ (s:Str):Lib.trimS s [32,9]=trL (trR s):=rfl
theorem Xn (c:UInt8) (l:Str):trL (c::l)=if bl c then trL l else c::l:=by unfold trL;rw [List.dropWhile_cons]
theorem zbv (c:UInt8) (l:Str):trR (c::l)=if trR l=[]∧bl c=true then [] else c::trR l:=by
  unfold trR
  rw [List.reverse_cons,List.dropWhile_append]
  cases hd:l.reverse.dropWhile bl with
  |nil=>cases hb:bl c<;>simp [hb,List.dropWhile]
  |cons y r=>simp
theorem zaC: ∀ s:Str,trL (trR s)=trR (trL s)
  |[]=>rfl
  | c ::l=>by
    have ih:=zaC l
    rw [zbv,Xn]
    by_cases hb:bl c=true
    · rw [if_pos hb,← ih]
      by_cases h0:trR l=[]
      · rw [if_pos ⟨h0,hb⟩,h0]
      · rw [if_neg (fun h=>h0 h.1),Xn,if_pos hb]
    · rw [if_neg hb,if_neg (fun h=>hb h.2),Xn,if_neg hb,zbv,if_neg (fun h=>hb h.2)]
theorem zj1 (s:Str):Spc Tryz.prog 64 [.v (.one (.p (.str s)))] [] (.ret (.v (.one (.p (.str (Lib.trimS s [32,9])))))) []:=by
  refine spcG zu mixed Tryz.func64 (by kernel_rfl) { keep:=some [0,2]} [zh6,zh5] (by kernel_rfl) ?_
  intro I X hI hX
  refine zh (.need (I.hid (α:=(Prop)) True) (.fin (.ret (.v (.one (.p (.str (I.hid (α:=Str) (Go.Lib.trimS s ([32,9]:Str)))))))) [])) (by kernel_rfl) ?_
  simp only [zC]
  subst hI
  simp only [nrmA,nrmB]
  try trivial
def XY (I:Alg) (args:List D) (hp:List HO):Option CT:=match args,hp with
  |[.v (.one (.p (.str s)))],[]=>(fun(s:Str)=>(some (.one ⟨I.hid (True),(.ret (.v (.one (.p (.str (I.hid (Lib.trimS s [32,9]))))))),[]⟩):Option CT)) s
  |_,_=>none
theorem zcW:zI Tryz.prog 64 (XY alg):=by
  intro args hp r h
  unfold XY at h
  split at h
  · cases h;exact fun hn=>zj1 _
  · cases h
def SH:Know Tryz.prog:=⟨64,XY,zcW⟩
def SG:Know Tryz.prog:=⟨64,fun I=>zK I (XY I),zf zcW⟩
theorem zi5 (s:Str) (hneed:s.length≤1000000):Spc Tryz.prog 63 [.v (.one (.p (.str s)))] [] (.ret (.v (.one (.p (.str (lowS s)))))) []:=by
  refine spcG zu mixed Tryz.func63 (by kernel_rfl) { keep:=some [0,2,3,4,5,8,9,10]} [XH,XG] (by kernel_rfl) ?_
  intro I X hI hX
  refine zh (.code 0 [1,1,0,1,0] ⟨[(10,(.v (.one (.p (.int .i64 0))))),(9,(.v (.one (.p (.int .i64 (I.len (α:=UInt8) s)))))),(8,(.v (.one (.row 0)))),(3,(.v (.one (.row 0)))),(2,(.v (.one (.p (.str ([]:Str)))))),(0,(.v (.one (.p (.str s)))))],[(.row .byte 5 s)],23,none⟩) (by kernel_rfl) ?_
  simp only [zC]
  refine yw hI zu mixed [XH,XG] hX [0,3,8,9,10] (fun(g:Nat × Str)=>match g with|(i,b)=>i≤s.length∧b=lowS (s.take i)++s.drop i) (fun(g:Nat × Str)=>match g with|(i,b)=>⟨[(0,.v (.one (.p (.str s)))),(3,.v (.one (.row 0))),(8,.v (.one (.row 0))),(9,.v (.one (.p (.int .i64 ((I.len (α:=UInt8) s)))))),(10,.v (.one (.p (.int .i64 i))))],[.row .byte 5 b],23,none⟩) (fun(g:Nat × Str)=>match g with|(i,b)=>s.length - i) (0,s) (by kernel_rfl) (by kernel_rfl) ?_ ?_
  · exact⟨Nat.zero_le _,rfl⟩
  rintro⟨i,b⟩ ⟨h1,h2⟩ A hA
  simp only at hA
  refine zh (let y0:=I.b2i (I.get (α:=UInt8) b 0 (Nat.cast i));let y1:=I.inb (Nat.cast i) (I.len (α:=UInt8) b);.br (I.ilt (Nat.cast i) (I.len (α:=UInt8) s)) (.need y1 (.need y1 (.need (I.hid (α:=(Prop)) (And (LE.le (0:Int) y0) (LE.le y0 (255:Int)))) (.need y1 (.need (I.inr Go.IntKind.u8 (I.hid (α:=Int) (lowK y0))) (.need y1 (.need (I.inr Go.IntKind.i64 (I.add (Nat.cast i) 1)) (.need (A ⟨[(0,(.v (.one (.p (.str s))))),(3,(.v (.one (.row 0)))),(8,(.v (.one (.row 0)))),(9,(.v (.one (.p (.int .i64 (I.len (α:=UInt8) s)))))),(10,(.v (.one (.p (.int .i64 (I.add (Nat.cast i) 1))))))],[(.row .byte 5 (I.set (α:=UInt8) b (Nat.cast i) (I.i2b (I.hid (α:=Int) (lowK y0)))))],23,none⟩) .qed)))))))) (.fin (.ret (.v (.one (.p (.str b))))) [])) (by kernel_rfl) ?_
  simp only [zC]
  subst hI
  simp only [nrmA,nrmB]
  have hlen:b.length=s.length:=by rw [h2,List.length_append,XJ,List.length_take,List.length_drop];omega
  have hx:i<s.length→b.getD i 0=s.getD i 0:=fun h=>by
    rw [h2,List.getD_eq_getElem?_getD,List.getD_eq_getElem?_getD,List.getElem?_append_right (by rw [XJ,List.length_take];omega),XJ,List.length_take,List.getElem?_drop]
    congr 2
    omega
  have hset:i<s.length→b.set i (lowC (s.getD i 0))=lowS (s.take (i+1))++s.drop (i+1):=fun h=>by
    have e:(lowS (s.take i)).length=i:=by rw [XJ,List.length_take];omega
    rw [h2,List.set_append_right _ _ (by omega),e,Nat.sub_self,List.drop_eq_getElem_cons h,List.set_cons_zero,List.take_succ_eq_append_getElem h,show s.getD i 0=s[i] by simp [h]]
    unfold lowS
    rw [List.map_append,List.append_assoc]
    rfl
  have hby:=Yh (s.getD i 0)
  have hlk:=zfr hby
  refine⟨fun c=> ?_,fun c=> ?_⟩
  · rw [hx (by omega),ziE,hset (by omega)]
    exact⟨by omega,by omega,by omega,by omega,by omega,by omega,by omega,hA (i+1,_) ⟨by simp only;omega,rfl⟩ (by simp only;omega)⟩
  · rw [h2,List.drop_of_length_le (by omega),List.take_of_length_le (by omega),List.append_nil]
def Yf (I:Alg) (args:List D) (hp:List HO):Option CT:=match args,hp with
  |[.v (.one (.p (.str s)))],[]=>(fun(s:Str)=>(some (.one ⟨I.hid (s.length≤1000000),(.ret (.v (.one (.p (.str (I.hid (lowS s))))))),[]⟩):Option CT)) s
  |_,_=>none
theorem zaq:zI Tryz.prog 63 (Yf alg):=by
  intro args hp r h
  unfold Yf at h
  split at h
  · cases h;exact fun hn=>zi5 _ hn
  · cases h
def Ye:Know Tryz.prog:=⟨63,Yf,zaq⟩
def Yd:Know Tryz.prog:=⟨63,fun I=>zK I (Yf I),zf zaq⟩
end Go.Proofs.YtmibhbdfigpkmaaGreatDoor
namespace Go.Proofs.YtmibhbdfigpkmaaGreatDoor
open Go Go.Sep Go.Ab
def ln0:Ln:=⟨[],false,0⟩
def zek (c:UInt8):Bool:=Zg (c.toNat:Int)
def lnF (s:Ln) (c:UInt8):Ln × Str × Bool × Int:=
  if s.code≠0 then(s,[],false,s.code)
  else if s.cr then(if c=10 then(⟨[],false,0⟩,s.b,true,0) else(⟨s.b,s.cr,2⟩,[],false,2))
  else if c=10 then(⟨s.b,s.cr,2⟩,[],false,2)
  else if c=13 then(⟨s.b,true,s.code⟩,[],false,0)
  else if zek c=false then(⟨s.b,s.cr,3⟩,[],false,3)
  else if s.b.length=200 then(⟨s.b,s.cr,4⟩,[],false,4)
  else(⟨s.b++[c],s.cr,s.code⟩,[],false,0)
def lnB (s:Ln):Bool:=decide (0<s.b.length)||s.cr
def xJ (pre:Str):Str→Str × Int × Bool × Int
  |[]=>([],0,false,0)
  | c ::r=>
    if c=13 then
      match r with
      |[]=>([],0,false,0)
      |d::_=>if d=10 then(pre,(pre.length:Int)+2,true,0) else([],(pre.length:Int)+2,false,2)
    else if c=10 then([],(pre.length:Int)+1,false,2)
    else if zek c=false then([],(pre.length:Int)+1,false,3)
    else if pre.length=200 then([],(pre.length:Int)+1,false,4)
    else xJ (pre++[c]) r
def zB (b:Str):Str × Int × Bool × Int:=xJ [] b
inductive LnR where
  |more (s:Ln)
  |line (t rest:Str)
  |bad (e:Int) (rest:Str)
def xA (s:Ln):Str→LnR
  |[]=>.more s
  |c::r=>if(lnF s c).2.2.1=true then .line (lnF s c).2.1 r else if(lnF s c).2.2.2≠0 then .bad (lnF s c).2.2.2 r else xA (lnF s c).1 r
def LnIs (pre r:Str):LnR→Prop
  |.more s=>xJ pre r=([],0,false,0)∧s.code=0∧(lnB s=true↔r≠[]∨pre≠[])
  |.line t rest=>∃ n:Nat,xJ pre r=(t,((pre.length+n:Nat):Int),true,0)∧n≤r.length∧0<n∧rest=r.drop n
  |.bad e rest=>∃ n:Nat,xJ pre r=([],((pre.length+n:Nat):Int),false,e)∧e≠0∧n≤r.length∧0<n∧rest=r.drop n
theorem zft: ∀ (r pre:Str),LnIs pre r (xA ⟨pre,false,0⟩ r)
  |[],pre=>⟨rfl,rfl,by cases pre<;>simp [lnB]⟩
  | c :: r,pre=>by
    by_cases h10:c=10
    · subst h10
      have e:xA ⟨pre,false,0⟩ (10::r)=.bad 2 r:=by simp [xA,lnF]
      rw [e]
      exact⟨1,by simp [xJ],by decide,by simp,by decide,rfl⟩
    by_cases h13:c=13
    · subst h13
      cases r with
      | nil=>
        have e:xA ⟨pre,false,0⟩ [13]=.more ⟨pre,true,0⟩:=by simp [xA,lnF]
        rw [e]
        exact⟨by simp [xJ],rfl,by simp [lnB]⟩
      | cons d r=>
        by_cases hd:d=10
        · subst hd
          have e:xA ⟨pre,false,0⟩ (13::10::r)=.line pre r:=by simp [xA,lnF]
          rw [e]
          exact⟨2,by simp [xJ],by simp,by decide,by simp⟩
        · have e:xA ⟨pre,false,0⟩ (13::d::r)=.bad 2 r:=by simp [xA,lnF,hd]
          rw [e]
          exact⟨2,by simp [xJ,hd],by decide,by simp,by decide,by simp⟩
    by_cases hs:zek c=false
    · have e:xA ⟨pre,false,0⟩ (c::r)=.bad 3 r:=by simp [xA,lnF,h10,h13,hs]
      rw [e]
      exact⟨1,by simp [xJ.eq_def,h10,h13,hs],by decide,by simp,by decide,rfl⟩
    by_cases hl:pre.length=200
    · have e:xA ⟨pre,false,0⟩ (c::r)=.bad 4 r:=by simp [xA,lnF,h10,h13,hs,hl]
      rw [e]
      exact⟨1,by rw [xJ.eq_def];simp [h10,h13,hs,hl],by decide,by simp,by decide,rfl⟩
    have ih:=zft r (pre++[c])
    have e1:lnF ⟨pre,false,0⟩ c=(⟨pre++[c],false,0⟩,[],false,0):=by simp [lnF,h10,h13,hs,hl]
    have e2:xJ pre (c::r)=xJ (pre++[c]) r:=by rw [xJ.eq_def];simp [h10,h13,hs,hl]
    have e3:xA ⟨pre,false,0⟩ (c::r)=xA ⟨pre++[c],false,0⟩ r:=by rw [xA,e1];simp
    rw [e3]
    generalize xA ⟨pre++[c],false,0⟩ r=x at ih
    cases x with
    | more s=>
      obtain⟨h1,h2,h3⟩:=ih
      exact⟨by rw [e2,h1],h2,by rw [h3];simp⟩
    | line t rest=>
      obtain⟨n,h1,h2,h3,h4⟩:=ih
      exact⟨n+1,by rw [e2,h1];simp;omega,by simp;omega,by omega,by rw [h4];simp⟩
    | bad e rest=>
      obtain⟨n,h1,h2,h3,h4,h5⟩:=ih
      exact⟨n+1,by rw [e2,h1];simp;omega,h2,by simp;omega,by omega,by rw [h5];simp⟩
theorem TJ (r:Str):LnIs [] r (xA ln0 r):=zft r []
theorem Uk (t:Str): ∀ s pre:Str,yK s=true→pre.length+s.length≤200→xJ pre (s++13::10::t)=(pre++s,((pre++s).length:Int)+2,true,0)
  |[],pre,_,_=>by simp [xJ]
  | c ::s,pre,h,hl=>by
    have hc:zek c=true:=by unfold yK at h;rw [List.all_cons,Bool.and_eq_true] at h;exact h.1
    have hs:yK s=true:=by unfold yK at h ⊢;rw [List.all_cons,Bool.and_eq_true] at h;exact h.2
    have h13:c≠13:=fun e=>by subst e;revert hc;decide+kernel
    have h10:c≠10:=fun e=>by subst e;revert hc;decide+kernel
    rw [List.length_cons] at hl
    have ih:=Uk t s (pre++[c]) hs (by rw [List.length_append];simp;omega)
    have e2:xJ pre (c::(s++13::10::t))=xJ (pre++[c]) (s++13::10::t):=by
      rw [xJ.eq_def]
      simp only [h13,h10,hc,if_false,Bool.true_eq_false]
      rw [if_neg (by omega)]
    rw [List.cons_append,e2,ih]
    simp
theorem zdB {s:Str} (t:Str) (h:yK s=true) (hl:s.length≤200):zB (s++13::10::t)=(s,(s.length:Int)+2,true,0):=by
  unfold zB
  rw [Uk t s [] h (by simpa using hl)]
  simp
end Go.Proofs.YtmibhbdfigpkmaaGreatDoor
namespace Go.Proofs.YtmibhbdfigpkmaaGreatDoor
open Go Go.Sep Go.Ab
set_option maxRecDepth 100000
def qJ (m:Str):Str→Int→Int
  |[],i=>if m.isPrefixOf [] then i else -1
  |x::b,i=>if m.isPrefixOf (x::b) then i else qJ m b (i+1)
end Go.Proofs.YtmibhbdfigpkmaaGreatDoor
namespace Go.Proofs.YtmibhbdfigpkmaaGreatDoor
open Go Go.Sep Go.Ab
set_option maxRecDepth 100000
def cutB (s:Str) (c:UInt8):Str × Str × Bool:=
  if 0≤Lib.indexByte s c then(s.take (Lib.indexByte s c).toNat,s.drop ((Lib.indexByte s c).toNat+1),true) else(s,[],false)
def zW (s:Str):Fld × Int:=
  if(cutB s 58).2.2=false then(⟨[],[]⟩,5)
  else if yU (cutB s 58).1=false then(⟨[],[]⟩,6)
  else if 40<(cutB s 58).1.length then(⟨[],[]⟩,4)
  else if yK (cutB s 58).2.1=false then(⟨[],[]⟩,3)
  else(⟨(cutB s 58).1,Lib.trimS (cutB s 58).2.1 [32,9]⟩,0)
def textF (f:Fld):Str × Int:=
  if yU f.name=false then([],6)
  else if 40<f.name.length∨200<f.name.length+2+f.value.length then([],4)
  else if yK f.value=false∨¬ Lib.trimS f.value [32,9]=f.value then([],3)
  else(f.name++[58,32]++f.value,0)
theorem SA (s:Str) (c:UInt8):(cutB s c).1.length≤s.length∧(cutB s c).2.1.length≤s.length:=by
  unfold cutB
  split
  · simp only [List.length_take,List.length_drop];omega
  · simp
theorem zjf (s:Str) (c:UInt8) (hneed:s.length≤1000000):Spc Tryz.prog 109 [.v (.one (.p (.str s))),.v (.one (.p (.str ([c]))))] [] (.ret (.tup [(.one (.p (.str ((cutB s c).1)))),(.one (.p (.str ((cutB s c).2.1)))),(.one (.p (.bool ((cutB s c).2.2))))])) []:=by
  generalize hr:cutB s c=r
  obtain⟨a,b,d⟩:=r
  refine spcG zu mixed Tryz.func109 (by kernel_rfl) { keep:=some [0,1,4,5,6,7]} [zfC,zfB] (by kernel_rfl) ?_
  intro I X hI hX
  refine zh (let y0:=I.hid (α:=Int) (Go.Lib.indexByte s c);let y1:=I.add y0 (I.len (α:=UInt8) ([c]:Str));.need (I.hid (α:=(Prop)) True) (.br (I.ile 0 y0) (.need (I.cutb 0 y0 (I.len (α:=UInt8) s)) (.need (I.inr Go.IntKind.i64 y1) (.need (I.cutb y1 (I.len (α:=UInt8) s) (I.len (α:=UInt8) s)) (.fin (.ret (.tup [(.one (.p (.str (I.cut (α:=UInt8) s 0 y0)))),(.one (.p (.str (I.cut (α:=UInt8) s y1 (I.len (α:=UInt8) s))))),(.one (.p (.bool Bool.true)))])) [])))) (.fin (.ret (.tup [(.one (.p (.str s))),(.one (.p (.str ([]:Str)))),(.one (.p (.bool Bool.false)))])) []))) (by kernel_rfl) ?_
  simp only [zC]
  subst hI
  simp only [nrmA,nrmB]
  have hx:=xE s c
  simp only [List.length_cons,List.length_nil]
  refine⟨fun h=> ?_,fun h=> ?_⟩
  · rw [cutB,if_pos h] at hr
    simp only [Prod.mk.injEq] at hr
    obtain⟨rfl,rfl,rfl⟩:=hr
    refine⟨by omega,by omega,by omega,?_⟩
    rw [show(Lib.indexByte s c+((0+1:Nat):Int)).toNat=(Lib.indexByte s c).toNat+1 by omega]
    have e:List.take (s.length - ((Lib.indexByte s c).toNat+1)) (List.drop ((Lib.indexByte s c).toNat+1) s)=List.drop ((Lib.indexByte s c).toNat+1) s:=List.take_of_length_le (by rw [List.length_drop];exact Nat.le_refl _)
    rw [e]
  · rw [cutB,if_neg h] at hr
    simp only [Prod.mk.injEq] at hr
    obtain⟨rfl,rfl,rfl⟩:=hr
    rfl
def Xt (I:Alg) (args:List D) (hp:List HO):Option CT:=match args,hp with
  |[.v (.one (.p (.str s))),.v (.one (.p (.str ([c]))))],[]=>(fun(s:Str) (c:UInt8)=>(some (.one ⟨I.hid (s.length≤1000000),(.ret (.tup [(.one (.p (.str (I.hid ((cutB s c).1))))),(.one (.p (.str (I.hid ((cutB s c).2.1))))),(.one (.p (.bool (I.hid ((cutB s c).2.2)))))])),[]⟩):Option CT)) s c
  |_,_=>none
theorem zbD:zI Tryz.prog 109 (Xt alg):=by
  intro args hp r h
  unfold Xt at h
  split at h
  · cases h;exact fun hn=>zjf _ _ hn
  · cases h
def zgN:Know Tryz.prog:=⟨109,Xt,zbD⟩
def zgM:Know Tryz.prog:=⟨109,fun I=>zK I (Xt I),zf zbD⟩
theorem zj9 (s:Str) (c:UInt8) (hneed:s.length≤1000000):Spc Tryz.prog 90 [.v (.one (.p (.str s))),.v (.one (.p (.str ([c]))))] [] (.ret (.tup [(.one (.p (.str ((cutB s c).1)))),(.one (.p (.str ((cutB s c).2.1)))),(.one (.p (.bool ((cutB s c).2.2))))])) []:=by
  refine spcG zu mixed Tryz.func90 (by kernel_rfl) { keep:=some [0,1,4,5,6]} [zgN,zgM] (by kernel_rfl) ?_
  intro I X hI hX
  refine zh (.need (I.hid (α:=(Prop)) (LE.le (List.length s) 1000000)) (.fin (.ret (.tup [(.one (.p (.str (I.hid (α:=Str) (Prod.fst (cutB s c)))))),(.one (.p (.str (I.hid (α:=Str) (Prod.fst (Prod.snd (cutB s c))))))),(.one (.p (.bool (I.hid (α:=Bool) (Prod.snd (Prod.snd (cutB s c)))))))])) [])) (by kernel_rfl) ?_
  simp only [zC]
  subst hI
  simp only [nrmA,nrmB]
  exact hneed
def U1 (I:Alg) (args:List D) (hp:List HO):Option CT:=match args,hp with
  |[.v (.one (.p (.str s))),.v (.one (.p (.str ([c]))))],[]=>(fun(s:Str) (c:UInt8)=>(some (.one ⟨I.hid (s.length≤1000000),(.ret (.tup [(.one (.p (.str (I.hid ((cutB s c).1))))),(.one (.p (.str (I.hid ((cutB s c).2.1))))),(.one (.p (.bool (I.hid ((cutB s c).2.2)))))])),[]⟩):Option CT)) s c
  |_,_=>none
theorem zen:zI Tryz.prog 90 (U1 alg):=by
  intro args hp r h
  unfold U1 at h
  split at h
  · cases h;exact fun hn=>zj9 _ _ hn
  · cases h
def zem:Know Tryz.prog:=⟨90,U1,zen⟩
def zel:Know Tryz.prog:=⟨90,fun I=>zK I (U1 I),zf zen⟩
theorem zju (s:Str) (hneed:s.length≤1000000):Spc Tryz.prog 72 [.v (.one (.p (.str s)))] [] (.ret (.tup [(.agg [(.p (.str ((zW s).1.name))),(.p (.str ((zW s).1.value)))]),(.one (.p (.int .i64 ((zW s).2))))])) []:=by
  generalize hr:zW s=r
  obtain⟨⟨a,b⟩,d⟩:=r
  refine spcG zu mixed Tryz.func72 (by kernel_rfl) { keep:=some [0,2,3,4,5,6]} [xO,xN,xM,xK,SH,SG,zem,zel] (by kernel_rfl) ?_
  intro I X hI hX
  refine zh (let y0:=I.hid (α:=Str) (Prod.fst (cutB s (58:UInt8)));let y1:=I.hid (α:=Str) (Prod.fst (Prod.snd (cutB s (58:UInt8))));.need (I.hid (α:=(Prop)) (LE.le (List.length s) 1000000)) (.br (I.bnot (I.hid (α:=Bool) (Prod.snd (Prod.snd (cutB s (58:UInt8)))))) (.fin (.ret (.tup [(.agg [(.p (.str ([]:Str))),(.p (.str ([]:Str)))]),(.one (.p (.int .i64 5)))])) []) (.need (I.hid (α:=(Prop)) (LE.le (List.length y0) 1000000)) (.br (I.bnot (I.hid (α:=Bool) (yU y0))) (.fin (.ret (.tup [(.agg [(.p (.str ([]:Str))),(.p (.str ([]:Str)))]),(.one (.p (.int .i64 6)))])) []) (.br (I.ilt 40 (I.len (α:=UInt8) y0)) (.fin (.ret (.tup [(.agg [(.p (.str ([]:Str))),(.p (.str ([]:Str)))]),(.one (.p (.int .i64 4)))])) []) (.need (I.hid (α:=(Prop)) (LE.le (List.length y1) 1000000)) (.br (I.bnot (I.hid (α:=Bool) (yK y1))) (.fin (.ret (.tup [(.agg [(.p (.str ([]:Str))),(.p (.str ([]:Str)))]),(.one (.p (.int .i64 3)))])) []) (.need (I.hid (α:=(Prop)) True) (.fin (.ret (.tup [(.agg [(.p (.str y0)),(.p (.str (I.hid (α:=Str) (Go.Lib.trimS y1 ([32,9]:Str)))))]),(.one (.p (.int .i64 0)))])) []))))))))) (by kernel_rfl) ?_
  simp only [zC]
  subst hI
  simp only [nrmA,nrmB]
  have hl:=SA s 58
  unfold zW at hr
  (repeat' (first|refine And.intro ?_ ?_|intro _))<;>first|omega|exact True.intro|exact False.elim ‹False›|skip
  all_goals first
    |(rw [if_pos (by assumption)] at hr;cases hr;rfl)
    |(rw [if_neg (by simp [*]),if_pos (by assumption)] at hr;cases hr;rfl)
    |(rw [if_neg (by simp [*]),if_neg (by simp [*]),if_pos (by omega)] at hr;cases hr;rfl)
    |(rw [if_neg (by simp [*]),if_neg (by simp [*]),if_neg (by omega),if_pos (by assumption)] at hr;cases hr;rfl)
    |(rw [if_neg (by simp [*]),if_neg (by simp [*]),if_neg (by omega),if_neg (by simp [*])] at hr;cases hr;rfl)
def XF (I:Alg) (args:List D) (hp:List HO):Option CT:=match args,hp with
  |[.v (.one (.p (.str s)))],[]=>(fun(s:Str)=>(some (.one ⟨I.hid (s.length≤1000000),(.ret (.tup [(.agg [(.p (.str (I.hid ((zW s).1.name)))),(.p (.str (I.hid ((zW s).1.value))))]),(.one (.p (.int .i64 (I.hid ((zW s).2)))))])),[]⟩):Option CT)) s
  |_,_=>none
theorem zb6:zI Tryz.prog 72 (XF alg):=by
  intro args hp r h
  unfold XF at h
  split at h
  · cases h;exact fun hn=>zju _ hn
  · cases h
def U9:Know Tryz.prog:=⟨72,XF,zb6⟩
def U8:Know Tryz.prog:=⟨72,fun I=>zK I (XF I),zf zb6⟩
theorem zj7 (n v:Str) (hneed:n.length≤1000000∧v.length≤1000000):Spc Tryz.prog 38 [.v (.agg [(.p (.str n)),(.p (.str v))])] [] (.ret (.tup [(.one (.p (.str ((textF ⟨n,v⟩).1)))),(.one (.p (.int .i64 ((textF ⟨n,v⟩).2))))])) []:=by
  generalize hr:textF ⟨n,v⟩=r
  obtain⟨a,d⟩:=r
  refine spcG zu mixed Tryz.func38 (by kernel_rfl) { keep:=some [0,1,2,3,4]} [xO,xN,xM,xK,SH,SG] (by kernel_rfl) ?_
  intro I X hI hX
  refine zh (.need (I.few (I.add (I.len (α:=UInt8) n) (I.len (α:=UInt8) ([58,32]:Str))) 1000000000) (.need (I.few (I.add (I.len (α:=UInt8) (I.app (α:=UInt8) n ([58,32]:Str))) (I.len (α:=UInt8) v)) 1000000000) (.need (I.hid (α:=(Prop)) (LE.le (List.length n) 1000000)) (.br (I.bnot (I.hid (α:=Bool) (yU n))) (.fin (.ret (.tup [(.one (.p (.str ([]:Str)))),(.one (.p (.int .i64 6)))])) []) (.br (I.ilt 40 (I.len (α:=UInt8) n)) (.fin (.ret (.tup [(.one (.p (.str ([]:Str)))),(.one (.p (.int .i64 4)))])) []) (.br (I.ilt 200 (I.len (α:=UInt8) (I.app (α:=UInt8) (I.app (α:=UInt8) n ([58,32]:Str)) v))) (.fin (.ret (.tup [(.one (.p (.str ([]:Str)))),(.one (.p (.int .i64 4)))])) []) (.need (I.hid (α:=(Prop)) (LE.le (List.length v) 1000000)) (.br (I.bnot (I.hid (α:=Bool) (yK v))) (.fin (.ret (.tup [(.one (.p (.str ([]:Str)))),(.one (.p (.int .i64 3)))])) []) (.need (I.hid (α:=(Prop)) True) (.br (I.bnot (I.seq (I.hid (α:=Str) (Go.Lib.trimS v ([32,9]:Str))) v)) (.fin (.ret (.tup [(.one (.p (.str ([]:Str)))),(.one (.p (.int .i64 3)))])) []) (.fin (.ret (.tup [(.one (.p (.str (I.app (α:=UInt8) (I.app (α:=UInt8) n ([58,32]:Str)) v)))),(.one (.p (.int .i64 0)))])) []))))))))))) (by kernel_rfl) ?_
  simp only [zC]
  subst hI
  simp only [nrmA,nrmB]
  simp only [List.length_append,List.length_cons,List.length_nil]
  unfold textF at hr
  simp only at hr
  (repeat' (first|refine And.intro ?_ ?_|intro _))<;>first|omega|exact True.intro|exact False.elim ‹False›|skip
  all_goals first
    |(rw [if_pos (by assumption)] at hr;cases hr;rfl)
    |(rw [if_neg (by simp [*]),if_pos (by omega)] at hr;cases hr;rfl)
    |(rw [if_neg (by simp [*]),if_neg (by omega),if_pos (.inl (by assumption))] at hr;cases hr;rfl)
    |(rw [if_neg (by simp [*]),if_neg (by omega),if_pos (.inr (by assumption))] at hr;cases hr;rfl)
    |(rw [if_neg (by simp [*]),if_neg (by omega),if_neg (by simp [*])] at hr;cases hr;rfl)
def UX (I:Alg) (args:List D) (hp:List HO):Option CT:=match args,hp with
  |[.v (.agg [(.p (.str n)),(.p (.str v))])],[]=>(fun(n v:Str)=>(some (.one ⟨I.hid (n.length≤1000000∧v.length≤1000000),(.ret (.tup [(.one (.p (.str (I.hid ((textF ⟨n,v⟩).1))))),(.one (.p (.int .i64 (I.hid ((textF ⟨n,v⟩).2)))))])),[]⟩):Option CT)) n v
  |_,_=>none
theorem zd7:zI Tryz.prog 38 (UX alg):=by
  intro args hp r h
  unfold UX at h
  split at h
  · cases h;exact fun hn=>zj7 _ _ hn
  · cases h
def UW:Know Tryz.prog:=⟨38,UX,zd7⟩
def UU:Know Tryz.prog:=⟨38,fun I=>zK I (UX I),zf zd7⟩
end Go.Proofs.YtmibhbdfigpkmaaGreatDoor
namespace Go.Proofs.YtmibhbdfigpkmaaGreatDoor
open Go Go.Sep Go.Ab
set_option maxRecDepth 100000
def numG (base:Int):Int→Str→Int × Bool
  |n,[]=>(n,true)
  |n,c::l=>if hexK c.toNat<0∨base≤hexK c.toNat then(0,false) else numG base (n * base+hexK c.toNat) l
def numA (s:Str) (base most:Int):Int × Bool:=if s=[]∨most<s.length then(0,false) else numG base 0 s
def top9:Nat→Nat
  |0=>0
  |i+1=>16 * top9 i+15
theorem zd3 {i:Nat} (h:i≤9):top9 i≤68719476735:=(by decide: ∀ i:Fin 10,top9 i.1≤68719476735) ⟨i,by omega⟩
theorem Qp {base n:Int} {s:Str} {i:Nat} (h:i<s.length):numG base n (s.drop i)=if hexK (s.getD i 0).toNat<0∨base≤hexK (s.getD i 0).toNat then(0,false) else numG base (n * base+hexK (s.getD i 0).toNat) (s.drop (i+1)):=by
  rw [List.drop_eq_getElem_cons h,numG];simp [h]
theorem zfG {k:Int} (hk:0≤k∧k≤255): -1≤hexK k∧hexK k≤15:=zkw (p:=fun k=> -1≤hexK k∧hexK k≤15) (by decide+kernel) hk
theorem ze6 (s:Str):Spc Tryz.prog 119 [.v (.one (.p (.str s))),.v (.one (.p (.int .i64 10))),.v (.one (.p (.int .i64 9)))] [] (.ret (.tup [(.one (.p (.int .i64 ((numA s 10 9).1)))),(.one (.p (.bool ((numA s 10 9).2))))])) []:=by
  generalize hr:numA s 10 9=r
  refine spcG zu mixed Tryz.func119 (by kernel_rfl) { keep:=some [0,1,2,6,7,8,9,10,20,21]} [zcv,zcu] (by kernel_rfl) ?_
  intro I X hI hX
  refine zh (.br (I.seq s ([]:Str)) (.fin (.ret (.tup [(.one (.p (.int .i64 0))),(.one (.p (.bool Bool.false)))])) []) (.br (I.ilt 9 (I.len (α:=UInt8) s)) (.fin (.ret (.tup [(.one (.p (.int .i64 0))),(.one (.p (.bool Bool.false)))])) []) (.code 0 [1,1,1,0,1,0] ⟨[(21,(.v (.one (.p (.int .i64 0))))),(20,(.v (.one (.p (.int .i64 (I.len (α:=UInt8) s)))))),(8,(.v (.one (.p (.int .i64 0))))),(7,(.v (.one (.p (.val (.bool .false)))))),(6,(.v (.one (.p (.int .i64 0))))),(0,(.v (.one (.p (.str s))))),(1,(.v (.one (.p (.int .i64 10))))),(2,(.v (.one (.p (.int .i64 9)))))],[],42,none⟩))) (by kernel_rfl) ?_
  simp only [zC]
  have hne:s≠[]→¬ (9:Int)<s.length→numG 10 0 s=r:=fun h1 h2=>by rw [← hr,numA,if_neg (fun h=>by rcases h with h|h;exact h1 h;exact h2 h)]
  have hyes:(s=[]∨(9:Int)<s.length)→r=(0,false):=fun h=>by rw [← hr,numA,if_pos h]
  refine⟨fun c1=> ?_,fun c1=>⟨fun c2=> ?_,fun c2=> ?_⟩⟩
  · subst hI
    simp only [nrmA,nrmB] at c1
    rw [hyes (.inl c1)]
    simp
  · subst hI
    simp only [nrmA,nrmB] at c2
    rw [hyes (.inr c2)]
    simp
  have d1:s≠[]:=by
    subst hI
    simp only [nrmA,nrmB] at c1
    exact c1
  have d2:s.length≤9:=by
    subst hI
    simp only [nrmA,nrmB] at c2
    omega
  refine yw hI zu mixed [zcv,zcu] hX [0,1,2,8,20,21] (fun(g:Nat × Int)=>match g with|(i,n)=>i≤s.length∧0≤n∧n≤top9 i∧numG 10 n (s.drop i)=r) (fun(g:Nat × Int)=>match g with|(i,n)=>⟨[(0,.v (.one (.p (.str s)))),(1,.v (.one (.p (.int .i64 10)))),(2,.v (.one (.p (.int .i64 9)))),(8,.v (.one (.p (.int .i64 n)))),(20,.v (.one (.p (.int .i64 ((I.len (α:=UInt8) s)))))),(21,.v (.one (.p (.int .i64 i))))],[],42,none⟩) (fun(g:Nat × Int)=>match g with|(i,n)=>s.length - i) (0,0) (by kernel_rfl) (by kernel_rfl) ?_ ?_
  · exact⟨Nat.zero_le _,Int.le_refl _,Int.le_refl _,hne d1 (by omega)⟩
  rintro⟨i,n⟩ ⟨h1,h2,h3,h4⟩ A hA
  simp only at hA
  refine zh (let y0:=I.b2i (I.get (α:=UInt8) s 0 (Nat.cast i));let y1:=I.add (I.mul n 10) (I.hid (α:=Int) (hexK y0));.br (I.ilt (Nat.cast i) (I.len (α:=UInt8) s)) (.need (I.inb (Nat.cast i) (I.len (α:=UInt8) s)) (.need (I.hid (α:=(Prop)) (And (LE.le (0:Int) y0) (LE.le y0 (255:Int)))) (.br (I.ilt (I.hid (α:=Int) (hexK y0)) 0) (.fin (.ret (.tup [(.one (.p (.int .i64 0))),(.one (.p (.bool Bool.false)))])) []) (.br (I.ile 10 (I.hid (α:=Int) (hexK y0))) (.fin (.ret (.tup [(.one (.p (.int .i64 0))),(.one (.p (.bool Bool.false)))])) []) (.need (I.inr Go.IntKind.i64 (I.mul n 10)) (.need (I.inr Go.IntKind.i64 y1) (.need (I.inr Go.IntKind.i64 (I.add (Nat.cast i) 1)) (.need (A ⟨[(0,(.v (.one (.p (.str s))))),(1,(.v (.one (.p (.int .i64 10))))),(2,(.v (.one (.p (.int .i64 9))))),(8,(.v (.one (.p (.int .i64 y1))))),(20,(.v (.one (.p (.int .i64 (I.len (α:=UInt8) s)))))),(21,(.v (.one (.p (.int .i64 (I.add (Nat.cast i) 1))))))],[],42,none⟩) .qed)))))))) (.fin (.ret (.tup [(.one (.p (.int .i64 n))),(.one (.p (.bool Bool.true)))])) [])) (by kernel_rfl) ?_
  simp only [zC]
  subst hI
  simp only [nrmA,nrmB]
  have hb:=Yh (s.getD i 0)
  have hk:=zfG hb
  have hd:i<s.length→_:=fun h=>Qp (base:=10) (n:=n) h
  have ht:i≤9:=by omega
  have ht:=zd3 ht
  have ht2:top9 (i+1)=16 * top9 i+15:=rfl
  generalize s.getD i 0=x at *
  generalize hexK (x.toNat:Int)=k at *
  (repeat' (first|refine And.intro ?_ ?_|intro _))<;>first|omega|exact True.intro|exact False.elim ‹False›|skip
  all_goals first
    |omega
    |(rw [← h4,hd (by omega),if_pos (.inl (by omega))])
    |(rw [← h4,hd (by omega),if_pos (.inr (by omega))])
    |(refine hA (i+1,_) ⟨by simp only;omega,by simp only;omega,by simp only;omega,?_⟩ (by simp only;omega);rw [← h4,hd (by omega),if_neg (by omega)])
    |(rw [← h4,List.drop_of_length_le (by omega)];rfl)
def uM (I:Alg) (args:List D) (hp:List HO):Option CT:=match args,hp with
  |[.v (.one (.p (.str s))),.v (.one (.p (.int .i64 10))),.v (.one (.p (.int .i64 9)))],[]=>(fun(s:Str)=>(some (.one ⟨I.hid (True),(.ret (.tup [(.one (.p (.int .i64 (I.hid ((numA s 10 9).1))))),(.one (.p (.bool (I.hid ((numA s 10 9).2)))))])),[]⟩):Option CT)) s
  |_,_=>none
theorem WL:zI Tryz.prog 119 (uM alg):=by
  intro args hp r h
  unfold uM at h
  split at h
  · cases h;exact fun hn=>ze6 _
  · cases h
def uK:Know Tryz.prog:=⟨119,uM,WL⟩
def uJ:Know Tryz.prog:=⟨119,fun I=>zK I (uM I),zf WL⟩
theorem ze5 (s:Str):Spc Tryz.prog 119 [.v (.one (.p (.str s))),.v (.one (.p (.int .i64 16))),.v (.one (.p (.int .i64 6)))] [] (.ret (.tup [(.one (.p (.int .i64 ((numA s 16 6).1)))),(.one (.p (.bool ((numA s 16 6).2))))])) []:=by
  generalize hr:numA s 16 6=r
  refine spcG zu mixed Tryz.func119 (by kernel_rfl) { keep:=some [0,1,2,6,7,8,9,10,20,21]} [zcv,zcu,uK,uJ] (by kernel_rfl) ?_
  intro I X hI hX
  refine zh (.br (I.seq s ([]:Str)) (.fin (.ret (.tup [(.one (.p (.int .i64 0))),(.one (.p (.bool Bool.false)))])) []) (.br (I.ilt 6 (I.len (α:=UInt8) s)) (.fin (.ret (.tup [(.one (.p (.int .i64 0))),(.one (.p (.bool Bool.false)))])) []) (.code 0 [1,1,1,0,1,0] ⟨[(21,(.v (.one (.p (.int .i64 0))))),(20,(.v (.one (.p (.int .i64 (I.len (α:=UInt8) s)))))),(8,(.v (.one (.p (.int .i64 0))))),(7,(.v (.one (.p (.val (.bool .false)))))),(6,(.v (.one (.p (.int .i64 0))))),(0,(.v (.one (.p (.str s))))),(1,(.v (.one (.p (.int .i64 16))))),(2,(.v (.one (.p (.int .i64 6)))))],[],42,none⟩))) (by kernel_rfl) ?_
  simp only [zC]
  have hne:s≠[]→¬ (6:Int)<s.length→numG 16 0 s=r:=fun h1 h2=>by rw [← hr,numA,if_neg (fun h=>by rcases h with h|h;exact h1 h;exact h2 h)]
  have hyes:(s=[]∨(6:Int)<s.length)→r=(0,false):=fun h=>by rw [← hr,numA,if_pos h]
  refine⟨fun c1=> ?_,fun c1=>⟨fun c2=> ?_,fun c2=> ?_⟩⟩
  · subst hI
    simp only [nrmA,nrmB] at c1
    rw [hyes (.inl c1)]
    simp
  · subst hI
    simp only [nrmA,nrmB] at c2
    rw [hyes (.inr c2)]
    simp
  have d1:s≠[]:=by
    subst hI
    simp only [nrmA,nrmB] at c1
    exact c1
  have d2:s.length≤6:=by
    subst hI
    simp only [nrmA,nrmB] at c2
    omega
  refine yw hI zu mixed [zcv,zcu,uK,uJ] hX [0,1,2,8,20,21] (fun(g:Nat × Int)=>match g with|(i,n)=>i≤s.length∧0≤n∧n≤top9 i∧numG 16 n (s.drop i)=r) (fun(g:Nat × Int)=>match g with|(i,n)=>⟨[(0,.v (.one (.p (.str s)))),(1,.v (.one (.p (.int .i64 16)))),(2,.v (.one (.p (.int .i64 6)))),(8,.v (.one (.p (.int .i64 n)))),(20,.v (.one (.p (.int .i64 ((I.len (α:=UInt8) s)))))),(21,.v (.one (.p (.int .i64 i))))],[],42,none⟩) (fun(g:Nat × Int)=>match g with|(i,n)=>s.length - i) (0,0) (by kernel_rfl) (by kernel_rfl) ?_ ?_
  · exact⟨Nat.zero_le _,Int.le_refl _,Int.le_refl _,hne d1 (by omega)⟩
  rintro⟨i,n⟩ ⟨h1,h2,h3,h4⟩ A hA
  simp only at hA
  refine zh (let y0:=I.b2i (I.get (α:=UInt8) s 0 (Nat.cast i));let y1:=I.add (I.mul n 16) (I.hid (α:=Int) (hexK y0));.br (I.ilt (Nat.cast i) (I.len (α:=UInt8) s)) (.need (I.inb (Nat.cast i) (I.len (α:=UInt8) s)) (.need (I.hid (α:=(Prop)) (And (LE.le (0:Int) y0) (LE.le y0 (255:Int)))) (.br (I.ilt (I.hid (α:=Int) (hexK y0)) 0) (.fin (.ret (.tup [(.one (.p (.int .i64 0))),(.one (.p (.bool Bool.false)))])) []) (.br (I.ile 16 (I.hid (α:=Int) (hexK y0))) (.fin (.ret (.tup [(.one (.p (.int .i64 0))),(.one (.p (.bool Bool.false)))])) []) (.need (I.inr Go.IntKind.i64 (I.mul n 16)) (.need (I.inr Go.IntKind.i64 y1) (.need (I.inr Go.IntKind.i64 (I.add (Nat.cast i) 1)) (.need (A ⟨[(0,(.v (.one (.p (.str s))))),(1,(.v (.one (.p (.int .i64 16))))),(2,(.v (.one (.p (.int .i64 6))))),(8,(.v (.one (.p (.int .i64 y1))))),(20,(.v (.one (.p (.int .i64 (I.len (α:=UInt8) s)))))),(21,(.v (.one (.p (.int .i64 (I.add (Nat.cast i) 1))))))],[],42,none⟩) .qed)))))))) (.fin (.ret (.tup [(.one (.p (.int .i64 n))),(.one (.p (.bool Bool.true)))])) [])) (by kernel_rfl) ?_
  simp only [zC]
  subst hI
  simp only [nrmA,nrmB]
  have hb:=Yh (s.getD i 0)
  have hk:=zfG hb
  have hd:i<s.length→_:=fun h=>Qp (base:=16) (n:=n) h
  have ht:i≤9:=by omega
  have ht:=zd3 ht
  have ht2:top9 (i+1)=16 * top9 i+15:=rfl
  generalize s.getD i 0=x at *
  generalize hexK (x.toNat:Int)=k at *
  (repeat' (first|refine And.intro ?_ ?_|intro _))<;>first|omega|exact True.intro|exact False.elim ‹False›|skip
  all_goals first
    |omega
    |(rw [← h4,hd (by omega),if_pos (.inl (by omega))])
    |(rw [← h4,hd (by omega),if_pos (.inr (by omega))])
    |(refine hA (i+1,_) ⟨by simp only;omega,by simp only;omega,by simp only;omega,?_⟩ (by simp only;omega);rw [← h4,hd (by omega),if_neg (by omega)])
    |(rw [← h4,List.drop_of_length_le (by omega)];rfl)
def uI (I:Alg) (args:List D) (hp:List HO):Option CT:=match args,hp with
  |[.v (.one (.p (.str s))),.v (.one (.p (.int .i64 16))),.v (.one (.p (.int .i64 6)))],[]=>(fun(s:Str)=>(some (.one ⟨I.hid (True),(.ret (.tup [(.one (.p (.int .i64 (I.hid ((numA s 16 6).1))))),(.one (.p (.bool (I.hid ((numA s 16 6).2)))))])),[]⟩):Option CT)) s
  |_,_=>none
theorem WJ:zI Tryz.prog 119 (uI alg):=by
  intro args hp r h
  unfold uI at h
  split at h
  · cases h;exact fun hn=>ze5 _
  · cases h
def WI:Know Tryz.prog:=⟨119,uI,WJ⟩
def WH:Know Tryz.prog:=⟨119,fun I=>zK I (uI I),zf WJ⟩
theorem zbd (s:Str):Spc Tryz.prog 105 [.v (.one (.p (.str s)))] [] (.ret (.tup [(.one (.p (.int .i64 ((numA s 16 6).1)))),(.one (.p (.bool ((numA s 16 6).2))))])) []:=by
  refine spcG zu mixed Tryz.func105 (by kernel_rfl) { keep:=some [0,2,3]} [uK,uJ,WI,WH] (by kernel_rfl) ?_
  intro I X hI hX
  refine zh (.need (I.hid (α:=(Prop)) True) (.fin (.ret (.tup [(.one (.p (.int .i64 (I.hid (α:=Int) (Prod.fst (numA s (16:Int) (6:Int))))))),(.one (.p (.bool (I.hid (α:=Bool) (Prod.snd (numA s (16:Int) (6:Int)))))))])) [])) (by kernel_rfl) ?_
  simp only [zC]
  subst hI
  simp only [nrmA,nrmB]
  try trivial
def wY (I:Alg) (args:List D) (hp:List HO):Option CT:=match args,hp with
  |[.v (.one (.p (.str s)))],[]=>(fun(s:Str)=>(some (.one ⟨I.hid (True),(.ret (.tup [(.one (.p (.int .i64 (I.hid ((numA s 16 6).1))))),(.one (.p (.bool (I.hid ((numA s 16 6).2)))))])),[]⟩):Option CT)) s
  |_,_=>none
theorem Yg:zI Tryz.prog 105 (wY alg):=by
  intro args hp r h
  unfold wY at h
  split at h
  · cases h;exact fun hn=>zbd _
  · cases h
def SK:Know Tryz.prog:=⟨105,wY,Yg⟩
def SI:Know Tryz.prog:=⟨105,fun I=>zK I (wY I),zf Yg⟩
end Go.Proofs.YtmibhbdfigpkmaaGreatDoor
namespace Go.Proofs.YtmibhbdfigpkmaaGreatDoor
open Go Go.Sep Go.Ab
theorem TI {r:Str} {s:Ln} (h:xA ln0 r=.more s):zB r=([],0,false,0):=by
  have:=TJ r;rw [h] at this;exact this.1
theorem WY {r t rest:Str} (h:xA ln0 r=.line t rest): ∃ n:Nat,zB r=(t,(n:Int),true,0)∧n≤r.length∧0<n∧rest=r.drop n:=by
  have:=TJ r;rw [h] at this
  obtain⟨n,h1,h2⟩:=this
  exact⟨n,by rw [zB,h1];simp,h2⟩
theorem zch {r rest:Str} {e:Int} (h:xA ln0 r=.bad e rest): ∃ n:Nat,zB r=([],(n:Int),false,e)∧e≠0∧n≤r.length∧0<n∧rest=r.drop n:=by
  have:=TJ r;rw [h] at this
  obtain⟨n,h1,h2⟩:=this
  exact⟨n,by rw [zB,h1];simp,h2⟩
theorem TK (r:Str): ∃ n:Nat,(zB r).2.1=(n:Int)∧n≤r.length∧((zB r).2.2.1=true∨(zB r).2.2.2≠0→0<n)∧((zB r).2.2.1=false→(zB r).2.2.2=0→n=0)∧((zB r).2.2.1=true→(zB r).2.2.2=0):=by
  cases h:xA ln0 r with
  |more s=>rw [TI h];exact⟨0,rfl,Nat.zero_le _,by simp,by simp,by simp⟩
  |line t rest=>obtain⟨n,h1,h2,h3,_⟩:=WY h;rw [h1];exact⟨n,rfl,h2,fun _=>h3,by simp,by simp⟩
  |bad e rest=>obtain⟨n,h1,h2,h3,h4,_⟩:=zch h;rw [h1];exact⟨n,rfl,h3,fun _=>h4,fun _ h=>absurd h h2,by simp⟩
theorem zcm {s:Ln} {c:UInt8} (h:(lnF s c).2.2.2=0):(lnF s c).1.code=0:=by
  unfold lnF at h ⊢
  split
  · rename_i h1;rw [if_pos h1] at h;exact h
  rename_i h1
  rw [if_neg h1] at h
  split
  · rename_i h2
    rw [if_pos h2] at h
    split
    · rfl
    · rename_i h3;rw [if_neg h3] at h;cases h
  rename_i h2
  rw [if_neg h2] at h
  split
  · rename_i h3;rw [if_pos h3] at h;cases h
  rename_i h3
  rw [if_neg h3] at h
  split
  · exact Decidable.not_not.1 h1
  rename_i h4
  rw [if_neg h4] at h
  split
  · rename_i h5;rw [if_pos h5] at h;cases h
  rename_i h5
  rw [if_neg h5] at h
  split
  · rename_i h6;rw [if_pos h6] at h;cases h
  · exact Decidable.not_not.1 h1
theorem zcl {s:Ln} {c:UInt8} (h:(lnF s c).2.2.1=true) (h0:s.code=0):(lnF s c).2.2.2=0∧(lnF s c).1=ln0:=by
  unfold lnF at h ⊢
  rw [if_neg (by simp [h0])] at h ⊢
  split
  · rename_i h2
    rw [if_pos h2] at h
    split
    · exact⟨rfl,rfl⟩
    · rename_i h3;rw [if_neg h3] at h;cases h
  rename_i h2
  rw [if_neg h2] at h
  split at h
  · cases h
  split at h
  · cases h
  split at h
  · cases h
  split at h
  · cases h
  · cases h
def yZ (line:Str):Int × Bool:=numA (Lib.trimS (cutB line 59).1 [32,9]) 16 6
theorem WM: ∀ (s:Str) (n:Int),0≤n→0≤(numG 16 n s).1
  |[],n,h=>h
  | c::l,n,h=>by
    rw [numG]
    split
    · exact Int.le_refl _
    · exact WM l _ (by omega)
theorem sD (t:Str):0≤(yZ t).1:=by
  unfold yZ numA
  split
  · exact Int.le_refl _
  · exact WM _ _ (Int.le_refl _)
def ch0:Ch:=⟨ln0,0,0,0,0,0⟩
def chL (s:Ch) (t:Str):Ch × Int:=
  if s.pos=2 then(if t=[] then({ s with pos:=0},0) else(s,5))
  else if s.pos=0 then
    (if(yZ t).2=false then(s,7)
    else if 4000 - s.all<(yZ t).1 then(s,4)
    else if(yZ t).1=0 then({ s with pos:=3},0)
    else({ s with pos:=1,left:=(yZ t).1},0))
  else if s.pos=3 then
    (if t=[] then({ s with pos:=4},0)
    else if s.tails=16 then(s,8)
    else({ s with tails:=s.tails+1},(zW t).2))
  else(s,0)
def chF (s:Ch) (c:UInt8):Ch × Str × Bool × Int:=
  if s.code≠0 then(s,[],false,s.code)
  else if s.pos=4 then({ s with code:=18},[],false,18)
  else if s.pos=1 then({ s with left:=s.left - 1,all:=s.all+1,pos:=if s.left - 1=0 then 2 else 1},[c],false,0)
  else if(lnF s.ln c).2.2.2≠0 then({ s with ln:=(lnF s.ln c).1,code:=(lnF s.ln c).2.2.2},[],false,(lnF s.ln c).2.2.2)
  else if(lnF s.ln c).2.2.1=true then
    (if(chL { s with ln:=(lnF s.ln c).1} (lnF s.ln c).2.1).2≠0 then({ (chL { s with ln:=(lnF s.ln c).1} (lnF s.ln c).2.1).1 with code:=(chL { s with ln:=(lnF s.ln c).1} (lnF s.ln c).2.1).2},[],false,(chL { s with ln:=(lnF s.ln c).1} (lnF s.ln c).2.1).2)
    else((chL { s with ln:=(lnF s.ln c).1} (lnF s.ln c).2.1).1,[],decide ((chL { s with ln:=(lnF s.ln c).1} (lnF s.ln c).2.1).1.pos=4),0))
  else({ s with ln:=(lnF s.ln c).1},[],false,0)
inductive ChR where
  |more (out:Str) (held:Nat)
  |over (out rest:Str)
  |bad (out:Str) (e:Int) (rest:Str)
def ChR.pre (o:Str):ChR→ChR
  |.more p h=>.more (o++p) h
  |.over p r=>.over (o++p) r
  |.bad p e r=>.bad (o++p) e r
def ChR.fg:ChR→ChR
  |.more p _=>.more p 0
  |x=>x
theorem ChR.pre_nil (x:ChR):x.pre []=x:=by cases x<;>simp [ChR.pre]
theorem ChR.zit (o p:Str) (x:ChR):(x.pre o).pre p=x.pre (p++o):=by cases x<;>simp [ChR.pre]
theorem ChR.zjR (o:Str) (x:ChR):(x.pre o).fg=x.fg.pre o:=by cases x<;>rfl
def wQ (s:Ch):Str→ChR
  |[]=>.more [] 0
  | c::r=>
    if(chF s c).2.2.2≠0 then .bad [] (chF s c).2.2.2 r
    else if(chF s c).2.2.1=true then .over [] r
    else(wQ (chF s c).1 r).pre (chF s c).2.1
def zd8:Nat→Int→Str→ChR
  |0,_,r=>.more [] r.length
  | f+1,k,r=>
    if(zB r).2.2.2≠0 then .bad [] (zB r).2.2.2 (r.drop (zB r).2.1.toNat)
    else if(zB r).2.2.1=false then .more [] r.length
    else if(zB r).1=[] then .over [] (r.drop (zB r).2.1.toNat)
    else if k=16 then .bad [] 8 (r.drop (zB r).2.1.toNat)
    else if(zW (zB r).1).2≠0 then .bad [] (zW (zB r).1).2 (r.drop (zB r).2.1.toNat)
    else zd8 f (k+1) (r.drop (zB r).2.1.toNat)
def endR (k:Str→ChR) (r:Str):ChR:=
  if(zB r).2.2.2≠0 then .bad [] (zB r).2.2.2 (r.drop (zB r).2.1.toNat)
  else if(zB r).2.2.1=false then .more [] r.length
  else if(zB r).1=[] then k (r.drop (zB r).2.1.toNat)
  else .bad [] 5 (r.drop (zB r).2.1.toNat)
def zhB:Nat→Int→Str→ChR
  |0,_,r=>.more [] r.length
  | f+1,a,r=>
    if(zB r).2.2.2≠0 then .bad [] (zB r).2.2.2 (r.drop (zB r).2.1.toNat)
    else if(zB r).2.2.1=false then .more [] r.length
    else if(yZ (zB r).1).2=false then .bad [] 7 (r.drop (zB r).2.1.toNat)
    else if 4000 - a<(yZ (zB r).1).1 then .bad [] 4 (r.drop (zB r).2.1.toNat)
    else if(yZ (zB r).1).1=0 then zd8 f 0 (r.drop (zB r).2.1.toNat)
    else if((r.drop (zB r).2.1.toNat).length:Int)<(yZ (zB r).1).1 then .more (r.drop (zB r).2.1.toNat) 0
    else(endR (zhB f (a+(yZ (zB r).1).1)) ((r.drop (zB r).2.1.toNat).drop (yZ (zB r).1).1.toNat)).pre ((r.drop (zB r).2.1.toNat).take (yZ (zB r).1).1.toNat)
theorem UD {s:Ch} (hc:s.code=0) (hp:s.pos=0∨s.pos=2∨s.pos=3): ∀ (r:Str) (l:Ln),l.code=0→wQ { s with ln:=l} r=match xA l r with
    |.more _=>.more [] 0
    |.bad e rest=>.bad [] e rest
    |.line t rest=>if(chL { s with ln:=ln0} t).2≠0 then .bad [] (chL { s with ln:=ln0} t).2 rest else if(chL { s with ln:=ln0} t).1.pos=4 then .over [] rest else wQ (chL { s with ln:=ln0} t).1 rest
  |[],l,hl=>rfl
  | c ::r,l,hl=>by
    have e0:chF { s with ln:=l} c=(if(lnF l c).2.2.2≠0 then({ s with ln:=(lnF l c).1,code:=(lnF l c).2.2.2},[],false,(lnF l c).2.2.2)
      else if(lnF l c).2.2.1=true then
        (if(chL { s with ln:=(lnF l c).1} (lnF l c).2.1).2≠0 then({ (chL { s with ln:=(lnF l c).1} (lnF l c).2.1).1 with code:=(chL { s with ln:=(lnF l c).1} (lnF l c).2.1).2},[],false,(chL { s with ln:=(lnF l c).1} (lnF l c).2.1).2)
        else((chL { s with ln:=(lnF l c).1} (lnF l c).2.1).1,[],decide ((chL { s with ln:=(lnF l c).1} (lnF l c).2.1).1.pos=4),0))
      else({ s with ln:=(lnF l c).1},[],false,0)):=by
      unfold chF
      rw [if_neg (show ¬ (s.code≠0) by rw [hc];simp),if_neg (show ¬ s.pos=4 by omega),if_neg (show ¬ s.pos=1 by omega)]
    by_cases h1:(lnF l c).2.2.1=true
    · obtain⟨h2,h3⟩:=zcl h1 hl
      rw [if_neg (by simp [h2]),if_pos h1,h3] at e0
      rw [wQ,e0,xA,if_pos h1]
      show _=(if(chL { s with ln:=ln0} (lnF l c).2.1).2≠0 then ChR.bad [] (chL { s with ln:=ln0} (lnF l c).2.1).2 r else if(chL { s with ln:=ln0} (lnF l c).2.1).1.pos=4 then .over [] r else wQ (chL { s with ln:=ln0} (lnF l c).2.1).1 r)
      generalize chL { s with ln:=ln0} (lnF l c).2.1=z
      by_cases h4:z.2=0
      · by_cases h5:z.1.pos=4
        · simp [h4,h5]
        · simp [h4,h5,ChR.pre_nil]
      · simp [h4]
    · by_cases h2:(lnF l c).2.2.2=0
      · have ih:=UD hc hp r (lnF l c).1 (zcm h2)
        rw [if_neg (by simp [h2]),if_neg h1] at e0
        rw [wQ,e0,xA,if_neg h1]
        simp only [h2,ne_eq,not_true_eq_false,if_false,Bool.false_eq_true,ChR.pre_nil]
        exact ih
      · rw [if_pos h2] at e0
        rw [wQ,e0,xA,if_neg h1,if_pos h2]
        simp [h2]
theorem Zb {s:Ch} (hc:s.code=0) (hp:s.pos=0∨s.pos=2∨s.pos=3) (hl:s.ln=ln0) (r:Str):wQ s r=
    if(zB r).2.2.2≠0 then .bad [] (zB r).2.2.2 (r.drop (zB r).2.1.toNat)
    else if(zB r).2.2.1=false then .more [] 0
    else if(chL s (zB r).1).2≠0 then .bad [] (chL s (zB r).1).2 (r.drop (zB r).2.1.toNat)
    else if(chL s (zB r).1).1.pos=4 then .over [] (r.drop (zB r).2.1.toNat)
    else wQ (chL s (zB r).1).1 (r.drop (zB r).2.1.toNat):=by
  have e:s= { s with ln:=ln0}:=by rw [← hl]
  have h:=UD hc hp r ln0 rfl
  rw [← e] at h
  rw [h]
  cases hr:xA ln0 r with
  |more x=>rw [TI hr];simp
  |line t rest=>obtain⟨n,h1,h2,h3,rfl⟩:=WY hr;rw [h1];simp
  |bad e rest=>obtain⟨n,h1,h2,h3,h4,rfl⟩:=zch hr;rw [h1];simp [h2]
theorem UE: ∀ (r:Str) (s:Ch) (n:Nat),s.code=0→s.pos=1→s.left=((n+1:Nat):Int)→wQ s r=if r.length<n+1 then .more r 0 else(wQ { s with pos:=2,left:=0,all:=s.all+(n+1:Nat)} (r.drop (n+1))).pre (r.take (n+1))
  |[],s,n,hc,hp,hl=>by rw [if_pos (by simp)];rfl
  | c ::r,s,n,hc,hp,hl=>by
    have e0:chF s c=({ s with left:=s.left - 1,all:=s.all+1,pos:=if s.left - 1=0 then 2 else 1},[c],false,0):=by
      unfold chF
      rw [if_neg (by simp [hc]),if_neg (by omega),if_pos hp]
    rw [wQ,e0]
    simp only [ne_eq,not_true_eq_false,if_false,Bool.false_eq_true]
    cases n with
    | zero=>
      rw [if_pos (by omega),if_neg (by simp)]
      simp only [hl]
      rfl
    | succ n=>
      rw [if_neg (by omega)]
      have ih:=UE r { s with left:=s.left - 1,all:=s.all+1,pos:=1} n hc rfl (by show s.left - 1=_;omega)
      rw [ih]
      simp only [List.length_cons,List.drop_succ_cons,List.take_succ_cons]
      by_cases h:r.length<n+1
      · rw [if_pos h,if_pos (by omega)];rfl
      · rw [if_neg h,if_neg (by omega),ChR.zit]
        congr 2
        simp only [Ch.mk.injEq,true_and,and_true]
        omega
theorem zhx {s:Ch} (hp:s.pos=3) (t:Str):chL s t=(if t=[] then({ s with pos:=4},0) else if s.tails=16 then(s,8) else({ s with tails:=s.tails+1},(zW t).2)):=by
  unfold chL
  rw [if_neg (by omega),if_neg (by omega),if_pos hp]
theorem zbJ: ∀ (f:Nat) (r:Str) (s:Ch),r.length<f→s.code=0→s.pos=3→s.ln=ln0→wQ s r=(zd8 f s.tails r).fg
  |0,r,s,hf,_,_,_=>by omega
  | f + 1, r, s,hf,hc,hp,hl=>by
    rw [Zb hc (.inr (.inr hp)) hl,zd8,zhx hp]
    obtain⟨n,hn,h1,h2,h3,h4⟩:=TK r
    rw [hn,Int.toNat_natCast]
    have ih:=fun(hlt:(r.drop n).length<f)=>zbJ f (r.drop n) { s with pos:=3,tails:=s.tails+1} hlt hc rfl hl
    rw [List.length_drop] at ih
    generalize zB r=x at *
    obtain⟨t,n',ok,e⟩:=x
    simp only at *
    by_cases c1:e=0
    · subst c1
      cases ok with
      |false=>simp [ChR.fg]
      | true=>
        have hpos:=h2 (.inl rfl)
        by_cases c3:t=[]
        · simp [c3,ChR.fg]
        · by_cases c4:s.tails=16
          · simp [c3,c4,ChR.fg]
          · by_cases c5:(zW t).2=0
            · simp only [c3,c4,c5,hp,ne_eq,not_true_eq_false,if_false,if_true,Bool.true_eq_false,show ¬ (3:Int)=4 by decide]
              exact ih (by omega)
            · simp [c3,c4,c5,ChR.fg]
    · simp [c1,ChR.fg]
theorem zbK: ∀ (f:Nat) (r:Str) (s:Ch),r.length<f→s.code=0→s.pos=0→s.ln=ln0→s.tails=0→wQ s r=(zhB f s.all r).fg
  |0,r,s,hf,_,_,_,_=>by omega
  | f + 1, r, s,hf,hc,hp,hl,ht=>by
    have hL: ∀ t,chL s t=(if(yZ t).2=false then(s,7) else if 4000 - s.all<(yZ t).1 then(s,4) else if(yZ t).1=0 then({ s with pos:=3},0) else({ s with pos:=1,left:=(yZ t).1},0)):=fun t=>by
      unfold chL
      rw [if_neg (by omega),if_pos hp]
    rw [Zb hc (.inl hp) hl,zhB,hL]
    obtain⟨n,hn,h1,h2,h3,h4⟩:=TK r
    rw [hn,Int.toNat_natCast]
    have hm0:=sD (zB r).1
    have hrl:(r.drop n).length=r.length - n:=List.length_drop
    generalize r.drop n=q at *
    generalize zB r=x at *
    obtain⟨t,n',ok,e⟩:=x
    simp only at *
    by_cases c1:e=0
    · subst c1
      cases ok with
      |false=>simp [ChR.fg]
      | true=>
        have hpos:=h2 (.inl rfl)
        by_cases c3:(yZ t).2=false
        · simp [c3,ChR.fg]
        by_cases c4:4000 - s.all<(yZ t).1
        · simp [c3,c4,ChR.fg]
        by_cases c5:(yZ t).1=0
        · have:=zbJ f q { s with pos:=3} (by omega) hc rfl hl
          rw [c5] at c4
          simp only [c3,c4,c5,ne_eq,not_true_eq_false,if_false,if_true,Bool.true_eq_false,show ¬ (3:Int)=4 by decide]
          rw [this]
          show(zd8 f s.tails q).fg=_
          rw [ht]
        generalize hsz:(yZ t).1=m at *
        obtain⟨k,rfl⟩: ∃ k:Nat,m=((k+1:Nat):Int):=⟨(m - 1).toNat,by omega⟩
        simp only [c3,c4,c5,ne_eq,not_true_eq_false,if_false,if_true,Bool.true_eq_false,show ¬ (1:Int)=4 by decide]
        rw [UE q { s with pos:=1,left:=((k+1:Nat):Int)} k hc rfl rfl,Int.toNat_natCast]
        by_cases c6:q.length<k+1
        · rw [if_pos c6,if_pos (by omega)];rfl
        rw [if_neg c6,if_neg (by omega),ChR.zjR]
        congr 1
        have hd:(q.drop (k+1)).length=q.length - (k+1):=List.length_drop
        generalize q.drop (k+1)=q2 at *
        rw [Zb (by exact hc) (.inr (.inl rfl)) (by exact hl),endR]
        obtain⟨n2,hn2,g1,g2,g3,g4⟩:=TK q2
        rw [hn2,Int.toNat_natCast]
        have ih:=fun(hlt:(q2.drop n2).length<f)=>zbK f (q2.drop n2) { s with pos:=0,left:=0,all:=s.all+((k+1:Nat):Int)} hlt hc rfl hl ht
        rw [List.length_drop] at ih
        unfold chL
        simp only [if_true]
        generalize zB q2=x2 at *
        obtain⟨t2,n2',ok2,e2⟩:=x2
        simp only at *
        by_cases d1:e2=0
        · subst d1
          cases ok2 with
          |false=>simp [ChR.fg]
          | true=>
            by_cases d3:t2=[]
            · simp only [d3,ne_eq,not_true_eq_false,if_false,if_true,Bool.true_eq_false,show ¬ (0:Int)=4 by decide]
              exact ih (by omega)
            · simp [d3,ChR.fg]
        · simp [d1,ChR.fg]
    · simp [c1,ChR.fg]
def xZ (b:Str):ChR:=zhB (b.length+1) 0 b
theorem Yw (b:Str):wQ ch0 b=(xZ b).fg:=zbK (b.length+1) b ch0 (Nat.lt_succ_self _) rfl rfl rfl rfl
theorem ChR.ziu {o o' rest:Str} {e:Int} {x:ChR} (h:x.pre o=.bad o' e rest): ∃ p,x=.bad p e rest∧o'=o++p:=by
  cases x<;>simp only [ChR.pre,ChR.bad.injEq,reduceCtorEq] at h
  obtain⟨rfl,rfl,rfl⟩:=h
  exact⟨_,rfl,rfl⟩
theorem ChR.zb2 {o o' rest:Str} {x:ChR} (h:x.pre o=.over o' rest): ∃ p,x=.over p rest∧o'=o++p:=by
  cases x<;>simp only [ChR.pre,ChR.over.injEq,reduceCtorEq] at h
  obtain⟨rfl,rfl⟩:=h
  exact⟨_,rfl,rfl⟩
theorem Y2: ∀ {r:Str} {s:Ch} {o rest:Str} {e:Int},wQ s r=.bad o e rest→rest.length<r.length∧e≠0
  |[],s,o,rest,e,h=>by cases h
  | c ::r,s,o,rest,e,h=>by
    rw [wQ] at h
    split at h
    · rename_i h0;cases h;exact⟨by simp,h0⟩
    split at h
    · cases h
    · obtain⟨p,h1,_⟩:=ChR.ziu h
      have:=Y2 h1
      exact⟨by rw [List.length_cons];omega,this.2⟩
theorem Zl: ∀ {r:Str} {s:Ch} {o rest:Str},wQ s r=.over o rest→rest.length<r.length
  |[],s,o,rest,h=>by cases h
  | c ::r,s,o,rest,h=>by
    rw [wQ] at h
    split at h
    · cases h
    split at h
    · cases h;simp
    · obtain⟨p,h1,_⟩:=ChR.zb2 h
      have:=Zl h1
      rw [List.length_cons];omega
def zgH (b:Str):ChR→Int
  |.more _ h=>(b.length:Int) - h
  |.over _ r=>(b.length:Int) - r.length
  |.bad _ _ r=>(b.length:Int) - r.length
def outR:ChR→Str
  |.more o _=>o
  |.over o _=>o
  |.bad o _ _=>o
def isR:ChR→Bool
  |.over _ _=>true
  |_=>false
def zf7:ChR→Int
  |.bad _ e _=>e
  |_=>0
theorem zcT {s:Ch} {c:UInt8}:(chF s c).2.1.length≤1∧((chF s c).2.2.2≠0→(chF s c).2.1=[])∧((chF s c).2.2.1=true→(chF s c).2.2.2=0∧(chF s c).2.1=[]∧(chF s c).1.pos=4∧(chF s c).1.code=0)∧((chF s c).2.2.2≠0→(chF s c).2.2.1=false∧(chF s c).1.code=(chF s c).2.2.2):=by
  unfold chF
  split
  · simp
  rename_i h0
  split
  · simp
  split
  · simp
  split
  · simp
  split
  · split
    · simp
    · refine⟨by simp,by simp,fun h=>⟨rfl,rfl,by simpa using h,?_⟩,fun h=>absurd rfl h⟩
      have: ∀ (x:Ch) (t:Str),x.code=0→(chL x t).1.code=0:=by
        intro x t hx
        unfold chL
        split
        · split<;>exact hx
        split
        · split
          · exact hx
          split
          · exact hx
          split<;>exact hx
        split
        · split
          · exact hx
          split<;>exact hx
        · exact hx
      exact this _ _ (by simpa using h0)
  · simp
end Go.Proofs.YtmibhbdfigpkmaaGreatDoor
namespace Go.Proofs.YtmibhbdfigpkmaaGreatDoor
open Go Go.Sep Go.Ab
set_option maxRecDepth 100000
theorem qp (c:UInt8): ∀ (s:Str) (i:Int),qJ [c] s i=if Lib.indexByte s c= -1 then -1 else i+Lib.indexByte s c
  |[],i=>by simp [qJ,Lib.indexByte,List.isPrefixOf]
  | x ::l,i=>by
    have ih:=qp c l (i+1)
    have hb:=xE l c
    have hp:([c]:Str).isPrefixOf (x::l)=(c == x):=by simp [List.isPrefixOf]
    rw [qJ,hp,ih,Lib.indexByte]
    by_cases h:x=c
    · subst h;simp
    · have h1:(c == x)=false:=by simpa using fun e=>h e.symm
      have h2:(x == c)=false:=by simpa using h
      simp only [h1,h2,Bool.false_eq_true,if_false]
      by_cases h3:Lib.indexByte l c= -1
      · simp [h3]
      · simp only [h3,beq_iff_eq,if_false]
        rw [if_neg (by omega)]
        omega
def sW (l:List Fld):Bool:=decide (100<l.length)||l.any fun f=>decide (1000<f.name.length+f.value.length)
theorem zjM (l:List Fld) (hneed: ∀ f ∈ l,f.name.length≤140737488355328∧f.value.length≤140737488355328):Spc Tryz.prog 7 [.v (.one (.p (.list .fld l)))] [] (.ret (.v (.one (.p (.bool (sW l)))))) []:=by
  generalize hr:sW l=r
  refine spcG zu mixed Tryz.func7 (by kernel_rfl) { keep:=some [0,2,3]} [] (by kernel_rfl) ?_
  intro I X hI hX
  refine zh (.br (I.ilt 100 (I.len (α:=Fld) l)) (.fin (.ret (.v (.one (.p (.bool Bool.true))))) []) (.code 0 [1,1,0,1,0] ⟨[(3,(.v (.one (.p (.int .i64 0))))),(2,(.v (.one (.p (.val (.bool .false)))))),(0,(.v (.one (.p (.list .fld l)))))],[],27,none⟩)) (by kernel_rfl) ?_
  simp only [zC]
  refine⟨fun c1=> ?_,fun c1=> ?_⟩
  · subst hI
    simp only [nrmA,nrmB] at c1
    simp only [nrmA,nrmB]
    rw [← hr,sW,decide_eq_true (by omega),Bool.true_or]
  have hl:l.length≤100:=by
    subst hI
    simp only [nrmA,nrmB] at c1
    omega
  have hr2:(l.any fun f=>decide (1000<f.name.length+f.value.length))=r:=by rw [← hr,sW,decide_eq_false (by omega),Bool.false_or]
  refine yw hI zu mixed [] hX [0,3] (fun(i:Nat)=>i≤l.length∧((l.drop i).any fun f=>decide (1000<f.name.length+f.value.length))=r) (fun(i:Nat)=>⟨[(0,.v (.one (.p (.list .fld l)))),(3,.v (.one (.p (.int .i64 i))))],[],27,none⟩) (fun(i:Nat)=>l.length - i) 0 (by kernel_rfl) (by kernel_rfl) ?_ ?_
  · exact⟨Nat.zero_le _,hr2⟩
  rintro i ⟨h1,h2⟩ A hA
  refine zh (let y0:=I.add (I.len (α:=UInt8) (Fld.name (I.get (α:=Fld) l (Fld.mk ([]:Str) ([]:Str)) (Nat.cast i)))) (I.len (α:=UInt8) (Fld.value (I.get (α:=Fld) l (Fld.mk ([]:Str) ([]:Str)) (Nat.cast i))));let y1:=I.inb (Nat.cast i) (I.len (α:=Fld) l);.br (I.ilt (Nat.cast i) (I.len (α:=Fld) l)) (.need y1 (.need y1 (.need y1 (.need y1 (.need (I.inr Go.IntKind.i64 y0) (.br (I.ilt 1000 y0) (.fin (.ret (.v (.one (.p (.bool Bool.true))))) []) (.need (I.inr Go.IntKind.i64 (I.add (Nat.cast i) 1)) (.need (A ⟨[(0,(.v (.one (.p (.list .fld l))))),(3,(.v (.one (.p (.int .i64 (I.add (Nat.cast i) 1))))))],[],27,none⟩) .qed)))))))) (.fin (.ret (.v (.one (.p (.bool Bool.false))))) [])) (by kernel_rfl) ?_
  simp only [zC]
  subst hI
  simp only [nrmA,nrmB]
  have hd:i<l.length→((l.drop i).any fun f=>decide (1000<f.name.length+f.value.length))=(decide (1000<(l.getD i ⟨[],[]⟩).name.length+(l.getD i ⟨[],[]⟩).value.length)||((l.drop (i+1)).any fun f=>decide (1000<f.name.length+f.value.length))):=fun h=>by
    rw [List.drop_eq_getElem_cons h,List.any_cons];simp [h]
  have hxl:i<l.length→(l.getD i ⟨[],[]⟩).name.length≤140737488355328∧(l.getD i ⟨[],[]⟩).value.length≤140737488355328:=fun h=>hneed _ (by
    rw [show l.getD i ⟨[],[]⟩=l[i] by simp [h]]
    exact List.getElem_mem h)
  generalize l.getD i ⟨[],[]⟩=x at *
  (repeat' (first|refine And.intro ?_ ?_|intro _))<;>first|omega|exact True.intro|exact False.elim ‹False›|skip
  all_goals first
    |(have:=hxl (by omega);omega)
    |(rw [← h2,hd (by omega),decide_eq_true (by omega),Bool.true_or])
    |(refine hA (i+1) ⟨by omega,?_⟩ (by omega);rw [← h2,hd (by omega),decide_eq_false (by omega),Bool.false_or])
    |(rw [← h2,List.drop_of_length_le (by omega)];rfl)
def XP (I:Alg) (args:List D) (hp:List HO):Option CT:=match args,hp with
  |[.v (.one (.p (.list .fld l)))],[]=>(fun(l:List Fld)=>(some (.one ⟨I.hid (∀ f ∈ l,f.name.length≤140737488355328∧f.value.length≤140737488355328),(.ret (.v (.one (.p (.bool (I.hid (sW l))))))),[]⟩):Option CT)) l
  |_,_=>none
theorem zcx:zI Tryz.prog 7 (XP alg):=by
  intro args hp r h
  unfold XP at h
  split at h
  · cases h;exact fun hn=>zjM _ hn
  · cases h
def TV:Know Tryz.prog:=⟨7,XP,zcx⟩
def TU:Know Tryz.prog:=⟨7,fun I=>zK I (XP I),zf zcx⟩
end Go.Proofs.YtmibhbdfigpkmaaGreatDoor
namespace Go.Proofs.YtmibhbdfigpkmaaGreatDoor
open Go Go.Sep Go.Ab
set_option maxRecDepth 100000
end Go.Proofs.YtmibhbdfigpkmaaGreatDoor
namespace Go.Proofs.YtmibhbdfigpkmaaGreatDoor
open Go Go.Sep Go.Ab
set_option maxRecDepth 100000
def valsF (l:List Fld) (n:Str):List Str:=(l.filter fun f=>decide (lowS f.name=lowS n)).map (·.value)
theorem zkt (l:List Fld) (n:Str) (hneed:l.length≤1000∧n.length≤1000000∧∀ f ∈ l,f.name.length≤1000000∧f.value.length≤1000000):Spc Tryz.prog 36 [.v (.one (.p (.list .fld l))),.v (.one (.p (.str n)))] [] (.ret (.v (.one (.row 0)))) [.row .str 9 ((valsF l n))]:=by
  refine spcG zu mixed Tryz.func36 (by kernel_rfl) { nr:=[5],keep:=some [0,1,4,5,7,8,9,10]} [Ye,Yd] (by kernel_rfl) ?_
  intro I X hI hX
  refine zh (.code 0 [1,1,0,1,0] ⟨[(10,(.v (.one (.p (.int .i64 0))))),(9,(.v (.one (.p (.int .i64 (I.len (α:=Fld) l)))))),(8,(.v (.one (.p (.list .fld l))))),(5,(.v (.one (.row 0)))),(4,(.v (.one .nilS))),(0,(.v (.one (.p (.list .fld l))))),(1,(.v (.one (.p (.str n)))))],[(.row .str 9 ([]:List (Str)))],27,none⟩) (by kernel_rfl) ?_
  simp only [zC]
  refine yw hI zu mixed [Ye,Yd] hX [0,1,5,8,9,10] (fun(g:Nat × List Str)=>match g with|(i,o)=>i≤l.length∧o=valsF (l.take i) n) (fun(g:Nat × List Str)=>match g with|(i,o)=>⟨[(0,.v (.one (.p (.list .fld l)))),(1,.v (.one (.p (.str n)))),(5,.v (.one (.row 0))),(8,.v (.one (.p (.list .fld l)))),(9,.v (.one (.p (.int .i64 ((I.len (α:=Fld) l)))))),(10,.v (.one (.p (.int .i64 i))))],[.row .str 9 o],27,none⟩) (fun(g:Nat × List Str)=>match g with|(i,o)=>l.length - i) (0,[]) (by kernel_rfl) (by kernel_rfl) ?_ ?_
  · exact⟨Nat.zero_le _,rfl⟩
  rintro⟨i,o⟩ ⟨h1,h2⟩ A hA
  simp only at hA
  refine zh (let y0:=I.get (α:=Fld) l (Fld.mk ([]:Str) ([]:Str)) (Nat.cast i);let y1:=I.inr Go.IntKind.i64 (I.add (Nat.cast i) 1);let y2:=I.inb (Nat.cast i) (I.len (α:=Fld) l);.br (I.ilt (Nat.cast i) (I.len (α:=Fld) l)) (.need y2 (.need y2 (.need (I.hid (α:=(Prop)) (LE.le (List.length (Fld.name y0)) 1000000)) (.need (I.hid (α:=(Prop)) (LE.le (List.length n) 1000000)) (.br (I.seq (I.hid (α:=Str) (lowS (Fld.name y0))) (I.hid (α:=Str) (lowS n))) (.need (I.few (I.add (I.len (α:=Str) o) (I.len (α:=Str) ([(Fld.value y0)]:List (Str)))) 100000000) (.need y1 (.need (A ⟨[(0,(.v (.one (.p (.list .fld l))))),(1,(.v (.one (.p (.str n))))),(5,(.v (.one (.row 0)))),(8,(.v (.one (.p (.list .fld l))))),(9,(.v (.one (.p (.int .i64 (I.len (α:=Fld) l)))))),(10,(.v (.one (.p (.int .i64 (I.add (Nat.cast i) 1))))))],[(.row .str 9 (I.app (α:=Str) o ([(Fld.value y0)]:List (Str))))],27,none⟩) .qed))) (.need y1 (.need (A ⟨[(0,(.v (.one (.p (.list .fld l))))),(1,(.v (.one (.p (.str n))))),(5,(.v (.one (.row 0)))),(8,(.v (.one (.p (.list .fld l))))),(9,(.v (.one (.p (.int .i64 (I.len (α:=Fld) l)))))),(10,(.v (.one (.p (.int .i64 (I.add (Nat.cast i) 1))))))],[(.row .str 9 o)],27,none⟩) .qed))))))) (.fin (.ret (.v (.one (.row 0)))) [(.row .str 9 o)])) (by kernel_rfl) ?_
  simp only [zC]
  subst hI
  simp only [nrmA,nrmB]
  have hx:i<l.length→(l.getD i ⟨[],[]⟩) ∈ l:=fun h=>by rw [show l.getD i ⟨[],[]⟩=l[i] by simp [h]];exact List.getElem_mem h
  have hs:i<l.length→valsF (l.take (i+1)) n=if lowS (l.getD i ⟨[],[]⟩).name=lowS n then o++[(l.getD i ⟨[],[]⟩).value] else o:=fun h=>by
    rw [show l.getD i ⟨[],[]⟩=l[i] by simp [h],List.take_succ_eq_append_getElem h,h2]
    unfold valsF
    rw [List.filter_append,List.map_append]
    by_cases hc:lowS l[i].name=lowS n<;>simp [hc]
  have hol:o.length≤i:=by
    rw [h2]
    unfold valsF
    rw [List.length_map]
    exact Nat.le_trans (List.length_filter_le _ _) (by rw [List.length_take];omega)
  have hn:=fun h=>hneed.2.2 _ (hx h)
  generalize l.getD i ⟨[],[]⟩=x at *
  simp only [List.length_cons,List.length_nil]
  (repeat' (first|refine And.intro ?_ ?_|intro _))<;>first|omega|exact True.intro|exact False.elim ‹False›|skip
  all_goals first
    |(have:=hn (by omega);omega)
    |exact hA (i+1,_) ⟨by simp only;omega,by simp only;rw [hs (by omega),if_pos (by assumption)]⟩ (by simp only;omega)
    |exact hA (i+1,_) ⟨by simp only;omega,by simp only;rw [hs (by omega),if_neg (by assumption)]⟩ (by simp only;omega)
    |(rw [h2,List.take_of_length_le (by omega)])
def Sl (I:Alg) (args:List D) (hp:List HO):Option CT:=match args,hp with
  |[.v (.one (.p (.list .fld l))),.v (.one (.p (.str n)))],[]=>(fun(l:List Fld) (n:Str)=>(some (.one ⟨I.hid (l.length≤1000∧n.length≤1000000∧∀ f ∈ l,f.name.length≤1000000∧f.value.length≤1000000),(.ret (.v (.one (.row 0)))),[.row .str 9 (I.hid ((valsF l n)))]⟩):Option CT)) l n
  |_,_=>none
theorem zfS:zI Tryz.prog 36 (Sl alg):=by
  intro args hp r h
  unfold Sl at h
  split at h
  · cases h;exact fun hn=>zkt _ _ hn
  · cases h
def qZ:Know Tryz.prog:=⟨36,Sl,zfS⟩
def qY:Know Tryz.prog:=⟨36,fun I=>zK I (Sl I),zf zfS⟩
end Go.Proofs.YtmibhbdfigpkmaaGreatDoor
namespace Go.Proofs.YtmibhbdfigpkmaaGreatDoor
open Go Go.Sep Go.Ab
set_option maxRecDepth 100000
def oneF (l:List Str):Str × Int:=if l.length=0 then([],10) else if l.length=1 then(l.getD 0 [],0) else([],9)
theorem zks (l:List Fld) (n:Str) (hneed:l.length≤1000∧n.length≤1000000∧∀ f ∈ l,f.name.length≤1000000∧f.value.length≤1000000):Spc Tryz.prog 37 [.v (.one (.p (.list .fld l))),.v (.one (.p (.str n)))] [] (.ret (.tup [(.one (.p (.str ((oneF (valsF l n)).1)))),(.one (.p (.int .i64 ((oneF (valsF l n)).2))))])) []:=by
  generalize hr:oneF (valsF l n)=r
  obtain⟨a,d⟩:=r
  refine spcG zu mixed Tryz.func37 (by kernel_rfl) { keep:=some [0,1,4,5,6,11]} [qZ,qY] (by kernel_rfl) ?_
  intro I X hI hX
  refine zh (let y0:=I.len (α:=Str) (I.hid (α:=(List (Str))) (valsF l n));.need (I.hid (α:=(Prop)) (And (LE.le (List.length l) 1000) (And (LE.le (List.length n) 1000000) (∀ (f:Fld),f ∈ l→List.length f.name≤1000000∧List.length f.value≤1000000)))) (.br (I.ieq y0 0) (.fin (.ret (.tup [(.one (.p (.str ([]:Str)))),(.one (.p (.int .i64 10)))])) []) (.br (I.ieq y0 1) (.need (I.inb 0 y0) (.need (I.inb 0 y0) (.fin (.ret (.tup [(.one (.p (.str (I.get (α:=Str) (I.hid (α:=(List (Str))) (valsF l n)) ([]:Str) 0)))),(.one (.p (.int .i64 0)))])) []))) (.fin (.ret (.tup [(.one (.p (.str ([]:Str)))),(.one (.p (.int .i64 9)))])) [])))) (by kernel_rfl) ?_
  simp only [zC]
  subst hI
  simp only [nrmA,nrmB]
  unfold oneF at hr
  (repeat' (first|refine And.intro ?_ ?_|intro _))<;>first|omega|exact True.intro|exact False.elim ‹False›|skip
  all_goals first
    |assumption
    |exact(hneed.2.2 _ (by assumption)).1
    |exact(hneed.2.2 _ (by assumption)).2
    |(rw [if_pos (by omega)] at hr;cases hr;rfl)
    |(rw [if_neg (by omega),if_pos (by omega)] at hr;cases hr;rfl)
    |(rw [if_neg (by omega),if_neg (by omega)] at hr;cases hr;rfl)
def Sj (I:Alg) (args:List D) (hp:List HO):Option CT:=match args,hp with
  |[.v (.one (.p (.list .fld l))),.v (.one (.p (.str n)))],[]=>(fun(l:List Fld) (n:Str)=>(some (.one ⟨I.hid (l.length≤1000∧n.length≤1000000∧∀ f ∈ l,f.name.length≤1000000∧f.value.length≤1000000),(.ret (.tup [(.one (.p (.str (I.hid ((oneF (valsF l n)).1))))),(.one (.p (.int .i64 (I.hid ((oneF (valsF l n)).2)))))])),[]⟩):Option CT)) l n
  |_,_=>none
theorem zfR:zI Tryz.prog 37 (Sj alg):=by
  intro args hp r h
  unfold Sj at h
  split at h
  · cases h;exact fun hn=>zks _ _ hn
  · cases h
def YQ:Know Tryz.prog:=⟨37,Sj,zfR⟩
def YP:Know Tryz.prog:=⟨37,fun I=>zK I (Sj I),zf zfR⟩
end Go.Proofs.YtmibhbdfigpkmaaGreatDoor
namespace Go.Proofs.YtmibhbdfigpkmaaGreatDoor
open Go Go.Sep Go.Ab
def hd0:Hd:=⟨[],[],0,[],0⟩
def prt0:Prt:=⟨[],[],[],[]⟩
def evH (h:Hd):Evt:=⟨1,h,[],prt0,0⟩
def evB (b:Str):Evt:=⟨2,hd0,b,prt0,0⟩
def evE:Evt:=⟨3,hd0,[],prt0,0⟩
def evF (c:Int):Evt:=⟨4,hd0,[],prt0,c⟩
def zL:Str→List Str
  |[]=>[[]]
  |c::r=>if c=32 then []::zL r else(match zL r with|[]=>[[c]]|w::ws=>(c::w)::ws)
theorem VR (s:Str):zL s≠[]:=by
  cases s with
  |nil=>simp [zL]
  | cons c r=>
    simp only [zL]
    split
    · simp
    · split<;>simp
def vF:Str:=[72,84,84,80,47,49,46,49]
def ZV:Str:=[72,84,84,80,47,49,46,48]
def begM (s:Str):Int × Hd:=
  match zL s with
  | [a,b,c]=>
    if yU a=false then(6,hd0)
    else if b.head?≠some 47∨b.contains 9=true then(5,hd0)
    else if c=vF then(0,⟨a,b,1,[],0⟩)
    else if c=ZV then(0,⟨a,b,0,[],0⟩)
    else(11,⟨a,b,0,[],0⟩)
  |_=>(5,hd0)
def uQ:Str:=[104,111,115,116]
def wX:Str:=[99,111,110,116,101,110,116,45,108,101,110,103,116,104]
def qC:Str:=[116,114,97,110,115,102,101,114,45,101,110,99,111,100,105,110,103]
def XW:Str:=[99,104,117,110,107,101,100]
def sizM (z0:Str) (n:Int):List Str→Int × Int
  |[]=>(n,0)
  |s::r=>if(numA s 10 9).2=false then(0,7) else if s≠z0 then(0,12) else sizM z0 (numA s 10 9).1 r
def lenM (mi:Int) (f:List Fld):Int × Int:=
  if valsF f qC≠[] then
    if valsF f wX≠[]∨mi=0 then(0,12)
    else if 1<(valsF f qC).length∨lowS ((valsF f qC).getD 0 [])≠XW then(0,11)
    else(-1,0)
  else if(sizM ((valsF f wX).getD 0 []) 0 (valsF f wX)).2≠0 then(0,(sizM ((valsF f wX).getD 0 []) 0 (valsF f wX)).2)
  else if 4000<(sizM ((valsF f wX).getD 0 []) 0 (valsF f wX)).1 then(0,4)
  else((sizM ((valsF f wX).getD 0 []) 0 (valsF f wX)).1,0)
def za1 (mi:Int) (f:List Fld):Bool:=decide ((oneF (valsF f uQ)).2=9)||(decide ((oneF (valsF f uQ)).2=10)&&decide (mi=1))
def lenH (h:Hd):Int × Int:=if za1 h.minor h.fields=true then(0,13) else lenM h.minor h.fields
def zjj (q:Rq) (e:Evt):Rq:= { q with out:=q.out++[e]}
def zX (q:Rq) (c:Int):Rq:= { q with pos:=4,out:=q.out++[evF c]}
def yP (q:Rq):Rq:= { q with out:=q.out++[evE],pos:=0,h:=hd0,own:=true}
def zV (q:Rq):Rq × Int:=
  if za1 q.h.minor q.h.fields=true then(q,13)
  else if(lenM q.h.minor q.h.fields).2≠0 then({ q with own:=false},(lenM q.h.minor q.h.fields).2)
  else if(lenM q.h.minor q.h.fields).1=0 then(yP { q with h:= { q.h with length:=0},own:=false,out:=q.out++[evH { q.h with length:=0}]},0)
  else if 0<(lenM q.h.minor q.h.fields).1 then({ q with h:= { q.h with length:=(lenM q.h.minor q.h.fields).1},own:=false,out:=q.out++[evH { q.h with length:=(lenM q.h.minor q.h.fields).1}],pos:=2,left:=(lenM q.h.minor q.h.fields).1},0)
  else({ q with h:= { q.h with length:=(lenM q.h.minor q.h.fields).1},own:=false,out:=q.out++[evH { q.h with length:=(lenM q.h.minor q.h.fields).1}],pos:=3,ck:=some ch0},0)
def zG (q:Rq) (s:Str):Rq × Int:=
  if q.pos=0 then
    if s=[] then(q,0)
    else if(begM s).1=0 then({ q with h:=(begM s).2,pos:=1},0)
    else if(begM s).1=11 then({ q with h:=(begM s).2},11)
    else(q,(begM s).1)
  else if s=[] then zV q
  else if q.h.fields.length=16 then(q,8)
  else({ q with h:= { q.h with fields:=q.h.fields++[(zW s).1]}},(zW s).2)
def ckOf (q:Rq):Ch:=match q.ck with|some c=>c|none=>ch0
def rqF (q:Rq) (c:UInt8):Rq:=
  if q.pos=2 then
    if q.left - 1=0 then yP { q with out:=q.out++[evB [c]],left:=0} else { q with out:=q.out++[evB [c]],left:=q.left - 1}
  else if q.pos=3 then
    if(chF (ckOf q) c).2.2.2≠0 then zX { q with ck:=some (chF (ckOf q) c).1} (chF (ckOf q) c).2.2.2
    else if(chF (ckOf q) c).2.2.1=true then yP { q with ck:=some (chF (ckOf q) c).1,out:=if(chF (ckOf q) c).2.1≠[] then q.out++[evB (chF (ckOf q) c).2.1] else q.out}
    else { q with ck:=some (chF (ckOf q) c).1,out:=if(chF (ckOf q) c).2.1≠[] then q.out++[evB (chF (ckOf q) c).2.1] else q.out}
  else if q.pos=0∨q.pos=1 then
    if(lnF q.ln c).2.2.2≠0 then zX { q with ln:=(lnF q.ln c).1} (lnF q.ln c).2.2.2
    else if(lnF q.ln c).2.2.1=true then
      if(zG { q with ln:=(lnF q.ln c).1} (lnF q.ln c).2.1).2≠0 then zX (zG { q with ln:=(lnF q.ln c).1} (lnF q.ln c).2.1).1 (zG { q with ln:=(lnF q.ln c).1} (lnF q.ln c).2.1).2
      else(zG { q with ln:=(lnF q.ln c).1} (lnF q.ln c).2.1).1
    else { q with ln:=(lnF q.ln c).1}
  else q
def rq0:Rq:=⟨ln0,0,hd0,0,none,true,[]⟩
def yE (q:Rq) (b:Str):Rq:=b.foldl rqF q
def xU (out:List Evt) (e:Evt):List Evt:=
  match out.getLast? with
  |some x=>if e.kind=2∧x.kind=2 then out.dropLast++[evB (x.bytes++e.bytes)] else out++[e]
  |none=>out++[e]
def zD (l:List Evt):List Evt:=l.foldl xU []
def zF (q:Rq) (b:Str):Rq:=yE { q with out:=[]} b
def xH (q:Rq):Bool:=decide (q.pos≠4)&&(decide (q.pos≠0)||lnB q.ln)
end Go.Proofs.YtmibhbdfigpkmaaGreatDoor
namespace Go.Proofs.YtmibhbdfigpkmaaGreatDoor
open Go Go.Sep Go.Ab
theorem yC (z:List Evt) (x e:Evt):xU (z++[x]) e=if e.kind=2∧x.kind=2 then z++[evB (x.bytes++e.bytes)] else z++[x]++[e]:=by
  unfold xU
  simp
theorem uz (e:Evt):xU [] e=[e]:=rfl
theorem zdD (X a:List Evt) (e:Evt):(xU X e).foldl xU a=xU (X.foldl xU a) e:=by
  rcases List.eq_nil_or_concat X with rfl|⟨Y,x,rfl⟩
  · rfl
  · rw [List.concat_eq_append,yC]
    split
    · rename_i h
      obtain⟨he,hx⟩:=h
      simp only [List.foldl_append,List.foldl_cons,List.foldl_nil]
      generalize Y.foldl xU a=Z
      rcases List.eq_nil_or_concat Z with rfl|⟨W,z,rfl⟩
      · rw [uz,uz]
        have:=yC [] x e
        simp only [List.nil_append] at this
        rw [this,if_pos ⟨he,hx⟩]
      · rw [List.concat_eq_append,yC,yC]
        by_cases hz:z.kind=2
        · rw [if_pos ⟨rfl,hz⟩,if_pos ⟨hx,hz⟩,yC,if_pos ⟨he,rfl⟩]
          simp [evB]
        · rw [if_neg (fun h=>hz h.2),if_neg (fun h=>hz h.2),yC,if_pos ⟨he,hx⟩]
    · simp only [List.foldl_append,List.foldl_cons,List.foldl_nil]
theorem join_join (b a:List Evt):(zD b).foldl xU a=b.foldl xU a:=by
  unfold zD
  suffices ∀ (l c:List Evt),(l.foldl xU c).foldl xU a=l.foldl xU (c.foldl xU a) by simpa using this b []
  intro l
  induction l with
  |nil=>intro c;rfl
  |cons e r ih=>intro c;rw [List.foldl_cons,ih,zdD];rfl
theorem QF (a b:List Evt):zD (a++zD b)=zD (a++b):=by
  unfold zD
  rw [List.foldl_append,List.foldl_append]
  exact join_join b _
theorem Un (a b:List Evt):zD (zD a++b)=zD (a++b):=by
  have h:zD (zD a)=zD a:=QF [] a
  unfold zD at *
  rw [List.foldl_append,List.foldl_append,h]
def sJ (o:List Evt) (q:Rq):Rq:= { q with out:=o++q.out}
theorem zdl (o:List Evt) (q:Rq):zV (sJ o q)=(sJ o (zV q).1,(zV q).2):=by
  unfold zV sJ yP
  simp only
  repeat' split
  all_goals simp
theorem zdh (o:List Evt) (q:Rq) (s:Str):zG (sJ o q) s=(sJ o (zG q s).1,(zG q s).2):=by
  unfold zG
  simp only [zdl]
  have e1:(sJ o q).pos=q.pos:=rfl
  have e2:(sJ o q).h=q.h:=rfl
  rw [e1,e2]
  repeat' split
  all_goals rfl
theorem zij (o:List Evt) (q:Rq) (c:UInt8):rqF (sJ o q) c=sJ o (rqF q c):=by
  obtain⟨ln,p,h,n,ck,own,out⟩:=q
  have hl: ∀ (l:Ln) (s:Str),zG ⟨l,p,h,n,ck,own,o++out⟩ s=(sJ o (zG ⟨l,p,h,n,ck,own,out⟩ s).1,(zG ⟨l,p,h,n,ck,own,out⟩ s).2):=fun l s=>zdh o ⟨l,p,h,n,ck,own,out⟩ s
  have hc:ckOf ⟨ln,p,h,n,ck,own,o++out⟩=ckOf ⟨ln,p,h,n,ck,own,out⟩:=rfl
  show rqF ⟨ln,p,h,n,ck,own,o++out⟩ c=_
  unfold rqF
  simp only [hl,hc]
  repeat' split
  all_goals first
    |rfl
    |(simp [sJ,yP,zX];done)
theorem zeq (o:List Evt) (b:Str): ∀ (q:Rq),yE (sJ o q) b=sJ o (yE q b):=by
  induction b with
  |nil=>intro q;rfl
  |cons c r ih=>intro q;show yE (rqF (sJ o q) c) r=_;rw [zij];exact ih _
theorem zer (q:Rq) (a b:Str):yE q (a++b)=yE (yE q a) b:=List.foldl_append
def x9 (q:Rq):Rq:= { q with out:=[]}
theorem zdi (q:Rq) (a b:Str):x9 (zF (zF q a) b)=x9 (zF q (a++b))∧(zF q (a++b)).out=(zF q a).out++(zF (zF q a) b).out:=by
  have h1:zF q (a++b)=yE (zF q a) b:=zer _ a b
  have h2:zF q a=sJ (zF q a).out (x9 (zF q a)):=by
    unfold sJ x9;simp
  have h3:yE (zF q a) b=sJ (zF q a).out (zF (zF q a) b):=by
    conv=>lhs;rw [h2]
    rw [zeq];rfl
  rw [h1,h3]
  exact⟨rfl,rfl⟩
end Go.Proofs.YtmibhbdfigpkmaaGreatDoor
namespace Go.Proofs.YtmibhbdfigpkmaaGreatDoor
open Go Go.Sep Go.Ab
set_option maxRecDepth 100000
def zhy:Cfg:= { sl:=[⟨82,0,.byte,some 5⟩]}
theorem zjB:Spc Tryz.prog 21 [] [] (.ret (.v (.one (.ptr 0 0)))) [.pack [.obj 82 [(.row 1),(.p (.bool false)),(.p (.int .i64 0))],.row .byte 5 ([])]]:=by
  refine spcG zu mixed Tryz.func21 (by kernel_rfl) { zhy with keep:=some [0]} [] (by kernel_rfl) ?_
  intro I X hI hX
  refine zh (.fin (.ret (.v (.one (.ptr 0 0)))) [(.pack [(.obj 82 [(.row 1),(.p (.bool Bool.false)),(.p (.int .i64 0))]),(.row .byte 5 ([]:Str))])]) (by kernel_rfl) ?_
  simp only [zC]
  trivial
def XL (I:Alg) (args:List D) (hp:List HO):Option CT:=match args,hp with
  |[],[]=>(fun(_:Unit)=>(some (.one ⟨I.hid (True),(.ret (.v (.one (.ptr 0 0)))),[.pack [.obj 82 [(.row 1),(.p (.bool false)),(.p (.int .i64 0))],.row .byte 5 (I.hid ([]))]]⟩):Option CT)) ()
  |_,_=>none
theorem zck:zI Tryz.prog 21 (XL alg):=by
  intro args hp r h
  unfold XL at h
  split at h
  · cases h;exact fun hn=>zjB
  · cases h
def zcj:Know Tryz.prog:=⟨21,XL,zck⟩
def zci:Know Tryz.prog:=⟨21,fun I=>zK I (XL I),zf zck⟩
theorem ziG (b:Str) (cr:Bool) (code c:Int):Spc Tryz.prog 69 [.v (.one (.ptr 0 0)),.v (.one (.p (.int .i64 c)))] [.pack [.obj 82 [(.row 1),(.p (.bool cr)),(.p (.int .i64 code))],.row .byte 5 b]] (.ret (.tup [(.one (.p (.str ([])))),(.one (.p (.bool false))),(.one (.p (.int .i64 c)))])) [.pack [.obj 82 [(.row 1),(.p (.bool cr)),(.p (.int .i64 c))],.row .byte 5 b]]:=by
  refine spcG zu mixed Tryz.func69 (by kernel_rfl) { zhy with keep:=some [0,1,4,5,6]} [] (by kernel_rfl) ?_
  intro I X hI hX
  refine zh (.fin (.ret (.tup [(.one (.p (.str ([]:Str)))),(.one (.p (.bool Bool.false))),(.one (.p (.int .i64 c)))])) [(.pack [(.obj 82 [(.row 1),(.p (.bool cr)),(.p (.int .i64 c))]),(.row .byte 5 b)])]) (by kernel_rfl) ?_
  simp only [zC]
  subst hI
  simp only [nrmA,nrmB,nrlB,reduceCtorEq,HO.pack.injEq,HO.obj.injEq]
  try trivial
def ZN (I:Alg) (args:List D) (hp:List HO):Option CT:=match args,hp with
  |[.v (.one (.ptr 0 0)),.v (.one (.p (.int .i64 c)))],[.pack [.obj 82 [(.row 1),(.p (.bool cr)),(.p (.int .i64 code))],.row .byte 5 b]]=>(fun(b:Str) (cr:Bool) (code c:Int)=>(some (.one ⟨I.hid (True),(.ret (.tup [(.one (.p (.str (I.hid ([]))))),(.one (.p (.bool false))),(.one (.p (.int .i64 c)))])),[.pack [.obj 82 [(.row 1),(.p (.bool cr)),(.p (.int .i64 c))],.row .byte 5 b]]⟩):Option CT)) b cr code c
  |_,_=>none
theorem Qy:zI Tryz.prog 69 (ZN alg):=by
  intro args hp r h
  unfold ZN at h
  split at h
  · cases h;exact fun hn=>ziG _ _ _ _
  · cases h
def zfv:Know Tryz.prog:=⟨69,ZN,Qy⟩
def zfu:Know Tryz.prog:=⟨69,fun I=>zK I (ZN I),zf Qy⟩
set_option maxHeartbeats 4000000 in
theorem ziF (b:Str) (cr:Bool) (code k:Int) (hneed:0≤k∧k≤255∧b.length≤1000000):Spc Tryz.prog 49 [.v (.one (.ptr 0 0)),.v (.one (.p (.int .u8 k)))] [.pack [.obj 82 [(.row 1),(.p (.bool cr)),(.p (.int .i64 code))],.row .byte 5 b]] (.ret (.tup [(.one (.p (.str ((lnF ⟨b,cr,code⟩ (UInt8.ofNat k.toNat)).2.1)))),(.one (.p (.bool ((lnF ⟨b,cr,code⟩ (UInt8.ofNat k.toNat)).2.2.1)))),(.one (.p (.int .i64 ((lnF ⟨b,cr,code⟩ (UInt8.ofNat k.toNat)).2.2.2))))])) [.pack [.obj 82 [(.row 1),(.p (.bool ((lnF ⟨b,cr,code⟩ (UInt8.ofNat k.toNat)).1.cr))),(.p (.int .i64 ((lnF ⟨b,cr,code⟩ (UInt8.ofNat k.toNat)).1.code)))],.row .byte 5 ((lnF ⟨b,cr,code⟩ (UInt8.ofNat k.toNat)).1.b)]]:=by
  obtain⟨hk0,hk1,hbl⟩:=hneed
  have hkk:((UInt8.ofNat k.toNat).toNat:Int)=k:=by rw [UInt8.toNat_ofNat',Nat.mod_eq_of_lt (by omega)];omega
  generalize hr:lnF ⟨b,cr,code⟩ (UInt8.ofNat k.toNat)=r
  have h10:UInt8.ofNat k.toNat=10↔k=10:=⟨fun h=>by rw [h] at hkk;exact hkk.symm,fun h=>by subst h;rfl⟩
  have h13:UInt8.ofNat k.toNat=13↔k=13:=⟨fun h=>by rw [h] at hkk;exact hkk.symm,fun h=>by subst h;rfl⟩
  unfold lnF zek at hr
  rw [hkk] at hr
  simp only [h10,h13] at hr
  obtain⟨⟨rb,rc,rcode⟩,rt,ro,re⟩:=r
  refine spcG zu mixed Tryz.func49 (by kernel_rfl) { zhy with nr:=[8],keep:=some [0,1,4,5,6,7]} [rF,VP,zfv,zfu] (by kernel_rfl) ?_
  intro I X hI hX
  refine zh (let y0:HO:=.pack [(.obj 82 [(.row 1),(.p (.bool cr)),(.p (.int .i64 code))]),(.row .byte 5 (I.app (α:=UInt8) b ([(I.i2b k)]:Str)))];let y1:HO:=.pack [(.obj 82 [(.row 1),(.p (.bool Bool.false)),(.p (.int .i64 code))]),(.row .byte 5 ([]:Str))];let y2:=I.few (I.add (I.len (α:=UInt8) b) (I.len (α:=UInt8) ([(I.i2b k)]:Str))) 140737488355328;let y3:HO:=.pack [(.obj 82 [(.row 1),(.p (.bool Bool.true)),(.p (.int .i64 code))]),(.row .byte 5 b)];let y4:HO:=.pack [(.obj 82 [(.row 1),(.p (.bool cr)),(.p (.int .i64 3))]),(.row .byte 5 b)];let y5:HO:=.pack [(.obj 82 [(.row 1),(.p (.bool cr)),(.p (.int .i64 4))]),(.row .byte 5 b)];let y6:HO:=.pack [(.obj 82 [(.row 1),(.p (.bool cr)),(.p (.int .i64 2))]),(.row .byte 5 b)];let y7:=I.bnot (I.hid (α:=Bool) (Zg k));let y8:=I.ieq (I.len (α:=UInt8) b) 200;.br (I.bnot (I.ieq code 0)) (.fin (.ret (.tup [(.one (.p (.str ([]:Str)))),(.one (.p (.bool Bool.false))),(.one (.p (.int .i64 code)))])) [(.pack [(.obj 82 [(.row 1),(.p (.bool cr)),(.p (.int .i64 code))]),(.row .byte 5 b)])]) (.br cr (.br (I.bnot (I.ieq k 10)) (.need (I.hid (α:=(Prop)) True) (.fin (.ret (.tup [(.one (.p (.str (I.hid (α:=Str) ([]:Str))))),(.one (.p (.bool Bool.false))),(.one (.p (.int .i64 2)))])) [y6])) (.br (I.bnot cr) (.br (I.ieq k 10) (.need (I.hid (α:=(Prop)) True) (.fin (.ret (.tup [(.one (.p (.str (I.hid (α:=Str) ([]:Str))))),(.one (.p (.bool Bool.false))),(.one (.p (.int .i64 2)))])) [y6])) (.br cr (.fin (.ret (.tup [(.one (.p (.str b))),(.one (.p (.bool Bool.true))),(.one (.p (.int .i64 0)))])) [y1]) (.br (I.ieq k 13) (.fin (.ret (.tup [(.one (.p (.str ([]:Str)))),(.one (.p (.bool Bool.false))),(.one (.p (.int .i64 0)))])) [y3]) (.need (I.hid (α:=(Prop)) True) (.br y7 (.need (I.hid (α:=(Prop)) True) (.fin (.ret (.tup [(.one (.p (.str (I.hid (α:=Str) ([]:Str))))),(.one (.p (.bool Bool.false))),(.one (.p (.int .i64 3)))])) [y4])) (.br y8 (.need (I.hid (α:=(Prop)) True) (.fin (.ret (.tup [(.one (.p (.str (I.hid (α:=Str) ([]:Str))))),(.one (.p (.bool Bool.false))),(.one (.p (.int .i64 4)))])) [y5])) (.need (I.inr Go.IntKind.u8 k) (.need y2 (.fin (.ret (.tup [(.one (.p (.str ([]:Str)))),(.one (.p (.bool Bool.false))),(.one (.p (.int .i64 0)))])) [y0]))))))))) (.br cr (.fin (.ret (.tup [(.one (.p (.str b))),(.one (.p (.bool Bool.true))),(.one (.p (.int .i64 0)))])) [y1]) (.br (I.ieq k 13) (.fin (.ret (.tup [(.one (.p (.str ([]:Str)))),(.one (.p (.bool Bool.false))),(.one (.p (.int .i64 0)))])) [y3]) (.need (I.hid (α:=(Prop)) True) (.br y7 (.need (I.hid (α:=(Prop)) True) (.fin (.ret (.tup [(.one (.p (.str (I.hid (α:=Str) ([]:Str))))),(.one (.p (.bool Bool.false))),(.one (.p (.int .i64 3)))])) [y4])) (.br y8 (.need (I.hid (α:=(Prop)) True) (.fin (.ret (.tup [(.one (.p (.str (I.hid (α:=Str) ([]:Str))))),(.one (.p (.bool Bool.false))),(.one (.p (.int .i64 4)))])) [y5])) (.need (I.inr Go.IntKind.u8 k) (.need y2 (.fin (.ret (.tup [(.one (.p (.str ([]:Str)))),(.one (.p (.bool Bool.false))),(.one (.p (.int .i64 0)))])) [y0])))))))))) (.br (I.bnot cr) (.br (I.ieq k 10) (.need (I.hid (α:=(Prop)) True) (.fin (.ret (.tup [(.one (.p (.str (I.hid (α:=Str) ([]:Str))))),(.one (.p (.bool Bool.false))),(.one (.p (.int .i64 2)))])) [y6])) (.br cr (.fin (.ret (.tup [(.one (.p (.str b))),(.one (.p (.bool Bool.true))),(.one (.p (.int .i64 0)))])) [y1]) (.br (I.ieq k 13) (.fin (.ret (.tup [(.one (.p (.str ([]:Str)))),(.one (.p (.bool Bool.false))),(.one (.p (.int .i64 0)))])) [y3]) (.need (I.hid (α:=(Prop)) True) (.br y7 (.need (I.hid (α:=(Prop)) True) (.fin (.ret (.tup [(.one (.p (.str (I.hid (α:=Str) ([]:Str))))),(.one (.p (.bool Bool.false))),(.one (.p (.int .i64 3)))])) [y4])) (.br y8 (.need (I.hid (α:=(Prop)) True) (.fin (.ret (.tup [(.one (.p (.str (I.hid (α:=Str) ([]:Str))))),(.one (.p (.bool Bool.false))),(.one (.p (.int .i64 4)))])) [y5])) (.need (I.inr Go.IntKind.u8 k) (.need y2 (.fin (.ret (.tup [(.one (.p (.str ([]:Str)))),(.one (.p (.bool Bool.false))),(.one (.p (.int .i64 0)))])) [y0]))))))))) (.br cr (.fin (.ret (.tup [(.one (.p (.str b))),(.one (.p (.bool Bool.true))),(.one (.p (.int .i64 0)))])) [y1]) (.br (I.ieq k 13) (.fin (.ret (.tup [(.one (.p (.str ([]:Str)))),(.one (.p (.bool Bool.false))),(.one (.p (.int .i64 0)))])) [y3]) (.need (I.hid (α:=(Prop)) True) (.br y7 (.need (I.hid (α:=(Prop)) True) (.fin (.ret (.tup [(.one (.p (.str (I.hid (α:=Str) ([]:Str))))),(.one (.p (.bool Bool.false))),(.one (.p (.int .i64 3)))])) [y4])) (.br y8 (.need (I.hid (α:=(Prop)) True) (.fin (.ret (.tup [(.one (.p (.str (I.hid (α:=Str) ([]:Str))))),(.one (.p (.bool Bool.false))),(.one (.p (.int .i64 4)))])) [y5])) (.need (I.inr Go.IntKind.u8 k) (.need y2 (.fin (.ret (.tup [(.one (.p (.str ([]:Str)))),(.one (.p (.bool Bool.false))),(.one (.p (.int .i64 0)))])) [y0]))))))))))) (by kernel_rfl) ?_
  simp only [zC]
  subst hI
  simp only [nrmA,nrmB,nrlB,reduceCtorEq,HO.pack.injEq,HO.obj.injEq]
  generalize UInt8.ofNat k.toNat=c at *
  cases cr
  all_goals simp only [Bool.false_eq_true,if_false,if_true] at hr
  all_goals(repeat' (first|refine And.intro ?_ ?_|intro _))<;>first|omega|exact True.intro|exact False.elim ‹False›|skip
  all_goals first
    |omega
    |(exfalso;simp at *;done)
    |(((repeat(first|rewrite [if_pos (by first|omega|assumption|(simp only [*,or_self,or_true,true_or,or_false,false_or,not_true_eq_false,not_false_eq_true,Bool.false_eq_true,Bool.true_eq_false,and_self,and_true,true_and];done)|(simp only [*];omega)|(simp [*];done)|(simp [*];omega))] at hr|rewrite [if_neg (by first|omega|assumption|(simp only [*,or_self,or_true,true_or,or_false,false_or,not_true_eq_false,not_false_eq_true,Bool.false_eq_true,Bool.true_eq_false,and_self,and_true,true_and];done)|(simp only [*];omega)|(simp [*];done)|(simp [*];omega))] at hr)));cases hr;first|rfl|done|with_reducible assumption|exact⟨rfl,rfl,rfl⟩|(simp;done)|(simp;omega))
def ZM (I:Alg) (args:List D) (hp:List HO):Option CT:=match args,hp with
  |[.v (.one (.ptr 0 0)),.v (.one (.p (.int .u8 k)))],[.pack [.obj 82 [(.row 1),(.p (.bool cr)),(.p (.int .i64 code))],.row .byte 5 b]]=>(fun(b:Str) (cr:Bool) (code k:Int)=>(some (.one ⟨I.hid (0≤k∧k≤255∧b.length≤1000000),(.ret (.tup [(.one (.p (.str (I.hid ((lnF ⟨b,cr,code⟩ (UInt8.ofNat k.toNat)).2.1))))),(.one (.p (.bool (I.hid ((lnF ⟨b,cr,code⟩ (UInt8.ofNat k.toNat)).2.2.1))))),(.one (.p (.int .i64 (I.hid ((lnF ⟨b,cr,code⟩ (UInt8.ofNat k.toNat)).2.2.2)))))])),[.pack [.obj 82 [(.row 1),(.p (.bool (I.hid ((lnF ⟨b,cr,code⟩ (UInt8.ofNat k.toNat)).1.cr)))),(.p (.int .i64 (I.hid ((lnF ⟨b,cr,code⟩ (UInt8.ofNat k.toNat)).1.code))))],.row .byte 5 (I.hid ((lnF ⟨b,cr,code⟩ (UInt8.ofNat k.toNat)).1.b))]]⟩):Option CT)) b cr code k
  |_,_=>none
theorem Qx:zI Tryz.prog 49 (ZM alg):=by
  intro args hp r h
  unfold ZM at h
  split at h
  · cases h;exact fun hn=>ziF _ _ _ _ hn
  · cases h
def sU:Know Tryz.prog:=⟨49,ZM,Qx⟩
def sS:Know Tryz.prog:=⟨49,fun I=>zK I (ZM I),zf Qx⟩
end Go.Proofs.YtmibhbdfigpkmaaGreatDoor
namespace Go.Proofs.YtmibhbdfigpkmaaGreatDoor
open Go Go.Sep Go.Ab
set_option maxRecDepth 100000
def zhz:Cfg:= { sl:=[⟨82,0,.byte,some 5⟩]}
theorem zjX:Spc Tryz.prog 89 [] [] (.ret (.v (.one (.ptr 0 0)))) [.pack [.obj 98 [(.ptr 1 0),(.p (.int .i64 0)),(.p (.int .i64 0)),(.p (.int .i64 0)),(.p (.int .i64 0)),(.p (.int .i64 0))],.pack [.obj 82 [(.row 1),(.p (.bool false)),(.p (.int .i64 0))],.row .byte 5 ([])]]]:=by
  refine spcG zu mixed Tryz.func89 (by kernel_rfl) { zhz with keep:=some [0]} [zcj,zci] (by kernel_rfl) ?_
  intro I X hI hX
  refine zh (.need (I.hid (α:=(Prop)) True) (.fin (.ret (.v (.one (.ptr 0 0)))) [(.pack [(.obj 98 [(.ptr 1 0),(.p (.int .i64 0)),(.p (.int .i64 0)),(.p (.int .i64 0)),(.p (.int .i64 0)),(.p (.int .i64 0))]),(.pack [(.obj 82 [(.row 1),(.p (.bool Bool.false)),(.p (.int .i64 0))]),(.row .byte 5 (I.hid (α:=Str) ([]:Str)))])])])) (by kernel_rfl) ?_
  simp only [zC]
  subst hI
  exact⟨trivial,trivial,rfl⟩
def XV (I:Alg) (args:List D) (hp:List HO):Option CT:=match args,hp with
  |[],[]=>(fun(_:Unit)=>(some (.one ⟨I.hid (True),(.ret (.v (.one (.ptr 0 0)))),[.pack [.obj 98 [(.ptr 1 0),(.p (.int .i64 0)),(.p (.int .i64 0)),(.p (.int .i64 0)),(.p (.int .i64 0)),(.p (.int .i64 0))],.pack [.obj 82 [(.row 1),(.p (.bool false)),(.p (.int .i64 0))],.row .byte 5 (I.hid ([]))]]]⟩):Option CT)) ()
  |_,_=>none
theorem zcQ:zI Tryz.prog 89 (XV alg):=by
  intro args hp r h
  unfold XV at h
  split at h
  · cases h;exact fun hn=>zjX
  · cases h
def zcP:Know Tryz.prog:=⟨89,XV,zcQ⟩
def zcO:Know Tryz.prog:=⟨89,fun I=>zK I (XV I),zf zcQ⟩
theorem zi1 (lb:Str) (lc:Bool) (lo p l a t c k:Int):Spc Tryz.prog 67 [.v (.one (.ptr 0 0)),.v (.one (.p (.int .i64 k)))] [.pack [.obj 98 [(.ptr 1 0),(.p (.int .i64 p)),(.p (.int .i64 l)),(.p (.int .i64 a)),(.p (.int .i64 t)),(.p (.int .i64 c))],.pack [.obj 82 [(.row 1),(.p (.bool lc)),(.p (.int .i64 lo))],.row .byte 5 lb]]] (.ret (.tup [(.one (.row 1)),(.one (.p (.bool false))),(.one (.p (.int .i64 k)))])) [.pack [.obj 98 [(.ptr 1 0),(.p (.int .i64 p)),(.p (.int .i64 l)),(.p (.int .i64 a)),(.p (.int .i64 t)),(.p (.int .i64 k))],.pack [.obj 82 [(.row 1),(.p (.bool lc)),(.p (.int .i64 lo))],.row .byte 5 lb]],.row .byte 5 ([])]:=by
  refine spcG zu mixed Tryz.func67 (by kernel_rfl) { zhz with nr:=[4],keep:=some [0,1,4,5,6]} [] (by kernel_rfl) ?_
  intro I X hI hX
  refine zh (.fin (.ret (.tup [(.one (.row 1)),(.one (.p (.bool Bool.false))),(.one (.p (.int .i64 k)))])) [(.pack [(.obj 98 [(.ptr 1 0),(.p (.int .i64 p)),(.p (.int .i64 l)),(.p (.int .i64 a)),(.p (.int .i64 t)),(.p (.int .i64 k))]),(.pack [(.obj 82 [(.row 1),(.p (.bool lc)),(.p (.int .i64 lo))]),(.row .byte 5 lb)])]),(.row .byte 5 ([]:Str))]) (by kernel_rfl) ?_
  simp only [zC]
  subst hI
  simp only [nrmA,nrmB,nrlB,reduceCtorEq,HO.pack.injEq,HO.obj.injEq]
  try trivial
def Yb (I:Alg) (args:List D) (hp:List HO):Option CT:=match args,hp with
  |[.v (.one (.ptr 0 0)),.v (.one (.p (.int .i64 k)))],[.pack [.obj 98 [(.ptr 1 0),(.p (.int .i64 p)),(.p (.int .i64 l)),(.p (.int .i64 a)),(.p (.int .i64 t)),(.p (.int .i64 c))],.pack [.obj 82 [(.row 1),(.p (.bool lc)),(.p (.int .i64 lo))],.row .byte 5 lb]]]=>(fun(lb:Str) (lc:Bool) (lo p l a t c k:Int)=>(some (.one ⟨I.hid (True),(.ret (.tup [(.one (.row 1)),(.one (.p (.bool false))),(.one (.p (.int .i64 k)))])),[.pack [.obj 98 [(.ptr 1 0),(.p (.int .i64 p)),(.p (.int .i64 l)),(.p (.int .i64 a)),(.p (.int .i64 t)),(.p (.int .i64 k))],.pack [.obj 82 [(.row 1),(.p (.bool lc)),(.p (.int .i64 lo))],.row .byte 5 lb]],.row .byte 5 (I.hid ([]))]⟩):Option CT)) lb lc lo p l a t c k
  |_,_=>none
theorem zal:zI Tryz.prog 67 (Yb alg):=by
  intro args hp r h
  unfold Yb at h
  split at h
  · cases h;exact fun hn=>zi1 _ _ _ _ _ _ _ _ _
  · cases h
def zge:Know Tryz.prog:=⟨67,Yb,zal⟩
def zgd:Know Tryz.prog:=⟨67,fun I=>zK I (Yb I),zf zal⟩
theorem zgc (s:Str) (hneed:s.length≤1000000):Spc Tryz.prog 85 [.v (.one (.p (.str s)))] [] (.ret (.tup [(.one (.p (.int .i64 ((if(yZ s).2 then(yZ s).1 else 0))))),(.one (.p (.int .i64 ((if(yZ s).2 then 0 else 7)))))])) []:=by
  generalize hr:yZ s=r
  obtain⟨n,ok⟩:=r
  unfold yZ at hr
  have hl:=(SA s 59).1
  refine spcG zu mixed Tryz.func85 (by kernel_rfl) { keep:=some [0,2,3,4,7,8]} [SH,SG,zem,zel,SK,SI] (by kernel_rfl) ?_
  intro I X hI hX
  refine zh (let y0:=I.hid (α:=Str) (Go.Lib.trimS (I.hid (α:=Str) (Prod.fst (cutB s (59:UInt8)))) ([32,9]:Str));.need (I.hid (α:=(Prop)) (LE.le (List.length s) 1000000)) (.need (I.hid (α:=(Prop)) True) (.need (I.hid (α:=(Prop)) True) (.br (I.bnot (I.hid (α:=Bool) (Prod.snd (numA y0 (16:Int) (6:Int))))) (.fin (.ret (.tup [(.one (.p (.int .i64 0))),(.one (.p (.int .i64 7)))])) []) (.fin (.ret (.tup [(.one (.p (.int .i64 (I.hid (α:=Int) (Prod.fst (numA y0 (16:Int) (6:Int))))))),(.one (.p (.int .i64 0)))])) []))))) (by kernel_rfl) ?_
  simp only [zC]
  subst hI
  simp only [nrmA,nrmB,nrlB,reduceCtorEq]
  rw [hr]
  cases ok
  all_goals(repeat' (first|refine And.intro ?_ ?_|intro _))<;>first|omega|exact True.intro|exact False.elim ‹False›|skip
  all_goals first
    |exact hneed
    |trivial
    |omega
    |(simp at *;done)
def uU (I:Alg) (args:List D) (hp:List HO):Option CT:=match args,hp with
  |[.v (.one (.p (.str s)))],[]=>(fun(s:Str)=>(some (.one ⟨I.hid (s.length≤1000000),(.ret (.tup [(.one (.p (.int .i64 (I.hid ((if(yZ s).2 then(yZ s).1 else 0)))))),(.one (.p (.int .i64 (I.hid ((if(yZ s).2 then 0 else 7))))))])),[]⟩):Option CT)) s
  |_,_=>none
theorem Vw:zI Tryz.prog 85 (uU alg):=by
  intro args hp r h
  unfold uU at h
  split at h
  · cases h;exact fun hn=>zgc _ hn
  · cases h
def za9:Know Tryz.prog:=⟨85,uU,Vw⟩
def za8:Know Tryz.prog:=⟨85,fun I=>zK I (uU I),zf Vw⟩
set_option maxHeartbeats 4000000 in
theorem ziZ (lb:Str) (lc:Bool) (lo p l a t c:Int) (s:Str) (hneed:s.length≤1000000∧(0≤a∧a≤1000000)∧0≤t∧t≤1000000):Spc Tryz.prog 68 [.v (.one (.ptr 0 0)),.v (.one (.p (.str s)))] [.pack [.obj 98 [(.ptr 1 0),(.p (.int .i64 p)),(.p (.int .i64 l)),(.p (.int .i64 a)),(.p (.int .i64 t)),(.p (.int .i64 c))],.pack [.obj 82 [(.row 1),(.p (.bool lc)),(.p (.int .i64 lo))],.row .byte 5 lb]]] (.ret (.v (.one (.p (.int .i64 ((chL ⟨⟨lb,lc,lo⟩,p,l,a,t,c⟩ s).2)))))) [.pack [.obj 98 [(.ptr 1 0),(.p (.int .i64 ((chL ⟨⟨lb,lc,lo⟩,p,l,a,t,c⟩ s).1.pos))),(.p (.int .i64 ((chL ⟨⟨lb,lc,lo⟩,p,l,a,t,c⟩ s).1.left))),(.p (.int .i64 ((chL ⟨⟨lb,lc,lo⟩,p,l,a,t,c⟩ s).1.all))),(.p (.int .i64 ((chL ⟨⟨lb,lc,lo⟩,p,l,a,t,c⟩ s).1.tails))),(.p (.int .i64 c))],.pack [.obj 82 [(.row 1),(.p (.bool lc)),(.p (.int .i64 lo))],.row .byte 5 lb]]]:=by
  obtain⟨hs,⟨ha0,ha1⟩,ht0,ht1⟩:=hneed
  generalize hr:chL ⟨⟨lb,lc,lo⟩,p,l,a,t,c⟩ s=r
  unfold chL at hr
  simp only at hr
  have hsz:=sD s
  have hsz2:(yZ s).2=false∨(yZ s).2=true:=by cases(yZ s).2<;>simp
  obtain⟨⟨⟨rb,rc,ro⟩,rp,rl,ra,rt,rc2⟩,re⟩:=r
  refine spcG zu mixed Tryz.func68 (by kernel_rfl) { zhz with keep:=some [0,1,4,5,6,8,12]} [U9,U8,za9,za8] (by kernel_rfl) ?_
  intro I X hI hX
  refine zh (let y1:HO:=.pack [(.obj 82 [(.row 1),(.p (.bool lc)),(.p (.int .i64 lo))]),(.row .byte 5 lb)];let y0:HO:=.pack [(.obj 98 [(.ptr 1 0),(.p (.int .i64 p)),(.p (.int .i64 l)),(.p (.int .i64 a)),(.p (.int .i64 t)),(.p (.int .i64 c))]),y1];let y2:=I.hid (α:=Int) (ite (Eq (Prod.snd (yZ s)) Bool.true) (Prod.fst (yZ s)) (0:Int));let y3:=I.hid (α:=Int) (ite (Eq (Prod.snd (yZ s)) Bool.true) (0:Int) (7:Int));let y4:=I.hid (α:=(Prop)) (LE.le (List.length s) 1000000);.br (I.ieq p 2) (.br (I.bnot (I.seq s ([]:Str))) (.fin (.ret (.v (.one (.p (.int .i64 5))))) [y0]) (.fin (.ret (.v (.one (.p (.int .i64 0))))) [(.pack [(.obj 98 [(.ptr 1 0),(.p (.int .i64 0)),(.p (.int .i64 l)),(.p (.int .i64 a)),(.p (.int .i64 t)),(.p (.int .i64 c))]),y1])])) (.br (I.ieq p 0) (.need y4 (.br (I.bnot (I.ieq y3 0)) (.fin (.ret (.v (.one (.p (.int .i64 y3))))) [y0]) (.need (I.inr Go.IntKind.i64 (I.sub 4000 a)) (.br (I.ilt (I.sub 4000 a) y2) (.fin (.ret (.v (.one (.p (.int .i64 4))))) [y0]) (.br (I.ieq y2 0) (.fin (.ret (.v (.one (.p (.int .i64 0))))) [(.pack [(.obj 98 [(.ptr 1 0),(.p (.int .i64 3)),(.p (.int .i64 l)),(.p (.int .i64 a)),(.p (.int .i64 t)),(.p (.int .i64 c))]),y1])]) (.fin (.ret (.v (.one (.p (.int .i64 0))))) [(.pack [(.obj 98 [(.ptr 1 0),(.p (.int .i64 1)),(.p (.int .i64 y2)),(.p (.int .i64 a)),(.p (.int .i64 t)),(.p (.int .i64 c))]),y1])])))))) (.br (I.ieq p 3) (.br (I.seq s ([]:Str)) (.fin (.ret (.v (.one (.p (.int .i64 0))))) [(.pack [(.obj 98 [(.ptr 1 0),(.p (.int .i64 4)),(.p (.int .i64 l)),(.p (.int .i64 a)),(.p (.int .i64 t)),(.p (.int .i64 c))]),y1])]) (.br (I.ieq t 16) (.fin (.ret (.v (.one (.p (.int .i64 8))))) [y0]) (.need (I.inr Go.IntKind.i64 (I.add t 1)) (.need y4 (.fin (.ret (.v (.one (.p (.int .i64 (I.hid (α:=Int) (Prod.snd (zW s)))))))) [(.pack [(.obj 98 [(.ptr 1 0),(.p (.int .i64 p)),(.p (.int .i64 l)),(.p (.int .i64 a)),(.p (.int .i64 (I.add t 1))),(.p (.int .i64 c))]),y1])]))))) (.fin (.ret (.v (.one (.p (.int .i64 0))))) [y0])))) (by kernel_rfl) ?_
  simp only [zC]
  subst hI
  simp only [nrmA,nrmB,nrlB,reduceCtorEq,HO.pack.injEq,HO.obj.injEq]
  generalize yZ s=z at *
  obtain⟨n,ok⟩:=z
  simp only at *
  cases ok
  all_goals simp only [Bool.false_eq_true,if_false,if_true] at *
  all_goals(repeat' (first|refine And.intro ?_ ?_|intro _))<;>first|omega|exact True.intro|exact False.elim ‹False›|skip
  all_goals first
    |exact hs
    |omega
    |(exfalso;simp at *;done)
    |(((repeat(first|rewrite [if_pos (by first|omega|assumption|(simp only [*,or_self,or_true,true_or,or_false,false_or,not_true_eq_false,not_false_eq_true,Bool.false_eq_true,Bool.true_eq_false,and_self,and_true,true_and];done)|(simp only [*];omega)|(simp [*];done)|(simp [*];omega))] at hr|rewrite [if_neg (by first|omega|assumption|(simp only [*,or_self,or_true,true_or,or_false,false_or,not_true_eq_false,not_false_eq_true,Bool.false_eq_true,Bool.true_eq_false,and_self,and_true,true_and];done)|(simp only [*];omega)|(simp [*];done)|(simp [*];omega))] at hr)));cases hr;first|rfl|done|with_reducible assumption|exact⟨rfl,rfl,rfl⟩|(simp;done)|(simp;omega))
def Z7 (I:Alg) (args:List D) (hp:List HO):Option CT:=match args,hp with
  |[.v (.one (.ptr 0 0)),.v (.one (.p (.str s)))],[.pack [.obj 98 [(.ptr 1 0),(.p (.int .i64 p)),(.p (.int .i64 l)),(.p (.int .i64 a)),(.p (.int .i64 t)),(.p (.int .i64 c))],.pack [.obj 82 [(.row 1),(.p (.bool lc)),(.p (.int .i64 lo))],.row .byte 5 lb]]]=>(fun(lb:Str) (lc:Bool) (lo p l a t c:Int) (s:Str)=>(some (.one ⟨I.hid (s.length≤1000000∧(0≤a∧a≤1000000)∧0≤t∧t≤1000000),(.ret (.v (.one (.p (.int .i64 (I.hid ((chL ⟨⟨lb,lc,lo⟩,p,l,a,t,c⟩ s).2))))))),[.pack [.obj 98 [(.ptr 1 0),(.p (.int .i64 (I.hid ((chL ⟨⟨lb,lc,lo⟩,p,l,a,t,c⟩ s).1.pos)))),(.p (.int .i64 (I.hid ((chL ⟨⟨lb,lc,lo⟩,p,l,a,t,c⟩ s).1.left)))),(.p (.int .i64 (I.hid ((chL ⟨⟨lb,lc,lo⟩,p,l,a,t,c⟩ s).1.all)))),(.p (.int .i64 (I.hid ((chL ⟨⟨lb,lc,lo⟩,p,l,a,t,c⟩ s).1.tails)))),(.p (.int .i64 c))],.pack [.obj 82 [(.row 1),(.p (.bool lc)),(.p (.int .i64 lo))],.row .byte 5 lb]]]⟩):Option CT)) lb lc lo p l a t c s
  |_,_=>none
theorem zaj:zI Tryz.prog 68 (Z7 alg):=by
  intro args hp r h
  unfold Z7 at h
  split at h
  · cases h;exact fun hn=>ziZ _ _ _ _ _ _ _ _ _ hn
  · cases h
def zgb:Know Tryz.prog:=⟨68,Z7,zaj⟩
def zga:Know Tryz.prog:=⟨68,fun I=>zK I (Z7 I),zf zaj⟩
theorem zcR (s:Ch) (t:Str):(chL s t).1.ln=s.ln∧(chL s t).1.code=s.code:=by
  unfold chL
  split
  · split<;>exact⟨rfl,rfl⟩
  split
  · split
    · exact⟨rfl,rfl⟩
    split
    · exact⟨rfl,rfl⟩
    split<;>exact⟨rfl,rfl⟩
  split
  · split
    · exact⟨rfl,rfl⟩
    split<;>exact⟨rfl,rfl⟩
  · exact⟨rfl,rfl⟩
theorem YL (s:Ln) (c:UInt8):(lnF s c).2.1.length≤s.b.length:=by
  unfold lnF
  repeat' split
  all_goals simp
set_option maxHeartbeats 8000000 in
theorem zi0 (lb:Str) (lc:Bool) (lo p l a t c k:Int) (hneed:(0≤k∧k≤255)∧lb.length≤1000000∧(-1000000≤l∧l≤100000000)∧(0≤a∧a≤1000000)∧0≤t∧t≤1000000):Spc Tryz.prog 47 [.v (.one (.ptr 0 0)),.v (.one (.p (.int .u8 k)))] [.pack [.obj 98 [(.ptr 1 0),(.p (.int .i64 p)),(.p (.int .i64 l)),(.p (.int .i64 a)),(.p (.int .i64 t)),(.p (.int .i64 c))],.pack [.obj 82 [(.row 1),(.p (.bool lc)),(.p (.int .i64 lo))],.row .byte 5 lb]]] (.ret (.tup [(.one (.row 1)),(.one (.p (.bool ((chF ⟨⟨lb,lc,lo⟩,p,l,a,t,c⟩ (UInt8.ofNat k.toNat)).2.2.1)))),(.one (.p (.int .i64 ((chF ⟨⟨lb,lc,lo⟩,p,l,a,t,c⟩ (UInt8.ofNat k.toNat)).2.2.2))))])) [.pack [.obj 98 [(.ptr 1 0),(.p (.int .i64 ((chF ⟨⟨lb,lc,lo⟩,p,l,a,t,c⟩ (UInt8.ofNat k.toNat)).1.pos))),(.p (.int .i64 ((chF ⟨⟨lb,lc,lo⟩,p,l,a,t,c⟩ (UInt8.ofNat k.toNat)).1.left))),(.p (.int .i64 ((chF ⟨⟨lb,lc,lo⟩,p,l,a,t,c⟩ (UInt8.ofNat k.toNat)).1.all))),(.p (.int .i64 ((chF ⟨⟨lb,lc,lo⟩,p,l,a,t,c⟩ (UInt8.ofNat k.toNat)).1.tails))),(.p (.int .i64 ((chF ⟨⟨lb,lc,lo⟩,p,l,a,t,c⟩ (UInt8.ofNat k.toNat)).1.code)))],.pack [.obj 82 [(.row 1),(.p (.bool ((chF ⟨⟨lb,lc,lo⟩,p,l,a,t,c⟩ (UInt8.ofNat k.toNat)).1.ln.cr))),(.p (.int .i64 ((chF ⟨⟨lb,lc,lo⟩,p,l,a,t,c⟩ (UInt8.ofNat k.toNat)).1.ln.code)))],.row .byte 5 ((chF ⟨⟨lb,lc,lo⟩,p,l,a,t,c⟩ (UInt8.ofNat k.toNat)).1.ln.b)]],.row .byte 5 ((chF ⟨⟨lb,lc,lo⟩,p,l,a,t,c⟩ (UInt8.ofNat k.toNat)).2.1)]:=by
  obtain⟨⟨hk0,hk1⟩,hlb,⟨hl0,hl1⟩,⟨ha0,ha1⟩,ht0,ht1⟩:=hneed
  generalize hr:chF ⟨⟨lb,lc,lo⟩,p,l,a,t,c⟩ (UInt8.ofNat k.toNat)=r
  unfold chF at hr
  simp only at hr
  have hkeep:=zcR ⟨(lnF ⟨lb,lc,lo⟩ (UInt8.ofNat k.toNat)).1,p,l,a,t,c⟩ (lnF ⟨lb,lc,lo⟩ (UInt8.ofNat k.toNat)).2.1
  have hlen:=YL ⟨lb,lc,lo⟩ (UInt8.ofNat k.toNat)
  obtain⟨⟨⟨rb,rc,ro⟩,rp,rl,ra,rt,rc2⟩,rd,ris,re⟩:=r
  refine spcG zu mixed Tryz.func47 (by kernel_rfl) { zhz with nr:=[4],keep:=some [0,1,4,5,6,7,8,9]} [sU,sS,zge,zgd,zgb,zga] (by kernel_rfl) ?_
  intro I X hI hX
  refine zh (let y3:=I.hid (α:=Bool) (Go.Ab.Ln.cr (Prod.fst (lnF (Go.Ab.Ln.mk lb lc lo) (UInt8.ofNat (Int.toNat k)))));let y2:=I.hid (α:=Int) (Go.Ab.Ln.code (Prod.fst (lnF (Go.Ab.Ln.mk lb lc lo) (UInt8.ofNat (Int.toNat k)))));let y4:=I.hid (α:=Str) (Go.Ab.Ln.b (Prod.fst (lnF (Go.Ab.Ln.mk lb lc lo) (UInt8.ofNat (Int.toNat k)))));let y0:HO:=.pack [(.obj 82 [(.row 1),(.p (.bool y3)),(.p (.int .i64 y2))]),(.row .byte 5 y4)];let y1:=I.hid (α:=Str) (Prod.fst (Prod.snd (lnF (Go.Ab.Ln.mk lb lc lo) (UInt8.ofNat (Int.toNat k)))));let y5:=I.hid (α:=Int) (Prod.snd (Prod.snd (Prod.snd (lnF (Go.Ab.Ln.mk lb lc lo) (UInt8.ofNat (Int.toNat k))))));let y6:HO:=.pack [(.obj 82 [(.row 1),(.p (.bool lc)),(.p (.int .i64 lo))]),(.row .byte 5 lb)];let y7:HO:=.obj 98 [(.ptr 1 0),(.p (.int .i64 p)),(.p (.int .i64 l)),(.p (.int .i64 a)),(.p (.int .i64 t)),(.p (.int .i64 c))];let y8:=I.hid (α:=Int) (Go.Ab.Ch.pos (Prod.fst (chL (Go.Ab.Ch.mk (Go.Ab.Ln.mk y4 y3 y2) p l a t c) y1)));let y9:=I.hid (α:=Int) (Prod.snd (chL (Go.Ab.Ch.mk (Go.Ab.Ln.mk y4 y3 y2) p l a t c) y1));let y10:HO:=.pack [(.obj 98 [(.ptr 1 0),(.p (.int .i64 p)),(.p (.int .i64 l)),(.p (.int .i64 a)),(.p (.int .i64 t)),(.p (.int .i64 y5))]),y0];let y11:HO:=.row .byte 5 (I.hid (α:=Str) ([]:Str));let y12:=I.hid (α:=Int) (Go.Ab.Ch.tails (Prod.fst (chL (Go.Ab.Ch.mk (Go.Ab.Ln.mk y4 y3 y2) p l a t c) y1)));let y13:=I.hid (α:=Int) (Go.Ab.Ch.left (Prod.fst (chL (Go.Ab.Ch.mk (Go.Ab.Ln.mk y4 y3 y2) p l a t c) y1)));let y14:=I.hid (α:=Int) (Go.Ab.Ch.all (Prod.fst (chL (Go.Ab.Ch.mk (Go.Ab.Ln.mk y4 y3 y2) p l a t c) y1)));let y15:HO:=.row .byte 5 ([(I.i2b k)]:Str);.br (I.bnot (I.ieq c 0)) (.fin (.ret (.tup [(.one (.row 1)),(.one (.p (.bool Bool.false))),(.one (.p (.int .i64 c)))])) [(.pack [y7,y6]),(.row .byte 5 ([]:Str))]) (.br (I.ieq p 4) (.need (I.hid (α:=(Prop)) True) (.fin (.ret (.tup [(.one (.row 1)),(.one (.p (.bool Bool.false))),(.one (.p (.int .i64 18)))])) [(.pack [(.obj 98 [(.ptr 1 0),(.p (.int .i64 p)),(.p (.int .i64 l)),(.p (.int .i64 a)),(.p (.int .i64 t)),(.p (.int .i64 18))]),y6]),y11])) (.br (I.ieq p 1) (.need (I.inr Go.IntKind.i64 (I.sub l 1)) (.need (I.inr Go.IntKind.i64 (I.add a 1)) (.br (I.ieq (I.sub l 1) 0) (.need (I.inr Go.IntKind.u8 k) (.fin (.ret (.tup [(.one (.row 1)),(.one (.p (.bool Bool.false))),(.one (.p (.int .i64 0)))])) [(.pack [(.obj 98 [(.ptr 1 0),(.p (.int .i64 2)),(.p (.int .i64 (I.sub l 1))),(.p (.int .i64 (I.add a 1))),(.p (.int .i64 t)),(.p (.int .i64 c))]),y6]),y15])) (.need (I.inr Go.IntKind.u8 k) (.fin (.ret (.tup [(.one (.row 1)),(.one (.p (.bool Bool.false))),(.one (.p (.int .i64 0)))])) [(.pack [(.obj 98 [(.ptr 1 0),(.p (.int .i64 p)),(.p (.int .i64 (I.sub l 1))),(.p (.int .i64 (I.add a 1))),(.p (.int .i64 t)),(.p (.int .i64 c))]),y6]),y15]))))) (.need (I.hid (α:=(Prop)) (And (LE.le (0:Int) k) (And (LE.le k (255:Int)) (LE.le (List.length lb) 1000000)))) (.br (I.ieq y5 0) (.br (I.hid (α:=Bool) (Prod.fst (Prod.snd (Prod.snd (lnF (Go.Ab.Ln.mk lb lc lo) (UInt8.ofNat (Int.toNat k))))))) (.need (I.hid (α:=(Prop)) (And (LE.le (List.length y1) 1000000) (And (And (LE.le (0:Int) a) (LE.le a (1000000:Int))) (And (LE.le (0:Int) t) (LE.le t (1000000:Int)))))) (.br (I.bnot (I.ieq y9 0)) (.need (I.hid (α:=(Prop)) True) (.fin (.ret (.tup [(.one (.row 1)),(.one (.p (.bool Bool.false))),(.one (.p (.int .i64 y9)))])) [(.pack [(.obj 98 [(.ptr 1 0),(.p (.int .i64 y8)),(.p (.int .i64 y13)),(.p (.int .i64 y14)),(.p (.int .i64 y12)),(.p (.int .i64 y9))]),y0]),y11])) (.fin (.ret (.tup [(.one (.row 1)),(.one (.p (.bool (I.ieq y8 4)))),(.one (.p (.int .i64 0)))])) [(.pack [(.obj 98 [(.ptr 1 0),(.p (.int .i64 y8)),(.p (.int .i64 y13)),(.p (.int .i64 y14)),(.p (.int .i64 y12)),(.p (.int .i64 c))]),y0]),(.row .byte 5 ([]:Str))]))) (.br (I.bnot (I.ieq y5 0)) (.need (I.hid (α:=(Prop)) True) (.fin (.ret (.tup [(.one (.row 1)),(.one (.p (.bool Bool.false))),(.one (.p (.int .i64 y5)))])) [y10,y11])) (.fin (.ret (.tup [(.one (.row 1)),(.one (.p (.bool (I.ieq p 4)))),(.one (.p (.int .i64 0)))])) [(.pack [y7,y0]),(.row .byte 5 ([]:Str))]))) (.br (I.bnot (I.ieq y5 0)) (.need (I.hid (α:=(Prop)) True) (.fin (.ret (.tup [(.one (.row 1)),(.one (.p (.bool Bool.false))),(.one (.p (.int .i64 y5)))])) [y10,y11])) (.fin (.ret (.tup [(.one (.row 1)),(.one (.p (.bool (I.ieq p 4)))),(.one (.p (.int .i64 0)))])) [(.pack [y7,y0]),(.row .byte 5 ([]:Str))]))))))) (by kernel_rfl) ?_
  simp only [zC]
  subst hI
  simp only [nrmA,nrmB,nrlB,reduceCtorEq,HO.pack.injEq,HO.obj.injEq]
  generalize lnF ⟨lb,lc,lo⟩ (UInt8.ofNat k.toNat)=q at *
  obtain⟨⟨qb,qc,qo⟩,qs,qis,qe⟩:=q
  simp only at *
  generalize chL ⟨⟨qb,qc,qo⟩,p,l,a,t,c⟩ qs=z at *
  obtain⟨⟨⟨zb,zc,zo⟩,zp,zl,za,zt,zk⟩,ze⟩:=z
  simp only [Ln.mk.injEq] at *
  obtain⟨⟨rfl,rfl,rfl⟩,rfl⟩:=hkeep
  cases qis
  all_goals simp only [Bool.false_eq_true,if_false,if_true] at *
  all_goals(repeat' (first|refine And.intro ?_ ?_|intro _))<;>first|omega|exact True.intro|exact False.elim ‹False›|skip
  all_goals first
    |omega
    |(exfalso;simp at *;done)
    |(((repeat(first|rewrite [if_pos (by first|omega|assumption|(simp only [*,or_self,or_true,true_or,or_false,false_or,not_true_eq_false,not_false_eq_true,Bool.false_eq_true,Bool.true_eq_false,and_self,and_true,true_and];done)|(simp only [*];omega)|(simp [*];done)|(simp [*];omega))] at hr|rewrite [if_neg (by first|omega|assumption|(simp only [*,or_self,or_true,true_or,or_false,false_or,not_true_eq_false,not_false_eq_true,Bool.false_eq_true,Bool.true_eq_false,and_self,and_true,true_and];done)|(simp only [*];omega)|(simp [*];done)|(simp [*];omega))] at hr)));cases hr;first|rfl|done|with_reducible assumption|exact⟨rfl,rfl,rfl⟩|(simp;done)|(simp;omega))
def Ya (I:Alg) (args:List D) (hp:List HO):Option CT:=match args,hp with
  |[.v (.one (.ptr 0 0)),.v (.one (.p (.int .u8 k)))],[.pack [.obj 98 [(.ptr 1 0),(.p (.int .i64 p)),(.p (.int .i64 l)),(.p (.int .i64 a)),(.p (.int .i64 t)),(.p (.int .i64 c))],.pack [.obj 82 [(.row 1),(.p (.bool lc)),(.p (.int .i64 lo))],.row .byte 5 lb]]]=>(fun(lb:Str) (lc:Bool) (lo p l a t c k:Int)=>(some (.one ⟨I.hid ((0≤k∧k≤255)∧lb.length≤1000000∧(-1000000≤l∧l≤100000000)∧(0≤a∧a≤1000000)∧0≤t∧t≤1000000),(.ret (.tup [(.one (.row 1)),(.one (.p (.bool (I.hid ((chF ⟨⟨lb,lc,lo⟩,p,l,a,t,c⟩ (UInt8.ofNat k.toNat)).2.2.1))))),(.one (.p (.int .i64 (I.hid ((chF ⟨⟨lb,lc,lo⟩,p,l,a,t,c⟩ (UInt8.ofNat k.toNat)).2.2.2)))))])),[.pack [.obj 98 [(.ptr 1 0),(.p (.int .i64 (I.hid ((chF ⟨⟨lb,lc,lo⟩,p,l,a,t,c⟩ (UInt8.ofNat k.toNat)).1.pos)))),(.p (.int .i64 (I.hid ((chF ⟨⟨lb,lc,lo⟩,p,l,a,t,c⟩ (UInt8.ofNat k.toNat)).1.left)))),(.p (.int .i64 (I.hid ((chF ⟨⟨lb,lc,lo⟩,p,l,a,t,c⟩ (UInt8.ofNat k.toNat)).1.all)))),(.p (.int .i64 (I.hid ((chF ⟨⟨lb,lc,lo⟩,p,l,a,t,c⟩ (UInt8.ofNat k.toNat)).1.tails)))),(.p (.int .i64 (I.hid ((chF ⟨⟨lb,lc,lo⟩,p,l,a,t,c⟩ (UInt8.ofNat k.toNat)).1.code))))],.pack [.obj 82 [(.row 1),(.p (.bool (I.hid ((chF ⟨⟨lb,lc,lo⟩,p,l,a,t,c⟩ (UInt8.ofNat k.toNat)).1.ln.cr)))),(.p (.int .i64 (I.hid ((chF ⟨⟨lb,lc,lo⟩,p,l,a,t,c⟩ (UInt8.ofNat k.toNat)).1.ln.code))))],.row .byte 5 (I.hid ((chF ⟨⟨lb,lc,lo⟩,p,l,a,t,c⟩ (UInt8.ofNat k.toNat)).1.ln.b))]],.row .byte 5 (I.hid ((chF ⟨⟨lb,lc,lo⟩,p,l,a,t,c⟩ (UInt8.ofNat k.toNat)).2.1))]⟩):Option CT)) lb lc lo p l a t c k
  |_,_=>none
theorem zak:zI Tryz.prog 47 (Ya alg):=by
  intro args hp r h
  unfold Ya at h
  split at h
  · cases h;exact fun hn=>zi0 _ _ _ _ _ _ _ _ _ hn
  · cases h
def Z9:Know Tryz.prog:=⟨47,Ya,zak⟩
def Z8:Know Tryz.prog:=⟨47,fun I=>zK I (Ya I),zf zak⟩
end Go.Proofs.YtmibhbdfigpkmaaGreatDoor
namespace Go.Proofs.YtmibhbdfigpkmaaGreatDoor
open Go Go.Sep Go.Ab
set_option maxRecDepth 100000
theorem ze9: ∀ (s:Str) (n:Int),0≤n→(numG 16 n s).1+1≤(n+1) * 16 ^ s.length
  |[],n,h=>by simp [numG]
  | c ::l,n,h=>by
    have h16:(0:Int)<16 ^ l.length:=Int.pow_pos (by decide)
    have e:((n+1) * 16 ^ (c::l).length:Int)=((n+1) * 16) * 16 ^ l.length:=by rw [List.length_cons,Int.pow_succ,Int.mul_assoc,Int.mul_comm (16 ^ l.length) 16]
    rw [e,numG]
    split
    · have h1:(1:Int) * 1≤((n+1) * 16) * 16 ^ l.length:=Int.mul_le_mul (by omega) (by omega) (by decide) (by omega)
      simpa using h1
    · rename_i hc
      have h2:=ze9 l (n * 16+hexK c.toNat) (by omega)
      exact Int.le_trans h2 (Int.mul_le_mul_of_nonneg_right (by omega) (by omega))
theorem zgO (t:Str):(yZ t).1≤16777215:=by
  unfold yZ numA
  split
  · exact by decide
  · rename_i h
    have h1:=ze9 (Lib.trimS (cutB t 59).1 [32,9]) 0 (Int.le_refl _)
    have h2:(Lib.trimS (cutB t 59).1 [32,9]).length≤6:=by omega
    have h3:(16:Int) ^ (Lib.trimS (cutB t 59).1 [32,9]).length≤16 ^ 6:=by
      have:=Nat.pow_le_pow_right (show 0<16 by decide) h2
      exact_mod_cast this
    have h4:(16:Int) ^ 6=16777216:=by decide
    omega
structure ChI (s:Ch) (i:Nat):Prop where
  b:s.ln.b.length≤i
  a0:0≤s.all
  a1:s.all≤i
  t0:0≤s.tails
  t1:s.tails≤i
  l0: -(i:Int)≤s.left
  l1:s.left≤16777215
theorem zjY:ChI ch0 0:=⟨by decide,by decide,by decide,by decide,by decide,by decide,by decide⟩
theorem zjC (s:Ln) (c:UInt8):(lnF s c).1.b.length≤s.b.length+1:=by
  unfold lnF
  repeat' split
  all_goals simp
theorem zkv {s:Ch} {i:Nat} (h:ChI s i) (c:UInt8):ChI (chF s c).1 (i+1):=by
  have hb:=zjC s.ln c
  have h0:=h
  obtain⟨h1,h2,h3,h4,h5,h6,h7⟩:=h
  unfold chF
  split
  · exact⟨by show s.ln.b.length≤i+1;omega,h2,by show s.all≤_;omega,h4,by show s.tails≤_;omega,by show _≤s.left;omega,h7⟩
  split
  · constructor<;>simp only<;>omega
  split
  · constructor<;>simp only<;>omega
  split
  · constructor<;>simp only<;>omega
  split
  · have hl: ∀ t,(chL { s with ln:=(lnF s.ln c).1} t).1.ln=(lnF s.ln c).1:=fun t=>(zcR _ _).1
    have key: ∀ t,ChI (chL { s with ln:=(lnF s.ln c).1} t).1 (i+1):=fun t=>by
      have hz:=sD t
      have hz2:=zgO t
      unfold chL
      repeat' split
      all_goals constructor
      all_goals simp only
      all_goals omega
    split
    · obtain⟨k1,k2,k3,k4,k5,k6,k7⟩:=key (lnF s.ln c).2.1
      exact⟨k1,k2,k3,k4,k5,k6,k7⟩
    · exact key _
  · constructor<;>simp only<;>omega
theorem zcS {s:Ch} {i:Nat} (h:ChI s i) (hi:i≤1000000):s.ln.b.length≤1000000∧(-1000000≤s.left∧s.left≤100000000)∧(0≤s.all∧s.all≤1000000)∧0≤s.tails∧s.tails≤1000000:=by
  obtain⟨h1,h2,h3,h4,h5,h6,h7⟩:=h
  omega
theorem SC {s:Ch} {i j:Nat} (h:ChI s i) (k:i≤j):ChI s j:=by
  obtain⟨h1,h2,h3,h4,h5,h6,h7⟩:=h
  exact⟨by omega,h2,by omega,h4,by omega,by omega,h7⟩
end Go.Proofs.YtmibhbdfigpkmaaGreatDoor
namespace Go.Proofs.YtmibhbdfigpkmaaGreatDoor
open Go Go.Sep Go.Ab
set_option maxRecDepth 100000
theorem ZT (c:UInt8) (t:Str): ∀ s:Str,(∀ x ∈ s,x≠c)→Lib.indexByte (s++c::t) c=s.length
  |[],_=>by simp [Lib.indexByte]
  | b::l,h=>by
    have ih:=ZT c t l (fun x hx=>h x (List.mem_cons_of_mem _ hx))
    have hb:(b == c)=false:=by simpa using h b (List.mem_cons_self ..)
    simp only [List.cons_append,Lib.indexByte,hb,ih,List.length_cons]
    rw [if_neg (by simp),if_neg (by try simp;try omega)]
    try omega
theorem Xp {s:Str} (h:tokA s=true) {x:UInt8} (hx:x ∈ s):tokB (x.toNat:Int)=true:=List.all_eq_true.1 h x hx
theorem zd4 {s:Str} (h:tokA s=true): ∀ x ∈ s,x≠58:=fun x hx e=>by
  have:=Xp h hx
  subst e
  revert this
  decide+kernel
theorem Yt {s:Str} (h:yU s=true):s≠[]∧tokA s=true:=by
  unfold yU at h
  simpa using h
theorem zf6 {n v:Str} (h:tokA n=true):cutB (n++[58,32]++v) 58=(n,32::v,true):=by
  have e:n++[58,32]++v=n++58::32::v:=by simp
  have hi:=ZT 58 (32::v) n (zd4 h)
  rw [e]
  unfold cutB
  rw [hi,if_pos (by omega)]
  simp
theorem zd2 (v:Str):trL (32::v)=trL v:=by rw [Xn,if_pos (by decide)]
theorem zc5 (v:Str):Lib.trimS (32::v) [32,9]=Lib.trimS v [32,9]:=by
  rw [UQ,UQ,zaC,zaC,zd2]
theorem zdd (v:Str):yK (32::v)=yK v:=by
  have h:yK (32::v)=(Zg ((32:UInt8).toNat:Int)&&yK v):=by unfold yK;rw [List.all_cons]
  rw [h,show Zg ((32:UInt8).toNat:Int)=true by decide+kernel,Bool.true_and]
structure Fit (f:Fld):Prop where
  tok:yU f.name=true
  len:f.name.length≤40
  seen:yK f.value=true
  trim:Lib.trimS f.value [32,9]=f.value
theorem zby {f:Fld} (h:(textF f).2=0):Fit f∧f.name.length+2+f.value.length≤200∧(textF f).1=f.name++[58,32]++f.value:=by
  unfold textF at h ⊢
  split at h
  · cases h
  · split at h
    · cases h
    · split at h
      · cases h
      · rename_i h1 h2 h3
        rw [if_neg h1,if_neg h2,if_neg h3]
        simp only [not_or,Bool.not_eq_false,Decidable.not_not] at h1 h3
        exact⟨⟨h1,by omega,h3.1,h3.2⟩,by omega,rfl⟩
theorem Q9 {f:Fld} (h:Fit f):zW (f.name++[58,32]++f.value)=(f,0):=by
  obtain⟨h1,h2,h3,h4⟩:=h
  unfold zW
  rw [zf6 (Yt h1).2]
  simp only [zdd,zc5]
  rw [if_neg (by simp),if_neg (by simp [h1]),if_neg (by omega),if_neg (by simp [h3]),h4]
theorem zc6 {f:Fld} (h:(textF f).2=0):zW (textF f).1=(f,0)∧(textF f).1.length≤200:=by
  obtain⟨h1,h2,h3⟩:=zby h
  rw [h3]
  exact⟨Q9 h1,by simp;omega⟩
theorem ze1 (s:Str):(zW s).1.name.length≤s.length∧(zW s).1.value.length≤s.length:=by
  have h:=SA s 58
  have ht:=zbu (cutB s 58).2.1 [32,9]
  unfold zW
  repeat' split
  all_goals simp only [List.length_nil]
  all_goals omega
end Go.Proofs.YtmibhbdfigpkmaaGreatDoor
namespace Go.Proofs.YtmibhbdfigpkmaaGreatDoor
open Go Go.Sep Go.Ab
set_option maxRecDepth 100000
theorem zhA (s:Str):Spc Tryz.prog 108 [.v (.one (.p (.str s)))] [] (.ret (.tup [(.one (.p (.int .i64 ((numA s 10 9).1)))),(.one (.p (.bool ((numA s 10 9).2))))])) []:=by
  refine spcG zu mixed Tryz.func108 (by kernel_rfl) { keep:=some [0,2,3]} [uK,uJ,WI,WH] (by kernel_rfl) ?_
  intro I X hI hX
  refine zh (.need (I.hid (α:=(Prop)) True) (.fin (.ret (.tup [(.one (.p (.int .i64 (I.hid (α:=Int) (Prod.fst (numA s (10:Int) (9:Int))))))),(.one (.p (.bool (I.hid (α:=Bool) (Prod.snd (numA s (10:Int) (9:Int)))))))])) [])) (by kernel_rfl) ?_
  simp only [zC]
  subst hI
  simp only [nrmA,nrmB]
  try trivial
def qx (I:Alg) (args:List D) (hp:List HO):Option CT:=match args,hp with
  |[.v (.one (.p (.str s)))],[]=>(fun(s:Str)=>(some (.one ⟨I.hid (True),(.ret (.tup [(.one (.p (.int .i64 (I.hid ((numA s 10 9).1))))),(.one (.p (.bool (I.hid ((numA s 10 9).2)))))])),[]⟩):Option CT)) s
  |_,_=>none
theorem UH:zI Tryz.prog 108 (qx alg):=by
  intro args hp r h
  unfold qx at h
  split at h
  · cases h;exact fun hn=>zhA _
  · cases h
def UG:Know Tryz.prog:=⟨108,qx,UH⟩
def UF:Know Tryz.prog:=⟨108,fun I=>zK I (qx I),zf UH⟩
theorem Qq: ∀ (s:Str) (n:Int),0≤n→(numG 10 n s).1+1≤(n+1) * 10 ^ s.length∧0≤(numG 10 n s).1
  |[],n,h=>by simp [numG];exact h
  | c ::l,n,h=>by
    have h16:(0:Int)<10 ^ l.length:=Int.pow_pos (by decide)
    have e:((n+1) * 10 ^ (c::l).length:Int)=((n+1) * 10) * 10 ^ l.length:=by rw [List.length_cons,Int.pow_succ,Int.mul_assoc,Int.mul_comm (10 ^ l.length) 10]
    rw [e,numG]
    split
    · have h1:(1:Int) * 1≤((n+1) * 10) * 10 ^ l.length:=Int.mul_le_mul (by omega) (by omega) (by decide) (by omega)
      exact⟨by simpa using h1,Int.le_refl _⟩
    · rename_i hc
      have h2:=Qq l (n * 10+hexK c.toNat) (by omega)
      exact⟨Int.le_trans h2.1 (Int.mul_le_mul_of_nonneg_right (by omega) (by omega)),h2.2⟩
theorem WN (x:Str):0≤(numA x 10 9).1∧(numA x 10 9).1<1000000000:=by
  unfold numA
  split
  · exact by decide
  · rename_i h
    have h1:=Qq x 0 (Int.le_refl _)
    have h2:x.length≤9:=by omega
    have h3:(10:Int) ^ x.length≤10 ^ 9:=by
      have:(10 ^ x.length:Nat)≤10 ^ 9:=Nat.pow_le_pow_right (by decide) h2
      exact_mod_cast this
    refine⟨h1.2,?_⟩
    have h4:(10:Int) ^ 9=1000000000:=by decide
    omega
end Go.Proofs.YtmibhbdfigpkmaaGreatDoor
namespace Go.Proofs.YtmibhbdfigpkmaaGreatDoor
open Go Go.Sep Go.Ab
set_option maxRecDepth 100000
structure RqI (q:Rq) (i:Nat):Prop where
  lb:q.ln.b.length≤i
  ck: ∀ c,q.ck=some c→ChI c i
  p3:q.pos=3→q.ck≠none
  ow:q.pos=0∨q.pos=1→q.own=true
  fl:q.h.fields.length≤16
  ff: ∀ f ∈ q.h.fields,f.name.length≤i∧f.value.length≤i
  l0:0≤q.left
  l1:q.left≤4000
  l2:q.pos=2→1≤q.left
  on:q.out.length≤4 * i
theorem zjm:RqI rq0 0:=⟨by decide,(fun c h=>by cases h),(fun h=>by cases h),fun _=>rfl,by decide,(fun f h=>by cases h),by decide,by decide,(fun h=>by cases h),by decide⟩
theorem zgX {q:Rq} {i j:Nat} (h:RqI q i) (k:i≤j):RqI q j:=by
  obtain⟨h1,h2,h3,h4,h5,h6,h7,h8,h9,h10⟩:=h
  exact⟨by omega,fun c e=>SC (h2 c e) k,h3,h4,h5,fun f m=>by have:=h6 f m;omega,h7,h8,h9,by omega⟩
theorem U5 {q:Rq} {i:Nat} (h:RqI q i) {o:List Evt} (k:o.length≤4 * i):RqI { q with out:=o} i:=⟨h.lb,h.ck,h.p3,h.ow,h.fl,h.ff,h.l0,h.l1,h.l2,k⟩
theorem TL (mi:Int) (f:List Fld): -1≤(lenM mi f).1∧(lenM mi f).1≤4000:=by
  have hs: ∀ (l:List Str) (a:Str) (n:Int),0≤n→0≤(sizM a n l).1:=by
    intro l
    induction l with
    |nil=>intro a n h;exact h
    | cons s r ih=>
      intro a n h
      unfold sizM
      split
      · exact Int.le_refl _
      · split
        · exact Int.le_refl _
        · exact ih _ _ (WN s).1
  unfold lenM
  repeat' split
  all_goals simp only
  all_goals first
    |decide
    |(have:=hs (valsF f wX) ((valsF f wX).getD 0 []) 0 (by decide);omega)
theorem zj2 (s:Str):(begM s).2.fields=[]:=by
  unfold begM
  split
  · repeat' split
    all_goals rfl
  · rfl
theorem zg3 {q:Rq} {i:Nat} (h:RqI q i) (k:Nat) (ho:q.out.length≤k):RqI { (zV q).1 with out:=[],pos:=4} i∧((zV q).2=0→RqI { (zV q).1 with out:=[]} i)∧(zV q).1.out.length≤k+2:=by
  have hl:=TL q.h.minor q.h.fields
  obtain⟨h1,h2,h3,h4,h5,h6,h7,h8,h9,h10⟩:=h
  unfold zV yP
  split
  · exact⟨⟨h1,h2,(fun h=>by cases h),(fun h=>by simp at h),h5,h6,h7,h8,(fun h=>by cases h),by simp⟩,(fun h=>by cases h),by simp only;omega⟩
  split
  · rename_i hz
    exact⟨⟨h1,h2,(fun h=>by cases h),(fun h=>by simp at h),h5,h6,h7,h8,(fun h=>by cases h),by simp⟩,fun h=>absurd h hz,by simp only;omega⟩
  split
  · exact⟨⟨h1,h2,(fun h=>by cases h),(fun h=>by simp at h),by simp [hd0],(fun f m=>by cases m),h7,h8,(fun h=>by cases h),by simp⟩,fun _=>⟨h1,h2,(fun h=>by cases h),fun _=>rfl,by simp [hd0],(fun f m=>by cases m),h7,h8,(fun h=>by cases h),by simp⟩,by simp;omega⟩
  split
  · exact⟨⟨h1,h2,(fun h=>by cases h),(fun h=>by simp at h),h5,h6,by simp only;omega,by simp only;omega,(fun h=>by cases h),by simp⟩,fun _=>⟨h1,h2,(fun h=>by cases h),(fun h=>by simp at h),h5,h6,by simp only;omega,by simp only;omega,fun _=>by simp only;omega,by simp⟩,by simp;omega⟩
  · exact⟨⟨h1,(fun c e=>by cases e;exact SC zjY (Nat.zero_le _)),(fun h=>by cases h),(fun h=>by simp at h),h5,h6,h7,h8,(fun h=>by cases h),by simp⟩,fun _=>⟨h1,(fun c e=>by cases e;exact SC zjY (Nat.zero_le _)),(fun _ h=>by cases h),(fun h=>by simp at h),h5,h6,h7,h8,(fun h=>by simp at h),by simp⟩,by simp;omega⟩
theorem XC {q:Rq} {i:Nat} (h:RqI q i):RqI { q with out:=[],pos:=4} i:=⟨h.lb,h.ck,(fun h=>by cases h),(fun h=>by simp at h),h.fl,h.ff,h.l0,h.l1,(fun h=>by cases h),by simp⟩
theorem zgV {q:Rq} {i:Nat} (h:RqI q i) (hp:q.pos=0∨q.pos=1) {s:Str} (hs:s.length≤i) (k:Nat) (ho:q.out.length≤k):RqI { (zG q s).1 with out:=[],pos:=4} i∧((zG q s).2=0→RqI { (zG q s).1 with out:=[]} i)∧(zG q s).1.out.length≤k+2:=by
  have h0:RqI { q with out:=[]} i:=U5 h (by simp)
  have hx:=XC h
  have hd:=zg3 h k ho
  have hpl:=ze1 s
  have hb:=zj2 s
  have how:=h.ow hp
  unfold zG
  split
  · split
    · exact⟨hx,fun _=>h0,by simp only;omega⟩
    split
    · have h1:RqI { q with h:=(begM s).2,pos:=1,out:=[]} i:=⟨h.lb,h.ck,(fun h=>by cases h),fun _=>how,by simp [hb],(by simp [hb]),h.l0,h.l1,(fun h=>by cases h),by simp⟩
      have hd1:=XC h1
      exact⟨hd1,fun _=>h1,by simp only;omega⟩
    split
    · have h1:RqI { q with h:=(begM s).2,out:=[]} i:=⟨h.lb,h.ck,h.p3,fun _=>how,by simp [hb],(by simp [hb]),h.l0,h.l1,h.l2,by simp⟩
      have hd1:=XC h1
      exact⟨hd1,fun _=>h1,by simp only;omega⟩
    · exact⟨hx,fun _=>h0,by simp only;omega⟩
  · split
    · exact hd
    split
    · exact⟨hx,fun _=>h0,by simp only;omega⟩
    · rename_i h16
      have h1:RqI { q with h:= { q.h with fields:=q.h.fields++[(zW s).1]},out:=[]} i:=by
        refine⟨h.lb,h.ck,h.p3,h.ow,?_,?_,h.l0,h.l1,h.l2,by simp⟩
        · have:=h.fl;simp;omega
        · intro f hf
          rcases List.mem_append.1 hf with hf|hf
          · exact h.ff f hf
          · simp only [List.mem_singleton] at hf
            subst hf;omega
      have hd1:=XC h1
      exact⟨hd1,fun _=>h1,by simp only;omega⟩
theorem zdj {q:Rq} {i:Nat} (h:RqI q i) (c:UInt8):RqI (rqF q c) (i+1):=by
  have hm:=zgX h (Nat.le_succ i)
  have hon:=h.on
  unfold rqF
  split
  · rename_i hp
    have h2:=h.l2 hp
    split
    · exact⟨hm.lb,hm.ck,(fun h=>by cases h),fun _=>rfl,by simp [yP,hd0],(fun f m=>by cases m),(Int.le_refl _),(show(0:Int)≤4000 by decide),(fun h=>by cases h),by simp [yP];omega⟩
    · exact⟨hm.lb,hm.ck,hm.p3,hm.ow,hm.fl,hm.ff,by have:=h.l0;simp only;omega,by have:=h.l1;simp only;omega,fun _=>by simp only;omega,by simp;omega⟩
  split
  · rename_i hp
    have hc:ChI (chF (ckOf q) c).1 (i+1):=by
      unfold ckOf
      cases hq:q.ck with
      |none=>exact absurd hq (h.p3 hp)
      |some x=>exact zkv (h.ck x hq) c
    split
    · exact⟨hm.lb,(fun x e=>by cases e;exact hc),(fun h=>by cases h),(fun h=>by simp [zX] at h),hm.fl,hm.ff,hm.l0,hm.l1,(fun h=>by cases h),by simp [zX];omega⟩
    split
    · refine⟨hm.lb,(fun x e=>by cases e;exact hc),(fun h=>by cases h),fun _=>rfl,by simp [yP,hd0],(fun f m=>by cases m),hm.l0,hm.l1,(fun h=>by cases h),?_⟩
      simp only [yP]
      split<;>((try simp);omega)
    · refine⟨hm.lb,(fun x e=>by cases e;exact hc),(fun _ h=>by cases h),hm.ow,hm.fl,hm.ff,hm.l0,hm.l1,hm.l2,?_⟩
      show(if(chF (ckOf q) c).2.1≠[] then q.out++[evB (chF (ckOf q) c).2.1] else q.out).length≤4 * (i+1)
      split<;>((try simp);omega)
  split
  · rename_i hp
    have hlb:(lnF q.ln c).1.b.length≤i+1:=by have:=zjC q.ln c;have:=h.lb;omega
    have hll:(lnF q.ln c).2.1.length≤i+1:=by have:=YL q.ln c;have:=h.lb;omega
    have h1:RqI { q with ln:=(lnF q.ln c).1} (i+1):=⟨hlb,hm.ck,hm.p3,hm.ow,hm.fl,hm.ff,hm.l0,hm.l1,hm.l2,hm.on⟩
    split
    · exact⟨hlb,hm.ck,(fun h=>by cases h),(fun h=>by simp [zX] at h),hm.fl,hm.ff,hm.l0,hm.l1,(fun h=>by cases h),by simp [zX];omega⟩
    split
    · have hk:=zgV h1 hp hll (4 * i) hon
      generalize zG { q with ln:=(lnF q.ln c).1} (lnF q.ln c).2.1=z at *
      obtain⟨⟨k1,k2,-,-,k5,k6,k7,k8,-,-⟩,kz,ko⟩:=hk
      split
      · exact⟨k1,k2,(fun h=>by cases h),(fun h=>by simp [zX] at h),k5,k6,k7,k8,(fun h=>by cases h),by simp [zX];omega⟩
      · rename_i hz
        obtain⟨k1,k2,k3,k4,k5,k6,k7,k8,k9,k10⟩:=kz (by simpa using hz)
        exact⟨k1,k2,k3,k4,k5,k6,k7,k8,k9,by omega⟩
    · exact h1
  · exact hm
end Go.Proofs.YtmibhbdfigpkmaaGreatDoor
namespace Go.Proofs.YtmibhbdfigpkmaaGreatDoor
open Go Go.Sep Go.Ab
set_option maxRecDepth 100000
def txtN (base:Nat):Nat→Nat→Str
  |0,_=>[]
  |f+1,n=>if n<base then [if n<10 then UInt8.ofNat (48+n) else UInt8.ofNat (87+n)] else txtN base f (n / base)++[if n % base<10 then UInt8.ofNat (48+n % base) else UInt8.ofNat (87+n % base)]
def dgN (d:Nat):UInt8:=if d<10 then UInt8.ofNat (48+d) else UInt8.ofNat (87+d)
theorem tV {d:Nat} (h:d<10):(([48,49,50,51,52,53,54,55,56,57]:Str).drop d).take 1=[dgN d]:=(by decide+kernel: ∀ d:Fin 10,(([48,49,50,51,52,53,54,55,56,57]:Str).drop d.1).take 1=[dgN d.1]) ⟨d,h⟩
theorem yg {base f n:Nat} (h:n<base):txtN base (f+1) n=[dgN n]:=by rw [txtN,if_pos h];rfl
theorem yY {base f n:Nat} (h: ¬ n<base):txtN base (f+1) n=txtN base f (n / base)++[dgN (n % base)]:=by rw [txtN,if_neg h];rfl
theorem yx (base:Nat): ∀ f n,(txtN base f n).length≤f
  |0,_=>Nat.le_refl _
  | f +1,n=>by
    rw [txtN]
    split
    · simp
    · have:=yx base f (n / base)
      rw [List.length_append];simp;omega
theorem zkp (n:Int) (hneed:False):Spc Tryz.prog 20 [.v (.one (.p (.int .i64 n)))] [] (.ret (.v (.one (.p (.str ([])))))) []:=hneed.elim
def TA (I:Alg) (args:List D) (hp:List HO):Option CT:=match args,hp with
  |[.v (.one (.p (.int .i64 n)))],[]=>(fun(n:Int)=>(some (.one ⟨I.hid (False),(.ret (.v (.one (.p (.str (I.hid ([]))))))),[]⟩):Option CT)) n
  |_,_=>none
theorem zfk:zI Tryz.prog 20 (TA alg):=by
  intro args hp r h
  unfold TA at h
  split at h
  · cases h;exact fun hn=>zkp _ hn
  · cases h
def uf:Know Tryz.prog:=⟨20,TA,zfk⟩
def uO:Know Tryz.prog:=⟨20,fun I=>zK I (TA I),zf zfk⟩
theorem zko (n:Int) (hneed:0≤n∧n<10):Spc Tryz.prog 20 [.v (.one (.p (.int .i64 n)))] [] (.ret (.v (.one (.p (.str (txtN 10 1 n.toNat)))))) []:=by
  generalize hr:txtN 10 1 n.toNat=r
  refine spcG zu mixed Tryz.func20 (by kernel_rfl) { keep:=some [0,2]} [uf,uf,uO] (by kernel_rfl) ?_
  intro I X hI hX
  refine zh (let y0:=([48,49,50,51,52,53,54,55,56,57]:Str);let y1:=I.cut (α:=UInt8) y0 (I.rem n 10) (I.add (I.rem n 10) 1);let y2:=I.len (α:=UInt8) (I.hid (α:=Str) ([]:Str));.br (I.ilt n 0) (.need (I.inr Go.IntKind.i64 (I.sub 0 n)) (.need (I.hid (α:=(Prop)) False) (.need (I.few (I.add (I.len (α:=UInt8) ([45]:Str)) y2) 1000000000) (.fin (.ret (.v (.one (.p (.str (I.app (α:=UInt8) ([45]:Str) (I.hid (α:=Str) ([]:Str)))))))) [])))) (.br (I.ilt n 10) (.need (I.inr Go.IntKind.i64 (I.add n 1)) (.need (I.cutb n (I.add n 1) (I.len (α:=UInt8) y0)) (.fin (.ret (.v (.one (.p (.str (I.cut (α:=UInt8) y0 n (I.add n 1))))))) []))) (.need (I.nne 10) (.need (I.inr Go.IntKind.i64 (I.quo n 10)) (.need (I.nne 10) (.need (I.nne 10) (.need (I.inr Go.IntKind.i64 (I.add (I.rem n 10) 1)) (.need (I.cutb (I.rem n 10) (I.add (I.rem n 10) 1) (I.len (α:=UInt8) y0)) (.need (I.hid (α:=(Prop)) False) (.need (I.few (I.add y2 (I.len (α:=UInt8) y1)) 1000000000) (.fin (.ret (.v (.one (.p (.str (I.app (α:=UInt8) (I.hid (α:=Str) ([]:Str)) y1)))))) []))))))))))) (by kernel_rfl) ?_
  simp only [zC]
  subst hI
  simp only [nrmA,nrmB]
  obtain⟨m,rfl⟩: ∃ m:Nat,n=m:=⟨n.toNat,by omega⟩
  rw [Int.toNat_natCast] at hr
  have e1:(m:Int).tdiv 10=((m / 10:Nat):Int):=by rw [Int.tdiv_eq_ediv_of_nonneg (by omega)];omega
  have e2:(m:Int).tmod 10=((m % 10:Nat):Int):=by rw [Int.tmod_eq_emod_of_nonneg (by omega)];omega
  have e3:m<10→(([48,49,50,51,52,53,54,55,56,57]:Str).drop m).take (((m:Int)+1).toNat - m)=r:=fun h=>by
    rw [show((m:Int)+1).toNat - m=1 by omega,tV h,← hr,yg h]
  have e4:(([48,49,50,51,52,53,54,55,56,57]:Str).drop (m % 10)).take ((((m % 10:Nat):Int)+1).toNat - m % 10)=[dgN (m % 10)]:=by
    rw [show(((m % 10:Nat):Int)+1).toNat - m % 10=1 by omega,tV (Nat.mod_lt _ (by decide))]
  have e5: ¬ m<10→txtN 10 0 (m / 10)++[dgN (m % 10)]=r:=fun h=>by rw [← hr,yY h]
  have hl:=yx 10 0 (m / 10)
  have hl2:=yx 10 0 (m % 10)
  have e6:0<0→txtN 10 0 (m % 10)=[dgN (m % 10)]:=fun h=>by first|exact absurd h (by decide)|exact yg (f:=0) (Nat.mod_lt _ (by decide))
  generalize hH:([48,49,50,51,52,53,54,55,56,57]:Str)=H at *
  have hHl:H.length=10:=by rw [← hH];rfl
  simp only [e1,e2,Int.toNat_natCast,e4,List.length_cons,List.length_nil]
  (repeat' (first|refine And.intro ?_ ?_|intro _))<;>first|omega|exact True.intro|exact False.elim ‹False›|skip
  all_goals first
    |exact e3 (by omega)
    |exact e5 (by omega)
    |(rw [e6 (by decide)];exact e5 (by omega))
    |(exfalso;omega)
def Tz (I:Alg) (args:List D) (hp:List HO):Option CT:=match args,hp with
  |[.v (.one (.p (.int .i64 n)))],[]=>(fun(n:Int)=>(some (.one ⟨I.hid (0≤n∧n<10),(.ret (.v (.one (.p (.str (I.hid (txtN 10 1 n.toNat))))))),[]⟩):Option CT)) n
  |_,_=>none
theorem zfj:zI Tryz.prog 20 (Tz alg):=by
  intro args hp r h
  unfold Tz at h
  split at h
  · cases h;exact fun hn=>zko _ hn
  · cases h
def uN:Know Tryz.prog:=⟨20,Tz,zfj⟩
def sO:Know Tryz.prog:=⟨20,fun I=>zK I (Tz I),zf zfj⟩
theorem zkn (n:Int) (hneed:0≤n∧n<100):Spc Tryz.prog 20 [.v (.one (.p (.int .i64 n)))] [] (.ret (.v (.one (.p (.str (txtN 10 2 n.toNat)))))) []:=by
  generalize hr:txtN 10 2 n.toNat=r
  refine spcG zu mixed Tryz.func20 (by kernel_rfl) { keep:=some [0,2]} [uN,uf,uO,uN,sO] (by kernel_rfl) ?_
  intro I X hI hX
  refine zh (let y0:=([48,49,50,51,52,53,54,55,56,57]:Str);let y1:=I.cut (α:=UInt8) y0 (I.rem n 10) (I.add (I.rem n 10) 1);let y2:=I.hid (α:=Str) (txtN 10 1 (Int.toNat (I.quo n 10)));let y3:=I.hid (α:=Str) (txtN 10 1 (Int.toNat (I.sub 0 n)));.br (I.ilt n 0) (.need (I.inr Go.IntKind.i64 (I.sub 0 n)) (.need (I.hid (α:=(Prop)) (And (LE.le (0:Int) (I.sub 0 n)) (LT.lt (I.sub 0 n) (10:Int)))) (.need (I.few (I.add (I.len (α:=UInt8) ([45]:Str)) (I.len (α:=UInt8) y3)) 1000000000) (.fin (.ret (.v (.one (.p (.str (I.app (α:=UInt8) ([45]:Str) y3)))))) [])))) (.br (I.ilt n 10) (.need (I.inr Go.IntKind.i64 (I.add n 1)) (.need (I.cutb n (I.add n 1) (I.len (α:=UInt8) y0)) (.fin (.ret (.v (.one (.p (.str (I.cut (α:=UInt8) y0 n (I.add n 1))))))) []))) (.need (I.nne 10) (.need (I.inr Go.IntKind.i64 (I.quo n 10)) (.need (I.nne 10) (.need (I.nne 10) (.need (I.inr Go.IntKind.i64 (I.add (I.rem n 10) 1)) (.need (I.cutb (I.rem n 10) (I.add (I.rem n 10) 1) (I.len (α:=UInt8) y0)) (.need (I.hid (α:=(Prop)) (And (LE.le (0:Int) (I.quo n 10)) (LT.lt (I.quo n 10) (10:Int)))) (.need (I.few (I.add (I.len (α:=UInt8) y2) (I.len (α:=UInt8) y1)) 1000000000) (.fin (.ret (.v (.one (.p (.str (I.app (α:=UInt8) y2 y1)))))) []))))))))))) (by kernel_rfl) ?_
  simp only [zC]
  subst hI
  simp only [nrmA,nrmB]
  obtain⟨m,rfl⟩: ∃ m:Nat,n=m:=⟨n.toNat,by omega⟩
  rw [Int.toNat_natCast] at hr
  have e1:(m:Int).tdiv 10=((m / 10:Nat):Int):=by rw [Int.tdiv_eq_ediv_of_nonneg (by omega)];omega
  have e2:(m:Int).tmod 10=((m % 10:Nat):Int):=by rw [Int.tmod_eq_emod_of_nonneg (by omega)];omega
  have e3:m<10→(([48,49,50,51,52,53,54,55,56,57]:Str).drop m).take (((m:Int)+1).toNat - m)=r:=fun h=>by
    rw [show((m:Int)+1).toNat - m=1 by omega,tV h,← hr,yg h]
  have e4:(([48,49,50,51,52,53,54,55,56,57]:Str).drop (m % 10)).take ((((m % 10:Nat):Int)+1).toNat - m % 10)=[dgN (m % 10)]:=by
    rw [show(((m % 10:Nat):Int)+1).toNat - m % 10=1 by omega,tV (Nat.mod_lt _ (by decide))]
  have e5: ¬ m<10→txtN 10 1 (m / 10)++[dgN (m % 10)]=r:=fun h=>by rw [← hr,yY h]
  have hl:=yx 10 1 (m / 10)
  have hl2:=yx 10 1 (m % 10)
  have e6:0<1→txtN 10 1 (m % 10)=[dgN (m % 10)]:=fun h=>by first|exact absurd h (by decide)|exact yg (f:=0) (Nat.mod_lt _ (by decide))
  generalize hH:([48,49,50,51,52,53,54,55,56,57]:Str)=H at *
  have hHl:H.length=10:=by rw [← hH];rfl
  simp only [e1,e2,Int.toNat_natCast,e4,List.length_cons,List.length_nil]
  (repeat' (first|refine And.intro ?_ ?_|intro _))<;>first|omega|exact True.intro|exact False.elim ‹False›|skip
  all_goals first
    |exact e3 (by omega)
    |exact e5 (by omega)
    |(rw [e6 (by decide)];exact e5 (by omega))
    |(exfalso;omega)
def Tv (I:Alg) (args:List D) (hp:List HO):Option CT:=match args,hp with
  |[.v (.one (.p (.int .i64 n)))],[]=>(fun(n:Int)=>(some (.one ⟨I.hid (0≤n∧n<100),(.ret (.v (.one (.p (.str (I.hid (txtN 10 2 n.toNat))))))),[]⟩):Option CT)) n
  |_,_=>none
theorem zfi:zI Tryz.prog 20 (Tv alg):=by
  intro args hp r h
  unfold Tv at h
  split at h
  · cases h;exact fun hn=>zkn _ hn
  · cases h
def sN:Know Tryz.prog:=⟨20,Tv,zfi⟩
def qR:Know Tryz.prog:=⟨20,fun I=>zK I (Tv I),zf zfi⟩
theorem zkm (n:Int) (hneed:0≤n∧n<1000):Spc Tryz.prog 20 [.v (.one (.p (.int .i64 n)))] [] (.ret (.v (.one (.p (.str (txtN 10 3 n.toNat)))))) []:=by
  generalize hr:txtN 10 3 n.toNat=r
  refine spcG zu mixed Tryz.func20 (by kernel_rfl) { keep:=some [0,2]} [sN,uf,uO,uN,sO,sN,qR] (by kernel_rfl) ?_
  intro I X hI hX
  refine zh (let y0:=([48,49,50,51,52,53,54,55,56,57]:Str);let y1:=I.cut (α:=UInt8) y0 (I.rem n 10) (I.add (I.rem n 10) 1);let y2:=I.hid (α:=Str) (txtN 10 2 (Int.toNat (I.quo n 10)));let y3:=I.hid (α:=Str) (txtN 10 2 (Int.toNat (I.sub 0 n)));.br (I.ilt n 0) (.need (I.inr Go.IntKind.i64 (I.sub 0 n)) (.need (I.hid (α:=(Prop)) (And (LE.le (0:Int) (I.sub 0 n)) (LT.lt (I.sub 0 n) (100:Int)))) (.need (I.few (I.add (I.len (α:=UInt8) ([45]:Str)) (I.len (α:=UInt8) y3)) 1000000000) (.fin (.ret (.v (.one (.p (.str (I.app (α:=UInt8) ([45]:Str) y3)))))) [])))) (.br (I.ilt n 10) (.need (I.inr Go.IntKind.i64 (I.add n 1)) (.need (I.cutb n (I.add n 1) (I.len (α:=UInt8) y0)) (.fin (.ret (.v (.one (.p (.str (I.cut (α:=UInt8) y0 n (I.add n 1))))))) []))) (.need (I.nne 10) (.need (I.inr Go.IntKind.i64 (I.quo n 10)) (.need (I.nne 10) (.need (I.nne 10) (.need (I.inr Go.IntKind.i64 (I.add (I.rem n 10) 1)) (.need (I.cutb (I.rem n 10) (I.add (I.rem n 10) 1) (I.len (α:=UInt8) y0)) (.need (I.hid (α:=(Prop)) (And (LE.le (0:Int) (I.quo n 10)) (LT.lt (I.quo n 10) (100:Int)))) (.need (I.few (I.add (I.len (α:=UInt8) y2) (I.len (α:=UInt8) y1)) 1000000000) (.fin (.ret (.v (.one (.p (.str (I.app (α:=UInt8) y2 y1)))))) []))))))))))) (by kernel_rfl) ?_
  simp only [zC]
  subst hI
  simp only [nrmA,nrmB]
  obtain⟨m,rfl⟩: ∃ m:Nat,n=m:=⟨n.toNat,by omega⟩
  rw [Int.toNat_natCast] at hr
  have e1:(m:Int).tdiv 10=((m / 10:Nat):Int):=by rw [Int.tdiv_eq_ediv_of_nonneg (by omega)];omega
  have e2:(m:Int).tmod 10=((m % 10:Nat):Int):=by rw [Int.tmod_eq_emod_of_nonneg (by omega)];omega
  have e3:m<10→(([48,49,50,51,52,53,54,55,56,57]:Str).drop m).take (((m:Int)+1).toNat - m)=r:=fun h=>by
    rw [show((m:Int)+1).toNat - m=1 by omega,tV h,← hr,yg h]
  have e4:(([48,49,50,51,52,53,54,55,56,57]:Str).drop (m % 10)).take ((((m % 10:Nat):Int)+1).toNat - m % 10)=[dgN (m % 10)]:=by
    rw [show(((m % 10:Nat):Int)+1).toNat - m % 10=1 by omega,tV (Nat.mod_lt _ (by decide))]
  have e5: ¬ m<10→txtN 10 2 (m / 10)++[dgN (m % 10)]=r:=fun h=>by rw [← hr,yY h]
  have hl:=yx 10 2 (m / 10)
  have hl2:=yx 10 2 (m % 10)
  have e6:0<2→txtN 10 2 (m % 10)=[dgN (m % 10)]:=fun h=>by first|exact absurd h (by decide)|exact yg (f:=1) (Nat.mod_lt _ (by decide))
  generalize hH:([48,49,50,51,52,53,54,55,56,57]:Str)=H at *
  have hHl:H.length=10:=by rw [← hH];rfl
  simp only [e1,e2,Int.toNat_natCast,e4,List.length_cons,List.length_nil]
  (repeat' (first|refine And.intro ?_ ?_|intro _))<;>first|omega|exact True.intro|exact False.elim ‹False›|skip
  all_goals first
    |exact e3 (by omega)
    |exact e5 (by omega)
    |(rw [e6 (by decide)];exact e5 (by omega))
    |(exfalso;omega)
def Tt (I:Alg) (args:List D) (hp:List HO):Option CT:=match args,hp with
  |[.v (.one (.p (.int .i64 n)))],[]=>(fun(n:Int)=>(some (.one ⟨I.hid (0≤n∧n<1000),(.ret (.v (.one (.p (.str (I.hid (txtN 10 3 n.toNat))))))),[]⟩):Option CT)) n
  |_,_=>none
theorem zfh:zI Tryz.prog 20 (Tt alg):=by
  intro args hp r h
  unfold Tt at h
  split at h
  · cases h;exact fun hn=>zkm _ hn
  · cases h
def qQ:Know Tryz.prog:=⟨20,Tt,zfh⟩
def YK:Know Tryz.prog:=⟨20,fun I=>zK I (Tt I),zf zfh⟩
theorem zkl (n:Int) (hneed:0≤n∧n<10000):Spc Tryz.prog 20 [.v (.one (.p (.int .i64 n)))] [] (.ret (.v (.one (.p (.str (txtN 10 4 n.toNat)))))) []:=by
  generalize hr:txtN 10 4 n.toNat=r
  refine spcG zu mixed Tryz.func20 (by kernel_rfl) { keep:=some [0,2]} [qQ,uf,uO,uN,sO,sN,qR,qQ,YK] (by kernel_rfl) ?_
  intro I X hI hX
  refine zh (let y0:=([48,49,50,51,52,53,54,55,56,57]:Str);let y1:=I.cut (α:=UInt8) y0 (I.rem n 10) (I.add (I.rem n 10) 1);let y2:=I.hid (α:=Str) (txtN 10 3 (Int.toNat (I.quo n 10)));let y3:=I.hid (α:=Str) (txtN 10 3 (Int.toNat (I.sub 0 n)));.br (I.ilt n 0) (.need (I.inr Go.IntKind.i64 (I.sub 0 n)) (.need (I.hid (α:=(Prop)) (And (LE.le (0:Int) (I.sub 0 n)) (LT.lt (I.sub 0 n) (1000:Int)))) (.need (I.few (I.add (I.len (α:=UInt8) ([45]:Str)) (I.len (α:=UInt8) y3)) 1000000000) (.fin (.ret (.v (.one (.p (.str (I.app (α:=UInt8) ([45]:Str) y3)))))) [])))) (.br (I.ilt n 10) (.need (I.inr Go.IntKind.i64 (I.add n 1)) (.need (I.cutb n (I.add n 1) (I.len (α:=UInt8) y0)) (.fin (.ret (.v (.one (.p (.str (I.cut (α:=UInt8) y0 n (I.add n 1))))))) []))) (.need (I.nne 10) (.need (I.inr Go.IntKind.i64 (I.quo n 10)) (.need (I.nne 10) (.need (I.nne 10) (.need (I.inr Go.IntKind.i64 (I.add (I.rem n 10) 1)) (.need (I.cutb (I.rem n 10) (I.add (I.rem n 10) 1) (I.len (α:=UInt8) y0)) (.need (I.hid (α:=(Prop)) (And (LE.le (0:Int) (I.quo n 10)) (LT.lt (I.quo n 10) (1000:Int)))) (.need (I.few (I.add (I.len (α:=UInt8) y2) (I.len (α:=UInt8) y1)) 1000000000) (.fin (.ret (.v (.one (.p (.str (I.app (α:=UInt8) y2 y1)))))) []))))))))))) (by kernel_rfl) ?_
  simp only [zC]
  subst hI
  simp only [nrmA,nrmB]
  obtain⟨m,rfl⟩: ∃ m:Nat,n=m:=⟨n.toNat,by omega⟩
  rw [Int.toNat_natCast] at hr
  have e1:(m:Int).tdiv 10=((m / 10:Nat):Int):=by rw [Int.tdiv_eq_ediv_of_nonneg (by omega)];omega
  have e2:(m:Int).tmod 10=((m % 10:Nat):Int):=by rw [Int.tmod_eq_emod_of_nonneg (by omega)];omega
  have e3:m<10→(([48,49,50,51,52,53,54,55,56,57]:Str).drop m).take (((m:Int)+1).toNat - m)=r:=fun h=>by
    rw [show((m:Int)+1).toNat - m=1 by omega,tV h,← hr,yg h]
  have e4:(([48,49,50,51,52,53,54,55,56,57]:Str).drop (m % 10)).take ((((m % 10:Nat):Int)+1).toNat - m % 10)=[dgN (m % 10)]:=by
    rw [show(((m % 10:Nat):Int)+1).toNat - m % 10=1 by omega,tV (Nat.mod_lt _ (by decide))]
  have e5: ¬ m<10→txtN 10 3 (m / 10)++[dgN (m % 10)]=r:=fun h=>by rw [← hr,yY h]
  have hl:=yx 10 3 (m / 10)
  have hl2:=yx 10 3 (m % 10)
  have e6:0<3→txtN 10 3 (m % 10)=[dgN (m % 10)]:=fun h=>by first|exact absurd h (by decide)|exact yg (f:=2) (Nat.mod_lt _ (by decide))
  generalize hH:([48,49,50,51,52,53,54,55,56,57]:Str)=H at *
  have hHl:H.length=10:=by rw [← hH];rfl
  simp only [e1,e2,Int.toNat_natCast,e4,List.length_cons,List.length_nil]
  (repeat' (first|refine And.intro ?_ ?_|intro _))<;>first|omega|exact True.intro|exact False.elim ‹False›|skip
  all_goals first
    |exact e3 (by omega)
    |exact e5 (by omega)
    |(rw [e6 (by decide)];exact e5 (by omega))
    |(exfalso;omega)
def Tq (I:Alg) (args:List D) (hp:List HO):Option CT:=match args,hp with
  |[.v (.one (.p (.int .i64 n)))],[]=>(fun(n:Int)=>(some (.one ⟨I.hid (0≤n∧n<10000),(.ret (.v (.one (.p (.str (I.hid (txtN 10 4 n.toNat))))))),[]⟩):Option CT)) n
  |_,_=>none
theorem zfg:zI Tryz.prog 20 (Tq alg):=by
  intro args hp r h
  unfold Tq at h
  split at h
  · cases h;exact fun hn=>zkl _ hn
  · cases h
def YJ:Know Tryz.prog:=⟨20,Tq,zfg⟩
def WQ:Know Tryz.prog:=⟨20,fun I=>zK I (Tq I),zf zfg⟩
theorem zkk (n:Int) (hneed:0≤n∧n<100000):Spc Tryz.prog 20 [.v (.one (.p (.int .i64 n)))] [] (.ret (.v (.one (.p (.str (txtN 10 5 n.toNat)))))) []:=by
  generalize hr:txtN 10 5 n.toNat=r
  refine spcG zu mixed Tryz.func20 (by kernel_rfl) { keep:=some [0,2]} [YJ,uf,uO,uN,sO,sN,qR,qQ,YK,YJ,WQ] (by kernel_rfl) ?_
  intro I X hI hX
  refine zh (let y0:=([48,49,50,51,52,53,54,55,56,57]:Str);let y1:=I.cut (α:=UInt8) y0 (I.rem n 10) (I.add (I.rem n 10) 1);let y2:=I.hid (α:=Str) (txtN 10 4 (Int.toNat (I.quo n 10)));let y3:=I.hid (α:=Str) (txtN 10 4 (Int.toNat (I.sub 0 n)));.br (I.ilt n 0) (.need (I.inr Go.IntKind.i64 (I.sub 0 n)) (.need (I.hid (α:=(Prop)) (And (LE.le (0:Int) (I.sub 0 n)) (LT.lt (I.sub 0 n) (10000:Int)))) (.need (I.few (I.add (I.len (α:=UInt8) ([45]:Str)) (I.len (α:=UInt8) y3)) 1000000000) (.fin (.ret (.v (.one (.p (.str (I.app (α:=UInt8) ([45]:Str) y3)))))) [])))) (.br (I.ilt n 10) (.need (I.inr Go.IntKind.i64 (I.add n 1)) (.need (I.cutb n (I.add n 1) (I.len (α:=UInt8) y0)) (.fin (.ret (.v (.one (.p (.str (I.cut (α:=UInt8) y0 n (I.add n 1))))))) []))) (.need (I.nne 10) (.need (I.inr Go.IntKind.i64 (I.quo n 10)) (.need (I.nne 10) (.need (I.nne 10) (.need (I.inr Go.IntKind.i64 (I.add (I.rem n 10) 1)) (.need (I.cutb (I.rem n 10) (I.add (I.rem n 10) 1) (I.len (α:=UInt8) y0)) (.need (I.hid (α:=(Prop)) (And (LE.le (0:Int) (I.quo n 10)) (LT.lt (I.quo n 10) (10000:Int)))) (.need (I.few (I.add (I.len (α:=UInt8) y2) (I.len (α:=UInt8) y1)) 1000000000) (.fin (.ret (.v (.one (.p (.str (I.app (α:=UInt8) y2 y1)))))) []))))))))))) (by kernel_rfl) ?_
  simp only [zC]
  subst hI
  simp only [nrmA,nrmB]
  obtain⟨m,rfl⟩: ∃ m:Nat,n=m:=⟨n.toNat,by omega⟩
  rw [Int.toNat_natCast] at hr
  have e1:(m:Int).tdiv 10=((m / 10:Nat):Int):=by rw [Int.tdiv_eq_ediv_of_nonneg (by omega)];omega
  have e2:(m:Int).tmod 10=((m % 10:Nat):Int):=by rw [Int.tmod_eq_emod_of_nonneg (by omega)];omega
  have e3:m<10→(([48,49,50,51,52,53,54,55,56,57]:Str).drop m).take (((m:Int)+1).toNat - m)=r:=fun h=>by
    rw [show((m:Int)+1).toNat - m=1 by omega,tV h,← hr,yg h]
  have e4:(([48,49,50,51,52,53,54,55,56,57]:Str).drop (m % 10)).take ((((m % 10:Nat):Int)+1).toNat - m % 10)=[dgN (m % 10)]:=by
    rw [show(((m % 10:Nat):Int)+1).toNat - m % 10=1 by omega,tV (Nat.mod_lt _ (by decide))]
  have e5: ¬ m<10→txtN 10 4 (m / 10)++[dgN (m % 10)]=r:=fun h=>by rw [← hr,yY h]
  have hl:=yx 10 4 (m / 10)
  have hl2:=yx 10 4 (m % 10)
  have e6:0<4→txtN 10 4 (m % 10)=[dgN (m % 10)]:=fun h=>by first|exact absurd h (by decide)|exact yg (f:=3) (Nat.mod_lt _ (by decide))
  generalize hH:([48,49,50,51,52,53,54,55,56,57]:Str)=H at *
  have hHl:H.length=10:=by rw [← hH];rfl
  simp only [e1,e2,Int.toNat_natCast,e4,List.length_cons,List.length_nil]
  (repeat' (first|refine And.intro ?_ ?_|intro _))<;>first|omega|exact True.intro|exact False.elim ‹False›|skip
  all_goals first
    |exact e3 (by omega)
    |exact e5 (by omega)
    |(rw [e6 (by decide)];exact e5 (by omega))
    |(exfalso;omega)
def Tn (I:Alg) (args:List D) (hp:List HO):Option CT:=match args,hp with
  |[.v (.one (.p (.int .i64 n)))],[]=>(fun(n:Int)=>(some (.one ⟨I.hid (0≤n∧n<100000),(.ret (.v (.one (.p (.str (I.hid (txtN 10 5 n.toNat))))))),[]⟩):Option CT)) n
  |_,_=>none
theorem zff:zI Tryz.prog 20 (Tn alg):=by
  intro args hp r h
  unfold Tn at h
  split at h
  · cases h;exact fun hn=>zkk _ hn
  · cases h
def WO:Know Tryz.prog:=⟨20,Tn,zff⟩
def Tm:Know Tryz.prog:=⟨20,fun I=>zK I (Tn I),zf zff⟩
theorem zkj (n:Int) (hneed:0≤n∧n<1000000):Spc Tryz.prog 20 [.v (.one (.p (.int .i64 n)))] [] (.ret (.v (.one (.p (.str (txtN 10 6 n.toNat)))))) []:=by
  generalize hr:txtN 10 6 n.toNat=r
  refine spcG zu mixed Tryz.func20 (by kernel_rfl) { keep:=some [0,2]} [WO,uf,uO,uN,sO,sN,qR,qQ,YK,YJ,WQ,WO,Tm] (by kernel_rfl) ?_
  intro I X hI hX
  refine zh (let y0:=([48,49,50,51,52,53,54,55,56,57]:Str);let y1:=I.cut (α:=UInt8) y0 (I.rem n 10) (I.add (I.rem n 10) 1);let y2:=I.hid (α:=Str) (txtN 10 5 (Int.toNat (I.quo n 10)));let y3:=I.hid (α:=Str) (txtN 10 5 (Int.toNat (I.sub 0 n)));.br (I.ilt n 0) (.need (I.inr Go.IntKind.i64 (I.sub 0 n)) (.need (I.hid (α:=(Prop)) (And (LE.le (0:Int) (I.sub 0 n)) (LT.lt (I.sub 0 n) (100000:Int)))) (.need (I.few (I.add (I.len (α:=UInt8) ([45]:Str)) (I.len (α:=UInt8) y3)) 1000000000) (.fin (.ret (.v (.one (.p (.str (I.app (α:=UInt8) ([45]:Str) y3)))))) [])))) (.br (I.ilt n 10) (.need (I.inr Go.IntKind.i64 (I.add n 1)) (.need (I.cutb n (I.add n 1) (I.len (α:=UInt8) y0)) (.fin (.ret (.v (.one (.p (.str (I.cut (α:=UInt8) y0 n (I.add n 1))))))) []))) (.need (I.nne 10) (.need (I.inr Go.IntKind.i64 (I.quo n 10)) (.need (I.nne 10) (.need (I.nne 10) (.need (I.inr Go.IntKind.i64 (I.add (I.rem n 10) 1)) (.need (I.cutb (I.rem n 10) (I.add (I.rem n 10) 1) (I.len (α:=UInt8) y0)) (.need (I.hid (α:=(Prop)) (And (LE.le (0:Int) (I.quo n 10)) (LT.lt (I.quo n 10) (100000:Int)))) (.need (I.few (I.add (I.len (α:=UInt8) y2) (I.len (α:=UInt8) y1)) 1000000000) (.fin (.ret (.v (.one (.p (.str (I.app (α:=UInt8) y2 y1)))))) []))))))))))) (by kernel_rfl) ?_
  simp only [zC]
  subst hI
  simp only [nrmA,nrmB]
  obtain⟨m,rfl⟩: ∃ m:Nat,n=m:=⟨n.toNat,by omega⟩
  rw [Int.toNat_natCast] at hr
  have e1:(m:Int).tdiv 10=((m / 10:Nat):Int):=by rw [Int.tdiv_eq_ediv_of_nonneg (by omega)];omega
  have e2:(m:Int).tmod 10=((m % 10:Nat):Int):=by rw [Int.tmod_eq_emod_of_nonneg (by omega)];omega
  have e3:m<10→(([48,49,50,51,52,53,54,55,56,57]:Str).drop m).take (((m:Int)+1).toNat - m)=r:=fun h=>by
    rw [show((m:Int)+1).toNat - m=1 by omega,tV h,← hr,yg h]
  have e4:(([48,49,50,51,52,53,54,55,56,57]:Str).drop (m % 10)).take ((((m % 10:Nat):Int)+1).toNat - m % 10)=[dgN (m % 10)]:=by
    rw [show(((m % 10:Nat):Int)+1).toNat - m % 10=1 by omega,tV (Nat.mod_lt _ (by decide))]
  have e5: ¬ m<10→txtN 10 5 (m / 10)++[dgN (m % 10)]=r:=fun h=>by rw [← hr,yY h]
  have hl:=yx 10 5 (m / 10)
  have hl2:=yx 10 5 (m % 10)
  have e6:0<5→txtN 10 5 (m % 10)=[dgN (m % 10)]:=fun h=>by first|exact absurd h (by decide)|exact yg (f:=4) (Nat.mod_lt _ (by decide))
  generalize hH:([48,49,50,51,52,53,54,55,56,57]:Str)=H at *
  have hHl:H.length=10:=by rw [← hH];rfl
  simp only [e1,e2,Int.toNat_natCast,e4,List.length_cons,List.length_nil]
  (repeat' (first|refine And.intro ?_ ?_|intro _))<;>first|omega|exact True.intro|exact False.elim ‹False›|skip
  all_goals first
    |exact e3 (by omega)
    |exact e5 (by omega)
    |(rw [e6 (by decide)];exact e5 (by omega))
    |(exfalso;omega)
def Tj (I:Alg) (args:List D) (hp:List HO):Option CT:=match args,hp with
  |[.v (.one (.p (.int .i64 n)))],[]=>(fun(n:Int)=>(some (.one ⟨I.hid (0≤n∧n<1000000),(.ret (.v (.one (.p (.str (I.hid (txtN 10 6 n.toNat))))))),[]⟩):Option CT)) n
  |_,_=>none
theorem zfe:zI Tryz.prog 20 (Tj alg):=by
  intro args hp r h
  unfold Tj at h
  split at h
  · cases h;exact fun hn=>zkj _ hn
  · cases h
def Ti:Know Tryz.prog:=⟨20,Tj,zfe⟩
def zaP:Know Tryz.prog:=⟨20,fun I=>zK I (Tj I),zf zfe⟩
theorem zki (n:Int) (hneed:0≤n∧n<10000000):Spc Tryz.prog 20 [.v (.one (.p (.int .i64 n)))] [] (.ret (.v (.one (.p (.str (txtN 10 7 n.toNat)))))) []:=by
  generalize hr:txtN 10 7 n.toNat=r
  refine spcG zu mixed Tryz.func20 (by kernel_rfl) { keep:=some [0,2]} [Ti,uf,uO,uN,sO,sN,qR,qQ,YK,YJ,WQ,WO,Tm,Ti,zaP] (by kernel_rfl) ?_
  intro I X hI hX
  refine zh (let y0:=([48,49,50,51,52,53,54,55,56,57]:Str);let y1:=I.cut (α:=UInt8) y0 (I.rem n 10) (I.add (I.rem n 10) 1);let y2:=I.hid (α:=Str) (txtN 10 6 (Int.toNat (I.quo n 10)));let y3:=I.hid (α:=Str) (txtN 10 6 (Int.toNat (I.sub 0 n)));.br (I.ilt n 0) (.need (I.inr Go.IntKind.i64 (I.sub 0 n)) (.need (I.hid (α:=(Prop)) (And (LE.le (0:Int) (I.sub 0 n)) (LT.lt (I.sub 0 n) (1000000:Int)))) (.need (I.few (I.add (I.len (α:=UInt8) ([45]:Str)) (I.len (α:=UInt8) y3)) 1000000000) (.fin (.ret (.v (.one (.p (.str (I.app (α:=UInt8) ([45]:Str) y3)))))) [])))) (.br (I.ilt n 10) (.need (I.inr Go.IntKind.i64 (I.add n 1)) (.need (I.cutb n (I.add n 1) (I.len (α:=UInt8) y0)) (.fin (.ret (.v (.one (.p (.str (I.cut (α:=UInt8) y0 n (I.add n 1))))))) []))) (.need (I.nne 10) (.need (I.inr Go.IntKind.i64 (I.quo n 10)) (.need (I.nne 10) (.need (I.nne 10) (.need (I.inr Go.IntKind.i64 (I.add (I.rem n 10) 1)) (.need (I.cutb (I.rem n 10) (I.add (I.rem n 10) 1) (I.len (α:=UInt8) y0)) (.need (I.hid (α:=(Prop)) (And (LE.le (0:Int) (I.quo n 10)) (LT.lt (I.quo n 10) (1000000:Int)))) (.need (I.few (I.add (I.len (α:=UInt8) y2) (I.len (α:=UInt8) y1)) 1000000000) (.fin (.ret (.v (.one (.p (.str (I.app (α:=UInt8) y2 y1)))))) []))))))))))) (by kernel_rfl) ?_
  simp only [zC]
  subst hI
  simp only [nrmA,nrmB]
  obtain⟨m,rfl⟩: ∃ m:Nat,n=m:=⟨n.toNat,by omega⟩
  rw [Int.toNat_natCast] at hr
  have e1:(m:Int).tdiv 10=((m / 10:Nat):Int):=by rw [Int.tdiv_eq_ediv_of_nonneg (by omega)];omega
  have e2:(m:Int).tmod 10=((m % 10:Nat):Int):=by rw [Int.tmod_eq_emod_of_nonneg (by omega)];omega
  have e3:m<10→(([48,49,50,51,52,53,54,55,56,57]:Str).drop m).take (((m:Int)+1).toNat - m)=r:=fun h=>by
    rw [show((m:Int)+1).toNat - m=1 by omega,tV h,← hr,yg h]
  have e4:(([48,49,50,51,52,53,54,55,56,57]:Str).drop (m % 10)).take ((((m % 10:Nat):Int)+1).toNat - m % 10)=[dgN (m % 10)]:=by
    rw [show(((m % 10:Nat):Int)+1).toNat - m % 10=1 by omega,tV (Nat.mod_lt _ (by decide))]
  have e5: ¬ m<10→txtN 10 6 (m / 10)++[dgN (m % 10)]=r:=fun h=>by rw [← hr,yY h]
  have hl:=yx 10 6 (m / 10)
  have hl2:=yx 10 6 (m % 10)
  have e6:0<6→txtN 10 6 (m % 10)=[dgN (m % 10)]:=fun h=>by first|exact absurd h (by decide)|exact yg (f:=5) (Nat.mod_lt _ (by decide))
  generalize hH:([48,49,50,51,52,53,54,55,56,57]:Str)=H at *
  have hHl:H.length=10:=by rw [← hH];rfl
  simp only [e1,e2,Int.toNat_natCast,e4,List.length_cons,List.length_nil]
  (repeat' (first|refine And.intro ?_ ?_|intro _))<;>first|omega|exact True.intro|exact False.elim ‹False›|skip
  all_goals first
    |exact e3 (by omega)
    |exact e5 (by omega)
    |(rw [e6 (by decide)];exact e5 (by omega))
    |(exfalso;omega)
def Tf (I:Alg) (args:List D) (hp:List HO):Option CT:=match args,hp with
  |[.v (.one (.p (.int .i64 n)))],[]=>(fun(n:Int)=>(some (.one ⟨I.hid (0≤n∧n<10000000),(.ret (.v (.one (.p (.str (I.hid (txtN 10 7 n.toNat))))))),[]⟩):Option CT)) n
  |_,_=>none
theorem zfd:zI Tryz.prog 20 (Tf alg):=by
  intro args hp r h
  unfold Tf at h
  split at h
  · cases h;exact fun hn=>zki _ hn
  · cases h
def zaO:Know Tryz.prog:=⟨20,Tf,zfd⟩
def zfc:Know Tryz.prog:=⟨20,fun I=>zK I (Tf I),zf zfd⟩
theorem zkh (n:Int) (hneed:0≤n∧n<100000000):Spc Tryz.prog 20 [.v (.one (.p (.int .i64 n)))] [] (.ret (.v (.one (.p (.str (txtN 10 8 n.toNat)))))) []:=by
  generalize hr:txtN 10 8 n.toNat=r
  refine spcG zu mixed Tryz.func20 (by kernel_rfl) { keep:=some [0,2]} [zaO,uf,uO,uN,sO,sN,qR,qQ,YK,YJ,WQ,WO,Tm,Ti,zaP,zaO,zfc] (by kernel_rfl) ?_
  intro I X hI hX
  refine zh (let y0:=([48,49,50,51,52,53,54,55,56,57]:Str);let y1:=I.cut (α:=UInt8) y0 (I.rem n 10) (I.add (I.rem n 10) 1);let y2:=I.hid (α:=Str) (txtN 10 7 (Int.toNat (I.quo n 10)));let y3:=I.hid (α:=Str) (txtN 10 7 (Int.toNat (I.sub 0 n)));.br (I.ilt n 0) (.need (I.inr Go.IntKind.i64 (I.sub 0 n)) (.need (I.hid (α:=(Prop)) (And (LE.le (0:Int) (I.sub 0 n)) (LT.lt (I.sub 0 n) (10000000:Int)))) (.need (I.few (I.add (I.len (α:=UInt8) ([45]:Str)) (I.len (α:=UInt8) y3)) 1000000000) (.fin (.ret (.v (.one (.p (.str (I.app (α:=UInt8) ([45]:Str) y3)))))) [])))) (.br (I.ilt n 10) (.need (I.inr Go.IntKind.i64 (I.add n 1)) (.need (I.cutb n (I.add n 1) (I.len (α:=UInt8) y0)) (.fin (.ret (.v (.one (.p (.str (I.cut (α:=UInt8) y0 n (I.add n 1))))))) []))) (.need (I.nne 10) (.need (I.inr Go.IntKind.i64 (I.quo n 10)) (.need (I.nne 10) (.need (I.nne 10) (.need (I.inr Go.IntKind.i64 (I.add (I.rem n 10) 1)) (.need (I.cutb (I.rem n 10) (I.add (I.rem n 10) 1) (I.len (α:=UInt8) y0)) (.need (I.hid (α:=(Prop)) (And (LE.le (0:Int) (I.quo n 10)) (LT.lt (I.quo n 10) (10000000:Int)))) (.need (I.few (I.add (I.len (α:=UInt8) y2) (I.len (α:=UInt8) y1)) 1000000000) (.fin (.ret (.v (.one (.p (.str (I.app (α:=UInt8) y2 y1)))))) []))))))))))) (by kernel_rfl) ?_
  simp only [zC]
  subst hI
  simp only [nrmA,nrmB]
  obtain⟨m,rfl⟩: ∃ m:Nat,n=m:=⟨n.toNat,by omega⟩
  rw [Int.toNat_natCast] at hr
  have e1:(m:Int).tdiv 10=((m / 10:Nat):Int):=by rw [Int.tdiv_eq_ediv_of_nonneg (by omega)];omega
  have e2:(m:Int).tmod 10=((m % 10:Nat):Int):=by rw [Int.tmod_eq_emod_of_nonneg (by omega)];omega
  have e3:m<10→(([48,49,50,51,52,53,54,55,56,57]:Str).drop m).take (((m:Int)+1).toNat - m)=r:=fun h=>by
    rw [show((m:Int)+1).toNat - m=1 by omega,tV h,← hr,yg h]
  have e4:(([48,49,50,51,52,53,54,55,56,57]:Str).drop (m % 10)).take ((((m % 10:Nat):Int)+1).toNat - m % 10)=[dgN (m % 10)]:=by
    rw [show(((m % 10:Nat):Int)+1).toNat - m % 10=1 by omega,tV (Nat.mod_lt _ (by decide))]
  have e5: ¬ m<10→txtN 10 7 (m / 10)++[dgN (m % 10)]=r:=fun h=>by rw [← hr,yY h]
  have hl:=yx 10 7 (m / 10)
  have hl2:=yx 10 7 (m % 10)
  have e6:0<7→txtN 10 7 (m % 10)=[dgN (m % 10)]:=fun h=>by first|exact absurd h (by decide)|exact yg (f:=6) (Nat.mod_lt _ (by decide))
  generalize hH:([48,49,50,51,52,53,54,55,56,57]:Str)=H at *
  have hHl:H.length=10:=by rw [← hH];rfl
  simp only [e1,e2,Int.toNat_natCast,e4,List.length_cons,List.length_nil]
  (repeat' (first|refine And.intro ?_ ?_|intro _))<;>first|omega|exact True.intro|exact False.elim ‹False›|skip
  all_goals first
    |exact e3 (by omega)
    |exact e5 (by omega)
    |(rw [e6 (by decide)];exact e5 (by omega))
    |(exfalso;omega)
def Td (I:Alg) (args:List D) (hp:List HO):Option CT:=match args,hp with
  |[.v (.one (.p (.int .i64 n)))],[]=>(fun(n:Int)=>(some (.one ⟨I.hid (0≤n∧n<100000000),(.ret (.v (.one (.p (.str (I.hid (txtN 10 8 n.toNat))))))),[]⟩):Option CT)) n
  |_,_=>none
theorem zfb:zI Tryz.prog 20 (Td alg):=by
  intro args hp r h
  unfold Td at h
  split at h
  · cases h;exact fun hn=>zkh _ hn
  · cases h
def zfa:Know Tryz.prog:=⟨20,Td,zfb⟩
def ziA:Know Tryz.prog:=⟨20,fun I=>zK I (Td I),zf zfb⟩
theorem zkg (n:Int) (hneed:0≤n∧n<1000000000):Spc Tryz.prog 20 [.v (.one (.p (.int .i64 n)))] [] (.ret (.v (.one (.p (.str (txtN 10 9 n.toNat)))))) []:=by
  generalize hr:txtN 10 9 n.toNat=r
  refine spcG zu mixed Tryz.func20 (by kernel_rfl) { keep:=some [0,2]} [zfa,uf,uO,uN,sO,sN,qR,qQ,YK,YJ,WQ,WO,Tm,Ti,zaP,zaO,zfc,zfa,ziA] (by kernel_rfl) ?_
  intro I X hI hX
  refine zh (let y0:=([48,49,50,51,52,53,54,55,56,57]:Str);let y1:=I.cut (α:=UInt8) y0 (I.rem n 10) (I.add (I.rem n 10) 1);let y2:=I.hid (α:=Str) (txtN 10 8 (Int.toNat (I.quo n 10)));let y3:=I.hid (α:=Str) (txtN 10 8 (Int.toNat (I.sub 0 n)));.br (I.ilt n 0) (.need (I.inr Go.IntKind.i64 (I.sub 0 n)) (.need (I.hid (α:=(Prop)) (And (LE.le (0:Int) (I.sub 0 n)) (LT.lt (I.sub 0 n) (100000000:Int)))) (.need (I.few (I.add (I.len (α:=UInt8) ([45]:Str)) (I.len (α:=UInt8) y3)) 1000000000) (.fin (.ret (.v (.one (.p (.str (I.app (α:=UInt8) ([45]:Str) y3)))))) [])))) (.br (I.ilt n 10) (.need (I.inr Go.IntKind.i64 (I.add n 1)) (.need (I.cutb n (I.add n 1) (I.len (α:=UInt8) y0)) (.fin (.ret (.v (.one (.p (.str (I.cut (α:=UInt8) y0 n (I.add n 1))))))) []))) (.need (I.nne 10) (.need (I.inr Go.IntKind.i64 (I.quo n 10)) (.need (I.nne 10) (.need (I.nne 10) (.need (I.inr Go.IntKind.i64 (I.add (I.rem n 10) 1)) (.need (I.cutb (I.rem n 10) (I.add (I.rem n 10) 1) (I.len (α:=UInt8) y0)) (.need (I.hid (α:=(Prop)) (And (LE.le (0:Int) (I.quo n 10)) (LT.lt (I.quo n 10) (100000000:Int)))) (.need (I.few (I.add (I.len (α:=UInt8) y2) (I.len (α:=UInt8) y1)) 1000000000) (.fin (.ret (.v (.one (.p (.str (I.app (α:=UInt8) y2 y1)))))) []))))))))))) (by kernel_rfl) ?_
  simp only [zC]
  subst hI
  simp only [nrmA,nrmB]
  obtain⟨m,rfl⟩: ∃ m:Nat,n=m:=⟨n.toNat,by omega⟩
  rw [Int.toNat_natCast] at hr
  have e1:(m:Int).tdiv 10=((m / 10:Nat):Int):=by rw [Int.tdiv_eq_ediv_of_nonneg (by omega)];omega
  have e2:(m:Int).tmod 10=((m % 10:Nat):Int):=by rw [Int.tmod_eq_emod_of_nonneg (by omega)];omega
  have e3:m<10→(([48,49,50,51,52,53,54,55,56,57]:Str).drop m).take (((m:Int)+1).toNat - m)=r:=fun h=>by
    rw [show((m:Int)+1).toNat - m=1 by omega,tV h,← hr,yg h]
  have e4:(([48,49,50,51,52,53,54,55,56,57]:Str).drop (m % 10)).take ((((m % 10:Nat):Int)+1).toNat - m % 10)=[dgN (m % 10)]:=by
    rw [show(((m % 10:Nat):Int)+1).toNat - m % 10=1 by omega,tV (Nat.mod_lt _ (by decide))]
  have e5: ¬ m<10→txtN 10 8 (m / 10)++[dgN (m % 10)]=r:=fun h=>by rw [← hr,yY h]
  have hl:=yx 10 8 (m / 10)
  have hl2:=yx 10 8 (m % 10)
  have e6:0<8→txtN 10 8 (m % 10)=[dgN (m % 10)]:=fun h=>by first|exact absurd h (by decide)|exact yg (f:=7) (Nat.mod_lt _ (by decide))
  generalize hH:([48,49,50,51,52,53,54,55,56,57]:Str)=H at *
  have hHl:H.length=10:=by rw [← hH];rfl
  simp only [e1,e2,Int.toNat_natCast,e4,List.length_cons,List.length_nil]
  (repeat' (first|refine And.intro ?_ ?_|intro _))<;>first|omega|exact True.intro|exact False.elim ‹False›|skip
  all_goals first
    |exact e3 (by omega)
    |exact e5 (by omega)
    |(rw [e6 (by decide)];exact e5 (by omega))
    |(exfalso;omega)
theorem zcp: ∀ (k n:Nat),n<10 ^ (k+1)→Lib.decDigits n=txtN 10 (k+1) n
  | 0,n,h=>by
    rw [Lib.decDigits,dif_pos (by omega),yg (by omega)]
    unfold dgN
    rw [if_pos (by omega)]
  | k +1,n,h=>by
    rw [Lib.decDigits]
    by_cases hn:n<10
    · rw [dif_pos hn,yg hn]
      unfold dgN
      rw [if_pos hn]
    · rw [dif_neg hn,yY hn,zcp k (n / 10) (by rw [Nat.pow_succ] at h;omega)]
      unfold dgN
      rw [if_pos (Nat.mod_lt _ (by decide))]
def decS (n:Int):Str:=txtN 10 9 n.toNat
theorem zhh {n:Int} (h0:0≤n) (h1:n<1000000000):Lib.itoa n=decS n:=by
  unfold Lib.itoa decS
  rw [if_neg (by omega),zcp 8 n.toNat (by omega)]
theorem Z4 (n:Int):(decS n).length≤9:=yx 10 9 _
theorem zkq (n:Int) (hneed:0≤n∧n<1000000000):Spc Tryz.prog 39 [.v (.one (.p (.int .i64 n)))] [] (.ret (.v (.one (.p (.str (decS n)))))) []:=by
  refine Spc.of_below ⟨_,Tryz.func39,by kernel_rfl,by kernel_rfl⟩ fun S bs w vs hW hM=> ?_
  obtain⟨v,r,rfl⟩: ∃ v r,vs=v::r:=by cases vs with|nil=>exact hM.elim|cons v r=>exact⟨v,r,rfl⟩
  obtain⟨h1,hM⟩:=hM
  obtain rfl:r=[]:=by cases r with|nil=>rfl|cons v r=>exact hM.elim
  cases h1 with
  | int _ _=>
    refine⟨.string (Sep.S (decS n)),.str _ (by have:=Z4 n;unfold maxLen;omega),?_⟩
    rw [← zhh hneed.1 hneed.2]
    refine(Tryz.strconv_Itoa n (by omega) (by omega) w (by first|exact hW|exact hW.1)).mono fun e w' h=> ?_
    obtain⟨he,k,os,rfl⟩:=h
    refine⟨he,?_⟩
    exact⟨rfl,rfl,rfl,(show w.heap.size≤(w.heap++os).size by rw [Array.size_append];omega),fun j hj=>show(w.heap++os)[j]? =w.heap[j]? from Array.getElem?_append_left hj⟩
def TQ (I:Alg) (args:List D) (hp:List HO):Option CT:=match args,hp with
  |[.v (.one (.p (.int .i64 n)))],[]=>(fun(n:Int)=>(some (.one ⟨I.hid (0≤n∧n<1000000000),(.ret (.v (.one (.p (.str (I.hid (decS n))))))),[]⟩):Option CT)) n
  |_,_=>none
theorem zfy:zI Tryz.prog 39 (TQ alg):=by
  intro args hp r h
  unfold TQ at h
  split at h
  · cases h;exact fun hn=>zkq _ hn
  · cases h
def TP:Know Tryz.prog:=⟨39,TQ,zfy⟩
def TN:Know Tryz.prog:=⟨39,fun I=>zK I (TQ I),zf zfy⟩
theorem num_ (n:Int) (hneed:0≤n∧n<1000000000):Spc Tryz.prog 20 [.v (.one (.p (.int .i64 n)))] [] (.ret (.v (.one (.p (.str (decS n)))))) []:=zkg n hneed
def zb7 (I:Alg) (args:List D) (hp:List HO):Option CT:=match args,hp with
  |[.v (.one (.p (.int .i64 n)))],[]=>(fun(n:Int)=>(some (.one ⟨I.hid (0≤n∧n<1000000000),(.ret (.v (.one (.p (.str (I.hid (decS n))))))),[]⟩):Option CT)) n
  |_,_=>none
theorem zhK:zI Tryz.prog 20 (zb7 alg):=by
  intro args hp r h
  unfold zb7 at h
  split at h
  · cases h;exact fun hn=>num_ _ hn
  · cases h
def ze8:Know Tryz.prog:=⟨20,zb7,zhK⟩
def ze7:Know Tryz.prog:=⟨20,fun I=>zK I (zb7 I),zf zhK⟩
end Go.Proofs.YtmibhbdfigpkmaaGreatDoor
