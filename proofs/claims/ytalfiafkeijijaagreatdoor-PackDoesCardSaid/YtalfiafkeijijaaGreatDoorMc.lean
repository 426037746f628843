/- Texts of this proof, one behind the other: AbP AbO Tab Laid Wrap Fnd Onc Ty RpcA ShlC Esc InZ Shelf Lib ChrA ChrB ChrC ParL FldA ParS ChrD Mrk PakL ShlB PakC. -/
import Derived.Deep.LoopGhost
import Derived.Recover
import Derived.Test.YtalfiafkeijijaaGreatDoorProg
import Derived.WalkKit
import Derived.Lib.ItoaNum
import Derived.Lib.LaidTab
import Derived.Shelf.Vars
import Derived.HandedShaped
import Derived.Tactics
import Derived.Tactics2
import Derived.Defers
import Derived.Laws.Pointers
import Derived.Laws.LoneSync
import Derived.RegionTactic
import Derived.RegionCalls
import Derived.ChangeAlike
import Derived.Shelf.Strings.Builder1
import Derived.Shelf.Strings.Builder2
import Derived.Shelf.Strings.Trim
import Derived.Shelf.Small.Utf8
import Derived.Shelf.Small.Strs
import Derived.Shelf.Strings.Search1
import Derived.Shelf.Strings.Search2
import Derived.Shelf.Strings.Search3
import Derived.Shelf.Strings.Cut
import Derived.Shelf.Strings.Count
import Derived.Shelf.LaysM
import Derived.Shelf.Strings.Shaped
import Derived.Shelf.Strings.Prefix
import Derived.Shelf.Strings.Split
import Derived.Shelf.Strings.Runes
import Derived.Shelf.Strings.AsciiSet
import Derived.Shelf.Unicode.DecodeSlow
import Derived.Shelf.Bytes.SlIndexSmall
import Derived.Shelf.Bytes.SlIndexAt
import Derived.Shelf.Bytes.SlSearch0
import Derived.Shelf.Bytes.SlSearch1
import Derived.Shelf.Bytes.SlSearch2
import Derived.Shelf.Bytes.SlIndexWhole
import Derived.Shelf.Bytes.Small
import Derived.Shelf.Bytes.IndexByte
import Derived.Lib.LazyBuf
import Derived.WideShapes
import Derived.ChangeArms
import Derived.SizedLaws
import Derived.Shelf.Strings.SlTrimAscii
import Derived.Below
import Derived.Lib.SlFresh
import Derived.WalkSmall
import Derived.Test.YtalfiafkeijijaaGreatDoorMb
set_option linter.all false
namespace Go.Ab
open Go Go.Sep
variable [Facts]
theorem zbM {α:Type} (x:α):alg.hid x=x:=rfl
theorem zbJ (k:IntKind) (x y:Int):alg.shl k x y=k.wrap (x * 2 ^ (min y.toNat k.bits)):=rfl
theorem zbI (x y:Int):alg.shr x y=x.fdiv (2 ^ (min y.toNat 64)):=rfl
theorem Qi (op:BinOp) (k:IntKind) (x y:Int):alg.bits op k x y=k.wrap (match op with
    |.and=>(BitVec.ofInt k.bits x&&& BitVec.ofInt k.bits y).toNat
    |.or=>(BitVec.ofInt k.bits x|||BitVec.ofInt k.bits y).toNat
    |_=>(BitVec.ofInt k.bits x ^^^ BitVec.ofInt k.bits y).toNat:Nat):=rfl
theorem za1:IntKind.i64.min= -9223372036854775808:=by decide
theorem za2:IntKind.i64.max=9223372036854775807:=by decide
theorem zcK:IntKind.u8.min=0:=by decide
theorem zcL:IntKind.u8.max=255:=by decide
theorem VB (c:UInt8):UInt8.ofNat ((c.toNat:Int)).toNat=c:=by simp
theorem zbA (c d:UInt8):((c.toNat:Int)=(d.toNat:Int))↔c=d:=by
  constructor
  · intro h;exact UInt8.toNat_inj.1 (by omega)
  · intro h;rw [h]
structure CR where
  need:Prop
  out:AOut
  hp:List HO
inductive CT where
  |one (r:CR)
  |br (b:Bool) (t f:CT)
def CT.Good (Pr:Program) (f:Nat) (args:List D) (hp:List HO):CT→Prop
  |.one r=>r.need→Spc Pr f args hp r.out r.hp
  |.br b t e=>(b=true→t.Good Pr f args hp)∧(b=false→e.Good Pr f args hp)
def CT.map (g:CR→CR):CT→CT
  |.one r=>.one (g r)
  |.br b t e=>.br b (t.map g) (e.map g)
def CT.mapO (g:CR→Option CR):CT→Option CT
  |.one r=>match g r with|some r=>some (.one r)|none=>none
  |.br b t e=>match t.mapO g,e.mapO g with|some t,some e=>some (.br b t e)|_,_=>none
def CT.tree (k:CR→Tree):CT→Tree
  |.one r=>k r
  |.br b t e=>.br b (t.tree k) (e.tree k)
theorem CT.Good.map {Pr:Program} {f f':Nat} {args args':List D} {hp hp':List HO} {g:CR→CR} (h: ∀ r:CR,(r.need→Spc Pr f args hp r.out r.hp)→(g r).need→Spc Pr f' args' hp' (g r).out (g r).hp): ∀ {c:CT},c.Good Pr f args hp→(c.map g).Good Pr f' args' hp'
  |.one r,hc=>h r hc
  |.br _ _ _,hc=>⟨fun e=>CT.Good.map h (hc.1 e),fun e=>CT.Good.map h (hc.2 e)⟩
theorem CT.Good.mapO {Pr:Program} {f f':Nat} {args args':List D} {hp hp':List HO} {g:CR→Option CR} (h: ∀ r r':CR,g r=some r'→(r.need→Spc Pr f args hp r.out r.hp)→r'.need→Spc Pr f' args' hp' r'.out r'.hp): ∀ {c c':CT},c.mapO g=some c'→c.Good Pr f args hp→c'.Good Pr f' args' hp'
  | .one r,c',e,hc=>by
    simp only [CT.mapO] at e
    split at e
    · rename_i r' hr;cases e;exact h r r' hr hc
    · cases e
  | .br b t f,c',e,hc=>by
    simp only [CT.mapO] at e
    split at e
    · rename_i t' f' ht hf;cases e;exact⟨fun e=>CT.Good.mapO h ht (hc.1 e),fun e=>CT.Good.mapO h hf (hc.2 e)⟩
    · cases e
structure Know (Pr:Program) where
  f:Nat
  c:Alg→List D→List HO→Option CT
  ok: ∀ args hp r,c alg args hp=some r→r.Good Pr f args hp
def zcO:List D→List Nat
  |[]=>[]
  |d::ds=>zce d++zcO ds
def X7 (hp:List HO) (args:List D):List Nat:=gather hp 60 (zcO args) []
def frameC (c:List D→List HO→Option CT) (args:List D) (hp:List HO):Option CT:=
  match wB (X7 hp args) hp with
  |none=>none
  | some (os,hpr)=>match c (args.map (D.ren fun q=>idx q (X7 hp args) 0)) (os.map (HO.ren fun q=>idx q (X7 hp args) 0)) with
    |none=>none
    |some r=>some (r.map fun r=>⟨r.need,r.out.ren (Zb (X7 hp args) hp.length),vW (Zb (X7 hp args) hp.length) (X7 hp args) r.hp hpr⟩)
def YC (I:Alg) (c:List D→List HO→Option CT):Nat→List D→List HO→Option CT
  |0,args,hp=>frameC c args hp
  | n + 1,args,hp=>match nth hp n with
    | some (.row u E l)=>(match YC I c n (args.map (D.frz I n u l)) (setN (hp.map (HO.frz I n u l)) n .gone) with
      | some r=>r.mapO fun r=>(match noLA r.out,VD r.hp with
        |true,true=>some ⟨r.need,r.out,setN r.hp n (.row u E l)⟩
        |_,_=>none)
      |none=>none)
    |_=>YC I c n args hp
def yE (I:Alg) (c:List D→List HO→Option CT) (args:List D) (hp:List HO):Option CT:=YC I c hp.length args hp
def ask {Pr:Program} (I:Alg):List (Know Pr)→Nat→List D→List HO→Option CT
  |[],_,_,_=>none
  | k::r,f,args,hp=>match Nat.beq k.f f with
    |true=>(match frameC (k.c I) args hp with|some x=>some x|none=>ask I r f args hp)
    |false=>ask I r f args hp
def drive (q:Nat→List D→List HO→Option CT):Tree→Tree
  |.need p t=>.need p (drive q t)
  |.br b t f=>.br b (drive q t) (drive q f)
  | .call f args hp k=>XJ hp fun hp=>match q f args hp with
    |some r=>r.tree fun r=>.need r.need (XJ r.hp fun h=>drive q (k r.out h))
    |none=>.call f args hp fun o h=>drive q (k o h)
  |.code c st k=>.code c st k
  |.fin o hp=>.fin o hp
  |.both t f=>.both (drive q t) (drive q f)
  |.qed=>.qed
  |.stop n=>.stop n
def yh (Pr:Program) (f:Nat) (c:List D→List HO→Option CT):Prop:=∀ args hp r,c args hp=some r→r.Good Pr f args hp
section
variable {Pr:Program} {T:Tab} {X:Ctx} {G:AOut→List HO→Prop} {a:Act} {w:World}
theorem YJ {f:Nat} {c:List D→List HO→Option CT} (h:yh Pr f c):yh Pr f (frameC c):=by
  intro args hp r hr
  unfold frameC at hr
  split at hr
  · cases hr
  · rename_i os hpr ht
    split at hr
    · cases hr
    · rename_i r0 hc
      cases hr
      exact CT.Good.map (g:=fun r=>⟨r.need,r.out.ren (Zb (X7 hp args) hp.length),vW (Zb (X7 hp args) hp.length) (X7 hp args) r.hp hpr⟩) (fun r hs hn=>(hs hn).frame _ ht rfl rfl) (h _ _ _ hc)
theorem uN {f:Nat} {c:List D→List HO→Option CT} (h:yh Pr f c): ∀ n,yh Pr f (YC alg c n)
  |0=>YJ h
  | n + 1 =>by
    intro args hp r hr
    unfold YC at hr
    split at hr
    · rename_i u E l ho
      rw [yg] at ho
      split at hr
      · rename_i r0 hc
        refine CT.Good.mapO (fun r r' hrr hs hn=> ?_) hr (uN h n _ _ _ hc)
        split at hrr
        · rename_i h1 h2
          cases hrr
          exact Spc.zeh (hs hn) ho rfl rfl h1 h2
        · cases hrr
      · cases hr
    · exact uN h n _ _ _ hr
theorem zA {f:Nat} {c:List D→List HO→Option CT} (h:yh Pr f c):yh Pr f (yE alg c):=fun args hp=>uN h hp.length args hp
theorem qA: ∀ {kn:List (Know Pr)} {f:Nat},yh Pr f (ask alg kn f)
  |[],f=>fun args hp r hr=>by cases hr
  | k ::r,f=>fun args hp x hr=>by
    unfold ask at hr
    split at hr
    · rename_i hb
      obtain rfl:=Nat.eq_of_beq_eq_true hb
      split at hr
      · rename_i y hy;cases hr;exact YJ k.ok args hp _ hy
      · exact qA args hp x hr
    · exact qA args hp x hr
theorem CT.xE {f:Nat} {args:List D} {hp:List HO} {k:AOut→List HO→Tree} {k':AOut→List HO→Tree} (ih: ∀ o h,(k' o h).ok Pr X G→(k o h).ok Pr X G): ∀ {c:CT},c.Good Pr f args hp→(c.tree fun r=>.need r.need (k' r.out r.hp)).ok Pr X G→∃ out hp',Spc Pr f args hp out hp'∧(k out hp').ok Pr X G
  |.one r,hc,h=>⟨r.out,r.hp,hc h.1,ih _ _ h.2⟩
  | .br b t e,hc,h=>by
    cases b with
    |true=>exact CT.xE ih (hc.1 rfl) (h.1 rfl)
    |false=>exact CT.xE ih (hc.2 rfl) (h.2 rfl)
theorem WN {q:Nat→List D→List HO→Option CT} (hq: ∀ f,yh Pr f (q f)): ∀ {t:Tree},(drive q t).ok Pr X G→t.ok Pr X G:=by
  intro t
  induction t with
  |need p t ih=>exact fun h=>⟨h.1,ih h.2⟩
  |br b t f ih1 ih2=>exact fun h=>⟨fun e=>ih1 (h.1 e),fun e=>ih2 (h.2 e)⟩
  | call f args hp k ih=>
    intro h
    simp only [drive,YL] at h
    split at h
    · rename_i r hr;exact CT.xE (k':=fun o h=>drive q (k o h)) (fun o h=>ih o h) (hq f args hp r hr) h
    · obtain⟨o,hp',h1,h2⟩:=h;exact⟨o,hp',h1,ih _ _ h2⟩
  |code c st k ih=>exact fun h=>h
  |fin o hp=>exact fun h=>h
  |both t f ih1 ih2=>exact fun h=>⟨ih1 h.1,ih2 h.2⟩
  |qed=>exact fun h=>h
  |stop n=>exact fun h=>h
structure Rt where
  B:Code
  K:AEx→St→Tree
def zbx (fn:Func):Code:=match fn.body with|some c=>c|none=>.skip
def loopBody:Code→Code
  |.loop b=>b
  |c=>c
def cAt:List Nat→Code→Code
  |[],c=>c
  | n::p,c=>match c with
    |.seq a b=>(match n with|0=>cAt p a|_=>cAt p b)
    |.cond _ t e=>(match n with|0=>cAt p t|_=>cAt p e)
    |.block _ b=>cAt p b
    |c=>c
def kAt (I:Alg) (T:Tab) (cfg:Cfg):List Nat→Code→(AEx→St→Tree)→AEx→St→Tree
  |[],_,K=>K
  | n ::p,c,K=>match c with
    |.seq a b=>(match n with|0=>kAt I T cfg p a (fun e st=>match e with|.normal=>vc I T cfg b K st|e=>K e st)|_=>kAt I T cfg p b K)
    |.cond _ t e=>(match n with|0=>kAt I T cfg p t K|_=>kAt I T cfg p e K)
    | .block id b=>kAt I T cfg p b (fun e st=>match e with
      |.exit j=>(match Nat.beq j id with|true=>K .normal st|false=>K (.exit j) st)
      |e=>K e st)
    |_=>K
def rtAt:Nat→List Rt→Rt
  |_,[]=>⟨.skip,fun _ _=>.stop 50⟩
  |0,r::_=>r
  |n+1,_::l=>rtAt n l
def leaf (I:Alg) (T:Tab) (cfg:Cfg) (R:List Rt) (i:Nat) (p:List Nat) (st:St):Tree:=
  .code (cAt p (rtAt i R).B) st (kAt I T cfg p (rtAt i R).B (rtAt i R).K)
def zen (I:Alg) (T:Tab) (cfg:Cfg) (c:Code) (K:AEx→St→Tree) (st:St):Tree:=
  match c with
  |.region _ ops draw=>regT I T cfg ops draw K (st.tidy cfg.keep)
  |c=>vc I T cfg c K st
def go (I:Alg) (T:Tab) (cfg:Cfg) (kn:List (Know Pr)) (R:List Rt) (i:Nat) (p:List Nat) (st:St):Tree:=
  drive (ask I kn) (zen I T cfg (cAt p (rtAt i R).B) (kAt I T cfg p (rtAt i R).B (rtAt i R).K) st)
def cutM (cfg:Cfg) (k0:Nat) (dom:List Nat) (st:St):Option St:=St.cut cfg.fsl k0 dom (sU cfg.mv st)
def zdV (cfg:Cfg) (k0:Nat) (dom:List Nat) (A:St→Prop) (k:AEx→St→Tree):AEx→St→Tree:=fun e st=>
  match e with
  |.normal=>(match cutM cfg k0 dom st with|some s=>.need (A s) .qed|none=>.stop 19)
  |e=>k e st
def round (I:Alg) (T:Tab) (cfg:Cfg) (k0:Nat) (dom:List Nat) (A:St→Prop) (R:List Rt) (i:Nat) (p:List Nat):Rt:=
  ⟨loopBody (cAt p (rtAt i R).B),zdV cfg k0 dom A (kAt I T cfg p (rtAt i R).B (rtAt i R).K)⟩
inductive PT where
  |need (p:Prop) (t:PT)
  |br (b:Bool) (t f:PT)
  |code (i:Nat) (p:List Nat) (st:St)
  |fin (o:AOut) (hp:List HO)
  |both (t f:PT)
  |qed
  |stop (n:Nat)
def PT.inst (I:Alg) (T:Tab) (cfg:Cfg) (R:List Rt):PT→Tree
  |.need p t=>.need p (t.inst I T cfg R)
  |.br b t f=>.br b (t.inst I T cfg R) (f.inst I T cfg R)
  |.code i p st=>leaf I T cfg R i p st
  |.fin o hp=>.fin o hp
  |.both t f=>.both (t.inst I T cfg R) (f.inst I T cfg R)
  |.qed=>.qed
  |.stop n=>.stop n
theorem zH {I:Alg} {cfg:Cfg} {kn:List (Know Pr)} {R:List Rt} {i:Nat} {p:List Nat} {st:St} (pt:PT) (h:go I T cfg kn R i p st=pt.inst I T cfg R) (k:Ok Pr X G (pt.inst I T cfg R)):Ok Pr X G (go I T cfg kn R i p st):=h▸k
theorem VO {I:Alg} {cfg:Cfg} {R:List Rt} {p:Prop} {t:PT}:Ok Pr X G (PT.inst I T cfg R (.need p t))↔p∧Ok Pr X G (t.inst I T cfg R):=zdk
theorem zaX {I:Alg} {cfg:Cfg} {R:List Rt} {b:Bool} {t f:PT}:Ok Pr X G (PT.inst I T cfg R (.br b t f))↔(b=true→Ok Pr X G (t.inst I T cfg R))∧(b=false→Ok Pr X G (f.inst I T cfg R)):=zeL
theorem VQ {I:Alg} {cfg:Cfg} {R:List Rt} {t f:PT}:Ok Pr X G (PT.inst I T cfg R (.both t f))↔Ok Pr X G (t.inst I T cfg R)∧Ok Pr X G (f.inst I T cfg R):=zdl
theorem Rx {I:Alg} {cfg:Cfg} {R:List Rt} {o:AOut} {hp:List HO}:Ok Pr X G (PT.inst I T cfg R (.fin o hp))↔G o hp:=zec
theorem Rw {I:Alg} {cfg:Cfg} {R:List Rt}:Ok Pr X G (PT.inst I T cfg R .qed)↔True:=zeb
theorem VN {I:Alg} {cfg:Cfg} {R:List Rt} {n:Nat}:Ok Pr X G (PT.inst I T cfg R (.stop n))↔False:=zdj
theorem VP {I:Alg} {cfg:Cfg} {R:List Rt} {i:Nat} {p:List Nat} {st:St}:Ok Pr X G (PT.inst I T cfg R (.code i p st))↔Ok Pr X G (leaf I T cfg R i p st):=Iff.rfl
def WC (cfg:Cfg):Code→Bool
  |.region id _ _=>memN id cfg.seam
  |_=>false
theorem spcG {P:Program} {T:Tab} (hT:T.fits P) (hm:P.follows .mixedOrders=true) {f:Nat} {fn:Func} (hf:P.funcs[f]? =some fn) (hn:(fn.name == "runtime.NumGoroutine")=false) (cfg:Cfg) (kn:List (Know P)) {args:List D} {hp:List HO} {out:AOut} {hp':List HO}
    (hb:(fn.body.isSome&& !WC cfg (zbx fn)&&Nat.ble args.length fn.ntmps)=true)
    (h: ∀ (I:Alg) (X:Ctx),I=alg→X.bs0.length=hp.length→Ok P X (fun o h=>o=out∧h=hp') (go I T cfg kn [⟨zbx fn,finK I T cfg hp.length fn⟩] 0 [] { env:=zbj 0 args,hp:=hp,n:=fn.ntmps})):Spc P f args hp out hp':=by
  simp only [Bool.and_eq_true,Bool.not_eq_true'] at hb
  refine Qq hT hm hf hn (cfg:=cfg) hb.1.1 hb.2 fun I X hI hX=> ?_
  subst hI
  have h1:=(h alg X rfl hX).out
  have h2:=WN (fun f=>qA) h1
  have hs:=hb.1.2
  unfold funT
  unfold zbx at h2 hs
  cases hbd:fn.body with
  |none=>rw [hbd] at hb;cases hb.1.1
  | some c=>
    rw [hbd] at h2 hs
    simp only [rtAt,cAt,kAt] at h2
    simp only at hs ⊢
    cases c<;>first|exact h2|skip
    simp only [WC] at hs
    simp only [vc,hs]
    exact h2
theorem YG (hT:T.fits Pr) (hm:Pr.follows .mixedOrders=true) {cfg:Cfg} {c:Code} {K:AEx→St→Tree} {st:St} (h:(zen alg T cfg c K st).ok Pr X G) (hn:Now X st a w):c.wp Pr (Post X fun e st'=>(K e st').ok Pr X G) a w:=by
  cases c with
  |region id ops draw=>exact Xm hT hm h (hn.tidy cfg.keep)
  |_=>exact TD hT hm (cfg:=cfg) h hn
theorem qZ {cfg:Cfg} {k0:Nat} (hk:X.bs0.length=k0) {dom:List Nat} {st s:St} (hc:cutM cfg k0 dom st=some s) (hn:Now X st a w):Now X s a w:=by
  obtain⟨S,K,hH,hE⟩:=hn
  obtain⟨K',h1,h2⟩:=vZ cfg.mv hH hE
  exact zbo hk hc ⟨S,K',h1,h2⟩
theorem zQ {I:Alg} (hI:I=alg) (hT:T.fits Pr) (hm:Pr.follows .mixedOrders=true) {cfg:Cfg} (kn:List (Know Pr)) {R:List Rt} {i:Nat} {p:List Nat} {st:St} {k0:Nat} (hk:X.bs0.length=k0) (dom:List Nat) {ι:Type} (Inv:ι→Prop) (Iv:ι→St) (μ:ι→Nat) (g0:ι)
    (hc:(match cAt p (rtAt i R).B with|.loop b=> !WC cfg b|_=>false)=true) (h0:cutM cfg k0 dom st=some (Iv g0)) (hg0:Inv g0)
    (hr: ∀ (g:ι),Inv g→∀ (A:St→Prop),(∀ g',Inv g'→μ g'<μ g→A (Iv g'))→Ok Pr X G (go I T cfg kn (round I T cfg k0 dom A R i p::R) 0 [] (Iv g))):Ok Pr X G (leaf I T cfg R i p st):=by
  subst hI
  constructor
  unfold leaf
  intro S K a w hH hE
  obtain⟨b,hb⟩: ∃ b,cAt p (rtAt i R).B=.loop b:=by
    cases h:cAt p (rtAt i R).B<;>rw [h] at hc<;>first|exact⟨_,rfl⟩|cases hc
  rw [hb]
  refine wp_loop_ghost (fun n a w=>∃ g,Inv g∧μ g=n∧Now X (Iv g) a w) (μ g0) ⟨g0,hg0,rfl,qZ hk h0 ⟨S,K,hH,hE⟩⟩ ?_
  rintro n a w ⟨g,hg,rfl,hn⟩
  have h1:=(hr g hg (fun s=>∃ g',Inv g'∧μ g'<μ g∧s=Iv g') (fun g' hi hl=>⟨g',hi,hl,rfl⟩)).out
  have h2:=WN (fun f=>qA) h1
  simp only [rtAt,cAt,kAt,round,hb,loopBody] at h2
  refine wp_mono (YG hT hm h2 hn) fun e a' w' hq=> ?_
  obtain⟨e',st',h1,S',K',hH',hE',hem⟩:=hq
  generalize kAt alg T cfg p (rtAt i R).B (rtAt i R).K=k at h1
  have keep: ∀ {e:Exit} {e':AEx},(∀ (h:e'=.normal),False)→EM S' (K'.map CO.base) e e'→(k e' st').ok Pr X G→Post X (fun e st'=>(k e st').ok Pr X G) e a' w':=fun {e e'} _ hem h=>⟨e',st',h,S',K',hH',hE',hem⟩
  cases e' with
  | normal=>
    cases e with
    | normal=>
      have h1:((match cutM cfg k0 dom st' with|some s=>Tree.need (∃ g',Inv g'∧μ g'<μ g∧s=Iv g') .qed|none=>.stop 19):Tree).ok Pr X G:=h1
      split at h1
      · rename_i s hs
        obtain⟨⟨g',hi,hlt,rfl⟩,_⟩:=h1
        exact⟨μ g',hlt,g',hi,rfl,qZ hk hs ⟨S',K',hH',hE'⟩⟩
      · exact h1.elim
    |exit i=>exact hem.elim
    |goto l=>exact hem.elim
    |ret=>exact hem.elim
    |panic ch=>exact hem.elim
    |outgrown=>exact hem.elim
  | exit j=>cases e with
    |exit i=>exact keep (fun h=>by cases h) hem h1
    |normal=>exact hem.elim
    |goto l=>exact hem.elim
    |ret=>exact hem.elim
    |panic ch=>exact hem.elim
    |outgrown=>exact hem.elim
  | ret=>cases e with
    |ret=>exact keep (fun h=>by cases h) hem h1
    |normal=>exact hem.elim
    |goto l=>exact hem.elim
    |exit j=>exact hem.elim
    |panic ch=>exact hem.elim
    |outgrown=>exact hem.elim
  | pan c=>cases e with
    |panic ch=>exact keep (fun h=>by cases h) hem h1
    |normal=>exact hem.elim
    |goto l=>exact hem.elim
    |exit j=>exact hem.elim
    |ret=>exact hem.elim
    |outgrown=>exact hem.elim
theorem seam {I:Alg} (hI:I=alg) (hT:T.fits Pr) (hm:Pr.follows .mixedOrders=true) {cfg:Cfg} (kn:List (Know Pr)) {R:List Rt} {i:Nat} {p:List Nat} {st:St} {k0:Nat} (hk:X.bs0.length=k0) (dom:List Nat) (st1:St)
    (h0:cutM cfg k0 dom st=some st1) (hr:Ok Pr X G (go I T cfg kn R i p st1)):Ok Pr X G (leaf I T cfg R i p st):=by
  subst hI
  constructor
  intro S K a w hH hE
  exact YG hT hm (WN (fun f=>qA) hr.out) (qZ hk h0 ⟨S,K,hH,hE⟩)
end
inductive AM where
  |ret
  |pan (c:C)
def AM.out:AM→AEx
  |.ret=>.ret
  |.pan c=>.pan c
section
variable {Pr:Program} {T:Tab} {a:Act} {w:World}
end
theorem nrmA:type_of% (And.intro @TA <| And.intro @zbL <| And.intro @xU <| And.intro @uq <| And.intro @Tt <| And.intro @Tq <| And.intro @zbK <| And.intro @Qh <| And.intro @W9 <| And.intro @Va <| And.intro @Vb <| And.intro @Vd <| And.intro @Zd <| And.intro @uD <| And.intro @Y2 <| And.intro @Tz <| And.intro @Y0 <| And.intro @yc <| And.intro @Ze <| And.intro @xH <| And.intro @Ve <| And.intro @Tn <| And.intro @Y1 <| And.intro @Tv <| And.intro @uy <| And.intro @qJ <| And.intro @uw <| And.intro @uz <| And.intro @WZ <| And.intro @Zc <| And.intro @zbM <| And.intro @zbJ <| And.intro @zbI <| @Qi):=And.intro @TA <| And.intro @zbL <| And.intro @xU <| And.intro @uq <| And.intro @Tt <| And.intro @Tq <| And.intro @zbK <| And.intro @Qh <| And.intro @W9 <| And.intro @Va <| And.intro @Vb <| And.intro @Vd <| And.intro @Zd <| And.intro @uD <| And.intro @Y2 <| And.intro @Tz <| And.intro @Y0 <| And.intro @yc <| And.intro @Ze <| And.intro @xH <| And.intro @Ve <| And.intro @Tn <| And.intro @Y1 <| And.intro @Tv <| And.intro @uy <| And.intro @qJ <| And.intro @uw <| And.intro @uz <| And.intro @WZ <| And.intro @Zc <| And.intro @zbM <| And.intro @zbJ <| And.intro @zbI <| @Qi
theorem nrmB:type_of% (And.intro @decide_eq_true_eq <| And.intro @decide_eq_false_iff_not <| And.intro @beq_iff_eq.{0} <| And.intro @beq_eq_false_iff_ne.{0} <| And.intro @Bool.not_eq_true' <| And.intro @Bool.not_eq_false' <| And.intro @Bool.and_eq_true <| And.intro @Bool.and_true <| And.intro @Bool.true_and <| And.intro @and_true <| And.intro @true_and <| And.intro @ne_eq.{1} <| And.intro @Int.toNat_zero <| And.intro @Nat.sub_zero <| And.intro @List.drop_zero.{0} <| And.intro @za1 <| And.intro @za2 <| And.intro @zcK <| And.intro @zcL <| And.intro @VB <| And.intro @zbA <| And.intro @Int.toNat_natCast <| And.intro @Int.ofNat_eq_natCast <| And.intro @UInt8.ofNat_toNat <| And.intro @AOut.ret.injEq <| And.intro @AOut.pan.injEq <| And.intro @C.ifc.injEq <| And.intro @D.v.injEq <| And.intro @D.tup.injEq <| And.intro @V0.one.injEq <| And.intro @C.p.injEq <| And.intro @P.bool.injEq <| And.intro @P.int.injEq <| And.intro @P.str.injEq <| And.intro @Bool.false_eq_true <| And.intro @Bool.true_eq_false <| And.intro @imp_false <| And.intro @Decidable.not_not <| And.intro @not_true_eq_false <| @not_false_eq_true):=And.intro @decide_eq_true_eq <| And.intro @decide_eq_false_iff_not <| And.intro @beq_iff_eq.{0} <| And.intro @beq_eq_false_iff_ne.{0} <| And.intro @Bool.not_eq_true' <| And.intro @Bool.not_eq_false' <| And.intro @Bool.and_eq_true <| And.intro @Bool.and_true <| And.intro @Bool.true_and <| And.intro @and_true <| And.intro @true_and <| And.intro @ne_eq.{1} <| And.intro @Int.toNat_zero <| And.intro @Nat.sub_zero <| And.intro @List.drop_zero.{0} <| And.intro @za1 <| And.intro @za2 <| And.intro @zcK <| And.intro @zcL <| And.intro @VB <| And.intro @zbA <| And.intro @Int.toNat_natCast <| And.intro @Int.ofNat_eq_natCast <| And.intro @UInt8.ofNat_toNat <| And.intro @AOut.ret.injEq <| And.intro @AOut.pan.injEq <| And.intro @C.ifc.injEq <| And.intro @D.v.injEq <| And.intro @D.tup.injEq <| And.intro @V0.one.injEq <| And.intro @C.p.injEq <| And.intro @P.bool.injEq <| And.intro @P.int.injEq <| And.intro @P.str.injEq <| And.intro @Bool.false_eq_true <| And.intro @Bool.true_eq_false <| And.intro @imp_false <| And.intro @Decidable.not_not <| And.intro @not_true_eq_false <| @not_false_eq_true
theorem nrlB:type_of% (And.intro @List.cons.injEq.{0} <| And.intro @P.list.injEq <| And.intro @HO.row.injEq <| And.intro @heq_eq_eq.{1} <| And.intro @false_and <| @and_false):=And.intro @List.cons.injEq.{0} <| And.intro @P.list.injEq <| And.intro @HO.row.injEq <| And.intro @heq_eq_eq.{1} <| And.intro @false_and <| @and_false
theorem zU:type_of% (And.intro @VO <| And.intro @zaX <| And.intro @VQ <| And.intro @Rx <| And.intro @Rw <| And.intro @VN <| @VP):=And.intro @VO <| And.intro @zaX <| And.intro @VQ <| And.intro @Rx <| And.intro @Rw <| And.intro @VN <| @VP
end Go.Ab
namespace Go.Ab
open Go Go.Sep Go.RowKit
variable [Facts]
def Holds (W:World):Prop:=∀ w:World,(∀ (k:Nat) (o:Obj),W.heap[k]? =some o→w.heap[k]? =some o)→Facts.p w
def frzW (W:World) (hF:Holds W):Frz:=⟨fun k=>W.heap[k]?,W.os,W.tape,W.output,fun w hw=>hF w hw.2.2.2⟩
theorem zdC (W:World) (hF:Holds W):At W [frzC (frzW W hF)]:=
  ⟨fun k=>(W.heap[k]?).isSome=true,fun k=>(W.heap[k]?).isSome=true,fun _=>False,fun k=>by simp,fun _ _ h=>h,⟨fun _=>Iff.rfl,rfl,rfl,rfl,fun _ _ h=>h⟩,fun _ h=>h⟩
theorem XG {W w:World} {hF:Holds W} (h:(frzW W hF).on w):Below W.heap.size W w:=by
  obtain⟨h1,h2,h3,h4⟩:=h
  have hb: ∀ k,k<W.heap.size→w.heap[k]? =W.heap[k]? :=fun k hk=>by
    have:W.heap[k]? =some W.heap[k]:=by simp [hk]
    rw [h4 k _ this,this]
  refine⟨h1,h2,h3,?_,hb⟩
  rcases Nat.lt_or_ge w.heap.size W.heap.size with hlt|hge
  · have:=hb w.heap.size hlt
    simp at this
    omega
  · exact hge
theorem zdB {W:World} {hF:Holds W} {size:Nat} {v:Value} {n:Nat} {cs:List Value} (h:Rd W size v n cs):RdS (frzW W hF) size v n cs:=by
  intro w hw
  obtain⟨ao,cap,e,h1,h2,h4,h3,hc⟩:=h
  refine⟨ao,cap,e,h1,h2,h4,h3,fun j u hu=> ?_⟩
  obtain⟨hs,hcell⟩:=hc j u hu
  exact⟨hs,((XG hw).cell (block_lt hcell)).trans hcell⟩
theorem Spc.law {Pr:Program} {f:Nat} {args:List D} {hp':List HO} {W:World} {hF:Holds W} {vs:List Value} (h:Spc Pr f args [] (.ret (.v (.one (.p (.bool true))))) hp') (ha:MDs (frzW W hF) [] args vs):
    Calls Pr f vs.toArray W fun e w'=>e=.returned (.bool true)∧Below W.heap.size W w':=by
  refine(h.2 (frzW W hF) [] [] W vs ⟨rfl,fun i o c h=>by simp at h⟩ ha (zdC W hF)).mono fun e w' he=> ?_
  obtain⟨S',K',hle,_,_,hat,ho⟩:=he
  refine⟨?_,XG ((At.frz hat).mono hle)⟩
  cases e with
  |returned v=>cases ho;rfl
  |panicked ch=>exact ho.elim
  |outgrown=>exact ho.elim
theorem zdw {W:World} {hF:Holds W} {v:Value} {u:U} {R:Sep.Rel u.den} (hR: ∀ cs x,R W cs x→MPs (frzW W hF) (enc alg u x) cs) {xs:List u.den} (h:RSl u.size R W [v] xs):MD (frzW W hF) [] (.v (.one (.p (.list u xs)))) v:=by
  obtain⟨v',vs,e,hr,hx⟩:=h
  cases e
  have hlen:=hr.len
  obtain⟨ao,cap,rfl,_⟩:=id hr
  refine MP.list u xs ao cap vs hlen (zdB hr) fun i x j p v hi hj hv=> ?_
  have hm:=hR _ _ (hx i x hi)
  obtain⟨v',h1,h2⟩:=hm.get hj
  rw [List.getElem?_take] at h1
  split at h1
  · rw [List.getElem?_drop,hv] at h1
    cases h1;exact h2
  · cases h1
theorem zdx {W:World} {hF:Holds W} {cs:List Value} {x:UInt8} (h:zcI W cs x):MPs (frzW W hF) (enc alg .byte x) cs:=by
  rw [show cs=[bv x] from h];exact⟨.int _ _,trivial⟩
end Go.Ab
namespace Go.Proofs.YtalfiafkeijijaaGreatDoor
open Go Go.Ab
instance facts:Facts:= { p:=fun w=>∃ m:Int,w.cell? ⟨0,0,none⟩=some (.int .i64 m),sh:=fun _=>[],ab:=fun _=>none,abok:=fun _ _ h=>by cases h}
def tabT:TT:=
 (.node (.node (.node (.node (.node (.node (.node (.node .nil 0 ⟨.other,1,0,none,none⟩
 .nil) 1 ⟨.other,1,8,(some [.val .nilFunc]),none⟩
 .nil) 2 ⟨.int .i64,1,8,(some [.int .i64 0]),none⟩
 (.node (.node .nil 3 ⟨.int .i64,1,8,(some [.int .i64 0]),none⟩
 .nil) 4 ⟨.bool,1,1,(some [.bool false]),none⟩
 .nil)) 5 ⟨.int .u8,1,1,(some [.int .u8 0]),none⟩
 (.node (.node (.node .nil 6 ⟨.int .u8,1,1,(some [.int .u8 0]),none⟩
 .nil) 9 ⟨.str,1,16,(some [.str []]),none⟩
 .nil) 10 ⟨.str,1,16,(some [.str []]),none⟩
 (.node (.node .nil 11 ⟨.str,1,16,(some [.str []]),none⟩
 .nil) 12 ⟨.int .u64,1,8,(some [.int .u64 0]),none⟩
 .nil))) 15 ⟨.ptr,1,8,(some [.val (.pointer none)]),none⟩
 (.node (.node (.node (.node .nil 16 ⟨.ptr,1,8,(some [.val (.pointer none)]),none⟩
 .nil) 17 ⟨.ptr,1,8,(some [.val (.pointer none)]),none⟩
 .nil) 20 ⟨.iface,1,16,(some [.val .nilIface]),none⟩
 (.node (.node .nil 21 ⟨.int .i32,1,4,(some [.int .i32 0]),none⟩
 .nil) 22 ⟨.slice 31,1,24,(some [.list .prw []]),(some .prw)⟩
 .nil)) 23 ⟨.other,1,8,(some [.val .nilFunc]),none⟩
 (.node (.node (.node .nil 24 ⟨.other,1,8,(some [.val .nilFunc]),none⟩
 .nil) 25 ⟨.slice 5,1,24,(some [.list .byte []]),(some .byte)⟩
 .nil) 26 ⟨.other,1,0,none,none⟩
 (.node .nil 27 ⟨.other,1,8,(some [.val .nilFunc]),none⟩
 .nil)))) 28 ⟨.other,1,8,(some [.val .nilFunc]),none⟩
 (.node (.node (.node (.node (.node .nil 29 ⟨.other,1,8,(some [.val .nilFunc]),none⟩
 .nil) 30 ⟨.struct [(0,9),(1,9),(2,9),(3,25)],4,72,(some [.str [],.str [],.str [],.list .byte []]),none⟩
 .nil) 31 ⟨.struct [(0,9),(1,9),(2,9),(3,25)],4,72,(some [.str [],.str [],.str [],.list .byte []]),none⟩
 (.node (.node .nil 32 ⟨.other,1,8,(some [.val .nilFunc]),none⟩
 .nil) 33 ⟨.slice 37,1,24,(some [.list .fld []]),(some .fld)⟩
 .nil)) 34 ⟨.other,1,0,none,none⟩
 (.node (.node (.node .nil 35 ⟨.other,1,8,(some [.val .nilFunc]),none⟩
 .nil) 36 ⟨.struct [(0,9),(1,9)],2,32,(some [.str [],.str []]),none⟩
 .nil) 37 ⟨.struct [(0,9),(1,9)],2,32,(some [.str [],.str []]),none⟩
 (.node .nil 38 ⟨.other,1,0,none,none⟩
 .nil))) 39 ⟨.other,1,8,(some [.val .nilFunc]),none⟩
 (.node (.node (.node (.node .nil 40 ⟨.other,1,8,(some [.val .nilFunc]),none⟩
 .nil) 41 ⟨.struct [(0,9),(1,9)],2,32,(some [.str [],.str []]),none⟩
 .nil) 42 ⟨.slice 41,1,24,(some [.list .fld []]),(some .fld)⟩
 (.node (.node .nil 43 ⟨.struct [(0,9),(1,42)],2,40,(some [.str [],.list .fld []]),none⟩
 .nil) 44 ⟨.struct [(0,9),(1,42)],2,40,(some [.str [],.list .fld []]),none⟩
 .nil)) 45 ⟨.other,1,8,(some [.val .nilFunc]),none⟩
 (.node (.node (.node .nil 46 ⟨.other,1,8,(some [.val .nilFunc]),none⟩
 .nil) 47 ⟨.other,1,8,(some [.val .nilFunc]),none⟩
 .nil) 48 ⟨.other,1,8,(some [.val .nilFunc]),none⟩
 (.node .nil 49 ⟨.other,1,8,(some [.val .nilFunc]),none⟩
 .nil))))) 50 ⟨.other,1,8,(some [.val .nilFunc]),none⟩
 (.node (.node (.node (.node (.node (.node .nil 51 ⟨.other,1,8,(some [.val .nilFunc]),none⟩
 .nil) 52 ⟨.other,1,8,(some [.val .nilFunc]),none⟩
 .nil) 53 ⟨.int .u64,1,8,(some [.int .u64 0]),none⟩
 (.node (.node .nil 54 ⟨.other,1,8,(some [.val .nilFunc]),none⟩
 .nil) 55 ⟨.other,1,8,(some [.val .nilFunc]),none⟩
 .nil)) 56 ⟨.other,1,8,(some [.val .nilFunc]),none⟩
 (.node (.node (.node .nil 57 ⟨.array 256 4,256,256,none,none⟩
 .nil) 58 ⟨.array 256 4,256,256,none,none⟩
 .nil) 59 ⟨.other,1,0,none,none⟩
 (.node (.node .nil 60 ⟨.other,1,8,(some [.val .nilFunc]),none⟩
 .nil) 61 ⟨.other,1,8,(some [.val .nilFunc]),none⟩
 .nil))) 62 ⟨.ptr,1,8,(some [.val (.pointer none)]),none⟩
 (.node (.node (.node (.node .nil 63 ⟨.int .u32,1,4,(some [.int .u32 0]),none⟩
 .nil) 64 ⟨.other,1,0,none,none⟩
 .nil) 65 ⟨.other,1,8,(some [.val .nilFunc]),none⟩
 (.node (.node .nil 66 ⟨.other,1,0,none,none⟩
 .nil) 67 ⟨.other,1,8,(some [.val .nilFunc]),none⟩
 .nil)) 68 ⟨.other,1,8,(some [.val .nilFunc]),none⟩
 (.node (.node (.node .nil 69 ⟨.other,1,8,(some [.val .nilFunc]),none⟩
 .nil) 70 ⟨.ptr,1,8,(some [.val (.pointer none)]),none⟩
 .nil) 71 ⟨.other,1,8,(some [.val .nilFunc]),none⟩
 (.node .nil 72 ⟨.other,1,8,(some [.val .nilFunc]),none⟩
 .nil)))) 73 ⟨.other,1,8,(some [.val .nilFunc]),none⟩
 (.node (.node (.node (.node (.node .nil 74 ⟨.other,1,0,none,none⟩
 .nil) 75 ⟨.other,1,8,(some [.val .nilFunc]),none⟩
 .nil) 76 ⟨.other,1,8,(some [.val .nilFunc]),none⟩
 (.node (.node .nil 77 ⟨.slice 9,1,24,(some [.list .str []]),(some .str)⟩
 .nil) 78 ⟨.struct [],0,0,(some []),none⟩
 .nil)) 79 ⟨.struct [],0,0,(some []),none⟩
 (.node (.node (.node .nil 80 ⟨.struct [],0,0,(some []),none⟩
 .nil) 81 ⟨.struct [(0,80),(0,63)],1,4,(some [.int .u32 0]),none⟩
 .nil) 82 ⟨.struct [(0,80),(0,63)],1,4,(some [.int .u32 0]),none⟩
 (.node .nil 83 ⟨.struct [(0,21),(1,63)],2,8,(some [.int .i32 0,.int .u32 0]),none⟩
 .nil))) 84 ⟨.struct [(0,21),(1,63)],2,8,(some [.int .i32 0,.int .u32 0]),none⟩
 (.node (.node (.node (.node .nil 85 ⟨.struct [(0,79),(0,84)],2,8,(some [.int .i32 0,.int .u32 0]),none⟩
 .nil) 86 ⟨.struct [(0,79),(0,84)],2,8,(some [.int .i32 0,.int .u32 0]),none⟩
 .nil) 87 ⟨.struct [(0,79),(0,82),(1,86)],3,12,(some [.int .u32 0,.int .i32 0,.int .u32 0]),none⟩
 (.node (.node .nil 88 ⟨.struct [(0,79),(0,82),(1,86)],3,12,(some [.int .u32 0,.int .i32 0,.int .u32 0]),none⟩
 .nil) 89 ⟨.iface,1,16,(some [.val .nilIface]),none⟩
 .nil)) 90 ⟨.iface,1,16,(some [.val .nilIface]),none⟩
 (.node (.node (.node .nil 91 ⟨.struct [(0,88),(3,90),(4,77)],5,56,(some [.int .u32 0,.int .i32 0,.int .u32 0,.val .nilIface,.list .str []]),none⟩
 .nil) 92 ⟨.struct [(0,88),(3,90),(4,77)],5,56,(some [.int .u32 0,.int .i32 0,.int .u32 0,.val .nilIface,.list .str []]),none⟩
 .nil) 93 ⟨.other,1,8,(some [.val .nilFunc]),none⟩
 (.node .nil 94 ⟨.other,1,8,(some [.val .nilFunc]),none⟩
 .nil)))))) 95 ⟨.other,1,8,(some [.val .nilFunc]),none⟩
 (.node (.node (.node (.node (.node (.node (.node .nil 96 ⟨.ptr,1,8,(some [.val (.pointer none)]),none⟩
 .nil) 97 ⟨.other,1,8,(some [.val .nilFunc]),none⟩
 .nil) 98 ⟨.array 256 5,256,256,none,none⟩
 (.node (.node .nil 99 ⟨.struct [(0,5),(1,5)],2,2,(some [.int .u8 0,.int .u8 0]),none⟩
 .nil) 100 ⟨.struct [(0,5),(1,5)],2,2,(some [.int .u8 0,.int .u8 0]),none⟩
 .nil)) 101 ⟨.array 16 100,32,32,(some [.int .u8 0,.int .u8 0,.int .u8 0,.int .u8 0,.int .u8 0,.int .u8 0,.int .u8 0,.int .u8 0,.int .u8 0,.int .u8 0,.int .u8 0,.int .u8 0,.int .u8 0,.int .u8 0,.int .u8 0,.int .u8 0,.int .u8 0,.int .u8 0,.int .u8 0,.int .u8 0,.int .u8 0,.int .u8 0,.int .u8 0,.int .u8 0,.int .u8 0,.int .u8 0,.int .u8 0,.int .u8 0,.int .u8 0,.int .u8 0,.int .u8 0,.int .u8 0]),none⟩
 (.node (.node (.node .nil 102 ⟨.other,1,8,(some [.val .nilFunc]),none⟩
 .nil) 103 ⟨.ptr,1,8,(some [.val (.pointer none)]),none⟩
 .nil) 104 ⟨.other,1,8,(some [.val .nilFunc]),none⟩
 (.node (.node .nil 105 ⟨.ptr,1,8,(some [.val (.pointer none)]),none⟩
 .nil) 106 ⟨.other,1,8,(some [.val .nilFunc]),none⟩
 .nil))) 107 ⟨.ptr,1,8,(some [.val (.pointer none)]),none⟩
 (.node (.node (.node (.node .nil 108 ⟨.other,1,8,(some [.val .nilFunc]),none⟩
 .nil) 109 ⟨.ptr,1,8,(some [.val (.pointer none)]),none⟩
 .nil) 110 ⟨.other,1,8,(some [.val .nilFunc]),none⟩
 (.node (.node .nil 111 ⟨.array 256 5,256,256,none,none⟩
 .nil) 112 ⟨.ptr,1,8,(some [.val (.pointer none)]),none⟩
 .nil)) 113 ⟨.array 256 25,256,6144,none,none⟩
 (.node (.node (.node .nil 114 ⟨.struct [(0,113),(256,77)],257,6168,none,none⟩
 .nil) 115 ⟨.struct [(0,113),(256,77)],257,6168,none,none⟩
 .nil) 116 ⟨.ptr,1,8,(some [.val (.pointer none)]),none⟩
 (.node .nil 117 ⟨.other,1,8,(some [.val .nilFunc]),none⟩
 .nil)))) 118 ⟨.ptr,1,8,(some [.val (.pointer none)]),none⟩
 (.node (.node (.node (.node (.node .nil 119 ⟨.other,1,8,(some [.val .nilFunc]),none⟩
 .nil) 120 ⟨.other,1,8,(some [.val .nilFunc]),none⟩
 .nil) 121 ⟨.ptr,1,8,(some [.val (.pointer none)]),none⟩
 (.node (.node .nil 122 ⟨.other,1,8,(some [.val .nilFunc]),none⟩
 .nil) 123 ⟨.struct [(0,121),(1,9)],2,24,(some [.val (.pointer none),.str []]),none⟩
 .nil)) 124 ⟨.struct [(0,121),(1,9)],2,24,(some [.val (.pointer none),.str []]),none⟩
 (.node (.node (.node .nil 125 ⟨.ptr,1,8,(some [.val (.pointer none)]),none⟩
 .nil) 126 ⟨.slice 125,1,24,none,none⟩
 .nil) 127 ⟨.struct [(0,9),(1,3),(2,9),(3,125),(4,126)],5,72,none,none⟩
 (.node .nil 128 ⟨.struct [(0,9),(1,3),(2,9),(3,125),(4,126)],5,72,none,none⟩
 .nil))) 129 ⟨.struct [(0,128),(5,3),(6,98)],262,336,none,none⟩
 (.node (.node (.node (.node .nil 130 ⟨.struct [(0,128),(5,3),(6,98)],262,336,none,none⟩
 .nil) 131 ⟨.other,1,8,(some [.val .nilFunc]),none⟩
 .nil) 132 ⟨.ptr,1,8,(some [.val (.pointer none)]),none⟩
 (.node (.node .nil 133 ⟨.other,1,8,(some [.val .nilFunc]),none⟩
 .nil) 134 ⟨.ptr,1,8,(some [.val (.pointer none)]),none⟩
 .nil)) 135 ⟨.other,1,8,(some [.val .nilFunc]),none⟩
 (.node (.node (.node .nil 136 ⟨.other,1,8,none,none⟩
 .nil) 137 ⟨.other,1,8,(some [.val .nilFunc]),none⟩
 .nil) 138 ⟨.other,1,8,(some [.val .nilFunc]),none⟩
 (.node .nil 139 ⟨.slice 3,1,24,(some [.list .int []]),(some .int)⟩
 .nil))))) 140 ⟨.array 256 3,256,2048,none,none⟩
 (.node (.node (.node (.node (.node (.node .nil 141 ⟨.struct [(0,9),(1,140),(257,139)],258,2088,none,none⟩
 .nil) 142 ⟨.struct [(0,9),(1,140),(257,139)],258,2088,none,none⟩
 .nil) 143 ⟨.other,1,8,(some [.val .nilFunc]),none⟩
 (.node (.node .nil 144 ⟨.other,1,8,(some [.val .nilFunc]),none⟩
 .nil) 145 ⟨.other,1,8,(some [.val .nilFunc]),none⟩
 .nil)) 146 ⟨.other,1,8,(some [.val .nilFunc]),none⟩
 (.node (.node (.node .nil 147 ⟨.other,1,8,(some [.val .nilFunc]),none⟩
 .nil) 148 ⟨.other,1,8,(some [.val .nilFunc]),none⟩
 .nil) 151 ⟨.array 0 16,0,0,(some []),none⟩
 (.node .nil 154 ⟨.other,1,8,(some [.val .nilFunc]),none⟩
 .nil))) 155 ⟨.int .u8,1,1,(some [.int .u8 0]),none⟩
 (.node (.node (.node (.node .nil 156 ⟨.int .u8,1,1,(some [.int .u8 0]),none⟩
 .nil) 157 ⟨.other,1,8,(some [.val .nilFunc]),none⟩
 .nil) 158 ⟨.ptr,1,8,(some [.val (.pointer none)]),none⟩
 (.node (.node .nil 159 ⟨.int .i32,1,4,(some [.int .i32 0]),none⟩
 .nil) 160 ⟨.int .i32,1,4,(some [.int .i32 0]),none⟩
 .nil)) 161 ⟨.struct [(0,12),(1,12),(2,63),(3,155),(4,5),(5,5),(6,156),(7,157),(8,158),(9,159),(10,160)],11,48,(some [.int .u64 0,.int .u64 0,.int .u32 0,.int .u8 0,.int .u8 0,.int .u8 0,.int .u8 0,.val .nilFunc,.val (.pointer none),.int .i32 0,.int .i32 0]),none⟩
 (.node (.node (.node .nil 162 ⟨.struct [(0,12),(1,12),(2,63),(3,155),(4,5),(5,5),(6,156),(7,157),(8,158),(9,159),(10,160)],11,48,(some [.int .u64 0,.int .u64 0,.int .u32 0,.int .u8 0,.int .u8 0,.int .u8 0,.int .u8 0,.val .nilFunc,.val (.pointer none),.int .i32 0,.int .i32 0]),none⟩
 .nil) 163 ⟨.other,1,8,(some [.val .nilFunc]),none⟩
 .nil) 164 ⟨.ptr,1,8,(some [.val (.pointer none)]),none⟩
 (.node .nil 165 ⟨.struct [(0,164),(1,25)],2,32,(some [.val (.pointer none),.list .byte []]),none⟩
 .nil)))) 166 ⟨.struct [(0,164),(1,25)],2,32,(some [.val (.pointer none),.list .byte []]),none⟩
 (.node (.node (.node (.node (.node .nil 167 ⟨.other,1,8,(some [.val .nilFunc]),none⟩
 .nil) 168 ⟨.other,1,8,(some [.val .nilFunc]),none⟩
 .nil) 169 ⟨.iface,1,16,(some [.val .nilIface]),none⟩
 (.node (.node .nil 170 ⟨.iface,1,16,(some [.val .nilIface]),none⟩
 .nil) 171 ⟨.other,1,0,none,none⟩
 .nil)) 172 ⟨.other,1,8,(some [.val .nilFunc]),none⟩
 (.node (.node (.node .nil 173 ⟨.other,1,8,(some [.val .nilFunc]),none⟩
 .nil) 174 ⟨.other,1,8,(some [.val .nilFunc]),none⟩
 .nil) 175 ⟨.slice 5,1,24,(some [.list .byte []]),(some .byte)⟩
 (.node .nil 176 ⟨.ptr,1,8,(some [.val (.pointer none)]),none⟩
 .nil))) 177 ⟨.iface,1,16,(some [.val .nilIface]),none⟩
 (.node (.node (.node (.node .nil 178 ⟨.iface,1,16,(some [.val .nilIface]),none⟩
 .nil) 179 ⟨.iface,1,16,(some [.val .nilIface]),none⟩
 .nil) 180 ⟨.iface,1,16,(some [.val .nilIface]),none⟩
 (.node (.node .nil 181 ⟨.other,1,8,(some [.val .nilFunc]),none⟩
 .nil) 182 ⟨.other,1,0,none,none⟩
 .nil)) 183 ⟨.other,1,8,(some [.val .nilFunc]),none⟩
 (.node (.node (.node .nil 184 ⟨.other,1,0,none,none⟩
 .nil) 185 ⟨.struct [(0,178)],1,16,(some [.val .nilIface]),none⟩
 .nil) 186 ⟨.struct [(0,178)],1,16,(some [.val .nilIface]),none⟩
 (.node .nil 187 ⟨.other,1,8,(some [.val .nilFunc]),none⟩
 .nil)))))))
def tab:Tab:=tabT.get
theorem zJ:tab.fits Tryz.prog:=Tab.zdD (by kernel_rfl)
theorem mixed:Tryz.prog.follows .mixedOrders=true:=by kernel_rfl
end Go.Proofs.YtalfiafkeijijaaGreatDoor
namespace Go.Ab
open Go
end Go.Ab
namespace Go.Ab
open Go Go.Sep
variable {H:Type} {enc:TypeId × Value→H}
theorem retShaped {a:Assume} {C:Checked} {os:Os} {f:FuncId} {fn:Func} {s:ChangeSpec} {conds:List PathCond} {apart fresh handsOn again:Bool} {X:World→Array Value→Prop}
    (hX: ∀ (w w':World) (args:Array Value),w.heap=w'.heap→X w args→X w' args)
    (own:ownKnob C.prog.godebug=none) (started:os.Started) (noInit:C.prog.inits.idxOf? f=none) (hfn:C.prog.funcs[f]? =some fn)
    (witness: ∃ (w:World) (tape:Tape) (i:Input),w.os=os∧(w.forCall tape i).Shaped C.prog∧i.vars=[]∧Input.okWide C.prog (w.forCall tape i) .any w.heap.size f i∧
      ((s.pre enc C.prog fn conds apart (w.forCall tape i).memory i.args∧X (w.forCall tape i).memory i.args)∧sizedMet enc C.prog fn (OpenSpec.ofChange s) apart (w.forCall tape i).memory i.args)∧a.holds C.prog (lone (Frame.enter C.prog f i.args .normal) [] (w.forCall tape i)))
    (contract: ∀ (W:World) (base:Nat) (args:Array Value) (ds gs:List (DataW H)) (before:List MemPlace),
      (∀ (j:Nat) t v,fn.params[j]? =some t→args[j]? =some v→Value.okWide C.prog W .any base t v)→
      DataW.Whole enc C.prog fn.params.toList s.vars apart W args.toList ds gs before→
      conds.all (PathCond.test C.prog ⟨fn.params.toList,ds,s.plain.varTypes C.prog,gs⟩)=true→
      (DataW.weightsEach C.prog (fn.params.toList++s.plain.varTypes C.prog) (ds++gs)).all (· ≤reachBytes)=true→X W args→W.ShapedOpen C.prog→
      a.holds C.prog (lone (Frame.enter C.prog f args .normal) [] W)→
      Calls C.prog f args W fun e W'=>∃ v,e=.returned v∧s.post enc C.prog fn apart fresh handsOn again W args v W'):
    ReturnsInHanded a C os f .any (fun w args=>(s.pre enc C.prog fn conds apart w args∧X w args)∧sizedMet enc C.prog fn (OpenSpec.ofChange s) apart w args) (s.post enc C.prog fn apart fresh handsOn again):=by
  refine returnsInHanded_of_calls own started noInit witness ?_
  intro w tape i _ hsh _ hok hpre hholds
  obtain⟨_,_,_,fn',hfn',_,_,_,_,hval⟩:=hok
  have e:fn'=fn:=Option.some.inj (hfn'.symm.trans hfn)
  subst e
  obtain⟨⟨⟨ds,gs,before,hw,hc⟩,hx⟩,hz⟩:=hpre
  have hw':=DataW.Whole.of_heap (w':=w.forCall tape i) (by rfl) hw
  refine(contract (w.forCall tape i) w.heap.size i.args ds gs before hval hw' hc (hz.weights hw) (hX _ _ _ (by rfl) hx) hsh hholds).mono fun e W' ⟨v,he,hp⟩=> ?_
  subst he
  exact ChangeSpec.post_blind hp
theorem cell_re {W w:World} (h: ∀ (k:Nat) (o:Obj),W.heap[k]? =some o→w.heap[k]? =some o) {a:Addr} (e: ∃ m,W.cell? a=some (.int .i64 m)): ∃ m,w.cell? a=some (.int .i64 m):=by
  obtain⟨m,e⟩:=e
  refine⟨m,?_⟩
  unfold World.cell? at e ⊢
  cases ho:W.heap[a.block]? with
  |none=>rw [ho] at e;simp at e
  |some o=>rw [h _ _ ho];rw [ho] at e;exact e
end Go.Ab
namespace Go.Proofs.YtalfiafkeijijaaGreatDoor
open Go Go.Sep Go.Ab
set_option maxRecDepth 100000
def xh (m:Str):Str→Int→Int
  |[],i=>if m.isPrefixOf [] then i else -1
  |x::b,i=>if m.isPrefixOf (x::b) then i else xh m b (i+1)
theorem Zv (m:Str): ∀ (b:Str) (i:Int),b.length<m.length→xh m b i= -1
  | [],i,h=>by
    cases m with
    |nil=>simp at h
    |cons y m=>simp [xh,List.isPrefixOf]
  | x ::b,i,h=>by
    have: ¬ m.isPrefixOf (x::b)=true:=fun hp=>by
      have:=(List.isPrefixOf_iff_prefix.1 hp).length_le;omega
    rw [xh,if_neg this]
    exact Zv m b _ (by simp at h;omega)
theorem YN (m b:Str) (i:Nat) (h:i<b.length∨m=[]):xh m (b.drop i) i=if m=(b.drop i).take m.length then(i:Int) else xh m (b.drop (i+1)) (i+1:Nat):=by
  have hp:m.isPrefixOf (b.drop i)=true↔m=(b.drop i).take m.length:=by rw [List.isPrefixOf_iff_prefix,List.prefix_iff_eq_take]
  rcases h with h|h
  · rw [List.drop_eq_getElem_cons h] at hp ⊢
    rw [xh]
    by_cases hc:m.isPrefixOf (b[i]::b.drop (i+1))=true
    · rw [if_pos hc,if_pos (hp.1 hc)]
    · rw [if_neg hc,if_neg (fun e=>hc (hp.2 e))];rfl
  · subst h
    have h2:([]:Str).isPrefixOf (b.drop i)=true:=by cases b.drop i<;>rfl
    rw [if_pos (hp.1 h2)]
    cases hd:b.drop i with
    |nil=>simp [xh]
    |cons y r=>simp [xh]
theorem QY (b m:Str) (hneed:b.length≤1000000∧m.length≤1000000):Spc Tryz.prog 14 [.v (.one (.p (.list .byte b))),.v (.one (.p (.str m)))] [] (.ret (.v (.one (.p (.int .i64 (xh m b 0)))))) []:=by
  refine spcG zJ mixed Tryz.func14 (by kernel_rfl) { keep:=some [0,1,4,5]} [] (by kernel_rfl) ?_
  intro I X hI hX
  refine zH (.code 0 [1,0,1,0] ⟨[(5,(.v (.one (.p (.int .i64 0))))),(4,(.v (.one (.p (.int .i64 0))))),(0,(.v (.one (.p (.list .byte b))))),(1,(.v (.one (.p (.str m)))))],[],26,none⟩) (by kernel_rfl) ?_
  simp only [zU]
  refine zQ hI zJ mixed [] hX [0,1,5] (fun(i:Nat)=>xh m b 0=xh m (b.drop i) i∧i≤b.length) (fun(i:Nat)=>⟨[(0,.v (.one (.p (.list .byte b)))),(1,.v (.one (.p (.str m)))),(5,.v (.one (.p (.int .i64 i))))],[],26,none⟩) (fun(i:Nat)=>b.length - i) 0 (by kernel_rfl) (by kernel_rfl) ?_ ?_
  · exact⟨by simp,Nat.zero_le _⟩
  rintro i ⟨hf,hib⟩ A hA
  refine zH (let y0:=I.add (Nat.cast i) (I.len (α:=UInt8) m);.need (I.inr Go.IntKind.i64 y0) (.br (I.ile y0 (I.len (α:=UInt8) b)) (.need (I.inr Go.IntKind.i64 y0) (.need (I.cutb (Int.ofNat i) y0 (I.len (α:=UInt8) b)) (.br (I.seq (I.cut (α:=UInt8) b (Int.ofNat i) y0) m) (.fin (.ret (.v (.one (.p (.int .i64 (Nat.cast i)))))) []) (.need (I.inr Go.IntKind.i64 (I.add (Nat.cast i) 1)) (.need (A ⟨[(0,(.v (.one (.p (.list .byte b))))),(1,(.v (.one (.p (.str m))))),(5,(.v (.one (.p (.int .i64 (I.add (Nat.cast i) 1))))))],[],26,none⟩) .qed))))) (.fin (.ret (.v (.one (.p (.int .i64 (Neg.neg (1:Int))))))) []))) (by kernel_rfl) ?_
  simp only [zU]
  subst hI
  simp only [nrmA,nrmB]
  simp only [show((i:Int)+(m.length:Int)).toNat=i+m.length by omega,Nat.add_sub_cancel_left]
  have hor:i+m.length≤b.length→(i<b.length∨m=[]):=fun h=>by
    rcases m with _|⟨y,m⟩
    · exact .inr rfl
    · left;simp at h;omega
  (repeat' (first|refine And.intro ?_ ?_|intro _))<;>first|omega|exact True.intro|exact False.elim ‹False›|skip
  · rename_i hle heq
    rw [hf,YN m b i (hor (by omega)),if_pos heq.symm]
  · rename_i hle hne
    have hlt:i<b.length:=(hor (by omega)).resolve_right (fun e=>hne (by subst e;simp))
    refine hA (i+1) ⟨?_,by omega⟩ (by omega)
    rw [hf,YN m b i (hor (by omega)),if_neg (fun h=>hne h.symm)]
  · rename_i hgt
    rw [hf,Zv m (b.drop i) i (by simp only [List.length_drop];omega)]
def vg (I:Alg) (args:List D) (hp:List HO):Option CT:=match args,hp with
  |[.v (.one (.p (.list .byte b))),.v (.one (.p (.str m)))],[]=>(fun(b m:Str)=>(some (.one ⟨I.hid (b.length≤1000000∧m.length≤1000000),(.ret (.v (.one (.p (.int .i64 (I.hid (xh m b 0))))))),[]⟩):Option CT)) b m
  |_,_=>none
theorem Zu:yh Tryz.prog 14 (vg alg):=by
  intro args hp r h
  unfold vg at h
  split at h
  · cases h;exact fun hn=>QY _ _ hn
  · cases h
def yH:Know Tryz.prog:=⟨14,vg,Zu⟩
def yG:Know Tryz.prog:=⟨14,fun I=>yE I (vg I),zA Zu⟩
end Go.Proofs.YtalfiafkeijijaaGreatDoor
namespace Go.Proofs.YtalfiafkeijijaaGreatDoor
set_option maxRecDepth 100000
open Go Go.Sep
theorem Xt (w:World):(callFunc 94 #[]).run Tryz.prog w=.ok (.value (.tuple #[])) w:=run_call_mark0 Tryz.func94 (by kernel_rfl) (by kernel_rfl) (by kernel_rfl) .disable (by kernel_rfl) w
theorem VA (w:World):(callFunc 96 #[]).run Tryz.prog w=.ok (.value (.tuple #[])) w:=run_call_mark0 Tryz.func96 (by kernel_rfl) (by kernel_rfl) (by kernel_rfl) .enable (by kernel_rfl) w
theorem QE (a:Addr) (w:World):(callFunc 97 #[.pointer (some a)]).run Tryz.prog w=.ok (.value (.tuple #[])) w:=run_call_marked Tryz.func97 (by kernel_rfl) (by kernel_rfl) (by kernel_rfl) .acquire (by kernel_rfl) a w
theorem QD (a:Addr) (w:World):(callFunc 99 #[.pointer (some a)]).run Tryz.prog w=.ok (.value (.tuple #[])) w:=run_call_marked Tryz.func99 (by kernel_rfl) (by kernel_rfl) (by kernel_rfl) .releaseMerge (by kernel_rfl) a w
theorem zck (a:Addr) (x:Value) (u:FrameMode) (w:World) (hc:w.cell? a=some x) (hz:w.frozen? a=false):
    CallsD Tryz.prog 84 #[.pointer (some a),.bool true] u w fun e u' w'=>u'=u∧(e=.returned (.tuple #[])∧w'=w.drew.setCell a (.int .u32 1)):=by
  have hc':w.drew.cell? a=some x:=by go_simp
  have hz':w.drew.frozen? a=false:=by go_simp
  have hst:=run_call_store (P:=Tryz.prog) Tryz.func90 (by kernel_rfl) (by kernel_rfl) (by kernel_rfl) (by kernel_rfl) (k:=.u32) (y:=1) hc' hz'
  go_enter_d Tryz.func84,Tryz.ntmps84
  go_wp2
  go_region_calls
  all_goals(go_end0;exact⟨rfl,rfl⟩)
theorem zaJ (a:Addr) (u:FrameMode) (w:World) (hc:w.cell? a=some (.int .i32 1)) (hz:w.frozen? a=false):
    CallsD Tryz.prog 83 #[.pointer (some a)] u w fun e u' w'=>u'=u∧(e=.returned (.tuple #[])∧w'=w.setCell a (.int .i32 0)):=by
  have hd:=Xt
  have he:=VA
  have hr:=QD
  have hadd:=run_call_add (P:=Tryz.prog) Tryz.func100 (by kernel_rfl) (by kernel_rfl) (by kernel_rfl) .i32 (by kernel_rfl) (y:= -1) (s:=0) hc hz (by simp [go_sem];rfl)
  have hcv:=run_convert_to_unsafe (P:=Tryz.prog) (src:=132) (dst:=136) Tryz.underlying132 Tryz.underlying136 (by kernel_rfl) hc
  go_enter_d Tryz.func83,Tryz.ntmps83
  go_wp2
  go_end0
  go_wp2
  go_end0
  exact⟨rfl,rfl⟩
theorem zdi (a:Addr) (w:World) (hc:w.cell? a=some (.int .i32 0)) (hz:w.frozen? a=false):
    Calls Tryz.prog 82 #[.pointer (some a)] w fun e w'=>e=.returned (.tuple #[])∧w'=w.setCell a (.int .i32 1):=by
  have hd:=Xt
  have he:=VA
  have ha:=QE
  have hcas:=run_call_cas_hit (P:=Tryz.prog) Tryz.func95 (by kernel_rfl) (by kernel_rfl) (by kernel_rfl) .i32 (by kernel_rfl) (y:=1) hc hz
  have hc':(w.setCell a (.int .i32 1)).cell? a=some (.int .i32 1):=World.cell?_setCell_same w a _ hc
  have hcv:=run_convert_to_unsafe (P:=Tryz.prog) (src:=132) (dst:=136) Tryz.underlying132 Tryz.underlying136 (by kernel_rfl) hc'
  go_enter Tryz.func82,Tryz.ntmps82
  go_wp2
  first|go_end0|(simp only [Exit.inBlock,Exit.then];refine bodyPost_ret (results_none rfl _ _ _) rfl ?_)|refine bodyPost_ret (results_none rfl _ _ _) rfl ?_
  go_wp2
  go_end0
  exact⟨rfl,rfl⟩
end Go.Proofs.YtalfiafkeijijaaGreatDoor
namespace Go.Proofs.YtalfiafkeijijaaGreatDoor
open Go
theorem sz_5:(Tryz.prog.info? 5).map (·.size)=some 1:=by kernel_rfl
theorem in_5:(Tryz.prog.info? 5).map (fun i=>(i.zero,i.size,i.bytes))=some (some (.int .u8 0),1,1):=by kernel_rfl
theorem sz_9:(Tryz.prog.info? 9).map (·.size)=some 1:=by kernel_rfl
theorem in_9:(Tryz.prog.info? 9).map (fun i=>(i.zero,i.size,i.bytes))=some (some (.string ⟨#[]⟩),1,16):=by kernel_rfl
theorem su:(Tryz.prog.info? 25).map (·.size)=some 1:=by kernel_rfl
theorem uH:(Tryz.prog.info? 77).map (·.size)=some 1:=by kernel_rfl
theorem zdR:(Tryz.prog.info? 90).map (·.size)=some 1:=by kernel_rfl
end Go.Proofs.YtalfiafkeijijaaGreatDoor
namespace Go.Proofs.YtalfiafkeijijaaGreatDoor
open Go Go.RowKit Go.Sep
set_option maxRecDepth 100000
theorem putS (a:Act) (d:Tmp) (v:Value):a.put (some d) v= { a with tmps:=a.tmps.setIfInBounds d v}:=rfl
theorem putN (a:Act) (v:Value):a.put none v=a:=rfl
theorem putL:type_of% (And.intro putS <| And.intro putN <| And.intro (@List.setIfInBounds_toArray Value) <| And.intro (@List.set_cons_succ Value) (@List.set_cons_zero Value)):=And.intro putS <| And.intro putN <| And.intro (@List.setIfInBounds_toArray Value) <| And.intro (@List.set_cons_succ Value) (@List.set_cons_zero Value)
set_option maxHeartbeats 4000000 in
theorem zcm (ao:Option Addr) (cap:Nat) (xs:List Value) (h1: ∀ v ∈ xs,v.oneCell'=true) (l:List Chunk) (w:World) (H:At w (rowC 9 1 (.slice ao 4 cap) 4 xs::l)):
    Calls Tryz.prog 56 #[.slice ao 4 cap] w fun e w'=>∃ b ao' cap',e=.returned (.pointer (some ⟨b,0,none⟩))∧
      At w' (objC b 92 [.int .u32 0,.int .i32 0,.int .u32 0,.nilIface,.slice ao' 4 cap']::rowC 9 1 (.slice ao' 4 cap') 4 xs::l):=by
  replace H:=H.nilRow 9 1
  go_enter Tryz.func56,Tryz.ntmps56
  go_wp2_with (first | ((with_reducible show wpList _ _ _ (⟨_,.call _,_,_,_,_⟩::_) _ _);refine xw Tryz.underlying77 Tryz.underlying77 (fun k h=>by cases h) in_9 rfl rfl rfl (by first|with_reducible exact H|with_reducible exact H.p1|with_reducible exact H.p2|with_reducible exact H.p3|with_reducible exact H.p4|with_reducible exact H.p5|with_reducible exact H.p6|exact H|exact H.p1|exact H.p2|exact H.p3|exact H.p4|exact H.p5|exact H.p6) (Rd.src (by first|with_reducible exact H.rd|with_reducible exact H.p1.rd|with_reducible exact H.p2.rd|with_reducible exact H.p3.rd|with_reducible exact H.p4.rd|with_reducible exact H.p5.rd|with_reducible exact H.p6.rd|exact H.rd|exact H.p1.rd|exact H.p2.rd|exact H.p3.rd|exact H.p4.rd|exact H.p5.rd|exact H.p6.rd)) (by first|assumption|simp [Value.oneCell']) (by omega) (by omega) rfl ?_;intro ao9 cap9 w9 hc9 H1;replace H:=H1;clear H1;simp only [Act.put,List.setIfInBounds_toArray,List.set_cons_succ,List.set_cons_zero])
                                        |((with_reducible show wpList _ _ _ (⟨_,.box _ _,_,_,_,_⟩::_) _ _);refine zc2 (T:=92) rfl [_,_,_,_,_] rfl H rfl ?_;intro b11 w11 H1;replace H:=H1;clear H1;simp only [Act.put,List.setIfInBounds_toArray,List.set_cons_succ,List.set_cons_zero]))
  go_ret
  exact⟨_,_,_,rfl,(At.sub (by repeat(first|with_reducible exact Sub.refl _|with_reducible exact Sub.nil _|with_reducible refine Sub.c0 ?_|with_reducible refine Sub.c1 ?_|with_reducible refine Sub.c2 ?_|with_reducible refine Sub.c3 ?_|with_reducible refine Sub.c4 ?_|with_reducible refine Sub.c5 ?_|with_reducible refine Sub.c6 ?_|refine Sub.c0 ?_|refine Sub.c1 ?_|refine Sub.c2 ?_|refine Sub.c3 ?_|refine Sub.c4 ?_|refine Sub.c5 ?_|refine Sub.c6 ?_|with_reducible refine Sub.drop ?_)) H)⟩
def nils:List Value:=List.replicate 256 (.slice none 0 0)
def bs0 (x:Value):List Value:=nils++[x]
theorem rE (x:Value):(bs0 x).length=257:=by simp [bs0,nils]
theorem zbv (x v:Value):(bs0 x).set 256 v=bs0 v:=by
  unfold bs0
  rw [List.set_append_right _ _ (by simp [nils])]
  simp [nils]
theorem zdK:(Tryz.prog.info? 115).map (fun i=>(i.zero.map (fun z=>z.cells),i.size))=some (some (bs0 (.slice none 0 0)).toArray,257):=by kernel_rfl
theorem WT: ∃ i z,Tryz.prog.info? 115=some i∧i.zero=some z∧z.cells=(bs0 (.slice none 0 0)).toArray∧i.size=257:=by
  have h:=zdK
  cases hi:Tryz.prog.info? 115 with
  |none=>rw [hi] at h;cases h
  | some i=>
    rw [hi] at h
    simp only [Option.map_some,Option.some.injEq,Prod.mk.injEq] at h
    cases hz:i.zero with
    |none=>rw [hz] at h;simp at h
    |some z=>rw [hz] at h;simp only [Option.map_some,Option.some.injEq] at h;exact⟨i,z,rfl,hz,h.1,h.2⟩
theorem zbu (x:Value) (hx:x.cells= #[x]) (w:World):(Instr.build 115 #[(1,x)]).run Tryz.prog w=.ok (.agg (bs0 x).toArray) w:=by
  obtain⟨i,z,hi,hz,hc,hs⟩:=WT
  have hu:=Tryz.underlying115
  have h1:(Tryz.prog.info? 113).map (·.size)=some 256:=by kernel_rfl
  have h2:(Tryz.prog.info? 77).map (·.size)=some 1:=by kernel_rfl
  obtain⟨i1,hi1,hs1⟩: ∃ i,Tryz.prog.info? 113=some i∧i.size=256:=by
    cases h:Tryz.prog.info? 113 with
    |none=>rw [h] at h1;cases h1
    |some i=>rw [h] at h1;exact⟨i,rfl,by simpa using h1⟩
  obtain⟨i2,hi2,hs2⟩: ∃ i,Tryz.prog.info? 77=some i∧i.size=1:=by
    cases h:Tryz.prog.info? 77 with
    |none=>rw [h] at h2;cases h2
    |some i=>rw [h] at h2;exact⟨i,rfl,by simpa using h2⟩
  have hfill:Instr.fill ([(0,256),(256,1)][·]?) (bs0 (.slice none 0 0)).toArray [(1,x)]=some (bs0 x).toArray:=by
    unfold Instr.fill
    simp only [List.getElem?_cons_succ,List.getElem?_cons_zero,hx,List.size_toArray,List.length_cons,List.length_nil,rE]
    rw [if_neg (by decide)]
    simp only [Instr.fill,Option.some.injEq]
    have:(Array.foldl (fun cs y=>match y with|(c,j)=>cs.setIfInBounds (256+j) c) (bs0 (.slice none 0 0)).toArray (#[x]:Array Value).zipIdx)=(bs0 (.slice none 0 0)).toArray.setIfInBounds 256 x:=by simp
    rw [this]
    simp [bs0,nils]
  simp only [Instr.build,zeroValue,typeInfo,sizeOf,run_underlying hu,Sem.run_bind,Sem.run_pure,Result.andThen_ok]
  simp [hi,hz,hc,hi1,hs1,hi2,hs2,hfill]
section
variable {P:Program} {w:World} {ops:Array Oper} {rest:List Oper} {a:Act} {Q:Exit→Act→World→Prop} {dst:Option Tmp} {ty:TypeId} {pos:String} {af:Array Edge} {gd:Option (Nat × Bool)}
theorem zaf {T E : TypeId} {x y : Operand} {l : List Chunk} (ht : P.underlying T =some (.slice E)) {z:Value} {bytes:Nat} (hinfo:(P.info? E).map (fun i=>(i.zero,i.size,i.bytes))=some (some z,1,bytes)) (hzc:z.cells= #[z]) (n c:Nat) {k1 k2:IntKind} {m1 m2:Int}
    (hx:a.eval x=.int k1 m1) (hy:a.eval y=.int k2 m2) (e1:m1=n) (e2:m2=c) (hnc:n≤c) (hb:bytes * c≤281474976710656) (hm:c≤maxLen) (H:At w l)
    (hw:Region.wanted ⟨dst,.makeSlice T x y,ty,pos,af,gd⟩ (yielded ops a.tmps)=true)
    (h: ∀ ao w',At w' (rowC E 1 (.slice ao n c) n (List.replicate n z)::l)→wpList P ops Q rest (a.put dst (.slice ao n c)) w'):wpList P ops Q (⟨dst,.makeSlice T x y,ty,pos,af,gd⟩::rest) a w:=by
  obtain⟨i,hi,hz⟩:=Option.map_eq_some_iff.1 hinfo
  simp only [Prod.mk.injEq] at hz
  obtain⟨hz0,hz1,hz2⟩:=hz
  subst e1 e2
  have hr := run_make (P := P) w T E i z ht hi hz0 k1 k2 n c (by omega) (by omega) (by have:((i.bytes * c:Nat):Int)≤281474976710656:=by rw [hz2];omega
                                                                                       rwa [Int.natCast_mul] at this) (by unfold maxLen at hm;omega)
  rw [hz1,Nat.mul_one,hzc] at hr
  simp only [Int.toNat_natCast] at hr
  have hA:At (w.alloc (.cells (madeCells #[z] c) E)) (rowC E 1 (.slice (some ⟨w.heap.size,0,none⟩) n c) n (List.replicate n z)::l):=
    H.new (A':=fun k=>k=w.heap.size) ⟨fun k=>⟨fun h=>by rw [h];rfl,fun h=>by cases h;rfl⟩,by simp,.inr ⟨w.heap.size,c,madeCells #[z] c,(0,0),rfl,heap_alloc_new w _,xA _,hnc,hm,by simp [size_madeCells],by rw [uf,Nat.mul_one,List.take_replicate,Nat.min_eq_left hnc]⟩⟩ (fun k h=>by omega) (xO w _)
  exact zf hw (by simp only [execOp,hx,hy,Sem.run_bind,hr,Result.andThen_ok,Sem.run_pure]) (h _ _ hA)
theorem zc0 {y:Operand} {x:Value} (hy:a.eval y=x) (hx:x.cells= #[x]) (hw:Region.wanted ⟨dst,.build 115 #[(1,y)],ty,pos,af,gd⟩ (yielded ops a.tmps)=true)
    (h:wpList Tryz.prog ops Q rest (a.put dst (.agg (bs0 x).toArray)) w):wpList Tryz.prog ops Q (⟨dst,.build 115 #[(1,y)],ty,pos,af,gd⟩::rest) a w:=by
  refine zf hw (v:=.agg (bs0 x).toArray) (w':=w) ?_ h
  have:=zbu x hx w
  simp only [execOp,List.map_toArray,List.map_cons,List.map_nil,hy,Sem.run_bind,this,Result.andThen_ok,Sem.run_pure]
theorem Qk {l:List Chunk} (H:At w l) (hw:Region.wanted ⟨dst,.alloc 115,ty,pos,af,gd⟩ (yielded ops a.tmps)=true)
    (h: ∀ b w',At w' (objC b 115 (bs0 (.slice none 0 0))::l)→wpList Tryz.prog ops Q rest (a.put dst (.pointer (some ⟨b,0,none⟩))) w'):wpList Tryz.prog ops Q (⟨dst,.alloc 115,ty,pos,af,gd⟩::rest) a w:=by
  obtain⟨i,z,hi,hz,hc,hs⟩:=WT
  exact zai hi hz _ hc H hw h
theorem Qj {x y:Operand} {b:Nat} {v:Value} {l:List Chunk} (hx:a.eval x=.pointer (some ⟨b,0,none⟩)) (hy:a.eval y=.agg (bs0 v).toArray) (h1:v.oneCell'=true) (H:At w (objC b 115 (bs0 (.slice none 0 0))::l))
    (hw:Region.wanted ⟨dst,.store 115 x y,ty,pos,af,gd⟩ (yielded ops a.tmps)=true)
    (h: ∀ w',At w' (objC b 115 (bs0 v)::l)→wpList Tryz.prog ops Q rest (a.put dst undef) w'):wpList Tryz.prog ops Q (⟨dst,.store 115 x y,ty,pos,af,gd⟩::rest) a w:=by
  obtain⟨i,z,hi,hz,hc,hs⟩:=WT
  have hst:=zY Tryz.prog b 0 115 (0,0) (bs0 v) 0 _ w H.obj (xA _) (by simp [rE]) (by
    intro u hu
    rcases List.mem_append.1 hu with hu|hu
    · rw [List.eq_of_mem_replicate hu];rfl
    · rw [List.mem_singleton.1 hu];exact h1)
  have e:((bs0 (.slice none 0 0)).toArray.toList.take (0+0)++bs0 v++(bs0 (.slice none 0 0)).toArray.toList.drop (0+0+(bs0 v).length))=bs0 v:=by
    have hl:List.drop (bs0 v).length (bs0 (.slice none 0 0))=[]:=List.drop_eq_nil_of_le (by rw [rE,rE];exact Nat.le_refl _)
    simp [hl]
  rw [e] at hst
  refine XW hw (w':=w.setRow b (bs0 v).toArray) ?_ (h _ ?_)
  · have:(Instr.storeAt 115 (.pointer (some ⟨b,0,none⟩)) (.agg (bs0 v).toArray)).run Tryz.prog w=.ok () (w.setRow b (bs0 v).toArray):=by
      have hsz:(Value.agg (bs0 v).toArray).cells.size=257:=by show(bs0 v).toArray.size=257;simp [rE]
      have hcl:(Value.agg (bs0 v).toArray).cells.toList=bs0 v:=rfl
      simp only [Instr.storeAt,Instr.sureAddr,storeVar,Sem.run_bind,Sem.run_pure,Result.andThen_ok,sizeOf,typeInfo]
      simp [hi,hs,hsz,hcl,hst]
    simp only [execOp,hx,hy,Sem.run_bind,this,Result.andThen_ok,Sem.run_pure]
  · exact H.step fun A hA=>⟨A,⟨hA.1,setRow_heap w b _ _ _ _ hA.2⟩,fun _ h=>.inl h,(yR w b _).mono fun k hk e=>hk.2 ((hA.1 k).2 e)⟩
end
end Go.Proofs.YtalfiafkeijijaaGreatDoor
namespace Go.Proofs
open Go.Shelf
def Tryz.UR:Go.Shelf.Ren:=⟨fun|138=>145|195=>146|218=>147|143=>148|219=>73|217=>69|225=>79|224=>35|267=>80|266=>77|314=>87|n=>n,fun|9=>9|3=>3|4=>4|5=>5|0=>0|46=>53|146=>64|51=>63|n=>n,fun|1=>0|n=>n⟩
theorem Tryz.lays138:Go.Proofs.Lays.n138 Tryz.prog Tryz.UR:= {
  mixed:=by kernel_rfl
  f138:=Tryz.func145.trans (congrArg some (by kernel_rfl))
  f143:=Tryz.func148.trans (congrArg some (by kernel_rfl))
  f195:=Tryz.func146.trans (congrArg some (by kernel_rfl))
  f217:=Tryz.func69.trans (congrArg some (by kernel_rfl))
  f218:=Tryz.func147.trans (congrArg some (by kernel_rfl))
  f219:=Tryz.func73.trans (congrArg some (by kernel_rfl))
  f224:=Tryz.func35.trans (congrArg some (by kernel_rfl))
  f225:=Tryz.func79.trans (congrArg some (by kernel_rfl))
  f266:=Tryz.func77.trans (congrArg some (by kernel_rfl))
  f267:=Tryz.func80.trans (congrArg some (by kernel_rfl))
  f314:=Tryz.func87.trans (congrArg some (by kernel_rfl))
  t0:=Tryz.underlying0
  a0:=Tryz.isAgg0
  z0:=Tryz.sizeOf0
  v0:=Tryz.zeroValue0
  t3:=Tryz.underlying3
  a3:=Tryz.isAgg3
  z3:=Tryz.sizeOf3
  v3:=Tryz.zeroValue3
  t4:=Tryz.underlying4
  a4:=Tryz.isAgg4
  z4:=Tryz.sizeOf4
  v4:=Tryz.zeroValue4
  t5:=Tryz.underlying5
  a5:=Tryz.isAgg5
  z5:=Tryz.sizeOf5
  v5:=Tryz.zeroValue5
  t9:=Tryz.underlying9
  a9:=Tryz.isAgg9
  z9:=Tryz.sizeOf9
  v9:=Tryz.zeroValue9
  t46:=Tryz.underlying53
  a46:=Tryz.isAgg53
  z46:=Tryz.sizeOf53
  v46:=Tryz.zeroValue53
  t51:=Tryz.underlying63
  a51:=Tryz.isAgg63
  z51:=Tryz.sizeOf63
  v51:=Tryz.zeroValue63
  t146:=Tryz.underlying64
  a146:=Tryz.isAgg64
  z146:=Tryz.sizeOf64
  v146:=Tryz.zeroValue64
  g1:=by kernel_rfl}
open Go.RowKit Go.Lib in
theorem Tryz.strings_Count_one (s:ByteArray) (c:UInt8) (w:World):
    Calls Tryz.prog 145 #[.string s,.string ⟨#[c]⟩] w fun e w'=>e=.returned (.int .i64 (Lib.countByte s.data.toList c))∧w'=w:=Any.strings_Count_one Tryz.lays138 s c w
end Go.Proofs
namespace Go.Proofs.YtalfiafkeijijaaGreatDoor
open Go Go.RowKit Go.Sep
set_option maxRecDepth 100000
def escB (c:UInt8):List UInt8:=if c=34∨c=92 then [92,c] else [c]
def escS (s:List UInt8):List UInt8:=s.flatMap escB
theorem xG (a b:List UInt8):escS (a++b)=escS a++escS b:=List.flatMap_append
theorem WM: ∀ s:List UInt8,(escS s).length=s.length+s.count 34+s.count 92
  |[]=>rfl
  | c ::s=>by
    have ih:=WM s
    have e:escS (c::s)=escB c++escS s:=rfl
    rw [e,List.length_append,ih,List.length_cons,List.count_cons,List.count_cons]
    unfold escB
    by_cases h:c=34
    · subst h;simp;omega
    · by_cases h2:c=92
      · subst h2;simp;omega
      · rw [if_neg (by simp [h,h2])]
        simp [h,h2];omega
theorem U3: ∀ s:List UInt8,s.count 34+s.count 92=0→escS s=s
  |[],_=>rfl
  | c ::s,h=>by
    rw [List.count_cons,List.count_cons] at h
    by_cases h1:c=34
    · subst h1;simp at h
    · by_cases h2:c=92
      · subst h2;simp at h
      · have e:escS (c::s)=escB c++escS s:=rfl
        rw [e,U3 s (by omega)]
        unfold escB
        rw [if_neg (by simp [h1,h2])];rfl
def tabC (x v1 v2:Value):List Value:=((bs0 x).set 34 v1).set 92 v2
theorem zao (x v1 v2:Value) (k:Nat) (h:k<256) (h1:k≠34) (h2:k≠92):(tabC x v1 v2)[k]? =some (.slice none 0 0):=by
  unfold tabC
  rw [List.getElem?_set_ne (fun e=>h2 e.symm),List.getElem?_set_ne (fun e=>h1 e.symm)]
  unfold bs0
  rw [List.getElem?_append_left (by simpa [nils] using h)]
  unfold nils
  rw [List.getElem?_replicate,if_pos h]
theorem WQ (s:List UInt8) (c:UInt8) (w:World):Calls Tryz.prog 145 #[.string (S s),.string (S [c])] w fun e w'=>e=.returned (.int .i64 (s.count c:Nat))∧w'=w:=by
  have:=Tryz.strings_Count_one (S s) c w
  have e:(S s).data.toList=s:=qK s
  rw [e] at this
  exact this
section
variable {P:Program} {w:World} {ops:Array Oper} {rest:List Oper} {a:Act} {Q:Exit→Act→World→Prop} {dst:Option Tmp} {ty:TypeId} {pos:String} {af:Array Edge} {gd:Option (Nat × Bool)}
theorem Wi (w:World) (dT sT ty elem:TypeId) (g o dLen dCap:Nat) (a:Addr) (sLen sCap:Nat) (cur:Array Value) (t:TypeId) (fz:Nat × Nat) (cs:List Value)
    (hu:P.underlying dT=some (.slice elem)) (hs:(P.info? elem).map (·.size)=some 1)
    (hg:w.heap[g]? =some (.cells cur t fz)) (hf:Free fz cur.size) (hn:cs.length=Nat.min sLen dLen)
    (hsrc: ∀ j v,cs[j]? =some v→w.cell? (a.add j)=some v) (hfit:o+cs.length≤cur.size) (h1: ∀ v ∈ cs,v.oneCell'=true):
    (Builtin.copy_ #[dT,sT] ty #[.slice (some ⟨g,o,none⟩) dLen dCap,.slice (some a) sLen sCap]).run P w=
      .ok (goInt cs.length) (w.setRow g (cur.toList.take o++cs++cur.toList.drop (o+cs.length)).toArray):=by
  have hl:=run_loadCells_list (P:=P) w a cs hsrc
  have hst:=zY P g o t fz cs 0 cur w hg hf (by simpa using hfit) h1
  cases hq:P.info? elem with
  |none=>simp [hq] at hs
  | some i=>
    have hi:i.size=1:=by simpa [hq] using hs
    simp [Builtin.copy_,run_underlying hu,Builtin.lenOf,Builtin.firstCells,sizeOf,typeInfo,hq,hi,← hn,hl,hst]
theorem rF {d s:Operand} {dT sT E:TypeId} {l:List Chunk} (ht:P.underlying dT=some (.slice E)) (hs:(P.info? E).map (·.size)=some 1) {ao:Option Addr} {n cap j m:Nat} {xs ys:List UInt8} {a2:Addr} {c2:Nat}
    (hd:a.eval d=sub (.slice ao n cap) 1 j n) (hx:a.eval s=.slice (some a2) m c2) (hr:Rd w 1 (.slice (some a2) m c2) m (bvs ys)) (hm:0<m) (hj:j+m≤n) (H:At w (rowC E 1 (.slice ao n cap) n (bvs xs)::l))
    (hw:Region.wanted ⟨dst,.call { callee:=.builtin .copy,args:= #[d,s],argTypes:= #[dT,sT]},ty,pos,af,gd⟩ (yielded ops a.tmps)=true)
    (h: ∀ w',At w' (rowC E 1 (.slice ao n cap) n (bvs (xs.take j++ys++xs.drop (j+m)))::l)→wpList P ops Q rest (a.put dst (.int .i64 (m:Nat))) w'):
    wpList P ops Q (⟨dst,.call { callee:=.builtin .copy,args:= #[d,s],argTypes:= #[dT,sT]},ty,pos,af,gd⟩::rest) a w:=by
  have hyl:ys.length=m:=by simpa using hr.zed
  obtain⟨A0,hA0⟩:=H.head
  obtain⟨hlen,hv⟩:=hA0.2
  have hxl:xs.length=n:=by simpa using hlen
  rcases hv with⟨_,h0⟩|⟨g,cap',cur,fz,e,hg,hfree,hnc,hcm,hcs,htk⟩
  · omega
  simp only [Value.slice.injEq] at e
  obtain⟨rfl,_,rfl⟩:=e
  have hsub:sub (.slice (some ⟨g,0,none⟩) n cap) 1 j n=.slice (some ⟨g,j,none⟩) (n - j) (cap - j):=by
    unfold sub
    simp only
    rw [if_neg (by omega)]
    simp [Addr.add]
    intro h
    omega
  have hsz:(bvs ys).length=Nat.min m (n - j):=by rw [xq,hyl];exact(Nat.min_eq_left (by omega)).symm
  have hc:=Wi (P:=P) w dT sT ty E g j (n - j) (cap - j) a2 m c2 cur E fz (bvs ys) ht hs hg hfree hsz (fun i v hi=>by
    have hsp:=hr.spot (j:=i) (by have:=(List.getElem?_eq_some_iff.1 hi).1;simpa using this)
    obtain⟨a3,e3,hsp⟩:=hsp
    cases e3
    rw [uS hsp]
    exact hr.cat hi) (by rw [xq,hyl];omega) (zdI ys)
  have hA:At (w.setRow g (cur.toList.take j++bvs ys++cur.toList.drop (j+(bvs ys).length)).toArray) (rowC E 1 (.slice (some ⟨g,0,none⟩) n cap) n (bvs (xs.take j++ys++xs.drop (j+m)))::l):=by
    have hcl:(cur.toList.take j++bvs ys++cur.toList.drop (j+(bvs ys).length)).length=cur.size:=by
      simp only [List.length_append,List.length_take,List.length_drop,Array.length_toList,xq,hyl];omega
    refine H.step fun A hA=>⟨A,⟨hA.1,?_,.inr ⟨g,cap,_,fz,rfl,setRow_heap w g cur _ E _ hg,?_,hnc,hcm,?_,?_⟩⟩,fun _ h=>.inl h,(yR w g _).mono fun k hk e=>hk.2 ((hA.1 k).2 (by simp [Value.ownBlock,e]))⟩
    · rw [xq];simp only [List.length_append,List.length_take,List.length_drop];omega
    · rw [List.size_toArray,hcl];exact hfree
    · rw [List.size_toArray,hcl];exact hcs
    · rw [Nat.mul_one] at htk ⊢
      have e1:cur.toList.take j=bvs (xs.take j):=by
        have:=congrArg (List.take j) htk
        rw [List.take_take,Nat.min_eq_left (by omega)] at this
        rw [this];simp [bvs,List.map_take]
      have e2:(cur.toList.drop (j+m)).take (n - (j+m))=bvs (xs.drop (j+m)):=by
        have:=congrArg (List.drop (j+m)) htk
        rw [List.drop_take] at this
        rw [this];simp [bvs,List.map_drop]
      simp only [xq,hyl]
      rw [e1,List.take_append,XP,XP]
      rw [List.take_of_length_le (by rw [List.length_append,xq,xq,List.length_take,hyl];omega)]
      congr 1
      rw [← e2]
      congr 1
      rw [List.length_append,xq,xq,List.length_take,hyl];omega
  refine BigFrame.wpList_want hw fun K hK=> ?_
  unfold Oper.wp execOp
  rw [hsub] at hd
  simp only [resolve,invoke,builtin,Sem.run_bind,Sem.run_pure,Result.andThen_ok,List.map_toArray,List.map_cons,List.map_nil,hd,hx,hc]
  have:=h _ hA
  rw [show(m:Int)=(((bvs ys).length:Nat):Int) by rw [xq,hyl]] at this
  exact hK _ _ this
theorem zF {T E:TypeId} {x y:Operand} {u:TypeId} (ht:P.underlying T=some (.slice E)) {b:Addr} {n cap:Nat} (hx:a.eval x=.slice (some b) n cap) (hy:a.eval y=.slice none 0 0):
    (execOp a.eval ⟨dst,.binOp .neq T x y u,ty,pos,af,gd⟩).run P w=.ok (.value (.bool true)) w:=by
  simp [execOp,hx,hy,eqGuard,run_neq_slice_nil w T E _ _ _ ht]
theorem zG {T E:TypeId} {x y:Operand} {u:TypeId} (ht:P.underlying T=some (.slice E)) {n cap:Nat} (hx:a.eval x=.slice none n cap) (hy:a.eval y=.slice none 0 0):
    (execOp a.eval ⟨dst,.binOp .neq T x y u,ty,pos,af,gd⟩).run P w=.ok (.value (.bool false)) w:=by
  simp [execOp,hx,hy,eqGuard,run_neq_slice_nil w T E _ _ _ ht]
theorem zS {T E:TypeId} {x lo:Operand} (ht:P.underlying T=some (.slice E)) (hs:(P.info? E).map (·.size)=some 1) {ao:Option Addr} {n cap j:Nat} {k:IntKind} {i:Int} (hnc:n≤cap) (hx:a.eval x=.slice ao n cap) (hl:a.eval lo=.int k i) (hi:i=j) (hj:j≤n):
    (execOp a.eval ⟨dst,.slice T x (some lo) none none,ty,pos,af,gd⟩).run P w=.ok (.value (sub (.slice ao n cap) 1 j n)) w:=by
  subst hi
  simp only [execOp,hx,Option.map_none,Option.map_some,hl,Sem.run_bind,Ym ht hs ao n cap j n hnc (.inr ⟨k,rfl⟩) (.inl ⟨rfl,rfl⟩) hj (Nat.le_refl _),Result.andThen_ok,Sem.run_pure]
end
theorem zcb (p:List UInt8) (N:Nat) (y:UInt8) (h:p.length+2≤N):(p++List.replicate (N - p.length) 0).take p.length++[92,y]++(p++List.replicate (N - p.length) 0).drop (p.length+2)=(p++[92,y])++List.replicate (N - (p++[92,y]).length) 0:=by
  rw [List.take_left' rfl,List.drop_append,List.drop_of_length_le (by omega),List.nil_append,List.drop_replicate]
  congr 2
  simp only [List.length_append,List.length_cons,List.length_nil]
  omega
theorem zdW (p:List UInt8) (N:Nat) {c:UInt8} (h:p.length+1≤N):(p++List.replicate (N - p.length) 0).set p.length c=(p++[c])++List.replicate (N - (p++[c]).length) 0:=by
  rw [List.set_append_right _ _ (Nat.le_refl _),Nat.sub_self,show N - p.length=(N - (p++[c]).length)+1 by simp only [List.length_append,List.length_singleton];omega,List.replicate_succ,List.set_cons_zero]
  simp
theorem zbt (l:List UInt8) (i:Nat) (c:UInt8):(bvs l).set i (.int .u8 (c.toNat:Int))=bvs (l.set i c):=by
  simp [bvs,bv,List.map_set]
end Go.Proofs.YtalfiafkeijijaaGreatDoor
namespace Go.Ab
open Go Go.Sep
variable [Facts]
def wfI (n:Int):Prop:= -9223372036854775808≤n∧n≤9223372036854775807
def wfS {α:Type} (s:List α):Prop:=s.length≤140737488355328
def zbV (f:Fld):Prop:=wfS f.name∧wfS f.value
def wfHd (h:Hd):Prop:=wfS h.method∧wfS h.target∧wfI h.minor∧(wfS h.fields∧∀ f ∈ h.fields,zbV f)∧wfI h.length
def zc3 (p:Prt):Prop:=wfS p.name∧wfS p.file∧wfS p.type∧wfS p.bytes
def wfZ:(u:U)→u.den→Prop
  |.byte,_=>True
  |.int,n=>wfI n
  |.str,(s:Str)=>wfS s
  |.fld,f=>zbV f
  |.bytes,(b:Str)=>wfS b
  |.hd,h=>wfHd h
  |.prt,p=>zc3 p
  |.evt,(e:Evt)=>wfI e.kind∧wfHd e.head∧wfS e.bytes∧zc3 e.part∧wfI e.code
  |.upl,(x:Upl)=>wfI x.id∧wfI x.size∧wfS x.note∧wfS x.bytes∧wfI x.sent
  |.ent,(e:Ent)=>wfI e.kind∧wfI e.id∧wfI e.n∧wfS e.text
  |.stp,(e:Stp)=>wfI e.kind∧wfI e.conn∧wfI e.n∧wfS e.bytes
  |.ask,(a:Ask)=>wfHd a.h∧wfS a.body
  |.cal,(c:Cal)=>wfI c.conn∧wfS c.b
  |.lst,(e:Lst)=>wfI e.op∧wfI e.n∧wfS e.b
  |.sst,(e:Sst)=>wfI e.op∧wfI e.id∧wfI e.n∧wfS e.text
  |.rpl,(r:Rpl)=>wfI r.status∧(wfS r.fields∧∀ f ∈ r.fields,zbV f)∧wfS r.body
  |.prw,p=>zc3 p
  |.med,(m:Med)=>wfS m.word∧(wfS m.params∧∀ f ∈ m.params,zbV f)
  |_,_=>True
abbrev Small {H:Type} (Pr:Program) (t:TypeId) (d:DataW H):Prop:=(d.weights Pr t).all (· ≤reachBytes)=true
section
variable {H:Type} {hsh:TypeId × Value→H} {Pr:Program} {w:World} {hF:Holds w} {base:Nat} {spare:Nat→Bool} {held:Bool}
def uT (hsh:TypeId × Value→H) (Pr:Program) (w:World) (hF:Holds w) (base:Nat) (spare:Nat→Bool) (held:Bool) (t:TypeId) (Q:List P→Prop):Prop:=
  ∀ fuel cs y,DataW.trod hsh Pr w base spare held fuel t cs=some y→Small Pr t y.1→∃ ps,MPs (frzW w hF) ps cs∧Q ps
theorem uT.mono {t:TypeId} {Q Q':List P→Prop} (h:uT hsh Pr w hF base spare held t Q) (hq: ∀ ps,Q ps→Q' ps):uT hsh Pr w hF base spare held t Q':=by
  intro fuel cs y hy hs
  obtain⟨ps,h1,h2⟩:=h fuel cs y hy hs
  exact⟨ps,h1,hq _ h2⟩
def QU (u:U) (ps:List P):Prop:=∃ x:u.den,ps=enc alg u x∧wfZ u x
def QL (u:U) (ps:List P):Prop:=∃ l:List u.den,ps=[.list u l]∧wfS l∧∀ x ∈ l,wfZ u x
theorem op_byte {t:TypeId} (ht:Pr.underlying t=some (.int .u8)):uT hsh Pr w hF base spare held t (QU .byte):=by
  intro fuel cs y h _
  obtain⟨c,hc⟩:=QA ht fuel cs y h
  exact⟨enc alg .byte c,zdx hc,c,rfl,trivial⟩
theorem TW {n:Nat} (h:n≤reachBytes):n≤140737488355328:=Nat.le_trans h (by decide)
theorem op_str {t:TypeId} (ht:Pr.underlying t=some .string):uT hsh Pr w hF base spare held t (QU .str):=by
  intro fuel cs y h hs
  obtain⟨s,rfl,hy,hl⟩:=DataW.trod_string ht h
  have e:Sep.S s.data.toList=s:=by cases s;rfl
  refine⟨[.str s.data.toList],⟨by rw [← e];exact .str _ (by simpa using hl),trivial⟩,s.data.toList,rfl,?_⟩
  rw [hy] at hs
  simp only [Small,DataW.weights,List.all_cons,List.all_nil,Bool.and_true,decide_eq_true_eq] at hs
  exact TW hs
def elemsOf:DataW H→List (DataW H)
  |.slice es _=>es
  |_=>[]
theorem UC {α:Type} {t e:TypeId} {size:Nat} {R:Sep.Rel α} (ht:Pr.underlying t=some (.slice e)) (hs:Pr.cellsOf e=size) {fuel:Nat} {cs:List Value} {y:DataW H × List MemPlace}
    (h:DataW.trod hsh Pr w base spare held fuel t cs=some y) (he: ∀ n ci z,z.1 ∈ elemsOf y.1→DataW.trod hsh Pr w base spare held n e ci=some z→∃ x,R w ci x):
    ∃ xs,RSl size R w cs xs∧xs.length=(elemsOf y.1).length:=by
  rcases DataW.trod_slice ht h with⟨rfl,rfl⟩|⟨a,len,cap,elems,rest,n,_,rfl,rfl,_,hl,hm,hlen,hel,_,_⟩
  · exact⟨[],⟨_,[],rfl,⟨none,0,rfl,Nat.le_refl _,Nat.zero_le _,fun _=>rfl,by simp,fun j u h=>by simp at h⟩,fun i x h=>by simp at h⟩,rfl⟩
  · subst hs
    have each: ∀ i,i<len→∃ ci:List Value,ci.length=Pr.cellsOf e∧(∀ j u,ci[j]? =some u→w.cell? ((a.add (i * Pr.cellsOf e)).add j)=some u)∧∃ x,R w ci x:=by
      intro i hi
      have h1:=hel i hi
      rw [List.getElem?_eq_getElem (by omega),Option.bind_eq_some_iff] at h1
      obtain⟨ci,hci,hy⟩:=h1
      obtain⟨h2,h3⟩:=cells?_get hci
      exact⟨ci,h2,h3,he n ci _ (List.mem_map_of_mem (List.getElem_mem _)) hy⟩
    have all: ∀ m,m≤len→∃ (vs:List Value) (xs:List α),xs.length=m∧vs.length=m * Pr.cellsOf e∧(∀ j u,vs[j]? =some u→w.cell? (a.add j)=some u)∧∀ i x,xs[i]? =some x→R w ((vs.drop (i * Pr.cellsOf e)).take (Pr.cellsOf e)) x:=by
      intro m
      induction m with
      |zero=>intro _;exact⟨[],[],rfl,by simp,fun j u h=>by simp at h,fun i x h=>by simp at h⟩
      | succ m ih=>
        intro hm'
        obtain⟨vs,xs,h1,h2,h3,h4⟩:=ih (by omega)
        obtain⟨ci,c1,c2,x,c3⟩:=each m (by omega)
        refine⟨vs++ci,xs++[x],by simp [h1],by simp [h2,c1,Nat.succ_mul],fun j u hj=> ?_,fun i z hi=> ?_⟩
        · rcases Nat.lt_or_ge j vs.length with hj1|hj1
          · rw [List.getElem?_append_left hj1] at hj;exact h3 j u hj
          · rw [List.getElem?_append_right hj1] at hj
            have h5:=c2 _ _ hj
            rw [Addr.add_add,h2,show m * Pr.cellsOf e+(j - m * Pr.cellsOf e)=j by omega] at h5
            exact h5
        · rcases Nat.lt_or_ge i xs.length with hi1|hi1
          · rw [List.getElem?_append_left hi1] at hi
            have h5:=h4 i z hi
            have h6:i * Pr.cellsOf e+Pr.cellsOf e≤vs.length:=by rw [h2,← Nat.succ_mul];exact Nat.mul_le_mul_right _ (by omega)
            rw [List.drop_append_of_le_length (by omega),List.take_append_of_le_length (by simp;omega)]
            exact h5
          · rw [List.getElem?_append_right hi1] at hi
            have hi2:i=m:=by
              have:=(List.getElem?_eq_some_iff.1 hi).1
              simp at this;omega
            subst hi2
            rw [h1,Nat.sub_self] at hi
            simp at hi
            subst hi
            rw [← h2,List.drop_left,List.take_of_length_le (by omega)]
            exact c3
    obtain⟨vs,xs,h1,h2,h3,h4⟩:=all len (Nat.le_refl _)
    refine⟨xs,⟨_,vs,rfl,⟨some a,cap,by rw [h1],by omega,hm,(fun h=>by cases h),by rw [h1];exact h2,fun j u hj=> ?_⟩,h4⟩,by simp [elemsOf,h1,hlen]⟩
    have hsp:a.spot=none:=by
      cases hv:vs with
      |nil=>rw [hv] at hj;simp at hj
      | cons u0 r=>
        have:=h3 0 u0 (by rw [hv];rfl)
        rw [show a.add 0=a by simp [Addr.add]] at this
        exact zc7 this
    exact⟨⟨a,rfl,hsp⟩,by rw [← uS hsp];exact h3 j u hj⟩
theorem weightsAll_mem {e:TypeId}: ∀ {es:List (DataW H)} {d:DataW H},d ∈ es→∀ n ∈ d.weights Pr e,n ∈ DataW.weightsAll Pr e es
  | x::es,d,hd,n,hn=>by
    simp only [DataW.weightsAll,List.mem_append]
    rcases List.mem_cons.1 hd with rfl|hd
    · exact .inl hn
    · exact .inr (weightsAll_mem hd n hn)
theorem Qr {t e:TypeId} (ht:Pr.underlying t=some (.slice e)) {d z:DataW H} (h:Small Pr t d) (hz:z ∈ elemsOf d):Small Pr e z:=by
  cases d<;>simp only [elemsOf,List.not_mem_nil] at hz
  refine List.all_eq_true.2 fun n hn=>List.all_eq_true.1 h n ?_
  simp only [DataW.weights,ht,List.mem_cons,List.mem_append]
  exact .inr (.inl (weightsAll_mem hz n hn))
theorem zas {t e:TypeId} (ht:Pr.underlying t=some (.slice e)) (hb:Nat.blt 0 (Pr.bytesOf e)=true) {d:DataW H} (h:Small Pr t d):(elemsOf d).length≤140737488355328:=by
  cases d<;>simp only [elemsOf]<;>try exact Nat.zero_le _
  rename_i es ss
  have h1:=List.all_eq_true.1 h ((es.length+ss.length) * Pr.bytesOf e) (by simp [DataW.weights,ht])
  have hb:0<Pr.bytesOf e:=by simpa [Nat.blt_eq] using hb
  refine TW (Nat.le_trans (Nat.le_trans (Nat.le_add_right _ ss.length) (Nat.le_mul_of_pos_right _ hb)) (by simpa using h1))
theorem op_list {t e:TypeId} {u:U} (ht:Pr.underlying t=some (.slice e)) (hc:Pr.cellsOf e=u.size) (hb:Nat.blt 0 (Pr.bytesOf e)=true) (he:uT hsh Pr w hF base spare held e (QU u)):
    uT hsh Pr w hF base spare held t (QL u):=by
  intro fuel cs y h hs
  obtain⟨l,hl,hlen⟩:=UC (R:=fun _ cs (x:u.den)=>MPs (frzW w hF) (enc alg u x) cs∧wfZ u x) ht hc h (fun n ci z hz ht'=>by
    obtain⟨ps,h1,x,rfl,hx⟩:=he n ci z ht' (Qr ht hs hz)
    exact⟨x,h1,hx⟩)
  have hl':=hl
  obtain⟨v,vs,rfl,_,hx⟩:=hl
  refine⟨[.list u l],⟨zdw (fun _ _ h=>h.1) hl',trivial⟩,l,rfl,by unfold wfS;rw [hlen];exact zas ht hb hs,fun x hm=> ?_⟩
  obtain⟨i,hi⟩:=List.getElem?_of_mem hm
  exact(hx i x hi).2
def QAll:List (List P→Prop)→List P→Prop
  |[],ps=>ps=[]
  |Q::Qs,ps=>∃ a b,ps=a++b∧Q a∧QAll Qs b
def lays (Pr:Program):Nat→List Field→Nat→Bool
  |o,[],n=>Nat.beq o n
  |o,f::fs,n=>Nat.beq f.offset o&&lays Pr (o+Pr.cellsOf f.type) fs n
def Uu (hsh:TypeId × Value→H) (Pr:Program) (w:World) (hF:Holds w) (base:Nat) (spare:Nat→Bool) (held:Bool):List Field→List (List P→Prop)→Prop
  |[],[]=>True
  |f::fs,Q::Qs=>uT hsh Pr w hF base spare held f.type Q∧Uu hsh Pr w hF base spare held fs Qs
  |_,_=>False
theorem Uu.nil:Uu hsh Pr w hF base spare held [] []:=trivial
theorem Uu.cons {f:Field} {fs:List Field} {Q:List P→Prop} {Qs:List (List P→Prop)} (h:uT hsh Pr w hF base spare held f.type Q) (k:Uu hsh Pr w hF base spare held fs Qs):Uu hsh Pr w hF base spare held (f::fs) (Q::Qs):=⟨h,k⟩
theorem MPs.append {S:Frz}: ∀ {a b:List P} {x y:List Value},MPs S a x→MPs S b y→MPs S (a++b) (x++y)
  |[],_,[],_,_,h=>h
  |_::_,_,_::_,_,h,k=>⟨h.1,MPs.append h.2 k⟩
theorem Vz {cs:List Value}: ∀ (fs:List Field) (Qs:List (List P→Prop)) (o:Nat),lays Pr o fs cs.length=true→Uu hsh Pr w hF base spare held fs Qs→
    (∀ f ∈ fs,∃ n z,DataW.trod hsh Pr w base spare held n f.type ((cs.drop f.offset).take (Pr.cellsOf f.type))=some z∧Small Pr f.type z.1)→∃ ps,MPs (frzW w hF) ps (cs.drop o)∧QAll Qs ps
  | [],[],o,hl,_,_=>by
    have:=Nat.eq_of_beq_eq_true hl
    exact⟨[],by rw [List.drop_of_length_le (by omega)];trivial,rfl⟩
  | f::fs,Q::Qs,o,hl,hq,hz=>by
    simp only [lays,Bool.and_eq_true] at hl
    have ho:=Nat.eq_of_beq_eq_true hl.1
    obtain⟨n,z,h1,h2⟩:=hz f (by simp)
    rw [ho] at h1
    obtain⟨p1,m1,q1⟩:=hq.1 n _ z h1 h2
    obtain⟨p2,m2,q2⟩:=Vz fs Qs _ hl.2 hq.2 (fun g hg=>hz g (by simp [hg]))
    refine⟨p1++p2,?_,p1,p2,rfl,q1,q2⟩
    have:=m1.append m2
    rwa [← List.drop_drop,List.take_append_drop] at this
  |[],_::_,_,_,h,_=>h.elim
  |_::_,[],_,_,h,_=>h.elim
theorem op_struct {t:TypeId} {fs:Array Field} {Qs:List (List P→Prop)} (ht:Pr.underlying t=some (.struct fs)) (hl:lays Pr 0 fs.toList (Pr.cellsOf t)=true) (hq:Uu hsh Pr w hF base spare held fs.toList Qs):
    uT hsh Pr w hF base spare held t (QAll Qs):=by
  intro fuel cs y h hs
  obtain⟨xs,n,_,rfl,hcl,hxl,hf⟩:=DataW.trod_struct ht h
  have:=Vz fs.toList Qs 0 (by rw [hcl];exact hl) hq (fun f hfm=>by
    obtain⟨i,hi⟩:=List.getElem?_of_mem hfm
    have hi':fs[i]? =some f:=by simpa using hi
    have hlt:i<xs.length:=by rw [hxl];exact(Array.getElem?_eq_some_iff.1 hi').1
    refine⟨n,xs[i],by rw [hf i f hi',List.getElem?_eq_getElem hlt],List.all_eq_true.2 fun k hk=>List.all_eq_true.1 hs k ?_⟩
    simp only [DataW.weights,ht]
    exact DataW.weights_mem_each (j:=i) (t:=f.type) (by simp [hi']) (by simp [hlt]) k hk)
  simpa using this
theorem q_prw (ps:List P) (h:QAll [QU .str,QU .str,QU .str,QL .byte] ps):QU .prw ps:=by
  obtain⟨_,_,rfl,⟨a,rfl,ha⟩,_,_,rfl,⟨b,rfl,hb⟩,_,_,rfl,⟨c,rfl,hc⟩,_,_,rfl,⟨d,rfl,hd,_⟩,rfl⟩:=h
  exact⟨(⟨a,b,c,d⟩:Prt),rfl,ha,hb,hc,hd⟩
theorem z_one {t:TypeId} {v:Value} {d:DataW H} {ps:List MemPlace} {Q:List P→Prop} (hr:v.oneCell'=true) (h:DataW.Trod hsh Pr w base spare held t v d ps) (hs:Small Pr t d) (ho:uT hsh Pr w hF base spare held t Q): ∃ qs,MPs (frzW w hF) qs [v]∧Q qs:=by
  obtain⟨fuel,hf⟩:=h
  have hc:v.cells.toList=[v]:=by cases v<;>first|rfl|cases hr
  rw [hc] at hf
  exact ho fuel _ _ hf hs
theorem small_nth {ts:List TypeId} {ds:List (DataW H)} (h:(DataW.weightsEach Pr ts ds).all (· ≤reachBytes)=true) {j:Nat} {t:TypeId} {d:DataW H} (ht:ts[j]? =some t) (hd:ds[j]? =some d):Small Pr t d:=
  List.all_eq_true.2 fun n hn=>List.all_eq_true.1 h n (DataW.weights_mem_each ht hd n hn)
end
end Go.Ab
namespace Go.Proofs
open Go.Shelf
def Tryz.UQ:Go.Shelf.Ren:=⟨fun|160=>31|232=>45|231=>44|227=>46|234=>48|233=>47|236=>50|235=>49|228=>62|271=>65|151=>64|197=>63|120=>72|152=>71|260=>70|137=>60|119=>78|224=>35|225=>79|217=>69|266=>77|n=>n,fun|9=>9|4=>4|3=>3|5=>5|117=>59|116=>58|0=>0|124=>62|21=>21|105=>74|46=>53|119=>98|139=>101|138=>100|n=>n,fun|3=>1|4=>2|n=>n⟩
theorem Tryz.lays160:Go.Proofs.Lays.n160 Tryz.prog Tryz.UQ:= {
  mixed:=by kernel_rfl
  f119:=Tryz.func78.trans (congrArg some (by kernel_rfl))
  f120:=Tryz.func72.trans (congrArg some (by kernel_rfl))
  f137:=Tryz.func60.trans (congrArg some (by kernel_rfl))
  f151:=Tryz.func64.trans (congrArg some (by kernel_rfl))
  f152:=Tryz.func71.trans (congrArg some (by kernel_rfl))
  f160:=Tryz.func31.trans (congrArg some (by kernel_rfl))
  f197:=Tryz.func63.trans (congrArg some (by kernel_rfl))
  f217:=Tryz.func69.trans (congrArg some (by kernel_rfl))
  f224:=Tryz.func35.trans (congrArg some (by kernel_rfl))
  f225:=Tryz.func79.trans (congrArg some (by kernel_rfl))
  f227:=Tryz.func46.trans (congrArg some (by kernel_rfl))
  f228:=Tryz.func62.trans (congrArg some (by kernel_rfl))
  f231:=Tryz.func44.trans (congrArg some (by kernel_rfl))
  f232:=Tryz.func45.trans (congrArg some (by kernel_rfl))
  f233:=Tryz.func47.trans (congrArg some (by kernel_rfl))
  f234:=Tryz.func48.trans (congrArg some (by kernel_rfl))
  f235:=Tryz.func49.trans (congrArg some (by kernel_rfl))
  f236:=Tryz.func50.trans (congrArg some (by kernel_rfl))
  f260:=Tryz.func70.trans (congrArg some (by kernel_rfl))
  f266:=Tryz.func77.trans (congrArg some (by kernel_rfl))
  f271:=Tryz.func65.trans (congrArg some (by kernel_rfl))
  t0:=Tryz.underlying0
  a0:=Tryz.isAgg0
  z0:=Tryz.sizeOf0
  v0:=Tryz.zeroValue0
  t3:=Tryz.underlying3
  a3:=Tryz.isAgg3
  z3:=Tryz.sizeOf3
  v3:=Tryz.zeroValue3
  t4:=Tryz.underlying4
  a4:=Tryz.isAgg4
  z4:=Tryz.sizeOf4
  v4:=Tryz.zeroValue4
  t5:=Tryz.underlying5
  a5:=Tryz.isAgg5
  z5:=Tryz.sizeOf5
  v5:=Tryz.zeroValue5
  t9:=Tryz.underlying9
  a9:=Tryz.isAgg9
  z9:=Tryz.sizeOf9
  v9:=Tryz.zeroValue9
  t21:=Tryz.underlying21
  a21:=Tryz.isAgg21
  z21:=Tryz.sizeOf21
  v21:=Tryz.zeroValue21
  t46:=Tryz.underlying53
  a46:=Tryz.isAgg53
  z46:=Tryz.sizeOf53
  v46:=Tryz.zeroValue53
  t105:=Tryz.underlying74
  a105:=Tryz.isAgg74
  z105:=Tryz.sizeOf74
  v105:=Tryz.zeroValue74
  t116:=Tryz.underlying58
  a116:=Tryz.isAgg58
  z116:=Tryz.sizeOf58
  t117:=Tryz.underlying59
  a117:=Tryz.isAgg59
  z117:=Tryz.sizeOf59
  v117:=Tryz.zeroValue59
  t119:=Tryz.underlying98
  a119:=Tryz.isAgg98
  z119:=Tryz.sizeOf98
  t124:=Tryz.underlying62
  a124:=Tryz.isAgg62
  z124:=Tryz.sizeOf62
  v124:=Tryz.zeroValue62
  t138:=Tryz.underlying100
  a138:=Tryz.isAgg100
  z138:=Tryz.sizeOf100
  v138:=Tryz.zeroValue100
  t139:=Tryz.underlying101
  a139:=Tryz.isAgg101
  z139:=Tryz.sizeOf101
  v139:=Tryz.zeroValue101
  g3:=by kernel_rfl
  g4:=by kernel_rfl}
def Tryz.UU:Go.Shelf.Ren:=⟨fun|137=>60|217=>69|266=>77|n=>n,fun|9=>9|5=>5|3=>3|n=>n,fun|n=>n⟩
theorem Tryz.lays137:Go.Proofs.Lays.n137 Tryz.prog Tryz.UU:= {
  mixed:=by kernel_rfl
  f137:=Tryz.func60.trans (congrArg some (by kernel_rfl))
  f217:=Tryz.func69.trans (congrArg some (by kernel_rfl))
  f266:=Tryz.func77.trans (congrArg some (by kernel_rfl))
  t3:=Tryz.underlying3
  a3:=Tryz.isAgg3
  z3:=Tryz.sizeOf3
  v3:=Tryz.zeroValue3
  t5:=Tryz.underlying5
  a5:=Tryz.isAgg5
  z5:=Tryz.sizeOf5
  v5:=Tryz.zeroValue5
  t9:=Tryz.underlying9
  a9:=Tryz.isAgg9
  z9:=Tryz.sizeOf9
  v9:=Tryz.zeroValue9}
def Tryz.UO:Go.Shelf.Ren:=⟨fun|219=>73|217=>69|225=>79|224=>35|267=>80|266=>77|314=>87|n=>n,fun|9=>9|3=>3|4=>4|5=>5|46=>53|146=>64|51=>63|n=>n,fun|1=>0|n=>n⟩
theorem Tryz.lays219:Go.Proofs.Lays.n219 Tryz.prog Tryz.UO:= {
  mixed:=by kernel_rfl
  f217:=Tryz.func69.trans (congrArg some (by kernel_rfl))
  f219:=Tryz.func73.trans (congrArg some (by kernel_rfl))
  f224:=Tryz.func35.trans (congrArg some (by kernel_rfl))
  f225:=Tryz.func79.trans (congrArg some (by kernel_rfl))
  f266:=Tryz.func77.trans (congrArg some (by kernel_rfl))
  f267:=Tryz.func80.trans (congrArg some (by kernel_rfl))
  f314:=Tryz.func87.trans (congrArg some (by kernel_rfl))
  t3:=Tryz.underlying3
  a3:=Tryz.isAgg3
  z3:=Tryz.sizeOf3
  v3:=Tryz.zeroValue3
  t4:=Tryz.underlying4
  a4:=Tryz.isAgg4
  z4:=Tryz.sizeOf4
  v4:=Tryz.zeroValue4
  t5:=Tryz.underlying5
  a5:=Tryz.isAgg5
  z5:=Tryz.sizeOf5
  v5:=Tryz.zeroValue5
  t9:=Tryz.underlying9
  a9:=Tryz.isAgg9
  z9:=Tryz.sizeOf9
  v9:=Tryz.zeroValue9
  t46:=Tryz.underlying53
  a46:=Tryz.isAgg53
  z46:=Tryz.sizeOf53
  v46:=Tryz.zeroValue53
  t51:=Tryz.underlying63
  a51:=Tryz.isAgg63
  z51:=Tryz.sizeOf63
  v51:=Tryz.zeroValue63
  t146:=Tryz.underlying64
  a146:=Tryz.isAgg64
  z146:=Tryz.sizeOf64
  v146:=Tryz.zeroValue64
  g1:=by kernel_rfl}
open Go.RowKit in
theorem Tryz.strings_IndexByte (s:ByteArray) (c:Int) (w:World):
    Calls Tryz.prog 60 #[.string s,.int .u8 c] w fun e w'=>e=.returned (.int .i64 (Lib.indexByte s.data.toList c.toNat.toUInt8))∧w'=w:=Any.strings_IndexByte Tryz.lays137 s c w
open Go.RowKit Go.Lib in
theorem Tryz.stringslite_Index_one (s:ByteArray) (c:UInt8) (w:World):
    Calls Tryz.prog 73 #[.string s,.string ⟨#[c]⟩] w fun e w'=>e=.returned (.int .i64 (Lib.indexByte s.data.toList c))∧w'=w:=Any.stringslite_Index_one Tryz.lays219 s c w
theorem Tryz.strings_Trim_laid (s cutset:ByteArray) (w:World) (hs:s.size≤9223372036854775807) (hcs:cutset.size<4294967281) (hascii: ∀ (j:Nat) b,cutset.data.toList[j]? =some b→b.toNat<128):
    Calls Tryz.prog 31 #[.string s,.string cutset] w fun e w'=>e=.returned (.string ⟨(Lib.trimS s.data.toList cutset.data.toList).toArray⟩)∧Go.RowKit.Below w.heap.size w w':=Any.strings_Trim_laid Tryz.lays160 (by kernel_rfl) s cutset w hs hcs hascii
end Go.Proofs
namespace Go.Ab
open Go Go.Sep
variable [Facts]
theorem YX {w w':World} (h:RowKit.Below w.heap.size w w'):Keeps (fun k=>k<w.heap.size) w w':=⟨h.1,h.2,h.3,h.4,h.5⟩
theorem Spc.of_below {Pr:Program} {f:Nat} {args:List D} {hp:List HO} {d:D} (hf: ∃ fn,Pr.funcs[f]? =some fn∧(fn.name == "runtime.NumGoroutine")=false∧fn.body.isNone=false)
    (h: ∀ (S:Frz) (bs:List Value) (w:World) (vs:List Value),Facts.p w→MDs S bs args vs→∃ v,MD S bs d v∧Calls Pr f vs.toArray w fun e w'=>e=.returned v∧RowKit.Below w.heap.size w w'):Spc Pr f args hp (.ret d) hp:=by
  refine⟨hf,fun S K fr w vs hH hM hA=> ?_⟩
  obtain⟨v,hv,hc⟩:=h S _ w vs (At.frz hA).facts hM
  refine hc.mono fun e w' he=> ?_
  obtain⟨he,hb⟩:=he
  subst he
  exact⟨S,K,Frz.le.refl S,Ext.refl _,hH,hA.keep (YX hb),hv⟩
end Go.Ab
namespace Go.Proofs.YtalfiafkeijijaaGreatDoor
open Go Go.Sep Go.Ab
set_option maxRecDepth 100000
theorem zbY (s cs:Str):(Lib.trimS s cs).length≤s.length:=by
  unfold Lib.trimS Lib.trimLeftS Lib.trimRightS
  refine Nat.le_trans (List.dropWhile_sublist _).length_le ?_
  rw [List.length_reverse]
  exact Nat.le_trans (List.dropWhile_sublist _).length_le (by rw [List.length_reverse];exact Nat.le_refl _)
theorem wZ: ∀ (s:Str) (c:UInt8),-1≤Lib.indexByte s c∧Lib.indexByte s c<s.length
  |[],c=>by simp [Lib.indexByte]
  | b ::l,c=>by
    have:=wZ l c
    unfold Lib.indexByte
    rw [List.length_cons]
    split
    · omega
    · split
      · omega
      · omega
theorem zeE (s:Str):Spc Tryz.prog 31 [.v (.one (.p (.str s))),.v (.one (.p (.str ([32,9]))))] [] (.ret (.v (.one (.p (.str (Lib.trimS s [32,9])))))) []:=by
  refine Spc.of_below ⟨_,Tryz.func31,by kernel_rfl,by kernel_rfl⟩ fun S bs w vs _ hM=> ?_
  obtain⟨v,r,rfl⟩: ∃ v r,vs=v::r:=by cases vs with|nil=>exact hM.elim|cons v r=>exact⟨v,r,rfl⟩
  obtain⟨h1,hM⟩:=hM
  obtain⟨v2,r2,rfl⟩: ∃ v r2,r=v::r2:=by cases r with|nil=>exact hM.elim|cons v r=>exact⟨v,r,rfl⟩
  obtain⟨h2,hM⟩:=hM
  obtain rfl:r2=[]:=by cases r2 with|nil=>rfl|cons v r=>exact hM.elim
  cases h1 with
  | str _ hl1=>
    cases h2 with
    | str _ hl2=>
      refine⟨.string (Sep.S (Lib.trimS s [32,9])),.str _ (Nat.le_trans (zbY _ _) hl1),?_⟩
      exact Tryz.strings_Trim_laid (Sep.S s) (Sep.S [32,9]) w (by have:=hl1;unfold maxLen at this;exact this) (by decide) (fun j b hb=>by
        have:=List.mem_of_getElem? hb
        rcases(by simpa [Sep.S] using this:b=32∨b=9) with rfl|rfl<;>decide)
def XY (I:Alg) (args:List D) (hp:List HO):Option CT:=match args,hp with
  |[.v (.one (.p (.str s))),.v (.one (.p (.str ([32,9]))))],[]=>(fun(s:Str)=>(some (.one ⟨I.hid (True),(.ret (.v (.one (.p (.str (I.hid (Lib.trimS s [32,9]))))))),[]⟩):Option CT)) s
  |_,_=>none
theorem zal:yh Tryz.prog 31 (XY alg):=by
  intro args hp r h
  unfold XY at h
  split at h
  · cases h;exact fun hn=>zeE _
  · cases h
def zc5:Know Tryz.prog:=⟨31,XY,zal⟩
def zc4:Know Tryz.prog:=⟨31,fun I=>yE I (XY I),zA zal⟩
theorem QT (s:Str) (k:Int):Spc Tryz.prog 60 [.v (.one (.p (.str s))),.v (.one (.p (.int .u8 k)))] [] (.ret (.v (.one (.p (.int .i64 (Lib.indexByte s k.toNat.toUInt8)))))) []:=by
  refine Spc.of_below ⟨_,Tryz.func60,by kernel_rfl,by kernel_rfl⟩ fun S bs w vs _ hM=> ?_
  obtain⟨v,r,rfl⟩: ∃ v r,vs=v::r:=by cases vs with|nil=>exact hM.elim|cons v r=>exact⟨v,r,rfl⟩
  obtain⟨h1,hM⟩:=hM
  obtain⟨v2,r2,rfl⟩: ∃ v r2,r=v::r2:=by cases r with|nil=>exact hM.elim|cons v r=>exact⟨v,r,rfl⟩
  obtain⟨h2,hM⟩:=hM
  obtain rfl:r2=[]:=by cases r2 with|nil=>rfl|cons v r=>exact hM.elim
  cases h1 with
  | str _ hl1=>
    cases h2 with
    | int _ _=>
      refine⟨.int .i64 (Lib.indexByte s k.toNat.toUInt8),.int _ _,?_⟩
      refine(Tryz.strings_IndexByte (Sep.S s) k w).mono fun e w' h=> ?_
      obtain⟨he,rfl⟩:=h
      exact⟨he,RowKit.Below.refl _ _⟩
def ve (I:Alg) (args:List D) (hp:List HO):Option CT:=match args,hp with
  |[.v (.one (.p (.str s))),.v (.one (.p (.int .u8 k)))],[]=>(fun(s:Str) (k:Int)=>(some (.one ⟨I.hid (True),(.ret (.v (.one (.p (.int .i64 (I.hid (Lib.indexByte s k.toNat.toUInt8))))))),[]⟩):Option CT)) s k
  |_,_=>none
theorem Zp:yh Tryz.prog 60 (ve alg):=by
  intro args hp r h
  unfold ve at h
  split at h
  · cases h;exact fun hn=>QT _ _
  · cases h
def VU:Know Tryz.prog:=⟨60,ve,Zp⟩
def VT:Know Tryz.prog:=⟨60,fun I=>yE I (ve I),zA Zp⟩
theorem zdv (s:Str) (c:UInt8):Spc Tryz.prog 73 [.v (.one (.p (.str s))),.v (.one (.p (.str ([c]))))] [] (.ret (.v (.one (.p (.int .i64 (Lib.indexByte s c)))))) []:=by
  refine Spc.of_below ⟨_,Tryz.func73,by kernel_rfl,by kernel_rfl⟩ fun S bs w vs _ hM=> ?_
  obtain⟨v,r,rfl⟩: ∃ v r,vs=v::r:=by cases vs with|nil=>exact hM.elim|cons v r=>exact⟨v,r,rfl⟩
  obtain⟨h1,hM⟩:=hM
  obtain⟨v2,r2,rfl⟩: ∃ v r2,r=v::r2:=by cases r with|nil=>exact hM.elim|cons v r=>exact⟨v,r,rfl⟩
  obtain⟨h2,hM⟩:=hM
  obtain rfl:r2=[]:=by cases r2 with|nil=>rfl|cons v r=>exact hM.elim
  cases h1 with
  | str _ hl1=>
    cases h2 with
    | str _ _=>
      refine⟨.int .i64 (Lib.indexByte s c),.int _ _,?_⟩
      refine(Tryz.stringslite_Index_one (Sep.S s) c w).mono fun e w' h=> ?_
      obtain⟨he,rfl⟩:=h
      exact⟨he,RowKit.Below.refl _ _⟩
def qj (I:Alg) (args:List D) (hp:List HO):Option CT:=match args,hp with
  |[.v (.one (.p (.str s))),.v (.one (.p (.str ([c]))))],[]=>(fun(s:Str) (c:UInt8)=>(some (.one ⟨I.hid (True),(.ret (.v (.one (.p (.int .i64 (I.hid (Lib.indexByte s c))))))),[]⟩):Option CT)) s c
  |_,_=>none
theorem VW:yh Tryz.prog 73 (qj alg):=by
  intro args hp r h
  unfold qj at h
  split at h
  · cases h;exact fun hn=>zdv _ _
  · cases h
def zaZ:Know Tryz.prog:=⟨73,qj,VW⟩
def zaY:Know Tryz.prog:=⟨73,fun I=>yE I (qj I),zA VW⟩
end Go.Proofs.YtalfiafkeijijaaGreatDoor
namespace Go.Proofs.YtalfiafkeijijaaGreatDoor
open Go Go.Sep Go.Ab
set_option maxRecDepth 100000
def lowK (k:Int):Int:=if 65≤k∧k≤90 then k+32 else k
def Ue (k:Int):Bool:=decide (48≤k∧k≤57)
def YB (k:Int):Bool:=decide (97≤lowK k∧lowK k≤122)
def marks:Str:=[33,35,36,37,38,39,42,43,45,46,94,95,96,124,126]
def tokB (k:Int):Bool:=Ue k||(YB k||decide (0≤Lib.indexByte marks k.toNat.toUInt8))
def vN (k:Int):Bool:=decide (k=9∨32≤k∧k≠127)
theorem zaR {k:Int} (h:0≤k∧k≤255):0≤lowK k∧lowK k≤255:=by unfold lowK;split<;>omega
theorem zev (k:Int):Spc Tryz.prog 58 [.v (.one (.p (.int .u8 k)))] [] (.ret (.v (.one (.p (.bool (Ue k)))))) []:=by
  refine spcG zJ mixed Tryz.func58 (by kernel_rfl) { keep:=some [0,2]} [] (by kernel_rfl) ?_
  intro I X hI hX
  refine zH (.br (I.ile 48 k) (.fin (.ret (.v (.one (.p (.bool (I.ile k 57)))))) []) (.fin (.ret (.v (.one (.p (.bool Bool.false))))) [])) (by kernel_rfl) ?_
  simp only [zU]
  subst hI
  simp only [nrmA,nrmB]
  unfold Ue
  exact⟨fun h=>decide_eq_decide.2 (by omega),fun h=>(decide_eq_false (by omega)).symm⟩
def Z9 (I:Alg) (args:List D) (hp:List HO):Option CT:=match args,hp with
  |[.v (.one (.p (.int .u8 k)))],[]=>(fun(k:Int)=>(some (.one ⟨I.hid (True),(.ret (.v (.one (.p (.bool (I.hid (Ue k))))))),[]⟩):Option CT)) k
  |_,_=>none
theorem RY:yh Tryz.prog 58 (Z9 alg):=by
  intro args hp r h
  unfold Z9 at h
  split at h
  · cases h;exact fun hn=>zev _
  · cases h
def zcD:Know Tryz.prog:=⟨58,Z9,RY⟩
def zcC:Know Tryz.prog:=⟨58,fun I=>yE I (Z9 I),zA RY⟩
theorem zee (k:Int) (hneed:0≤k∧k≤255):Spc Tryz.prog 54 [.v (.one (.p (.int .u8 k)))] [] (.ret (.v (.one (.p (.int .u8 (lowK k)))))) []:=by
  refine spcG zJ mixed Tryz.func54 (by kernel_rfl) { keep:=some [0,2]} [] (by kernel_rfl) ?_
  intro I X hI hX
  refine zH (.br (I.ile 65 k) (.br (I.ile k 90) (.need (I.inr Go.IntKind.u8 (I.add k 32)) (.fin (.ret (.v (.one (.p (.int .u8 (I.add k 32)))))) [])) (.fin (.ret (.v (.one (.p (.int .u8 k))))) [])) (.fin (.ret (.v (.one (.p (.int .u8 k))))) [])) (by kernel_rfl) ?_
  simp only [zU]
  subst hI
  simp only [nrmA,nrmB]
  unfold lowK
  (repeat' (first|refine And.intro ?_ ?_|intro _))<;>first|omega|exact True.intro|exact False.elim ‹False›|skip
def ZY (I:Alg) (args:List D) (hp:List HO):Option CT:=match args,hp with
  |[.v (.one (.p (.int .u8 k)))],[]=>(fun(k:Int)=>(some (.one ⟨I.hid (0≤k∧k≤255),(.ret (.v (.one (.p (.int .u8 (I.hid (lowK k))))))),[]⟩):Option CT)) k
  |_,_=>none
theorem Rk:yh Tryz.prog 54 (ZY alg):=by
  intro args hp r h
  unfold ZY at h
  split at h
  · cases h;exact fun hn=>zee _ hn
  · cases h
def Wy:Know Tryz.prog:=⟨54,ZY,Rk⟩
def Wx:Know Tryz.prog:=⟨54,fun I=>yE I (ZY I),zA Rk⟩
theorem zdr (k:Int) (hneed:0≤k∧k≤255):Spc Tryz.prog 59 [.v (.one (.p (.int .u8 k)))] [] (.ret (.v (.one (.p (.bool (YB k)))))) []:=by
  refine spcG zJ mixed Tryz.func59 (by kernel_rfl) { keep:=some [0,2]} [Wy,Wx] (by kernel_rfl) ?_
  intro I X hI hX
  refine zH (let y0:=I.hid (α:=(Prop)) (And (LE.le (0:Int) k) (LE.le k (255:Int)));.need y0 (.br (I.ile 97 (I.hid (α:=Int) (lowK k))) (.need y0 (.fin (.ret (.v (.one (.p (.bool (I.ile (I.hid (α:=Int) (lowK k)) 122)))))) [])) (.fin (.ret (.v (.one (.p (.bool Bool.false))))) []))) (by kernel_rfl) ?_
  simp only [zU]
  subst hI
  simp only [nrmA,nrmB]
  unfold YB
  (repeat' (first|refine And.intro ?_ ?_|intro _))<;>first|omega|exact True.intro|exact False.elim ‹False›|skip
  all_goals first|exact decide_eq_decide.2 (by omega)|exact(decide_eq_false (by omega)).symm|exact(decide_eq_true (by omega)).symm|(rw [show(k == 127)=decide (k=127) from rfl,← decide_not];exact decide_eq_decide.2 (by omega))
def qh (I:Alg) (args:List D) (hp:List HO):Option CT:=match args,hp with
  |[.v (.one (.p (.int .u8 k)))],[]=>(fun(k:Int)=>(some (.one ⟨I.hid (0≤k∧k≤255),(.ret (.v (.one (.p (.bool (I.hid (YB k))))))),[]⟩):Option CT)) k
  |_,_=>none
theorem VH:yh Tryz.prog 59 (qh alg):=by
  intro args hp r h
  unfold qh at h
  split at h
  · cases h;exact fun hn=>zdr _ hn
  · cases h
def zaV:Know Tryz.prog:=⟨59,qh,VH⟩
def zaU:Know Tryz.prog:=⟨59,fun I=>yE I (qh I),zA VH⟩
theorem zdQ (k:Int) (hneed:0≤k∧k≤255):Spc Tryz.prog 42 [.v (.one (.p (.int .u8 k)))] [] (.ret (.v (.one (.p (.bool (tokB k)))))) []:=by
  refine spcG zJ mixed Tryz.func42 (by kernel_rfl) { keep:=some [0,2]} [VU,VT,zcD,zcC,zaV,zaU] (by kernel_rfl) ?_
  intro I X hI hX
  refine zH (.need (I.hid (α:=(Prop)) True) (.br (I.hid (α:=Bool) (Ue k)) (.fin (.ret (.v (.one (.p (.bool Bool.true))))) []) (.need (I.hid (α:=(Prop)) (And (LE.le (0:Int) k) (LE.le k (255:Int)))) (.br (I.hid (α:=Bool) (YB k)) (.fin (.ret (.v (.one (.p (.bool Bool.true))))) []) (.need (I.hid (α:=(Prop)) True) (.fin (.ret (.v (.one (.p (.bool (I.ile 0 (I.hid (α:=Int) (Go.Lib.indexByte ([33,35,36,37,38,39,42,43,45,46,94,95,96,124,126]:Str) (Nat.toUInt8 (Int.toNat k)))))))))) [])))))) (by kernel_rfl) ?_
  simp only [zU]
  subst hI
  simp only [nrmA,nrmB]
  unfold tokB marks
  (repeat' (first|refine And.intro ?_ ?_|intro _))<;>first|omega|exact True.intro|exact False.elim ‹False›|skip
  all_goals simp [*]
def ZH (I:Alg) (args:List D) (hp:List HO):Option CT:=match args,hp with
  |[.v (.one (.p (.int .u8 k)))],[]=>(fun(k:Int)=>(some (.one ⟨I.hid (0≤k∧k≤255),(.ret (.v (.one (.p (.bool (I.hid (tokB k))))))),[]⟩):Option CT)) k
  |_,_=>none
theorem TL:yh Tryz.prog 42 (ZH alg):=by
  intro args hp r h
  unfold ZH at h
  split at h
  · cases h;exact fun hn=>zdQ _ hn
  · cases h
def XZ:Know Tryz.prog:=⟨42,ZH,TL⟩
def zb0:Know Tryz.prog:=⟨42,fun I=>yE I (ZH I),zA TL⟩
theorem zbW (k:Int):Spc Tryz.prog 30 [.v (.one (.p (.int .u8 k)))] [] (.ret (.v (.one (.p (.bool (vN k)))))) []:=by
  refine spcG zJ mixed Tryz.func30 (by kernel_rfl) { keep:=some [0,2]} [] (by kernel_rfl) ?_
  intro I X hI hX
  refine zH (.br (I.ieq k 9) (.fin (.ret (.v (.one (.p (.bool Bool.true))))) []) (.br (I.ile 32 k) (.fin (.ret (.v (.one (.p (.bool (I.bnot (I.ieq k 127))))))) []) (.fin (.ret (.v (.one (.p (.bool Bool.false))))) []))) (by kernel_rfl) ?_
  simp only [zU]
  subst hI
  simp only [nrmA,nrmB]
  unfold vN
  (repeat' (first|refine And.intro ?_ ?_|intro _))<;>first|omega|exact True.intro|exact False.elim ‹False›|skip
  all_goals first|exact decide_eq_decide.2 (by omega)|exact(decide_eq_false (by omega)).symm|exact(decide_eq_true (by omega)).symm|(rw [show(k == 127)=decide (k=127) from rfl,← decide_not];exact decide_eq_decide.2 (by omega))
def uV (I:Alg) (args:List D) (hp:List HO):Option CT:=match args,hp with
  |[.v (.one (.p (.int .u8 k)))],[]=>(fun(k:Int)=>(some (.one ⟨I.hid (True),(.ret (.v (.one (.p (.bool (I.hid (vN k))))))),[]⟩):Option CT)) k
  |_,_=>none
theorem Xd:yh Tryz.prog 30 (uV alg):=by
  intro args hp r h
  unfold uV at h
  split at h
  · cases h;exact fun hn=>zbW _
  · cases h
def vM:Know Tryz.prog:=⟨30,uV,Xd⟩
def qL:Know Tryz.prog:=⟨30,fun I=>yE I (uV I),zA Xd⟩
theorem zds (k:Int):Spc Tryz.prog 26 [.v (.one (.p (.int .u8 k)))] [] (.ret (.v (.one (.p (.bool (vN k)))))) []:=by
  refine spcG zJ mixed Tryz.func26 (by kernel_rfl) { keep:=some [0,2]} [] (by kernel_rfl) ?_
  intro I X hI hX
  refine zH (.br (I.ieq k 9) (.fin (.ret (.v (.one (.p (.bool Bool.true))))) []) (.br (I.ilt 31 k) (.fin (.ret (.v (.one (.p (.bool (I.bnot (I.ieq k 127))))))) []) (.fin (.ret (.v (.one (.p (.bool Bool.false))))) []))) (by kernel_rfl) ?_
  simp only [zU]
  subst hI
  simp only [nrmA,nrmB]
  unfold vN
  (repeat' (first|refine And.intro ?_ ?_|intro _))<;>first|omega|exact True.intro|exact False.elim ‹False›|skip
  all_goals first|exact decide_eq_decide.2 (by omega)|exact(decide_eq_false (by omega)).symm|exact(decide_eq_true (by omega)).symm|(rw [show(k == 127)=decide (k=127) from rfl,← decide_not];exact decide_eq_decide.2 (by omega))
def qi (I:Alg) (args:List D) (hp:List HO):Option CT:=match args,hp with
  |[.v (.one (.p (.int .u8 k)))],[]=>(fun(k:Int)=>(some (.one ⟨I.hid (True),(.ret (.v (.one (.p (.bool (I.hid (vN k))))))),[]⟩):Option CT)) k
  |_,_=>none
theorem VL:yh Tryz.prog 26 (qi alg):=by
  intro args hp r h
  unfold qi at h
  split at h
  · cases h;exact fun hn=>zds _
  · cases h
def wI:Know Tryz.prog:=⟨26,qi,VL⟩
def wH:Know Tryz.prog:=⟨26,fun I=>yE I (qi I),zA VL⟩
end Go.Proofs.YtalfiafkeijijaaGreatDoor
namespace Go.Proofs.YtalfiafkeijijaaGreatDoor
open Go Go.Sep Go.Ab
set_option maxRecDepth 100000
def tokA (s:Str):Bool:=s.all fun c=>tokB (c.toNat:Int)
def yU (s:Str):Bool:=s.all fun c=>vN (c.toNat:Int)
theorem qy (c:UInt8):0≤(c.toNat:Int)∧(c.toNat:Int)≤255:=by have:=c.toNat_lt;omega
theorem Yc {p:UInt8→Bool} {s:Str} {i:Nat} (h:i<s.length):(s.drop i).all p=(p (s.getD i 0)&&(s.drop (i+1)).all p):=by
  rw [List.drop_eq_getElem_cons h,List.all_cons];simp [h]
theorem zdN (s:Str) (hneed:s.length≤1000000):Spc Tryz.prog 29 [.v (.one (.p (.str s))),.v (.one (.fn 42 []))] [] (.ret (.v (.one (.p (.bool (tokA s)))))) []:=by
  generalize hr:tokA s=r
  refine spcG zJ mixed Tryz.func29 (by kernel_rfl) { keep:=some [0,1,4,5,7,8]} [XZ] (by kernel_rfl) ?_
  intro I X hI hX
  refine zH (.code 0 [1,0,1,0] ⟨[(8,(.v (.one (.p (.int .i64 0))))),(7,(.v (.one (.p (.int .i64 (I.len (α:=UInt8) s)))))),(4,(.v (.one (.p (.val (.bool .false)))))),(0,(.v (.one (.p (.str s))))),(1,(.v (.one (.fn 42 []))))],[],18,none⟩) (by kernel_rfl) ?_
  simp only [zU]
  refine zQ hI zJ mixed [XZ] hX [0,1,7,8] (fun(i:Nat)=>i≤s.length∧tokA (s.drop i)=r) (fun(i:Nat)=>⟨[(0,.v (.one (.p (.str s)))),(1,.v (.one (.fn 42 []))),(7,.v (.one (.p (.int .i64 ((I.len (α:=UInt8) s)))))),(8,.v (.one (.p (.int .i64 i))))],[],18,none⟩) (fun(i:Nat)=>s.length - i) 0 (by kernel_rfl) (by kernel_rfl) ?_ ?_
  · exact⟨Nat.zero_le _,hr⟩
  rintro i ⟨h1,h2⟩ A hA
  refine zH (let y0:=I.b2i (I.get (α:=UInt8) s 0 (Nat.cast i));.br (I.ilt (Nat.cast i) (I.len (α:=UInt8) s)) (.need (I.inb (Nat.cast i) (I.len (α:=UInt8) s)) (.need (I.hid (α:=(Prop)) (And (LE.le (0:Int) y0) (LE.le y0 (255:Int)))) (.br (I.bnot (I.hid (α:=Bool) (tokB y0))) (.fin (.ret (.v (.one (.p (.bool Bool.false))))) []) (.need (I.inr Go.IntKind.i64 (I.add (Nat.cast i) 1)) (.need (A ⟨[(0,(.v (.one (.p (.str s))))),(1,(.v (.one (.fn 42 [])))),(7,(.v (.one (.p (.int .i64 (I.len (α:=UInt8) s)))))),(8,(.v (.one (.p (.int .i64 (I.add (Nat.cast i) 1))))))],[],18,none⟩) .qed))))) (.fin (.ret (.v (.one (.p (.bool Bool.true))))) [])) (by kernel_rfl) ?_
  simp only [zU]
  subst hI
  simp only [nrmA,nrmB]
  have hb:=qy (s.getD i 0)
  have hd:i<s.length→tokA (s.drop i)=(tokB (s.getD i 0).toNat&&tokA (s.drop (i+1))):=fun h=>Yc h
  generalize s.getD i 0=x at *
  (repeat' (first|refine And.intro ?_ ?_|intro _))<;>first|omega|exact True.intro|exact False.elim ‹False›|skip
  all_goals first
    |(rw [← h2,hd (by omega)];simp [*];done)
    |(refine hA (i+1) ⟨by omega,?_⟩ (by omega);rw [← h2,hd (by omega)];simp [*];done)
    |(rw [← h2,List.drop_of_length_le (by omega)];rfl)
def qG (I:Alg) (args:List D) (hp:List HO):Option CT:=match args,hp with
  |[.v (.one (.p (.str s))),.v (.one (.fn 42 []))],[]=>(fun(s:Str)=>(some (.one ⟨I.hid (s.length≤1000000),(.ret (.v (.one (.p (.bool (I.hid (tokA s))))))),[]⟩):Option CT)) s
  |_,_=>none
theorem Us:yh Tryz.prog 29 (qG alg):=by
  intro args hp r h
  unfold qG at h
  split at h
  · cases h;exact fun hn=>zdN _ hn
  · cases h
def qF:Know Tryz.prog:=⟨29,qG,Us⟩
def qE:Know Tryz.prog:=⟨29,fun I=>yE I (qG I),zA Us⟩
theorem zcG (s:Str) (hneed:s.length≤1000000):Spc Tryz.prog 29 [.v (.one (.p (.str s))),.v (.one (.fn 30 []))] [] (.ret (.v (.one (.p (.bool (yU s)))))) []:=by
  generalize hr:yU s=r
  refine spcG zJ mixed Tryz.func29 (by kernel_rfl) { keep:=some [0,1,4,5,7,8]} [vM,qF,qE] (by kernel_rfl) ?_
  intro I X hI hX
  refine zH (.code 0 [1,0,1,0] ⟨[(8,(.v (.one (.p (.int .i64 0))))),(7,(.v (.one (.p (.int .i64 (I.len (α:=UInt8) s)))))),(4,(.v (.one (.p (.val (.bool .false)))))),(0,(.v (.one (.p (.str s))))),(1,(.v (.one (.fn 30 []))))],[],18,none⟩) (by kernel_rfl) ?_
  simp only [zU]
  refine zQ hI zJ mixed [vM,qF,qE] hX [0,1,7,8] (fun(i:Nat)=>i≤s.length∧yU (s.drop i)=r) (fun(i:Nat)=>⟨[(0,.v (.one (.p (.str s)))),(1,.v (.one (.fn 30 []))),(7,.v (.one (.p (.int .i64 ((I.len (α:=UInt8) s)))))),(8,.v (.one (.p (.int .i64 i))))],[],18,none⟩) (fun(i:Nat)=>s.length - i) 0 (by kernel_rfl) (by kernel_rfl) ?_ ?_
  · exact⟨Nat.zero_le _,hr⟩
  rintro i ⟨h1,h2⟩ A hA
  refine zH (.br (I.ilt (Nat.cast i) (I.len (α:=UInt8) s)) (.need (I.inb (Nat.cast i) (I.len (α:=UInt8) s)) (.need (I.hid (α:=(Prop)) True) (.br (I.bnot (I.hid (α:=Bool) (vN (I.b2i (I.get (α:=UInt8) s 0 (Nat.cast i)))))) (.fin (.ret (.v (.one (.p (.bool Bool.false))))) []) (.need (I.inr Go.IntKind.i64 (I.add (Nat.cast i) 1)) (.need (A ⟨[(0,(.v (.one (.p (.str s))))),(1,(.v (.one (.fn 30 [])))),(7,(.v (.one (.p (.int .i64 (I.len (α:=UInt8) s)))))),(8,(.v (.one (.p (.int .i64 (I.add (Nat.cast i) 1))))))],[],18,none⟩) .qed))))) (.fin (.ret (.v (.one (.p (.bool Bool.true))))) [])) (by kernel_rfl) ?_
  simp only [zU]
  subst hI
  simp only [nrmA,nrmB]
  have hb:=qy (s.getD i 0)
  have hd:i<s.length→yU (s.drop i)=(vN (s.getD i 0).toNat&&yU (s.drop (i+1))):=fun h=>Yc h
  generalize s.getD i 0=x at *
  (repeat' (first|refine And.intro ?_ ?_|intro _))<;>first|omega|exact True.intro|exact False.elim ‹False›|skip
  all_goals first
    |(rw [← h2,hd (by omega)];simp [*];done)
    |(refine hA (i+1) ⟨by omega,?_⟩ (by omega);rw [← h2,hd (by omega)];simp [*];done)
    |(rw [← h2,List.drop_of_length_le (by omega)];rfl)
def tX (I:Alg) (args:List D) (hp:List HO):Option CT:=match args,hp with
  |[.v (.one (.p (.str s))),.v (.one (.fn 30 []))],[]=>(fun(s:Str)=>(some (.one ⟨I.hid (s.length≤1000000),(.ret (.v (.one (.p (.bool (I.hid (yU s))))))),[]⟩):Option CT)) s
  |_,_=>none
theorem XV:yh Tryz.prog 29 (tX alg):=by
  intro args hp r h
  unfold tX at h
  split at h
  · cases h;exact fun hn=>zcG _ hn
  · cases h
def XU:Know Tryz.prog:=⟨29,tX,XV⟩
def XT:Know Tryz.prog:=⟨29,fun I=>yE I (tX I),zA XV⟩
def zO (s:Str):Bool:=decide (s≠[])&&tokA s
theorem Ru (s:Str) (hneed:s.length≤1000000):Spc Tryz.prog 23 [.v (.one (.p (.str s)))] [] (.ret (.v (.one (.p (.bool (zO s)))))) []:=by
  refine spcG zJ mixed Tryz.func23 (by kernel_rfl) { keep:=some [0,2]} [XZ,zb0,qF,qE,XU,XT] (by kernel_rfl) ?_
  intro I X hI hX
  refine zH (.br (I.bnot (I.seq s ([]:Str))) (.need (I.hid (α:=(Prop)) (LE.le (List.length s) 1000000)) (.fin (.ret (.v (.one (.p (.bool (I.hid (α:=Bool) (tokA s))))))) [])) (.fin (.ret (.v (.one (.p (.bool Bool.false))))) [])) (by kernel_rfl) ?_
  simp only [zU]
  subst hI
  simp only [nrmA,nrmB]
  unfold zO
  (repeat' (first|refine And.intro ?_ ?_|intro _))<;>first|omega|exact True.intro|exact False.elim ‹False›|skip
  all_goals simp [*]
def tJ (I:Alg) (args:List D) (hp:List HO):Option CT:=match args,hp with
  |[.v (.one (.p (.str s)))],[]=>(fun(s:Str)=>(some (.one ⟨I.hid (s.length≤1000000),(.ret (.v (.one (.p (.bool (I.hid (zO s))))))),[]⟩):Option CT)) s
  |_,_=>none
theorem XB:yh Tryz.prog 23 (tJ alg):=by
  intro args hp r h
  unfold tJ at h
  split at h
  · cases h;exact fun hn=>Ru _ hn
  · cases h
def tH:Know Tryz.prog:=⟨23,tJ,XB⟩
def tC:Know Tryz.prog:=⟨23,fun I=>yE I (tJ I),zA XB⟩
theorem QS (s:Str) (hneed:s.length≤1000000):Spc Tryz.prog 18 [.v (.one (.p (.str s)))] [] (.ret (.v (.one (.p (.bool (yU s)))))) []:=by
  refine spcG zJ mixed Tryz.func18 (by kernel_rfl) { keep:=some [0,2]} [vM,qL,qF,qE,XU,XT] (by kernel_rfl) ?_
  intro I X hI hX
  refine zH (.need (I.hid (α:=(Prop)) (LE.le (List.length s) 1000000)) (.fin (.ret (.v (.one (.p (.bool (I.hid (α:=Bool) (yU s))))))) [])) (by kernel_rfl) ?_
  simp only [zU]
  subst hI
  simp only [nrmA,nrmB]
  exact hneed
def wX (I:Alg) (args:List D) (hp:List HO):Option CT:=match args,hp with
  |[.v (.one (.p (.str s)))],[]=>(fun(s:Str)=>(some (.one ⟨I.hid (s.length≤1000000),(.ret (.v (.one (.p (.bool (I.hid (yU s))))))),[]⟩):Option CT)) s
  |_,_=>none
theorem Zo:yh Tryz.prog 18 (wX alg):=by
  intro args hp r h
  unfold wX at h
  split at h
  · cases h;exact fun hn=>QS _ hn
  · cases h
def wW:Know Tryz.prog:=⟨18,wX,Zo⟩
def wV:Know Tryz.prog:=⟨18,fun I=>yE I (wX I),zA Zo⟩
theorem one_ (k:Int) (s:Str) (hneed:s.length≤1000000∧0≤k∧k≤255):Spc Tryz.prog 61 [.v (.one (.p (.int .u8 k))),.v (.one (.p (.str s)))] [] (.ret (.v (.one (.p (.bool (s.contains (UInt8.ofNat k.toNat))))))) []:=by
  generalize hr:s.contains (UInt8.ofNat k.toNat)=r
  refine spcG zJ mixed Tryz.func61 (by kernel_rfl) { keep:=some [0,1,4,5]} [] (by kernel_rfl) ?_
  intro I X hI hX
  refine zH (.code 0 [1,0,1,0] ⟨[(5,(.v (.one (.p (.int .i64 0))))),(4,(.v (.one (.p (.val (.bool .false)))))),(0,(.v (.one (.p (.int .u8 k))))),(1,(.v (.one (.p (.str s)))))],[],17,none⟩) (by kernel_rfl) ?_
  simp only [zU]
  refine zQ hI zJ mixed [] hX [0,1,5] (fun(i:Nat)=>i≤s.length∧(s.drop i).contains (UInt8.ofNat k.toNat)=r) (fun(i:Nat)=>⟨[(0,.v (.one (.p (.int .u8 k)))),(1,.v (.one (.p (.str s)))),(5,.v (.one (.p (.int .i64 i))))],[],17,none⟩) (fun(i:Nat)=>s.length - i) 0 (by kernel_rfl) (by kernel_rfl) ?_ ?_
  · exact⟨Nat.zero_le _,hr⟩
  rintro i ⟨h1,h2⟩ A hA
  refine zH (.br (I.ilt (Nat.cast i) (I.len (α:=UInt8) s)) (.need (I.inb (Nat.cast i) (I.len (α:=UInt8) s)) (.br (I.ieq (I.b2i (I.get (α:=UInt8) s 0 (Nat.cast i))) k) (.fin (.ret (.v (.one (.p (.bool Bool.true))))) []) (.need (I.inr Go.IntKind.i64 (I.add (Nat.cast i) 1)) (.need (A ⟨[(0,(.v (.one (.p (.int .u8 k))))),(1,(.v (.one (.p (.str s))))),(5,(.v (.one (.p (.int .i64 (I.add (Nat.cast i) 1))))))],[],17,none⟩) .qed)))) (.fin (.ret (.v (.one (.p (.bool Bool.false))))) [])) (by kernel_rfl) ?_
  simp only [zU]
  subst hI
  simp only [nrmA,nrmB]
  have hd:i<s.length→(s.drop i).contains (UInt8.ofNat k.toNat)=((UInt8.ofNat k.toNat == s.getD i 0)||(s.drop (i+1)).contains (UInt8.ofNat k.toNat)):=fun h=>by
    rw [List.drop_eq_getElem_cons h,List.contains_cons];simp [h]
  have hc:((s.getD i 0).toNat:Int)=k↔UInt8.ofNat k.toNat=s.getD i 0:=by
    rw [← UInt8.toNat_inj,UInt8.toNat_ofNat']
    omega
  rw [hc]
  generalize s.getD i 0=x at *
  (repeat' (first|refine And.intro ?_ ?_|intro _))<;>first|omega|exact True.intro|exact False.elim ‹False›|skip
  all_goals first
    |(rw [← h2,hd (by omega)];simp [*];done)
    |(refine hA (i+1) ⟨by omega,?_⟩ (by omega);rw [← h2,hd (by omega)];simp [*];done)
    |(rw [← h2,List.drop_of_length_le (by omega)];rfl)
def SX (I:Alg) (args:List D) (hp:List HO):Option CT:=match args,hp with
  |[.v (.one (.p (.int .u8 k))),.v (.one (.p (.str s)))],[]=>(fun(k:Int) (s:Str)=>(some (.one ⟨I.hid (s.length≤1000000∧0≤k∧k≤255),(.ret (.v (.one (.p (.bool (I.hid (s.contains (UInt8.ofNat k.toNat)))))))),[]⟩):Option CT)) k s
  |_,_=>none
theorem zcP:yh Tryz.prog 61 (SX alg):=by
  intro args hp r h
  unfold SX at h
  split at h
  · cases h;exact fun hn=>one_ _ _ hn
  · cases h
def zea:Know Tryz.prog:=⟨61,SX,zcP⟩
def zd9:Know Tryz.prog:=⟨61,fun I=>yE I (SX I),zA zcP⟩
def tokR:Str:=[48,49,50,51,52,53,54,55,56,57,65,66,67,68,69,70,71,72,73,74,75,76,77,78,79,80,81,82,83,84,85,86,87,88,89,90,97,98,99,100,101,102,103,104,105,106,107,108,109,110,111,112,113,114,115,116,117,118,119,120,121,122,33,35,36,37,38,39,42,43,45,46,94,95,96,124,126]
theorem zeO {p:Int→Prop} [∀ k,Decidable (p k)] (h: ∀ n:Fin 256,p (n.1:Int)) {k:Int} (hk:0≤k∧k≤255):p k:=by
  have:=h ⟨k.toNat,by omega⟩
  rwa [show((k.toNat:Nat):Int)=k by omega] at this
theorem zb1 {k:Int} (hk:0≤k∧k≤255):tokR.contains (UInt8.ofNat k.toNat)=tokB k:=
  zeO (p:=fun k=>tokR.contains (UInt8.ofNat k.toNat)=tokB k) (by decide+kernel) hk
theorem VK (k:Int) (hneed:0≤k∧k≤255):Spc Tryz.prog 43 [.v (.one (.p (.int .u8 k)))] [] (.ret (.v (.one (.p (.bool (tokB k)))))) []:=by
  rw [← zb1 hneed]
  refine spcG zJ mixed Tryz.func43 (by kernel_rfl) { keep:=some [0,2]} [zea,zd9] (by kernel_rfl) ?_
  intro I X hI hX
  refine zH (let y0:=([99,100,101,102,103,104,105,106,107,108,109,110,111,112,113,114,115,116,117,118,119,120,121,122,33,35,36,37,38,39,42,43,45,46,94,95,96,124,126]:Str);let y1:=([48,49,50,51,52,53,54,55,56,57,65,66,67,68,69,70,71,72,73,74,75,76,77,78,79,80,81,82,83,84,85,86,87,88,89,90,97,98]:Str);.need (I.hid (α:=(Prop)) (And (LE.le (List.length (Array.toList (List.toArray (List.append y1 y0)))) 1000000) (And (LE.le (0:Int) k) (LE.le k (255:Int))))) (.fin (.ret (.v (.one (.p (.bool (I.hid (α:=Bool) (List.contains (Array.toList (List.toArray (List.append y1 y0))) (UInt8.ofNat (Int.toNat k))))))))) [])) (by kernel_rfl) ?_
  simp only [zU]
  subst hI
  simp only [nrmA,nrmB]
  trivial
def xX (I:Alg) (args:List D) (hp:List HO):Option CT:=match args,hp with
  |[.v (.one (.p (.int .u8 k)))],[]=>(fun(k:Int)=>(some (.one ⟨I.hid (0≤k∧k≤255),(.ret (.v (.one (.p (.bool (I.hid (tokB k))))))),[]⟩):Option CT)) k
  |_,_=>none
theorem sK:yh Tryz.prog 43 (xX alg):=by
  intro args hp r h
  unfold xX at h
  split at h
  · cases h;exact fun hn=>VK _ hn
  · cases h
def sJ:Know Tryz.prog:=⟨43,xX,sK⟩
def sH:Know Tryz.prog:=⟨43,fun I=>yE I (xX I),zA sK⟩
theorem Qn (s:Str) (hneed:s.length≤1000000):Spc Tryz.prog 28 [.v (.one (.p (.str s)))] [] (.ret (.v (.one (.p (.bool (zO s)))))) []:=by
  generalize hr:tokA s=r
  refine spcG zJ mixed Tryz.func28 (by kernel_rfl) { keep:=some [0,2,3]} [sJ,sH] (by kernel_rfl) ?_
  intro I X hI hX
  refine zH (.code 0 [1,0,1,0] ⟨[(3,(.v (.one (.p (.int .i64 0))))),(2,(.v (.one (.p (.val (.bool .false)))))),(0,(.v (.one (.p (.str s)))))],[],18,none⟩) (by kernel_rfl) ?_
  simp only [zU]
  refine zQ hI zJ mixed [sJ,sH] hX [0,3] (fun(i:Nat)=>i≤s.length∧tokA (s.drop i)=r) (fun(i:Nat)=>⟨[(0,.v (.one (.p (.str s)))),(3,.v (.one (.p (.int .i64 i))))],[],18,none⟩) (fun(i:Nat)=>s.length - i) 0 (by kernel_rfl) (by kernel_rfl) ?_ ?_
  · exact⟨Nat.zero_le _,hr⟩
  rintro i ⟨h1,h2⟩ A hA
  refine zH (let y0:=I.b2i (I.get (α:=UInt8) s 0 (Nat.cast i));.br (I.ilt (Nat.cast i) (I.len (α:=UInt8) s)) (.need (I.inb (Nat.cast i) (I.len (α:=UInt8) s)) (.need (I.hid (α:=(Prop)) (And (LE.le (0:Int) y0) (LE.le y0 (255:Int)))) (.br (I.bnot (I.hid (α:=Bool) (tokB y0))) (.fin (.ret (.v (.one (.p (.bool Bool.false))))) []) (.need (I.inr Go.IntKind.i64 (I.add (Nat.cast i) 1)) (.need (A ⟨[(0,(.v (.one (.p (.str s))))),(3,(.v (.one (.p (.int .i64 (I.add (Nat.cast i) 1))))))],[],18,none⟩) .qed))))) (.fin (.ret (.v (.one (.p (.bool (I.ilt 0 (I.len (α:=UInt8) s))))))) [])) (by kernel_rfl) ?_
  simp only [zU]
  subst hI
  simp only [nrmA,nrmB]
  have hb:=qy (s.getD i 0)
  have hd:i<s.length→tokA (s.drop i)=(tokB (s.getD i 0).toNat&&tokA (s.drop (i+1))):=fun h=>Yc h
  generalize s.getD i 0=x at *
  (repeat' (first|refine And.intro ?_ ?_|intro _))<;>first|omega|exact True.intro|exact False.elim ‹False›|skip
  all_goals first
    |(refine hA (i+1) ⟨by omega,?_⟩ (by omega);rw [← h2,hd (by omega)];simp [*];done)
    | (have h3:tokA s=false:=by(rw [hr,← h2,hd (by omega)];simp [*];done)
       simp [zO,h3];done)
    | (have h3:tokA s=true:=by(rw [hr,← h2,List.drop_of_length_le (by omega)];rfl)
       unfold zO
       rw [h3,Bool.and_true]
       exact decide_eq_decide.2 (by cases s<;>simp))
def wM (I:Alg) (args:List D) (hp:List HO):Option CT:=match args,hp with
  |[.v (.one (.p (.str s)))],[]=>(fun(s:Str)=>(some (.one ⟨I.hid (s.length≤1000000),(.ret (.v (.one (.p (.bool (I.hid (zO s))))))),[]⟩):Option CT)) s
  |_,_=>none
theorem Zf:yh Tryz.prog 28 (wM alg):=by
  intro args hp r h
  unfold wM at h
  split at h
  · cases h;exact fun hn=>Qn _ hn
  · cases h
def yQ:Know Tryz.prog:=⟨28,wM,Zf⟩
def yP:Know Tryz.prog:=⟨28,fun I=>yE I (wM I),zA Zf⟩
theorem zax (s:Str) (hneed:s.length≤1000000):Spc Tryz.prog 24 [.v (.one (.p (.str s)))] [] (.ret (.v (.one (.p (.bool (yU s)))))) []:=by
  generalize hr:yU s=r
  refine spcG zJ mixed Tryz.func24 (by kernel_rfl) { keep:=some [0,2,3]} [wI,wH] (by kernel_rfl) ?_
  intro I X hI hX
  refine zH (.code 0 [1,0,1,0] ⟨[(3,(.v (.one (.p (.int .i64 0))))),(2,(.v (.one (.p (.val (.bool .false)))))),(0,(.v (.one (.p (.str s)))))],[],15,none⟩) (by kernel_rfl) ?_
  simp only [zU]
  refine zQ hI zJ mixed [wI,wH] hX [0,3] (fun(i:Nat)=>i≤s.length∧yU (s.drop i)=r) (fun(i:Nat)=>⟨[(0,.v (.one (.p (.str s)))),(3,.v (.one (.p (.int .i64 i))))],[],15,none⟩) (fun(i:Nat)=>s.length - i) 0 (by kernel_rfl) (by kernel_rfl) ?_ ?_
  · exact⟨Nat.zero_le _,hr⟩
  rintro i ⟨h1,h2⟩ A hA
  refine zH (.br (I.ilt (Nat.cast i) (I.len (α:=UInt8) s)) (.need (I.inb (Nat.cast i) (I.len (α:=UInt8) s)) (.need (I.hid (α:=(Prop)) True) (.br (I.bnot (I.hid (α:=Bool) (vN (I.b2i (I.get (α:=UInt8) s 0 (Nat.cast i)))))) (.fin (.ret (.v (.one (.p (.bool Bool.false))))) []) (.need (I.inr Go.IntKind.i64 (I.add (Nat.cast i) 1)) (.need (A ⟨[(0,(.v (.one (.p (.str s))))),(3,(.v (.one (.p (.int .i64 (I.add (Nat.cast i) 1))))))],[],15,none⟩) .qed))))) (.fin (.ret (.v (.one (.p (.bool Bool.true))))) [])) (by kernel_rfl) ?_
  simp only [zU]
  subst hI
  simp only [nrmA,nrmB]
  have hb:=qy (s.getD i 0)
  have hd:i<s.length→yU (s.drop i)=(vN (s.getD i 0).toNat&&yU (s.drop (i+1))):=fun h=>Yc h
  generalize s.getD i 0=x at *
  (repeat' (first|refine And.intro ?_ ?_|intro _))<;>first|omega|exact True.intro|exact False.elim ‹False›|skip
  all_goals first
    |(rw [← h2,hd (by omega)];simp [*];done)
    |(refine hA (i+1) ⟨by omega,?_⟩ (by omega);rw [← h2,hd (by omega)];simp [*];done)
    |(rw [← h2,List.drop_of_length_le (by omega)];rfl)
def vV (I:Alg) (args:List D) (hp:List HO):Option CT:=match args,hp with
  |[.v (.one (.p (.str s)))],[]=>(fun(s:Str)=>(some (.one ⟨I.hid (s.length≤1000000),(.ret (.v (.one (.p (.bool (I.hid (yU s))))))),[]⟩):Option CT)) s
  |_,_=>none
theorem Yl:yh Tryz.prog 24 (vV alg):=by
  intro args hp r h
  unfold vV at h
  split at h
  · cases h;exact fun hn=>zax _ hn
  · cases h
def yT:Know Tryz.prog:=⟨24,vV,Yl⟩
def yS:Know Tryz.prog:=⟨24,fun I=>yE I (vV I),zA Yl⟩
end Go.Proofs.YtalfiafkeijijaaGreatDoor
namespace Go.Proofs.YtalfiafkeijijaaGreatDoor
open Go Go.Sep Go.Ab
set_option maxRecDepth 100000
def lowC (x:UInt8):UInt8:=if 65≤x.toNat∧x.toNat≤90 then x+32 else x
def lowS (s:Str):Str:=s.map lowC
theorem qf (s:Str):(lowS s).length=s.length:=by simp [lowS]
theorem QK (x:UInt8):((lowC x).toNat:Int)=lowK x.toNat:=by
  unfold lowC lowK
  have:=x.toNat_lt
  split
  · rw [if_pos (by omega),UInt8.toNat_add]
    simp only [show(32:UInt8).toNat=32 from rfl]
    omega
  · rw [if_neg (by omega)]
theorem zdp (x:UInt8):UInt8.ofNat (lowK x.toNat).toNat=lowC x:=by
  rw [← QK,Int.toNat_natCast,UInt8.ofNat_toNat]
def bl (c:UInt8):Bool:=([32,9]:Str).contains c
def trL (s:Str):Str:=s.dropWhile bl
def trR (s:Str):Str:=(s.reverse.dropWhile bl).reverse
theorem zbZ (s:Str):Lib.trimS s [32,9]=trL (trR s):=rfl
theorem rG (c:UInt8) (l:Str):trL (c::l)=if bl c then trL l else c::l:=by unfold trL;rw [List.dropWhile_cons]
theorem TJ (c:UInt8) (l:Str):trR (c::l)=if trR l=[]∧bl c=true then [] else c::trR l:=by
  unfold trR
  rw [List.reverse_cons,List.dropWhile_append]
  cases hd:l.reverse.dropWhile bl with
  |nil=>cases hb:bl c<;>simp [hb,List.dropWhile]
  |cons y r=>simp
theorem TI (c:UInt8) (l:Str):trR (l++[c])=if bl c then trR l else l++[c]:=by
  unfold trR
  rw [List.reverse_append]
  simp only [List.reverse_cons,List.reverse_nil,List.nil_append,List.singleton_append]
  rw [List.dropWhile_cons]
  split
  · rfl
  · simp
theorem zam: ∀ s:Str,trL (trR s)=trR (trL s)
  |[]=>rfl
  | c ::l=>by
    have ih:=zam l
    rw [TJ,rG]
    by_cases hb:bl c=true
    · rw [if_pos hb,← ih]
      by_cases h0:trR l=[]
      · rw [if_pos ⟨h0,hb⟩,h0]
      · rw [if_neg (fun h=>h0 h.1),rG,if_pos hb]
    · rw [if_neg hb,if_neg (fun h=>hb h.2),rG,if_neg hb,TJ,if_neg (fun h=>hb h.2)]
theorem Ui (c:UInt8):bl c=true↔(c.toNat:Int)=32∨(c.toNat:Int)=9:=by
  unfold bl
  rw [List.contains_iff_mem,List.mem_cons,List.mem_singleton,← UInt8.toNat_inj,← UInt8.toNat_inj]
  simp only [show(32:UInt8).toNat=32 from rfl,show(9:UInt8).toNat=9 from rfl]
  omega
theorem TK {u:Str} (h:0<u.length→¬ bl (u.getD 0 0)=true):trL u=u:=by
  cases u with
  |nil=>rfl
  |cons c l=>rw [rG,if_neg (by simpa using h (by simp))]
theorem zdP {u:Str} (h:0<u.length) (hb:bl (u.getD 0 0)=true):trL u=trL (u.drop 1):=by
  cases u with
  |nil=>simp at h
  |cons c l=>rw [rG,if_pos (by simpa using hb)];rfl
theorem zar {u:Str} (h:0<u.length):u=u.take (u.length - 1)++[u.getD (u.length - 1) 0]:=by
  have hl:u.length - 1<u.length:=by omega
  have:=List.take_append_drop (u.length - 1) u
  rw [List.drop_eq_getElem_cons hl,List.drop_of_length_le (by omega)] at this
  simpa [hl] using this.symm
theorem TG {u:Str} (h:0<u.length→¬ bl (u.getD (u.length - 1) 0)=true):trR u=u:=by
  rcases Nat.eq_zero_or_pos u.length with h0|h0
  · rw [List.eq_nil_of_length_eq_zero h0];rfl
  · have:=zar h0
    generalize hc:u.getD (u.length - 1) 0=c at *
    rw [this,TI,if_neg (h h0)]
theorem zcM {u:Str} (h:0<u.length) (hb:bl (u.getD (u.length - 1) 0)=true):trR u=trR (u.take (u.length - 1)):=by
  have:=zar h
  generalize hc:u.getD (u.length - 1) 0=c at *
  generalize ht:u.take (u.length - 1)=t at *
  rw [this,TI,if_pos hb]
theorem zeA (s:Str):Spc Tryz.prog 19 [.v (.one (.p (.str s)))] [] (.ret (.v (.one (.p (.str (Lib.trimS s [32,9])))))) []:=by
  refine spcG zJ mixed Tryz.func19 (by kernel_rfl) { keep:=some [0,2]} [zc5,zc4] (by kernel_rfl) ?_
  intro I X hI hX
  refine zH (.need (I.hid (α:=(Prop)) True) (.fin (.ret (.v (.one (.p (.str (I.hid (α:=Str) (Go.Lib.trimS s ([32,9]:Str)))))))) [])) (by kernel_rfl) ?_
  simp only [zU]
  subst hI
  simp only [nrmA,nrmB]
  try trivial
def Ya (I:Alg) (args:List D) (hp:List HO):Option CT:=match args,hp with
  |[.v (.one (.p (.str s)))],[]=>(fun(s:Str)=>(some (.one ⟨I.hid (True),(.ret (.v (.one (.p (.str (I.hid (Lib.trimS s [32,9]))))))),[]⟩):Option CT)) s
  |_,_=>none
theorem Qd:yh Tryz.prog 19 (Ya alg):=by
  intro args hp r h
  unfold Ya at h
  split at h
  · cases h;exact fun hn=>zeA _
  · cases h
def Qc:Know Tryz.prog:=⟨19,Ya,Qd⟩
def Qb:Know Tryz.prog:=⟨19,fun I=>yE I (Ya I),zA Qd⟩
theorem zbX (s:Str) (hneed:s.length≤1000000):Spc Tryz.prog 25 [.v (.one (.p (.str s)))] [] (.ret (.v (.one (.p (.str (Lib.trimS s [32,9])))))) []:=by
  rw [zbZ,zam]
  generalize hr:trR (trL s)=r
  refine spcG zJ mixed Tryz.func25 (by kernel_rfl) { keep:=some [0,2]} [] (by kernel_rfl) ?_
  intro I X hI hX
  refine zH (.code 0 [1,0,0] ⟨[(2,(.v (.one (.p (.str ([]:Str)))))),(0,(.v (.one (.p (.str s)))))],[],43,none⟩) (by kernel_rfl) ?_
  simp only [zU]
  refine zQ hI zJ mixed [] hX [0] (fun(u:Str)=>trR (trL u)=r∧u.length≤1000000) (fun(u:Str)=>⟨[(0,.v (.one (.p (.str u))))],[],43,none⟩) (fun(u:Str)=>u.length) s (by kernel_rfl) (by kernel_rfl) ?_ ?_
  · exact⟨hr,hneed⟩
  rintro u ⟨h1,h2⟩ A hA
  refine zH (let y0:=I.cutb 1 (I.len (α:=UInt8) u) (I.len (α:=UInt8) u);let y1:=I.cut (α:=UInt8) u 1 (I.len (α:=UInt8) u);let y2:=I.b2i (I.get (α:=UInt8) u 0 0);.br (I.ilt 0 (I.len (α:=UInt8) u)) (.need (I.inb 0 (I.len (α:=UInt8) u)) (.br (I.ieq y2 32) (.need y0 (.need (A ⟨[(0,(.v (.one (.p (.str y1)))))],[],43,none⟩) .qed)) (.need (I.inb 0 (I.len (α:=UInt8) u)) (.br (I.ieq y2 9) (.need y0 (.need (A ⟨[(0,(.v (.one (.p (.str y1)))))],[],43,none⟩) .qed)) (.code 1 [1,1,0,0] ⟨[(0,(.v (.one (.p (.str u)))))],[],43,none⟩))))) (.code 1 [1,1,0,0] ⟨[(0,(.v (.one (.p (.str u)))))],[],43,none⟩)) (by kernel_rfl) ?_
  simp only [zU]
  have hc:I.cut (α:=UInt8) u 1 (I.len (α:=UInt8) u)=u.drop 1:=by
    rw [hI,xH,yc]
    simp only [Int.toNat_natCast,show(1:Int).toNat=1 from rfl]
    exact List.take_of_length_le (by rw [List.length_drop];exact Nat.le_refl _)
  rw [hc]
  have hgo:0<u.length→bl (u.getD 0 0)=true→A ⟨[(0,.v (.one (.p (.str ((u.drop 1))))))],[],43,none⟩:=fun q1 q2=>
    hA _ ⟨by rw [← h1,zdP q1 q2],by rw [List.length_drop];omega⟩ (by rw [List.length_drop];omega)
  refine⟨fun c1=>⟨?_,fun c2=> ?_,fun c2=>⟨?_,fun c3=> ?_,fun c3=> ?_⟩⟩,fun c1=> ?_⟩
  · subst hI
    simp only [nrmA,nrmB] at c1
    simp only [nrmA,nrmB]
    omega
  · subst hI
    simp only [nrmA,nrmB] at c1
    simp only [nrmA,nrmB] at c2
    simp only [nrmA,nrmB]
    exact⟨by omega,hgo (by omega) ((Ui _).2 (.inl c2))⟩
  · subst hI
    simp only [nrmA,nrmB] at c1
    simp only [nrmA,nrmB]
    omega
  · subst hI
    simp only [nrmA,nrmB] at c1
    simp only [nrmA,nrmB] at c3
    simp only [nrmA,nrmB]
    exact⟨by omega,hgo (by omega) ((Ui _).2 (.inr c3))⟩
  · have hst:trL u=u:=TK fun q h=>by
      subst hI
      simp only [nrmA,nrmB] at c2
      simp only [nrmA,nrmB] at c3
      rcases(Ui _).1 h with h|h
      · exact c2 h
      · exact c3 h
    refine zQ hI zJ mixed [] hX [0] (fun(v:Str)=>trR v=r∧v.length≤1000000) (fun(v:Str)=>⟨[(0,.v (.one (.p (.str v))))],[],43,none⟩) (fun(v:Str)=>v.length) u (by kernel_rfl) (by kernel_rfl) ?_ ?_
    · exact⟨by rw [← h1,hst],h2⟩
    rintro v ⟨k1,k2⟩ B hB
    refine zH (let y0:=I.inr Go.IntKind.i64 (I.sub (I.len (α:=UInt8) v) 1);let y1:=I.cutb 0 (I.sub (I.len (α:=UInt8) v) 1) (I.len (α:=UInt8) v);let y2:=I.b2i (I.get (α:=UInt8) v 0 (I.sub (I.len (α:=UInt8) v) 1));let y3:=I.inb (I.sub (I.len (α:=UInt8) v) 1) (I.len (α:=UInt8) v);let y4:=I.cut (α:=UInt8) v 0 (I.sub (I.len (α:=UInt8) v) 1);.br (I.ilt 0 (I.len (α:=UInt8) v)) (.need y0 (.need y3 (.br (I.ieq y2 32) (.need y0 (.need y1 (.need (B ⟨[(0,(.v (.one (.p (.str y4)))))],[],43,none⟩) .qed))) (.need y0 (.need y3 (.br (I.ieq y2 9) (.need y0 (.need y1 (.need (B ⟨[(0,(.v (.one (.p (.str y4)))))],[],43,none⟩) .qed))) (.fin (.ret (.v (.one (.p (.str v))))) []))))))) (.fin (.ret (.v (.one (.p (.str v))))) [])) (by kernel_rfl) ?_
    simp only [zU]
    subst hI
    simp only [nrmA,nrmB]
    have hgo:0<v.length→bl (v.getD (v.length - 1) 0)=true→B ⟨[(0,.v (.one (.p (.str ((v.take (v.length - 1)))))))],[],43,none⟩:=fun q1 q2=>
      hB _ ⟨by rw [← k1,zcM q1 q2],by rw [List.length_take];omega⟩ (by rw [List.length_take];omega)
    have hend:(0<v.length→¬ bl (v.getD (v.length - 1) 0)=true)→v=r:=fun q=>by rw [← k1,TG q]
    rw [Ui] at hgo hend
    simp only [show((v.length:Int) - 1).toNat=v.length - 1 by omega]
    (repeat' (first|refine And.intro ?_ ?_|intro _))<;>first|omega|exact True.intro|exact False.elim ‹False›|skip
    all_goals first
      |exact hgo (by omega) (.inl ‹_›)
      |exact hgo (by omega) (.inr ‹_›)
      |(refine hend fun _ h=> ?_;rcases h with h|h<;>contradiction)
      |exact hend (fun h=>by omega)
  · have hst:trL u=u:=TK fun q h=>by
      subst hI
      simp only [nrmA,nrmB] at c1
      omega
    refine zQ hI zJ mixed [] hX [0] (fun(v:Str)=>trR v=r∧v.length≤1000000) (fun(v:Str)=>⟨[(0,.v (.one (.p (.str v))))],[],43,none⟩) (fun(v:Str)=>v.length) u (by kernel_rfl) (by kernel_rfl) ?_ ?_
    · exact⟨by rw [← h1,hst],h2⟩
    rintro v ⟨k1,k2⟩ B hB
    refine zH (let y0:=I.inr Go.IntKind.i64 (I.sub (I.len (α:=UInt8) v) 1);let y1:=I.cutb 0 (I.sub (I.len (α:=UInt8) v) 1) (I.len (α:=UInt8) v);let y2:=I.b2i (I.get (α:=UInt8) v 0 (I.sub (I.len (α:=UInt8) v) 1));let y3:=I.inb (I.sub (I.len (α:=UInt8) v) 1) (I.len (α:=UInt8) v);let y4:=I.cut (α:=UInt8) v 0 (I.sub (I.len (α:=UInt8) v) 1);.br (I.ilt 0 (I.len (α:=UInt8) v)) (.need y0 (.need y3 (.br (I.ieq y2 32) (.need y0 (.need y1 (.need (B ⟨[(0,(.v (.one (.p (.str y4)))))],[],43,none⟩) .qed))) (.need y0 (.need y3 (.br (I.ieq y2 9) (.need y0 (.need y1 (.need (B ⟨[(0,(.v (.one (.p (.str y4)))))],[],43,none⟩) .qed))) (.fin (.ret (.v (.one (.p (.str v))))) []))))))) (.fin (.ret (.v (.one (.p (.str v))))) [])) (by kernel_rfl) ?_
    simp only [zU]
    subst hI
    simp only [nrmA,nrmB]
    have hgo:0<v.length→bl (v.getD (v.length - 1) 0)=true→B ⟨[(0,.v (.one (.p (.str ((v.take (v.length - 1)))))))],[],43,none⟩:=fun q1 q2=>
      hB _ ⟨by rw [← k1,zcM q1 q2],by rw [List.length_take];omega⟩ (by rw [List.length_take];omega)
    have hend:(0<v.length→¬ bl (v.getD (v.length - 1) 0)=true)→v=r:=fun q=>by rw [← k1,TG q]
    rw [Ui] at hgo hend
    simp only [show((v.length:Int) - 1).toNat=v.length - 1 by omega]
    (repeat' (first|refine And.intro ?_ ?_|intro _))<;>first|omega|exact True.intro|exact False.elim ‹False›|skip
    all_goals first
      |exact hgo (by omega) (.inl ‹_›)
      |exact hgo (by omega) (.inr ‹_›)
      |(refine hend fun _ h=> ?_;rcases h with h|h<;>contradiction)
      |exact hend (fun h=>by omega)
def uX (I:Alg) (args:List D) (hp:List HO):Option CT:=match args,hp with
  |[.v (.one (.p (.str s)))],[]=>(fun(s:Str)=>(some (.one ⟨I.hid (s.length≤1000000),(.ret (.v (.one (.p (.str (I.hid (Lib.trimS s [32,9]))))))),[]⟩):Option CT)) s
  |_,_=>none
theorem Xh:yh Tryz.prog 25 (uX alg):=by
  intro args hp r h
  unfold uX at h
  split at h
  · cases h;exact fun hn=>zbX _ hn
  · cases h
def Xg:Know Tryz.prog:=⟨25,uX,Xh⟩
def Xf:Know Tryz.prog:=⟨25,fun I=>yE I (uX I),zA Xh⟩
theorem zdH (s:Str) (hneed:s.length≤1000000):Spc Tryz.prog 38 [.v (.one (.p (.str s)))] [] (.ret (.v (.one (.p (.str (lowS s)))))) []:=by
  refine spcG zJ mixed Tryz.func38 (by kernel_rfl) { keep:=some [0,2,3,4,5,8,9,10]} [Wy,Wx] (by kernel_rfl) ?_
  intro I X hI hX
  refine zH (.code 0 [1,1,0,1,0] ⟨[(10,(.v (.one (.p (.int .i64 0))))),(9,(.v (.one (.p (.int .i64 (I.len (α:=UInt8) s)))))),(8,(.v (.one (.row 0)))),(3,(.v (.one (.row 0)))),(2,(.v (.one (.p (.str ([]:Str)))))),(0,(.v (.one (.p (.str s)))))],[(.row .byte 5 s)],23,none⟩) (by kernel_rfl) ?_
  simp only [zU]
  refine zQ hI zJ mixed [Wy,Wx] hX [0,3,8,9,10] (fun(g:Nat × Str)=>match g with|(i,b)=>i≤s.length∧b=lowS (s.take i)++s.drop i) (fun(g:Nat × Str)=>match g with|(i,b)=>⟨[(0,.v (.one (.p (.str s)))),(3,.v (.one (.row 0))),(8,.v (.one (.row 0))),(9,.v (.one (.p (.int .i64 ((I.len (α:=UInt8) s)))))),(10,.v (.one (.p (.int .i64 i))))],[.row .byte 5 b],23,none⟩) (fun(g:Nat × Str)=>match g with|(i,b)=>s.length - i) (0,s) (by kernel_rfl) (by kernel_rfl) ?_ ?_
  · exact⟨Nat.zero_le _,rfl⟩
  rintro⟨i,b⟩ ⟨h1,h2⟩ A hA
  simp only at hA
  refine zH (let y0:=I.b2i (I.get (α:=UInt8) b 0 (Nat.cast i));let y1:=I.inb (Nat.cast i) (I.len (α:=UInt8) b);.br (I.ilt (Nat.cast i) (I.len (α:=UInt8) s)) (.need y1 (.need y1 (.need (I.hid (α:=(Prop)) (And (LE.le (0:Int) y0) (LE.le y0 (255:Int)))) (.need y1 (.need (I.inr Go.IntKind.u8 (I.hid (α:=Int) (lowK y0))) (.need y1 (.need (I.inr Go.IntKind.i64 (I.add (Nat.cast i) 1)) (.need (A ⟨[(0,(.v (.one (.p (.str s))))),(3,(.v (.one (.row 0)))),(8,(.v (.one (.row 0)))),(9,(.v (.one (.p (.int .i64 (I.len (α:=UInt8) s)))))),(10,(.v (.one (.p (.int .i64 (I.add (Nat.cast i) 1))))))],[(.row .byte 5 (I.set (α:=UInt8) b (Nat.cast i) (I.i2b (I.hid (α:=Int) (lowK y0)))))],23,none⟩) .qed)))))))) (.fin (.ret (.v (.one (.p (.str b))))) [])) (by kernel_rfl) ?_
  simp only [zU]
  subst hI
  simp only [nrmA,nrmB]
  have hlen:b.length=s.length:=by rw [h2,List.length_append,qf,List.length_take,List.length_drop];omega
  have hx:i<s.length→b.getD i 0=s.getD i 0:=fun h=>by
    rw [h2,List.getD_eq_getElem?_getD,List.getD_eq_getElem?_getD,List.getElem?_append_right (by rw [qf,List.length_take];omega),qf,List.length_take,List.getElem?_drop]
    congr 2
    omega
  have hset:i<s.length→b.set i (lowC (s.getD i 0))=lowS (s.take (i+1))++s.drop (i+1):=fun h=>by
    have e:(lowS (s.take i)).length=i:=by rw [qf,List.length_take];omega
    rw [h2,List.set_append_right _ _ (by omega),e,Nat.sub_self,List.drop_eq_getElem_cons h,List.set_cons_zero,List.take_succ_eq_append_getElem h,show s.getD i 0=s[i] by simp [h]]
    unfold lowS
    rw [List.map_append,List.append_assoc]
    rfl
  have hby:=qy (s.getD i 0)
  have hlk:=zaR hby
  refine⟨fun c=> ?_,fun c=> ?_⟩
  · rw [hx (by omega),zdp,hset (by omega)]
    exact⟨by omega,by omega,by omega,by omega,by omega,by omega,by omega,hA (i+1,_) ⟨by simp only;omega,rfl⟩ (by simp only;omega)⟩
  · rw [h2,List.drop_of_length_le (by omega),List.take_of_length_le (by omega),List.append_nil]
def qx (I:Alg) (args:List D) (hp:List HO):Option CT:=match args,hp with
  |[.v (.one (.p (.str s)))],[]=>(fun(s:Str)=>(some (.one ⟨I.hid (s.length≤1000000),(.ret (.v (.one (.p (.str (I.hid (lowS s))))))),[]⟩):Option CT)) s
  |_,_=>none
theorem Uh:yh Tryz.prog 38 (qx alg):=by
  intro args hp r h
  unfold qx at h
  split at h
  · cases h;exact fun hn=>zdH _ hn
  · cases h
def YW:Know Tryz.prog:=⟨38,qx,Uh⟩
def YV:Know Tryz.prog:=⟨38,fun I=>yE I (qx I),zA Uh⟩
theorem zdS (s:Str) (hneed:s.length≤1000000):Spc Tryz.prog 27 [.v (.one (.p (.str s)))] [] (.ret (.v (.one (.p (.str (lowS s)))))) []:=by
  refine spcG zJ mixed Tryz.func27 (by kernel_rfl) { keep:=some [0,2,3,4,5,6]} [] (by kernel_rfl) ?_
  intro I X hI hX
  refine zH (.code 0 [1,1,0,1,0] ⟨[(4,(.v (.one (.p (.int .i64 0))))),(3,(.v (.one (.p (.str ([]:Str)))))),(2,(.v (.one (.p (.str ([]:Str)))))),(0,(.v (.one (.p (.str s)))))],[],36,none⟩) (by kernel_rfl) ?_
  simp only [zU]
  refine zQ hI zJ mixed [] hX [0,3,4] (fun(g:Nat × Str)=>match g with|(i,out)=>i≤s.length∧out=lowS (s.take i)) (fun(g:Nat × Str)=>match g with|(i,out)=>⟨[(0,.v (.one (.p (.str s)))),(3,.v (.one (.p (.str out)))),(4,.v (.one (.p (.int .i64 i))))],[],36,none⟩) (fun(g:Nat × Str)=>match g with|(i,out)=>s.length - i) (0,[]) (by kernel_rfl) (by kernel_rfl) ?_ ?_
  · exact⟨Nat.zero_le _,rfl⟩
  rintro⟨i,out⟩ ⟨h1,h2⟩ A hA
  simp only at hA
  refine zH (.br (I.ilt (Nat.cast i) (I.len (α:=UInt8) s)) (.need (I.inr Go.IntKind.i64 (I.add (Nat.cast i) 1)) (.need (I.cutb (Int.ofNat i) (I.add (Nat.cast i) 1) (I.len (α:=UInt8) s)) (.code 0 [1,0,0,1,0,1,0] ⟨[(6,(.v (.one (.p (.int .i64 0))))),(5,(.v (.one (.p (.str (I.cut (α:=UInt8) s (Int.ofNat i) (I.add (Nat.cast i) 1))))))),(0,(.v (.one (.p (.str s))))),(3,(.v (.one (.p (.str out))))),(4,(.v (.one (.p (.int .i64 (Nat.cast i))))))],[],36,none⟩))) (.fin (.ret (.v (.one (.p (.str out))))) [])) (by kernel_rfl) ?_
  simp only [zU]
  refine⟨fun c1=>⟨?_,?_,?_⟩,fun c1=> ?_⟩
  · subst hI
    simp only [nrmA,nrmB] at c1
    simp only [nrmA,nrmB]
    omega
  · subst hI
    simp only [nrmA,nrmB] at c1
    simp only [nrmA,nrmB]
    omega
  · have hi:i<s.length:=by
      subst hI
      simp only [nrmA,nrmB] at c1
      omega
    generalize hc0:I.cut (α:=UInt8) s (Int.ofNat i) (I.add (↑i) 1)=c0
    have hc1:c0=[s.getD i 0]:=by
      rw [← hc0,hI,xH,xU]
      simp only [Int.ofNat_eq_natCast,Int.toNat_natCast,show((i:Int)+1).toNat=i+1 by omega]
      rw [List.drop_eq_getElem_cons hi,Nat.add_sub_cancel_left,List.take_succ_cons,List.take_zero]
      simp [hi]
    generalize hx:s.getD i 0=x at *
    have hxb:=x.toNat_lt
    have hcap: ∀ k:Nat,k<26→((([65,66,67,68,69,70,71,72,73,74,75,76,77,78,79,80,81,82,83,84,85,86,87,88,89,90]:Str).getD k 0).toNat=65+k∧((([97,98,99,100,101,102,103,104,105,106,107,108,109,110,111,112,113,114,115,116,117,118,119,120,121,122]:Str).drop k).take 1)=[UInt8.ofNat (97+k)]):=by decide+kernel
    refine zQ hI zJ mixed [] hX [0,3,4,5,6] (fun(g:Nat × Str)=>match g with|(k,c)=>k≤26∧c=[if 65≤x.toNat∧x.toNat<65+k then x+32 else x]) (fun(g:Nat × Str)=>match g with|(k,c)=>⟨[(0,.v (.one (.p (.str s)))),(3,.v (.one (.p (.str out)))),(4,.v (.one (.p (.int .i64 i)))),(5,.v (.one (.p (.str c)))),(6,.v (.one (.p (.int .i64 k))))],[],36,none⟩) (fun(g:Nat × Str)=>match g with|(k,c)=>26 - k) (0,c0) (by kernel_rfl) (by kernel_rfl) ?_ ?_
    · refine⟨Nat.zero_le _,?_⟩
      rw [hc1,if_neg (by omega)]
    rintro⟨k,c⟩ ⟨k1,k2⟩ B hB
    simp only at hB
    refine zH (let y0:=([97,98,99,100,101,102,103,104,105,106,107,108,109,110,111,112,113,114,115,116,117,118,119,120,121,122]:Str);let y1:=([65,66,67,68,69,70,71,72,73,74,75,76,77,78,79,80,81,82,83,84,85,86,87,88,89,90]:Str);let y2:=I.inr Go.IntKind.i64 (I.add (Nat.cast k) 1);.br (I.ilt (Nat.cast k) 26) (.need (I.inb (Nat.cast k) (I.len (α:=UInt8) y1)) (.need (I.inb (Nat.cast i) (I.len (α:=UInt8) s)) (.br (I.ieq (I.b2i (I.get (α:=UInt8) y1 0 (Nat.cast k))) (I.b2i (I.get (α:=UInt8) s 0 (Nat.cast i)))) (.need y2 (.need (I.cutb (Int.ofNat k) (I.add (Nat.cast k) 1) (I.len (α:=UInt8) y0)) (.need y2 (.need (B ⟨[(0,(.v (.one (.p (.str s))))),(3,(.v (.one (.p (.str out))))),(4,(.v (.one (.p (.int .i64 (Nat.cast i)))))),(5,(.v (.one (.p (.str (I.cut (α:=UInt8) y0 (Int.ofNat k) (I.add (Nat.cast k) 1))))))),(6,(.v (.one (.p (.int .i64 (I.add (Nat.cast k) 1))))))],[],36,none⟩) .qed)))) (.need y2 (.need (B ⟨[(0,(.v (.one (.p (.str s))))),(3,(.v (.one (.p (.str out))))),(4,(.v (.one (.p (.int .i64 (Nat.cast i)))))),(5,(.v (.one (.p (.str c))))),(6,(.v (.one (.p (.int .i64 (I.add (Nat.cast k) 1))))))],[],36,none⟩) .qed))))) (.need (I.few (I.add (I.len (α:=UInt8) out) (I.len (α:=UInt8) c)) 1000000000) (.need (I.inr Go.IntKind.i64 (I.add (Nat.cast i) 1)) (.need (A ⟨[(0,(.v (.one (.p (.str s))))),(3,(.v (.one (.p (.str (I.app (α:=UInt8) out c)))))),(4,(.v (.one (.p (.int .i64 (I.add (Nat.cast i) 1))))))],[],36,none⟩) .qed)))) (by kernel_rfl) ?_
    simp only [zU]
    subst hI
    simp only [nrmA,nrmB]
    rw [hx]
    generalize hCAP:([65,66,67,68,69,70,71,72,73,74,75,76,77,78,79,80,81,82,83,84,85,86,87,88,89,90]:Str)=CAP at *
    generalize hLOW:([97,98,99,100,101,102,103,104,105,106,107,108,109,110,111,112,113,114,115,116,117,118,119,120,121,122]:Str)=LOW at *
    have hol:out.length≤1000000:=by rw [h2,qf,List.length_take];omega
    have hc1l:c.length=1:=by rw [k2];rfl
    have hcl:CAP.length=26:=by rw [← hCAP];rfl
    have hll:LOW.length=26:=by rw [← hLOW];rfl
    have hcond:k<26→(CAP.getD k 0=x↔x.toNat=65+k):=fun h=>by rw [← UInt8.toNat_inj,(hcap k h).1];omega
    have heq:k<26→CAP.getD k 0=x→(LOW.drop k).take (((k:Int)+1).toNat - k)=[if 65≤x.toNat∧x.toNat<65+(k+1) then x+32 else x]:=fun h e=>by
      have e:=(hcond h).1 e
      rw [show((k:Int)+1).toNat - k=1 by omega,(hcap k h).2,if_pos (by omega)]
      congr 1
      rw [← UInt8.toNat_inj,UInt8.toNat_ofNat',UInt8.toNat_add,e]
      simp only [show(32:UInt8).toNat=32 from rfl]
      omega
    have hne:k<26→¬ CAP.getD k 0=x→c=[if 65≤x.toNat∧x.toNat<65+(k+1) then x+32 else x]:=fun h e=>by
      have e: ¬ x.toNat=65+k:=fun h'=>e ((hcond h).2 h')
      rw [k2]
      congr 1
      by_cases h1:65≤x.toNat∧x.toNat<65+k
      · rw [if_pos h1,if_pos (by omega)]
      · rw [if_neg h1,if_neg (by omega)]
    have hend: ¬ k<26→out++c=lowS (s.take (i+1)):=fun h=>by
      have hk:k=26:=by omega
      subst hk
      rw [k2,h2,List.take_succ_eq_append_getElem hi]
      unfold lowS
      rw [List.map_append]
      congr 1
      rw [← hx,show s.getD i 0=s[i] by simp [hi]]
      show _=[lowC s[i]]
      unfold lowC
      congr 1
      by_cases h1:65≤s[i].toNat∧s[i].toNat<65+26
      · rw [if_pos h1,if_pos (by omega)]
      · rw [if_neg h1,if_neg (by omega)]
    (repeat' (first|refine And.intro ?_ ?_|intro _))<;>first|omega|exact True.intro|exact False.elim ‹False›|skip
    all_goals first
      |omega
      |exact hB (k+1,_) ⟨by simp only;omega,heq (by omega) ‹_›⟩ (by simp only;omega)
      |exact hB (k+1,_) ⟨by simp only;omega,hne (by omega) ‹_›⟩ (by simp only;omega)
      |(rw [hend (by omega)];exact hA (i+1,_) ⟨by simp only;omega,rfl⟩ (by simp only;omega))
  · subst hI
    simp only [nrmA,nrmB] at c1
    simp only [nrmA,nrmB]
    rw [h2,List.take_of_length_le (by omega)]
def ZI (I:Alg) (args:List D) (hp:List HO):Option CT:=match args,hp with
  |[.v (.one (.p (.str s)))],[]=>(fun(s:Str)=>(some (.one ⟨I.hid (s.length≤1000000),(.ret (.v (.one (.p (.str (I.hid (lowS s))))))),[]⟩):Option CT)) s
  |_,_=>none
theorem TP:yh Tryz.prog 27 (ZI alg):=by
  intro args hp r h
  unfold ZI at h
  split at h
  · cases h;exact fun hn=>zdS _ hn
  · cases h
def vU:Know Tryz.prog:=⟨27,ZI,TP⟩
def vT:Know Tryz.prog:=⟨27,fun I=>yE I (ZI I),zA TP⟩
end Go.Proofs.YtalfiafkeijijaaGreatDoor
namespace Go.Proofs.YtalfiafkeijijaaGreatDoor
open Go Go.Sep Go.Ab
set_option maxRecDepth 100000
theorem drop1 (s:Str):List.take (s.length - Int.toNat 1) (List.drop (Int.toNat 1) s)=s.drop 1:=by
  show List.take (s.length - 1) (List.drop 1 s)=s.drop 1
  exact List.take_of_length_le (by simp)
def ixP (l:List Fld) (n:Str):Int:=if l.findIdx (fun f=>f.name == n)<l.length then(l.findIdx (fun f=>f.name == n):Int) else -1
end Go.Proofs.YtalfiafkeijijaaGreatDoor
namespace Go.Proofs.YtalfiafkeijijaaGreatDoor
open Go Go.Sep Go.Ab
set_option maxRecDepth 100000
def cutB (s:Str) (c:UInt8):Str × Str × Bool:=
  if 0≤Lib.indexByte s c then(s.take (Lib.indexByte s c).toNat,s.drop ((Lib.indexByte s c).toNat+1),true) else(s,[],false)
def textF (f:Fld):Str × Int:=
  if zO f.name=false then([],6)
  else if 40<f.name.length∨200<f.name.length+2+f.value.length then([],4)
  else if yU f.value=false∨¬ Lib.trimS f.value [32,9]=f.value then([],3)
  else(f.name++[58,32]++f.value,0)
theorem zcE (s:Str) (c:UInt8):(cutB s c).1.length≤s.length∧(cutB s c).2.1.length≤s.length:=by
  unfold cutB
  split
  · simp only [List.length_take,List.length_drop];omega
  · simp
theorem zdU (s:Str) (c:UInt8) (hneed:s.length≤1000000):Spc Tryz.prog 66 [.v (.one (.p (.str s))),.v (.one (.p (.str ([c]))))] [] (.ret (.tup [(.one (.p (.str ((cutB s c).1)))),(.one (.p (.str ((cutB s c).2.1)))),(.one (.p (.bool ((cutB s c).2.2))))])) []:=by
  generalize hr:cutB s c=r
  obtain⟨a,b,d⟩:=r
  refine spcG zJ mixed Tryz.func66 (by kernel_rfl) { keep:=some [0,1,4,5,6,7]} [zaZ,zaY] (by kernel_rfl) ?_
  intro I X hI hX
  refine zH (let y0:=I.hid (α:=Int) (Go.Lib.indexByte s c);let y1:=I.add y0 (I.len (α:=UInt8) ([c]:Str));.need (I.hid (α:=(Prop)) True) (.br (I.ile 0 y0) (.need (I.cutb 0 y0 (I.len (α:=UInt8) s)) (.need (I.inr Go.IntKind.i64 y1) (.need (I.cutb y1 (I.len (α:=UInt8) s) (I.len (α:=UInt8) s)) (.fin (.ret (.tup [(.one (.p (.str (I.cut (α:=UInt8) s 0 y0)))),(.one (.p (.str (I.cut (α:=UInt8) s y1 (I.len (α:=UInt8) s))))),(.one (.p (.bool Bool.true)))])) [])))) (.fin (.ret (.tup [(.one (.p (.str s))),(.one (.p (.str ([]:Str)))),(.one (.p (.bool Bool.false)))])) []))) (by kernel_rfl) ?_
  simp only [zU]
  subst hI
  simp only [nrmA,nrmB]
  have hx:=wZ s c
  simp only [List.length_cons,List.length_nil]
  refine⟨fun h=> ?_,fun h=> ?_⟩
  · rw [cutB,if_pos h] at hr
    simp only [Prod.mk.injEq] at hr
    obtain⟨rfl,rfl,rfl⟩:=hr
    refine⟨by omega,by omega,by omega,?_⟩
    rw [show(Lib.indexByte s c+((0+1:Nat):Int)).toNat=(Lib.indexByte s c).toNat+1 by omega]
    have e:List.take (s.length - ((Lib.indexByte s c).toNat+1)) (List.drop ((Lib.indexByte s c).toNat+1) s)=List.drop ((Lib.indexByte s c).toNat+1) s:=List.take_of_length_le (by rw [List.length_drop];exact Nat.le_refl _)
    rw [e]
  · rw [cutB,if_neg h] at hr
    simp only [Prod.mk.injEq] at hr
    obtain⟨rfl,rfl,rfl⟩:=hr
    rfl
def ZK (I:Alg) (args:List D) (hp:List HO):Option CT:=match args,hp with
  |[.v (.one (.p (.str s))),.v (.one (.p (.str ([c]))))],[]=>(fun(s:Str) (c:UInt8)=>(some (.one ⟨I.hid (s.length≤1000000),(.ret (.tup [(.one (.p (.str (I.hid ((cutB s c).1))))),(.one (.p (.str (I.hid ((cutB s c).2.1))))),(.one (.p (.bool (I.hid ((cutB s c).2.2)))))])),[]⟩):Option CT)) s c
  |_,_=>none
theorem TQ:yh Tryz.prog 66 (ZK alg):=by
  intro args hp r h
  unfold ZK at h
  split at h
  · cases h;exact fun hn=>zdU _ _ hn
  · cases h
def zb6:Know Tryz.prog:=⟨66,ZK,TQ⟩
def zb5:Know Tryz.prog:=⟨66,fun I=>yE I (ZK I),zA TQ⟩
theorem zeI (s:Str) (c:UInt8) (hneed:s.length≤1000000):Spc Tryz.prog 53 [.v (.one (.p (.str s))),.v (.one (.p (.str ([c]))))] [] (.ret (.tup [(.one (.p (.str ((cutB s c).1)))),(.one (.p (.str ((cutB s c).2.1)))),(.one (.p (.bool ((cutB s c).2.2))))])) []:=by
  refine spcG zJ mixed Tryz.func53 (by kernel_rfl) { keep:=some [0,1,4,5,6]} [zb6,zb5] (by kernel_rfl) ?_
  intro I X hI hX
  refine zH (.need (I.hid (α:=(Prop)) (LE.le (List.length s) 1000000)) (.fin (.ret (.tup [(.one (.p (.str (I.hid (α:=Str) (Prod.fst (cutB s c)))))),(.one (.p (.str (I.hid (α:=Str) (Prod.fst (Prod.snd (cutB s c))))))),(.one (.p (.bool (I.hid (α:=Bool) (Prod.snd (Prod.snd (cutB s c)))))))])) [])) (by kernel_rfl) ?_
  simp only [zU]
  subst hI
  simp only [nrmA,nrmB]
  exact hneed
def X9 (I:Alg) (args:List D) (hp:List HO):Option CT:=match args,hp with
  |[.v (.one (.p (.str s))),.v (.one (.p (.str ([c]))))],[]=>(fun(s:Str) (c:UInt8)=>(some (.one ⟨I.hid (s.length≤1000000),(.ret (.tup [(.one (.p (.str (I.hid ((cutB s c).1))))),(.one (.p (.str (I.hid ((cutB s c).2.1))))),(.one (.p (.bool (I.hid ((cutB s c).2.2)))))])),[]⟩):Option CT)) s c
  |_,_=>none
theorem zay:yh Tryz.prog 53 (X9 alg):=by
  intro args hp r h
  unfold X9 at h
  split at h
  · cases h;exact fun hn=>zeI _ _ hn
  · cases h
def zdb:Know Tryz.prog:=⟨53,X9,zay⟩
def zda:Know Tryz.prog:=⟨53,fun I=>yE I (X9 I),zA zay⟩
theorem zeG (n v:Str) (hneed:n.length≤1000000∧v.length≤1000000):Spc Tryz.prog 12 [.v (.agg [(.p (.str n)),(.p (.str v))])] [] (.ret (.tup [(.one (.p (.str ((textF ⟨n,v⟩).1)))),(.one (.p (.int .i64 ((textF ⟨n,v⟩).2))))])) []:=by
  generalize hr:textF ⟨n,v⟩=r
  obtain⟨a,d⟩:=r
  refine spcG zJ mixed Tryz.func12 (by kernel_rfl) { keep:=some [0,1,2,3,4]} [tH,tC,wW,wV,Qc,Qb] (by kernel_rfl) ?_
  intro I X hI hX
  refine zH (.need (I.few (I.add (I.len (α:=UInt8) n) (I.len (α:=UInt8) ([58,32]:Str))) 1000000000) (.need (I.few (I.add (I.len (α:=UInt8) (I.app (α:=UInt8) n ([58,32]:Str))) (I.len (α:=UInt8) v)) 1000000000) (.need (I.hid (α:=(Prop)) (LE.le (List.length n) 1000000)) (.br (I.bnot (I.hid (α:=Bool) (zO n))) (.fin (.ret (.tup [(.one (.p (.str ([]:Str)))),(.one (.p (.int .i64 6)))])) []) (.br (I.ilt 40 (I.len (α:=UInt8) n)) (.fin (.ret (.tup [(.one (.p (.str ([]:Str)))),(.one (.p (.int .i64 4)))])) []) (.br (I.ilt 200 (I.len (α:=UInt8) (I.app (α:=UInt8) (I.app (α:=UInt8) n ([58,32]:Str)) v))) (.fin (.ret (.tup [(.one (.p (.str ([]:Str)))),(.one (.p (.int .i64 4)))])) []) (.need (I.hid (α:=(Prop)) (LE.le (List.length v) 1000000)) (.br (I.bnot (I.hid (α:=Bool) (yU v))) (.fin (.ret (.tup [(.one (.p (.str ([]:Str)))),(.one (.p (.int .i64 3)))])) []) (.need (I.hid (α:=(Prop)) True) (.br (I.bnot (I.seq (I.hid (α:=Str) (Go.Lib.trimS v ([32,9]:Str))) v)) (.fin (.ret (.tup [(.one (.p (.str ([]:Str)))),(.one (.p (.int .i64 3)))])) []) (.fin (.ret (.tup [(.one (.p (.str (I.app (α:=UInt8) (I.app (α:=UInt8) n ([58,32]:Str)) v)))),(.one (.p (.int .i64 0)))])) []))))))))))) (by kernel_rfl) ?_
  simp only [zU]
  subst hI
  simp only [nrmA,nrmB]
  simp only [List.length_append,List.length_cons,List.length_nil]
  unfold textF at hr
  simp only at hr
  (repeat' (first|refine And.intro ?_ ?_|intro _))<;>first|omega|exact True.intro|exact False.elim ‹False›|skip
  all_goals first
    |(rw [if_pos (by assumption)] at hr;cases hr;rfl)
    |(rw [if_neg (by simp [*]),if_pos (by omega)] at hr;cases hr;rfl)
    |(rw [if_neg (by simp [*]),if_neg (by omega),if_pos (.inl (by assumption))] at hr;cases hr;rfl)
    |(rw [if_neg (by simp [*]),if_neg (by omega),if_pos (.inr (by assumption))] at hr;cases hr;rfl)
    |(rw [if_neg (by simp [*]),if_neg (by omega),if_neg (by simp [*])] at hr;cases hr;rfl)
def X0 (I:Alg) (args:List D) (hp:List HO):Option CT:=match args,hp with
  |[.v (.agg [(.p (.str n)),(.p (.str v))])],[]=>(fun(n v:Str)=>(some (.one ⟨I.hid (n.length≤1000000∧v.length≤1000000),(.ret (.tup [(.one (.p (.str (I.hid ((textF ⟨n,v⟩).1))))),(.one (.p (.int .i64 (I.hid ((textF ⟨n,v⟩).2)))))])),[]⟩):Option CT)) n v
  |_,_=>none
theorem zan:yh Tryz.prog 12 (X0 alg):=by
  intro args hp r h
  unfold X0 at h
  split at h
  · cases h;exact fun hn=>zeG _ _ hn
  · cases h
def Uz:Know Tryz.prog:=⟨12,X0,zan⟩
def Uy:Know Tryz.prog:=⟨12,fun I=>yE I (X0 I),zA zan⟩
end Go.Proofs.YtalfiafkeijijaaGreatDoor
namespace Go.Proofs.YtalfiafkeijijaaGreatDoor
open Go Go.Sep Go.Ab
set_option maxRecDepth 100000
def quoM (s:Str):Str:=if zO s=true then s else [34]++escS s++[34]
def Yf (w:Str):Bool:=zO (cutB w 47).1&&((!(cutB w 47).2.2||zO (cutB w 47).2.1)&&decide (lowS w=w))
def hasP (l:List Fld) (n:Str):Bool:=decide (0≤ixP l n)
def txtL:List Fld→List Fld→Str→Str × Int
  |_,[],a=>(a,0)
  | d,p::r,a=>
    if zO p.name=false∨lowS p.name≠p.name then([],6)
    else if hasP d p.name=true then([],9)
    else if yU p.value=false then([],3)
    else txtL (d++[p]) r (a++([59,32]++p.name++[61]++quoM p.value))
def zT (w:Str) (l:List Fld):Str × Int:=if Yf w=false then([],5) else if 8<l.length then([],8) else txtL [] l w
theorem U2: ∀ s:Str,(escS s).length≤2 * s.length
  |[]=>Nat.le_refl _
  | c::s=>by
    have ih:=U2 s
    have e:escS (c::s)=escB c++escS s:=rfl
    have:(escB c).length≤2:=by unfold escB;split<;>simp
    rw [e,List.length_append,List.length_cons];omega
theorem rU (s:Str):(quoM s).length≤2 * s.length+2:=by
  have:=U2 s
  unfold quoM
  split
  · omega
  · simp only [List.length_append,List.length_cons,List.length_nil];omega
theorem Ux {l:List Fld} {i:Nat} (h:i<l.length) (d:Fld) (a:Str):txtL (l.take i) (l.drop i) a=
    if zO (l.getD i d).name=false∨lowS (l.getD i d).name≠(l.getD i d).name then([],6)
    else if hasP (l.take i) (l.getD i d).name=true then([],9)
    else if yU (l.getD i d).value=false then([],3)
    else txtL (l.take (i+1)) (l.drop (i+1)) (a++([59,32]++(l.getD i d).name++[61]++quoM (l.getD i d).value)):=by
  rw [List.drop_eq_getElem_cons h,List.take_succ_eq_append_getElem h,txtL,show l.getD i d=l[i] by simp [h]]
end Go.Proofs.YtalfiafkeijijaaGreatDoor
namespace Go.Proofs.YtalfiafkeijijaaGreatDoor
open Go Go.Sep Go.Ab
set_option maxRecDepth 100000
end Go.Proofs.YtalfiafkeijijaaGreatDoor
namespace Go.Proofs.YtalfiafkeijijaaGreatDoor
open Go Go.Sep Go.Ab
set_option maxRecDepth 100000
def sV (s:Str):Bool:= !decide (70<s.length)&&(yU s&&(decide (Lib.trimS s [32,9]=s)&&decide (s≠[])))
def xI (b:Str) (c:UInt8):Str:=
  if c=47∨c=92 then []
  else if c=9∨vN (c.toNat:Int)=false∨c=34∨c=58 then b++[95]
  else if c=46∧b=[] then b
  else b++[c]
def xM (s:Str):Str:=if(s.foldl xI []).take 40=[] then [102,105,108,101] else(s.foldl xI []).take 40
theorem Vq (s:Str) (i:Nat) (h:i<s.length):(s.take (i+1)).foldl xI []=xI ((s.take i).foldl xI []) (s.getD i 0):=by
  rw [List.take_succ_eq_append_getElem h,List.foldl_append]
  simp [h]
theorem zb7 (s:Str): ∀ b:Str,(s.foldl xI b).length≤b.length+s.length:=by
  induction s with
  |nil=>intro b;simp
  | cons c r ih=>
    intro b
    have h:=ih (xI b c)
    have h2:(xI b c).length≤b.length+1:=by
      unfold xI
      repeat' split
      all_goals simp
    rw [List.foldl_cons,List.length_cons];omega
theorem ZA (c:UInt8) (k:Nat) (h:k<256):(c.toNat:Int)=(k:Int)↔c=UInt8.ofNat k:=by
  constructor
  · intro e
    rw [← UInt8.toNat_inj,UInt8.toNat_ofNat',Nat.mod_eq_of_lt h];omega
  · intro e
    rw [e,UInt8.toNat_ofNat',Nat.mod_eq_of_lt h]
theorem zb9 (b:Str) (c:UInt8):xI b c=if(c.toNat:Int)=47 then [] else if(c.toNat:Int)=92 then [] else if(c.toNat:Int)=9 then b++[95] else if vN (c.toNat:Int)=false then b++[95] else if(c.toNat:Int)=34 then b++[95] else if(c.toNat:Int)=58 then b++[95] else if(c.toNat:Int)=46 then(if(b.length:Int)=0 then b else b++[c]) else b++[c]:=by
  have h0:(b.length:Int)=0↔b=[]:=by rw [← List.length_eq_zero_iff];omega
  have e1:(c.toNat:Int)=47↔c=47:=ZA c 47 (by decide)
  have e2:(c.toNat:Int)=92↔c=92:=ZA c 92 (by decide)
  have e3:(c.toNat:Int)=9↔c=9:=ZA c 9 (by decide)
  have e4:(c.toNat:Int)=34↔c=34:=ZA c 34 (by decide)
  have e5:(c.toNat:Int)=58↔c=58:=ZA c 58 (by decide)
  have e6:(c.toNat:Int)=46↔c=46:=ZA c 46 (by decide)
  simp only [e1,e2,e3,e4,e5,e6,h0]
  unfold xI
  generalize vN (c.toNat:Int)=k
  clear e1 e2 e3 e4 e5 e6 h0
  repeat' split
  all_goals simp_all
theorem zes (s:Str) (hneed:s.length≤1000000):Spc Tryz.prog 21 [.v (.one (.p (.str s)))] [] (.ret (.v (.one (.p (.str ((xM s))))))) []:=by
  refine spcG zJ mixed Tryz.func21 (by kernel_rfl) { nr:=[3],keep:=some [0,2,3,4,5,7,8]} [vM,qL] (by kernel_rfl) ?_
  intro I X hI hX
  refine zH (.code 0 [1,1,0,1,0] ⟨[(8,(.v (.one (.p (.int .i64 0))))),(7,(.v (.one (.p (.int .i64 (I.len (α:=UInt8) s)))))),(3,(.v (.one (.row 0)))),(2,(.v (.one (.p (.str ([]:Str)))))),(0,(.v (.one (.p (.str s)))))],[(.row .byte 5 ([]:Str))],63,none⟩) (by kernel_rfl) ?_
  simp only [zU]
  refine zQ hI zJ mixed [vM,qL] hX [0,3,7,8] (fun(g:Nat × Str)=>match g with|(i,b)=>i≤s.length∧b=(s.take i).foldl xI []) (fun(g:Nat × Str)=>match g with|(i,b)=>⟨[(0,.v (.one (.p (.str s)))),(3,.v (.one (.row 0))),(7,.v (.one (.p (.int .i64 ((I.len (α:=UInt8) s)))))),(8,.v (.one (.p (.int .i64 i))))],[.row .byte 5 b],63,none⟩) (fun(g:Nat × Str)=>match g with|(i,b)=>s.length - i) (0,[]) (by kernel_rfl) (by kernel_rfl) ?_ ?_
  · exact⟨Nat.zero_le _,rfl⟩
  rintro⟨i,b⟩ ⟨h1,h2⟩ A hA
  simp only at hA h1 h2
  refine zH (let y0:=I.b2i (I.get (α:=UInt8) s 0 (Nat.cast i));let y1:=I.inr Go.IntKind.i64 (I.add (Nat.cast i) 1);let y2:=I.few (I.add (I.len (α:=UInt8) b) (I.len (α:=UInt8) ([(I.i2b 95)]:Str))) 140737488355328;let y3:HO:=.row .byte 5 (I.app (α:=UInt8) b ([(I.i2b 95)]:Str));let y4:=I.few (I.add (I.len (α:=UInt8) b) (I.len (α:=UInt8) ([(I.i2b y0)]:Str))) 140737488355328;let y5:HO:=.row .byte 5 (I.app (α:=UInt8) b ([(I.i2b y0)]:Str));.br (I.ilt (Nat.cast i) (I.len (α:=UInt8) s)) (.need (I.inb (Nat.cast i) (I.len (α:=UInt8) s)) (.br (I.ieq y0 47) (.need y1 (.need (A ⟨[(0,(.v (.one (.p (.str s))))),(3,(.v (.one (.row 0)))),(7,(.v (.one (.p (.int .i64 (I.len (α:=UInt8) s)))))),(8,(.v (.one (.p (.int .i64 (I.add (Nat.cast i) 1))))))],[(.row .byte 5 ([]:Str))],63,none⟩) .qed)) (.br (I.ieq y0 92) (.need y1 (.need (A ⟨[(0,(.v (.one (.p (.str s))))),(3,(.v (.one (.row 0)))),(7,(.v (.one (.p (.int .i64 (I.len (α:=UInt8) s)))))),(8,(.v (.one (.p (.int .i64 (I.add (Nat.cast i) 1))))))],[(.row .byte 5 ([]:Str))],63,none⟩) .qed)) (.br (I.ieq y0 9) (.need (I.inr Go.IntKind.u8 95) (.need y2 (.need y1 (.need (A ⟨[(0,(.v (.one (.p (.str s))))),(3,(.v (.one (.row 0)))),(7,(.v (.one (.p (.int .i64 (I.len (α:=UInt8) s)))))),(8,(.v (.one (.p (.int .i64 (I.add (Nat.cast i) 1))))))],[y3],63,none⟩) .qed)))) (.need (I.hid (α:=(Prop)) True) (.br (I.bnot (I.hid (α:=Bool) (vN y0))) (.need (I.inr Go.IntKind.u8 95) (.need y2 (.need y1 (.need (A ⟨[(0,(.v (.one (.p (.str s))))),(3,(.v (.one (.row 0)))),(7,(.v (.one (.p (.int .i64 (I.len (α:=UInt8) s)))))),(8,(.v (.one (.p (.int .i64 (I.add (Nat.cast i) 1))))))],[y3],63,none⟩) .qed)))) (.br (I.ieq y0 34) (.need (I.inr Go.IntKind.u8 95) (.need y2 (.need y1 (.need (A ⟨[(0,(.v (.one (.p (.str s))))),(3,(.v (.one (.row 0)))),(7,(.v (.one (.p (.int .i64 (I.len (α:=UInt8) s)))))),(8,(.v (.one (.p (.int .i64 (I.add (Nat.cast i) 1))))))],[y3],63,none⟩) .qed)))) (.br (I.ieq y0 58) (.need (I.inr Go.IntKind.u8 95) (.need y2 (.need y1 (.need (A ⟨[(0,(.v (.one (.p (.str s))))),(3,(.v (.one (.row 0)))),(7,(.v (.one (.p (.int .i64 (I.len (α:=UInt8) s)))))),(8,(.v (.one (.p (.int .i64 (I.add (Nat.cast i) 1))))))],[y3],63,none⟩) .qed)))) (.br (I.ieq y0 46) (.br (I.ieq (I.len (α:=UInt8) b) 0) (.need y1 (.need (A ⟨[(0,(.v (.one (.p (.str s))))),(3,(.v (.one (.row 0)))),(7,(.v (.one (.p (.int .i64 (I.len (α:=UInt8) s)))))),(8,(.v (.one (.p (.int .i64 (I.add (Nat.cast i) 1))))))],[(.row .byte 5 b)],63,none⟩) .qed)) (.need (I.inr Go.IntKind.u8 y0) (.need y4 (.need y1 (.need (A ⟨[(0,(.v (.one (.p (.str s))))),(3,(.v (.one (.row 0)))),(7,(.v (.one (.p (.int .i64 (I.len (α:=UInt8) s)))))),(8,(.v (.one (.p (.int .i64 (I.add (Nat.cast i) 1))))))],[y5],63,none⟩) .qed))))) (.need (I.inr Go.IntKind.u8 y0) (.need y4 (.need y1 (.need (A ⟨[(0,(.v (.one (.p (.str s))))),(3,(.v (.one (.row 0)))),(7,(.v (.one (.p (.int .i64 (I.len (α:=UInt8) s)))))),(8,(.v (.one (.p (.int .i64 (I.add (Nat.cast i) 1))))))],[y5],63,none⟩) .qed))))))))))))) (.br (I.ilt 40 (I.len (α:=UInt8) b)) (.need (I.cutb 0 40 (I.len (α:=UInt8) b)) (.br (I.ieq (I.sub 40 0) 0) (.fin (.ret (.v (.one (.p (.str ([102,105,108,101]:Str)))))) []) (.fin (.ret (.v (.one (.p (.str (I.cut (α:=UInt8) b 0 40)))))) []))) (.br (I.ieq (I.len (α:=UInt8) b) 0) (.fin (.ret (.v (.one (.p (.str ([102,105,108,101]:Str)))))) []) (.fin (.ret (.v (.one (.p (.str b))))) [])))) (by kernel_rfl) ?_
  simp only [zU]
  subst hI
  simp only [nrmA,nrmB,nrlB,reduceCtorEq]
  have hs:=Vq s i
  have hbl:=zb7 (s.take i) []
  rw [← h2] at hs hbl
  rw [List.length_take,List.length_nil] at hbl
  have hA2:i<s.length→_:=fun h=>hA (i+1,xI b (s.getD i 0)) ⟨by simp only;omega,(hs h).symm⟩ (by simp only;omega)
  have l0:=(s.getD i 0).toNat_lt
  rw [zb9] at hA2
  have hend: ¬ i<s.length→s.foldl xI []=b:=fun h=>by rw [h2,List.take_of_length_le (by omega)]
  have hm: ¬ i<s.length→xM s=if b.take 40=[] then [102,105,108,101] else b.take 40:=fun h=>by unfold xM;rw [hend h]
  have hn:0<b.length→¬ b.take 40=[]:=fun h k=>by have:=congrArg List.length k;rw [List.length_take,List.length_nil] at this;omega
  generalize s.getD i 0=c at *
  (repeat' (first|refine And.intro ?_ ?_|intro _))<;>first|omega|exact True.intro|exact False.elim ‹False›|skip
  all_goals first
    |omega
    |exact⟨by omega,by omega⟩
    |(simp only [List.length_singleton];omega)
    |(rw [hm (by omega),if_neg (hn (by omega))];first|rfl|exact(List.take_of_length_le (by omega)).symm)
    |(rw [hm (by omega),if_pos (by rw [List.eq_nil_of_length_eq_zero (show b.length=0 by omega)];rfl)])
    |(have h:=hA2 (by omega);(repeat(first|rw [if_pos (by first|omega|assumption)] at h|rw [if_neg (by first|omega|assumption|simpa using ‹_=true›)] at h));simp only [Int.natCast_add,Int.natCast_one] at h;exact h)
def Z7 (I:Alg) (args:List D) (hp:List HO):Option CT:=match args,hp with
  |[.v (.one (.p (.str s)))],[]=>(fun(s:Str)=>(some (.one ⟨I.hid (s.length≤1000000),(.ret (.v (.one (.p (.str (I.hid ((xM s)))))))),[]⟩):Option CT)) s
  |_,_=>none
theorem RQ:yh Tryz.prog 21 (Z7 alg):=by
  intro args hp r h
  unfold Z7 at h
  split at h
  · cases h;exact fun hn=>zes _ hn
  · cases h
def zcx:Know Tryz.prog:=⟨21,Z7,RQ⟩
def zcw:Know Tryz.prog:=⟨21,fun I=>yE I (Z7 I),zA RQ⟩
theorem zeu (s:Str) (hneed:s.length≤140737488355328):Spc Tryz.prog 9 [.v (.one (.p (.str s)))] [] (.ret (.v (.one (.p (.bool ((sV s))))))) []:=by
  refine spcG zJ mixed Tryz.func9 (by kernel_rfl) { keep:=some [0,2]} [wW,wV,Qc,Qb] (by kernel_rfl) ?_
  intro I X hI hX
  refine zH (.br (I.ilt 70 (I.len (α:=UInt8) s)) (.fin (.ret (.v (.one (.p (.bool Bool.false))))) []) (.need (I.hid (α:=(Prop)) (LE.le (List.length s) 1000000)) (.br (I.bnot (I.hid (α:=Bool) (yU s))) (.fin (.ret (.v (.one (.p (.bool Bool.false))))) []) (.need (I.hid (α:=(Prop)) True) (.br (I.bnot (I.seq (I.hid (α:=Str) (Go.Lib.trimS s ([32,9]:Str))) s)) (.fin (.ret (.v (.one (.p (.bool Bool.false))))) []) (.fin (.ret (.v (.one (.p (.bool (I.bnot (I.seq s ([]:Str)))))))) [])))))) (by kernel_rfl) ?_
  simp only [zU]
  subst hI
  simp only [nrmA,nrmB,nrlB,reduceCtorEq]
  unfold sV
  have h70:(70<s.length)↔((70:Int)<(s.length:Int)):=by omega
  simp only [h70]
  (repeat' (first|refine And.intro ?_ ?_|intro _))<;>first|omega|exact True.intro|exact False.elim ‹False›|skip
  all_goals first
    |omega
    |(rw [decide_eq_false (by omega),‹yU s=true›,decide_eq_true ‹Lib.trimS s _=s›];cases s<;>simp)
    |(simp_all;done)
def Z8 (I:Alg) (args:List D) (hp:List HO):Option CT:=match args,hp with
  |[.v (.one (.p (.str s)))],[]=>(fun(s:Str)=>(some (.one ⟨I.hid (s.length≤140737488355328),(.ret (.v (.one (.p (.bool (I.hid ((sV s)))))))),[]⟩):Option CT)) s
  |_,_=>none
theorem RS:yh Tryz.prog 9 (Z8 alg):=by
  intro args hp r h
  unfold Z8 at h
  split at h
  · cases h;exact fun hn=>zeu _ hn
  · cases h
def WI:Know Tryz.prog:=⟨9,Z8,RS⟩
def WH:Know Tryz.prog:=⟨9,fun I=>yE I (Z8 I),zA RS⟩
end Go.Proofs.YtalfiafkeijijaaGreatDoor
namespace Go.Proofs.YtalfiafkeijijaaGreatDoor
open Go Go.Sep Go.Ab
set_option maxRecDepth 100000
theorem Ua (m:Str): ∀ (b:Str) (i:Int),xh m b i=if Lib.index b m= -1 then -1 else Lib.index b m+i
  | [],i=>by
    unfold xh Lib.index
    cases m with
    |nil=>simp [List.isPrefixOf]
    |cons c m=>simp [List.isPrefixOf]
  | x ::b,i=>by
    have ih:=Ua m b (i+1)
    have hg:=Lib.index_ge b m
    unfold xh Lib.index
    by_cases h:m.isPrefixOf (x::b)=true
    · rw [if_pos h,if_pos h,if_neg (by decide)];omega
    · rw [if_neg h,if_neg h,ih]
      by_cases k:Lib.index b m= -1
      · simp [k]
      · have h2: ¬ Lib.index b m+1= -1:=by omega
        simp [k,h2];omega
theorem zcu (m b:Str):(0≤xh m b 0)↔Lib.contains b m=true:=by
  have hg:=Lib.index_ge b m
  rw [Ua]
  unfold Lib.contains
  rw [decide_eq_true_iff]
  split<;>omega
def fdW:Str:=[102,111,114,109,45,100,97,116,97]
def nmS:Str:=[110,97,109,101]
def fnS:Str:=[102,105,108,101,110,97,109,101]
def cdS:Str:=[67,111,110,116,101,110,116,45,68,105,115,112,111,115,105,116,105,111,110]
def ctS:Str:=[67,111,110,116,101,110,116,45,84,121,112,101]
def VE (p:Prt):List Fld:=⟨nmS,p.name⟩::(if p.file=[] then [] else [⟨fnS,p.file⟩])
def yL (p:Prt):Str × Int:=zT fdW (VE p)
def xg (p:Prt):List Fld × Int:=
  if p.file≠[]∧xM p.file≠p.file then([],6)
  else if(yL p).2≠0 then([],(yL p).2)
  else(⟨cdS,(yL p).1⟩::(if p.type=[] then [] else [⟨ctS,p.type⟩]),0)
def yD:List Fld→Str→Str × Int
  |[],a=>(a,0)
  |f::r,a=>if(textF f).2≠0 then([],(textF f).2) else yD r (a++((textF f).1++[13,10]))
def vw (b:Str) (p:Prt):Bool:=Lib.contains ([13,10]++p.bytes) ([13,10]++([45,45]++b))
def yC (b:Str):List Prt→Str→Str × Int
  |[],a=>(a++([45,45]++b++[45,45,13,10]),0)
  | p::r,a=>
    if vw b p=true then([],15)
    else if(xg p).2≠0 then([],(xg p).2)
    else if(yD (xg p).1 (a++([45,45]++b++[13,10]))).2≠0 then([],(yD (xg p).1 (a++([45,45]++b++[13,10]))).2)
    else yC b r ((yD (xg p).1 (a++([45,45]++b++[13,10]))).1++[13,10]++p.bytes++[13,10])
def vY (b:Str) (l:List Prt):Str × Int:=if sV b=false then([],5) else if 12<l.length then([],8) else yC b l []
theorem Vf {b:Str} {l:List Prt} {i:Nat} (h:i<l.length) (d:Prt) (a:Str):yC b (l.drop i) a=
    if vw b (l.getD i d)=true then([],15)
    else if(xg (l.getD i d)).2≠0 then([],(xg (l.getD i d)).2)
    else if(yD (xg (l.getD i d)).1 (a++([45,45]++b++[13,10]))).2≠0 then([],(yD (xg (l.getD i d)).1 (a++([45,45]++b++[13,10]))).2)
    else yC b (l.drop (i+1)) ((yD (xg (l.getD i d)).1 (a++([45,45]++b++[13,10]))).1++[13,10]++(l.getD i d).bytes++[13,10]):=by
  rw [List.drop_eq_getElem_cons h,yC,show l.getD i d=l[i] by simp [h]]
theorem zaT {l:List Fld} {i:Nat} (h:i<l.length) (d:Fld) (a:Str):yD (l.drop i) a=
    if(textF (l.getD i d)).2≠0 then([],(textF (l.getD i d)).2) else yD (l.drop (i+1)) (a++((textF (l.getD i d)).1++[13,10])):=by
  rw [List.drop_eq_getElem_cons h,yD,show l.getD i d=l[i] by simp [h]]
theorem zak (B:Nat): ∀ (l d:List Fld) (a:Str),(∀ f ∈ l,f.name.length≤B∧f.value.length≤B)→(txtL d l a).1.length≤a.length+l.length * (3 * B+5)
  |[],d,a,_=>by simp [txtL]
  | p ::r,d,a,h=>by
    have hp:=h p (List.mem_cons_self ..)
    have hq:=rU p.value
    have ih:=zak B r (d++[p]) (a++([59,32]++p.name++[61]++quoM p.value)) (fun f hf=>h f (List.mem_cons_of_mem _ hf))
    rw [txtL]
    split
    · exact Nat.zero_le _
    split
    · exact Nat.zero_le _
    split
    · exact Nat.zero_le _
    · have e:(r.length+1) * (3 * B+5)=r.length * (3 * B+5)+(3 * B+5):=Nat.succ_mul _ _
      simp only [List.length_append,List.length_cons,List.length_nil] at ih ⊢
      omega
theorem Vh {B:Nat} {w:Str} {l:List Fld} (hl:l.length≤2) (h: ∀ f ∈ l,f.name.length≤B∧f.value.length≤B):(zT w l).1.length≤w.length+2 * (3 * B+5):=by
  unfold zT
  split
  · exact Nat.zero_le _
  split
  · exact Nat.zero_le _
  · have:=zak B l [] w h
    have:l.length * (3 * B+5)≤2 * (3 * B+5):=Nat.mul_le_mul_right _ hl
    omega
theorem zaP {p:Prt} (hn:p.name.length≤10000) (hf:p.file.length≤10000):(VE p).length≤2∧∀ f ∈ VE p,f.name.length≤10000∧f.value.length≤10000:=by
  have e1:nmS.length=4:=rfl
  have e2:fnS.length=8:=rfl
  unfold VE
  split
  · exact⟨by simp,fun f h=>by rw [List.mem_singleton.1 h];exact⟨by show nmS.length≤_;omega,hn⟩⟩
  · refine⟨by simp,fun f h=> ?_⟩
    rcases List.mem_cons.1 h with rfl|h
    · exact⟨by show nmS.length≤_;omega,hn⟩
    · rw [List.mem_singleton.1 h];exact⟨by show fnS.length≤_;omega,hf⟩
structure zeT (b:Str) (l:List Prt) (i:Nat) (a:Str) (p:Prt) (r:Str × Int):Prop where
  f1:vw b p=true→[]=r.1∧(15:Int)=r.2
  f2:vw b p=false→¬ p.file=[]→¬ xM p.file=p.file→[]=r.1∧(6:Int)=r.2
  f3:vw b p=false→(p.file=[]∨xM p.file=p.file)→¬ (yL p).2=0→[]=r.1∧(yL p).2=r.2
  f4:vw b p=false→(p.file=[]∨xM p.file=p.file)→(yL p).2=0→¬ (textF ⟨cdS,(yL p).1⟩).2=0→[]=r.1∧(textF ⟨cdS,(yL p).1⟩).2=r.2
  f5:vw b p=false→(p.file=[]∨xM p.file=p.file)→(yL p).2=0→(textF ⟨cdS,(yL p).1⟩).2=0→¬ p.type=[]→¬ (textF ⟨ctS,p.type⟩).2=0→[]=r.1∧(textF ⟨ctS,p.type⟩).2=r.2
  f6:vw b p=false→(p.file=[]∨xM p.file=p.file)→(yL p).2=0→(textF ⟨cdS,(yL p).1⟩).2=0→p.type=[]→
    yC b (l.drop (i+1)) (a++([45,45]++b++[13,10])++((textF ⟨cdS,(yL p).1⟩).1++[13,10])++[13,10]++p.bytes++[13,10])=r
  f7:vw b p=false→(p.file=[]∨xM p.file=p.file)→(yL p).2=0→(textF ⟨cdS,(yL p).1⟩).2=0→¬ p.type=[]→(textF ⟨ctS,p.type⟩).2=0→
    yC b (l.drop (i+1)) (a++([45,45]++b++[13,10])++((textF ⟨cdS,(yL p).1⟩).1++[13,10])++((textF ⟨ctS,p.type⟩).1++[13,10])++[13,10]++p.bytes++[13,10])=r
theorem Uw {b:Str} {l:List Prt} {i:Nat} (h:i<l.length) (a:Str) {r:Str × Int} (hr:yC b (l.drop i) a=r):zeT b l i a (l.getD i ⟨[],[],[],[]⟩) r:=by
  rw [Vf h ⟨[],[],[],[]⟩ a] at hr
  generalize l.getD i ⟨[],[],[],[]⟩=p at *
  have hh:(p.file=[]∨xM p.file=p.file)→¬ (p.file≠[]∧xM p.file≠p.file):=fun k ⟨e1,e2⟩=>k.elim e1 e2
  have h0:(p.file=[]∨xM p.file=p.file)→(yL p).2=0→xg p=(⟨cdS,(yL p).1⟩::(if p.type=[] then [] else [⟨ctS,p.type⟩]),0):=fun k e=>by
    unfold xg
    rw [if_neg (hh k),if_neg (fun q=>q e)]
  have h2:(p.file=[]∨xM p.file=p.file)→(yL p).2=0→(xg p).2=0:=fun k e=>by rw [h0 k e]
  refine⟨fun e=> ?_,fun e k1 k2=> ?_,fun e k k3=> ?_,fun e k k3 k4=> ?_,fun e k k3 k4 k5 k6=> ?_,fun e k k3 k4 k5=> ?_,fun e k k3 k4 k5 k6=> ?_⟩
  · rw [if_pos e] at hr;subst hr;exact⟨rfl,rfl⟩
  · have h1:xg p=([],6):=by unfold xg;rw [if_pos ⟨k1,k2⟩]
    rw [if_neg (by rw [e];decide),h1,if_pos (by decide)] at hr;subst hr;exact⟨rfl,rfl⟩
  · have h1:xg p=([],(yL p).2):=by unfold xg;rw [if_neg (hh k),if_pos k3]
    rw [if_neg (by rw [e];decide),h1,if_pos k3] at hr;subst hr;exact⟨rfl,rfl⟩
  · have hL:yD (xg p).1 (a++([45,45]++b++[13,10]))=([],(textF ⟨cdS,(yL p).1⟩).2):=by rw [h0 k k3];show yD (_::_) _=_;rw [yD,if_pos k4]
    rw [if_neg (by rw [e];decide),if_neg (fun q=>q (h2 k k3)),hL,if_pos k4] at hr;subst hr;exact⟨rfl,rfl⟩
  · have hL:yD (xg p).1 (a++([45,45]++b++[13,10]))=([],(textF ⟨ctS,p.type⟩).2):=by rw [h0 k k3,if_neg k5];show yD (_::_) _=_;rw [yD,if_neg (fun q=>q k4),yD,if_pos k6]
    rw [if_neg (by rw [e];decide),if_neg (fun q=>q (h2 k k3)),hL,if_pos k6] at hr;subst hr;exact⟨rfl,rfl⟩
  · have hL:yD (xg p).1 (a++([45,45]++b++[13,10]))=(a++([45,45]++b++[13,10])++((textF ⟨cdS,(yL p).1⟩).1++[13,10]),0):=by rw [h0 k k3,if_pos k5];show yD (_::_) _=_;rw [yD,if_neg (fun q=>q k4),yD]
    rw [if_neg (by rw [e];decide),if_neg (fun q=>q (h2 k k3)),hL,if_neg (fun q=>q rfl)] at hr;exact hr
  · have hL:yD (xg p).1 (a++([45,45]++b++[13,10]))=(a++([45,45]++b++[13,10])++((textF ⟨cdS,(yL p).1⟩).1++[13,10])++((textF ⟨ctS,p.type⟩).1++[13,10]),0):=by rw [h0 k k3,if_neg k5];show yD (_::_) _=_;rw [yD,if_neg (fun q=>q k4),yD,if_neg (fun q=>q k6),yD]
    rw [if_neg (by rw [e];decide),if_neg (fun q=>q (h2 k k3)),hL,if_neg (fun q=>q rfl)] at hr;exact hr
theorem X3 (f:Fld):(textF f).1.length≤200:=by
  unfold textF
  split
  · exact Nat.zero_le _
  split
  · exact Nat.zero_le _
  split
  · exact Nat.zero_le _
  · rename_i h _
    simp only [List.length_append,List.length_cons,List.length_nil];omega
end Go.Proofs.YtalfiafkeijijaaGreatDoor
namespace Go.Proofs
open Go.Shelf
def Tryz.lays186_ren:Go.Shelf.Ren:=⟨fun|186=>10|185=>20|187=>32|115=>33|253=>34|224=>35|254=>36|255=>51|291=>52|n=>n,fun|37=>25|4=>4|3=>3|0=>0|5=>5|46=>53|9=>9|146=>64|51=>63|n=>n,fun|1=>0|n=>n⟩
theorem Tryz.lays186:Go.Proofs.Lays.n186 Tryz.prog Tryz.lays186_ren:= {
  mixed:=by kernel_rfl
  f115:=Tryz.func33.trans (congrArg some (by kernel_rfl))
  f185:=Tryz.func20.trans (congrArg some (by kernel_rfl))
  f186:=Tryz.func10.trans (congrArg some (by kernel_rfl))
  f187:=Tryz.func32.trans (congrArg some (by kernel_rfl))
  f224:=Tryz.func35.trans (congrArg some (by kernel_rfl))
  f253:=Tryz.func34.trans (congrArg some (by kernel_rfl))
  f254:=Tryz.func36.trans (congrArg some (by kernel_rfl))
  f255:=Tryz.func51.trans (congrArg some (by kernel_rfl))
  f291:=Tryz.func52.trans (congrArg some (by kernel_rfl))
  t0:=Tryz.underlying0
  a0:=Tryz.isAgg0
  z0:=Tryz.sizeOf0
  v0:=Tryz.zeroValue0
  t3:=Tryz.underlying3
  a3:=Tryz.isAgg3
  z3:=Tryz.sizeOf3
  v3:=Tryz.zeroValue3
  t4:=Tryz.underlying4
  a4:=Tryz.isAgg4
  z4:=Tryz.sizeOf4
  v4:=Tryz.zeroValue4
  t5:=Tryz.underlying5
  a5:=Tryz.isAgg5
  z5:=Tryz.sizeOf5
  v5:=Tryz.zeroValue5
  t9:=Tryz.underlying9
  a9:=Tryz.isAgg9
  z9:=Tryz.sizeOf9
  v9:=Tryz.zeroValue9
  t37:=Tryz.underlying25
  a37:=Tryz.isAgg25
  z37:=Tryz.sizeOf25
  v37:=Tryz.zeroValue25
  t46:=Tryz.underlying53
  a46:=Tryz.isAgg53
  z46:=Tryz.sizeOf53
  v46:=Tryz.zeroValue53
  t51:=Tryz.underlying63
  a51:=Tryz.isAgg63
  z51:=Tryz.sizeOf63
  v51:=Tryz.zeroValue63
  t146:=Tryz.underlying64
  a146:=Tryz.isAgg64
  z146:=Tryz.sizeOf64
  v146:=Tryz.zeroValue64
  g1:=by kernel_rfl}
open Go.Proofs Go.RowKit Go.Lib in
theorem Tryz.bytes_Contains_at (a1 a2:Addr) (n c1 k c2:Nat) (xs ys:List Int) (m:Int) (w:World) (hx:xs.length=n) (hy:ys.length=k) (hr1: ∀ x ∈ xs,0≤x∧x<256) (hr2: ∀ y ∈ ys,0≤y∧y<256) (hc1: ∀ i,i<n→w.cell? (a1.add i)=some (.int .u8 (xs.getD i 0))) (hc2: ∀ i,i<k→w.cell? (a2.add i)=some (.int .u8 (ys.getD i 0))) (hcap:n≤c1) (hs:n<4294967281) (hk:k≤9223372036854775807) (hm:w.cell? ⟨0,0,none⟩=some (.int .i64 m)):
    Calls Tryz.prog 10 #[.slice (some a1) n c1,.slice (some a2) k c2] w fun e w'=>e=.returned (.bool (Lib.contains (Lib.bytesOf xs) (Lib.bytesOf ys)))∧∃ q,w'=w.drewN q:=Any.bytes_Contains_at Tryz.lays186 a1 a2 n c1 k c2 xs ys m w hx hy hr1 hr2 hc1 hc2 hcap hs hk hm
end Go.Proofs
namespace Go.Ab
open Go Go.Sep
variable [Facts]
theorem Spc.zaL {Pr:Program} {f:Nat} {args:List D} {hp:List HO} {d:D} (hf: ∃ fn,Pr.funcs[f]? =some fn∧(fn.name == "runtime.NumGoroutine")=false∧fn.body.isNone=false)
    (h: ∀ (S:Frz) (bs:List Value) (w:World) (vs:List Value),S.on w→MDs S bs args vs→∃ v,MD S bs d v∧Calls Pr f vs.toArray w fun e w'=>e=.returned v∧RowKit.Below w.heap.size w w'):Spc Pr f args hp (.ret d) hp:=by
  refine⟨hf,fun S K fr w vs hH hM hA=> ?_⟩
  obtain⟨v,hv,hc⟩:=h S _ w vs (At.frz hA) hM
  refine hc.mono fun e w' he=> ?_
  obtain⟨he,hb⟩:=he
  subst he
  exact⟨S,K,Frz.le.refl S,Ext.refl _,hH,hA.keep (YX hb),hv⟩
theorem XO {S:Frz} {w:World} (hS:S.on w) {x:Str} {v:Value} (h:MP S (.list .byte x) v) (hx:x≠[]):
    ∃ a cap,v=.slice (some a) x.length cap∧x.length≤cap∧∀ i,i<x.length→w.cell? (a.add i)=some (.int .u8 ((Lib.numsL x).getD i 0)):=by
  cases h with
  | list _ _ ao cap vs hlen hr hxs=>
    obtain⟨ao',cap',e,h1,h2,h3,h4,h5⟩:=hr w hS
    cases e
    have hl:vs.length=x.length:=by simpa [U.size] using hlen
    have hv: ∀ i (hi:i<x.length),vs[i]? =some (.int .u8 ((x[i].toNat:Nat):Int)):=fun i hi=>by
      have hi':i<vs.length:=by omega
      have h:=hxs i x[i] 0 (.int .u8 ((x[i].toNat:Nat):Int)) vs[i] (List.getElem?_eq_getElem hi) rfl (by simp [U.size])
      rw [List.getElem?_eq_getElem hi']
      generalize vs[i]=z at h
      cases h;rfl
    have hp:0<x.length:=List.length_pos_iff.2 hx
    obtain⟨a,rfl,hsp⟩:=(h5 0 _ (hv 0 hp)).1
    refine⟨a,cap,rfl,h1,fun i hi=> ?_⟩
    rw [uS hsp,(h5 i _ (hv i hi)).2]
    simp [Lib.numsL,hi]
theorem Xv (x:Str): ∀ n ∈ Lib.numsL x,0≤n∧n<256:=fun n h=>by
  obtain⟨c,_,rfl⟩:=List.mem_map.1 h
  have:=c.toNat_lt
  omega
end Go.Ab
namespace Go.Proofs.YtalfiafkeijijaaGreatDoor
open Go Go.Sep Go.Ab
set_option maxRecDepth 100000
theorem zbp (x y:Str) (hneed:(x≠[]∧x.length≤1000000)∧y≠[]∧y.length≤1000000):Spc Tryz.prog 10 [.v (.one (.p (.list .byte x))),.v (.one (.p (.list .byte y)))] [] (.ret (.v (.one (.p (.bool ((Lib.contains x y))))))) []:=by
  obtain⟨⟨hx,hxl⟩,hy,hyl⟩:=hneed
  refine Spc.zaL ⟨_,Tryz.func10,by kernel_rfl,by kernel_rfl⟩ fun S bs w vs hS hM=> ?_
  obtain⟨v,r,rfl⟩: ∃ v r,vs=v::r:=by cases vs with|nil=>exact hM.elim|cons v r=>exact⟨v,r,rfl⟩
  obtain⟨h1,hM⟩:=hM
  obtain⟨v2,r2,rfl⟩: ∃ v r2,r=v::r2:=by cases r with|nil=>exact hM.elim|cons v r=>exact⟨v,r,rfl⟩
  obtain⟨h2,hM⟩:=hM
  obtain rfl:r2=[]:=by cases r2 with|nil=>rfl|cons v r=>exact hM.elim
  obtain⟨m,hm⟩:=hS.facts
  obtain⟨a1,c1,rfl,hc1,hb1⟩:=XO hS h1 hx
  obtain⟨a2,c2,rfl,hc2,hb2⟩:=XO hS h2 hy
  refine⟨.bool (Lib.contains x y),.bool _,?_⟩
  have hc:=Tryz.bytes_Contains_at a1 a2 x.length c1 y.length c2 (Lib.numsL x) (Lib.numsL y) m w (Lib.numsL_length x) (Lib.numsL_length y) (Xv x) (Xv y) hb1 hb2 hc1 (by omega) (by omega) hm
  rw [Lib.bytesOf_numsL,Lib.bytesOf_numsL] at hc
  refine hc.mono fun e w' h=> ?_
  obtain⟨he,q,rfl⟩:=h
  exact⟨he,below_drewN (RowKit.Below.refl _ _) _⟩
def uj (I:Alg) (args:List D) (hp:List HO):Option CT:=match args,hp with
  |[.v (.one (.p (.list .byte x))),.v (.one (.p (.list .byte y)))],[]=>(fun(x y:Str)=>(some (.one ⟨I.hid ((x≠[]∧x.length≤1000000)∧y≠[]∧y.length≤1000000),(.ret (.v (.one (.p (.bool (I.hid ((Lib.contains x y)))))))),[]⟩):Option CT)) x y
  |_,_=>none
theorem YR:yh Tryz.prog 10 (uj alg):=by
  intro args hp r h
  unfold uj at h
  split at h
  · cases h;exact fun hn=>zbp _ _ hn
  · cases h
def rC:Know Tryz.prog:=⟨10,uj,YR⟩
def ru:Know Tryz.prog:=⟨10,fun I=>yE I (uj I),zA YR⟩
end Go.Proofs.YtalfiafkeijijaaGreatDoor
