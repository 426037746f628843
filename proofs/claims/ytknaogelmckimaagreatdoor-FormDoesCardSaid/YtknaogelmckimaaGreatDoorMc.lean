/- Texts of this proof, one behind the other: AbP AbO ShpE Tab Evt InZ Shelf Lib ChrA ChrB ChrC LnL Fnd FldA FldB FldG FldD FldE ParL Base SeekL SeekM FrmL ChrD FrmA. -/
import Derived.Deep.LoopGhost
import Derived.Recover
import Derived.KernelRfl
import Derived.Test.YtknaogelmckimaaGreatDoorProg
import Derived.WalkKit
import Derived.WideShapes
import Derived.ChangeArms
import Derived.SizedLaws
import Derived.Shelf.Strings.SlTrimAscii
import Derived.Shelf.Strings.Trim
import Derived.Shelf.Small.Utf8
import Derived.Shelf.Small.Strs
import Derived.Shelf.Strings.Search1
import Derived.Shelf.Strings.Search2
import Derived.Shelf.Strings.Search3
import Derived.Shelf.Strings.Cut
import Derived.Shelf.Strings.Count
import Derived.Shelf.LaysM
import Derived.Shelf.Strings.Shaped
import Derived.Shelf.Strings.Prefix
import Derived.Shelf.Strings.Runes
import Derived.Shelf.Strings.AsciiSet
import Derived.Shelf.Unicode.DecodeSlow
import Derived.Below
import Derived.Test.YtknaogelmckimaaGreatDoorMb
set_option linter.all false
namespace Go.Ab
open Go Go.Sep
variable [Facts]
theorem Rz {α:Type} (x:α):alg.hid x=x:=rfl
theorem zgy (k:IntKind) (x y:Int):alg.shl k x y=k.wrap (x * 2 ^ (min y.toNat k.bits)):=rfl
theorem zgx (x y:Int):alg.shr x y=x.fdiv (2 ^ (min y.toNat 64)):=rfl
theorem zdy (op:BinOp) (k:IntKind) (x y:Int):alg.bits op k x y=k.wrap (match op with
    |.and=>(BitVec.ofInt k.bits x&&& BitVec.ofInt k.bits y).toNat
    |.or=>(BitVec.ofInt k.bits x|||BitVec.ofInt k.bits y).toNat
    |_=>(BitVec.ofInt k.bits x ^^^ BitVec.ofInt k.bits y).toNat:Nat):=rfl
theorem zfo:IntKind.i64.min= -9223372036854775808:=by decide
theorem zfp:IntKind.i64.max=9223372036854775807:=by decide
theorem zhU:IntKind.u8.min=0:=by decide
theorem zhV:IntKind.u8.max=255:=by decide
theorem Qx (c:UInt8):UInt8.ofNat ((c.toNat:Int)).toNat=c:=by simp
theorem xP (c d:UInt8):((c.toNat:Int)=(d.toNat:Int))↔c=d:=by
  constructor
  · intro h;exact UInt8.toNat_inj.1 (by omega)
  · intro h;rw [h]
structure CR where
  need:Prop
  out:AOut
  hp:List HO
inductive CT where
  |one (r:CR)
  |br (b:Bool) (t f:CT)
def CT.Good (Pr:Program) (f:Nat) (args:List D) (hp:List HO):CT→Prop
  |.one r=>r.need→Spc Pr f args hp r.out r.hp
  |.br b t e=>(b=true→t.Good Pr f args hp)∧(b=false→e.Good Pr f args hp)
def CT.map (g:CR→CR):CT→CT
  |.one r=>.one (g r)
  |.br b t e=>.br b (t.map g) (e.map g)
def CT.mapO (g:CR→Option CR):CT→Option CT
  |.one r=>match g r with|some r=>some (.one r)|none=>none
  |.br b t e=>match t.mapO g,e.mapO g with|some t,some e=>some (.br b t e)|_,_=>none
def CT.tree (k:CR→Tree):CT→Tree
  |.one r=>k r
  |.br b t e=>.br b (t.tree k) (e.tree k)
theorem CT.Good.map {Pr:Program} {f f':Nat} {args args':List D} {hp hp':List HO} {g:CR→CR} (h: ∀ r:CR,(r.need→Spc Pr f args hp r.out r.hp)→(g r).need→Spc Pr f' args' hp' (g r).out (g r).hp): ∀ {c:CT},c.Good Pr f args hp→(c.map g).Good Pr f' args' hp'
  |.one r,hc=>h r hc
  |.br _ _ _,hc=>⟨fun e=>CT.Good.map h (hc.1 e),fun e=>CT.Good.map h (hc.2 e)⟩
theorem CT.Good.mapO {Pr:Program} {f f':Nat} {args args':List D} {hp hp':List HO} {g:CR→Option CR} (h: ∀ r r':CR,g r=some r'→(r.need→Spc Pr f args hp r.out r.hp)→r'.need→Spc Pr f' args' hp' r'.out r'.hp): ∀ {c c':CT},c.mapO g=some c'→c.Good Pr f args hp→c'.Good Pr f' args' hp'
  | .one r,c',e,hc=>by
    simp only [CT.mapO] at e
    split at e
    · rename_i r' hr;cases e;exact h r r' hr hc
    · cases e
  | .br b t f,c',e,hc=>by
    simp only [CT.mapO] at e
    split at e
    · rename_i t' f' ht hf;cases e;exact⟨fun e=>CT.Good.mapO h ht (hc.1 e),fun e=>CT.Good.mapO h hf (hc.2 e)⟩
    · cases e
structure Know (Pr:Program) where
  f:Nat
  c:Alg→List D→List HO→Option CT
  ok: ∀ args hp r,c alg args hp=some r→r.Good Pr f args hp
def zh0:List D→List Nat
  |[]=>[]
  |d::ds=>zgZ d++zh0 ds
def Tq (hp:List HO) (args:List D):List Nat:=gather hp 60 (zh0 args) []
def frameC (c:List D→List HO→Option CT) (args:List D) (hp:List HO):Option CT:=
  match vH (Tq hp args) hp with
  |none=>none
  | some (os,hpr)=>match c (args.map (D.ren fun q=>idx q (Tq hp args) 0)) (os.map (HO.ren fun q=>idx q (Tq hp args) 0)) with
    |none=>none
    |some r=>some (r.map fun r=>⟨r.need,r.out.ren (Y8 (Tq hp args) hp.length),tN (Y8 (Tq hp args) hp.length) (Tq hp args) r.hp hpr⟩)
def Vp (I:Alg) (c:List D→List HO→Option CT):Nat→List D→List HO→Option CT
  |0,args,hp=>frameC c args hp
  | n + 1,args,hp=>match nth hp n with
    | some (.row u E l)=>(match Vp I c n (args.map (D.frz I n u l)) (setN (hp.map (HO.frz I n u l)) n .gone) with
      | some r=>r.mapO fun r=>(match noLA r.out,Qy r.hp with
        |true,true=>some ⟨r.need,r.out,setN r.hp n (.row u E l)⟩
        |_,_=>none)
      |none=>none)
    |_=>Vp I c n args hp
def zA (I:Alg) (c:List D→List HO→Option CT) (args:List D) (hp:List HO):Option CT:=Vp I c hp.length args hp
def ask {Pr:Program} (I:Alg):List (Know Pr)→Nat→List D→List HO→Option CT
  |[],_,_,_=>none
  | k::r,f,args,hp=>match Nat.beq k.f f with
    |true=>(match frameC (k.c I) args hp with|some x=>some x|none=>ask I r f args hp)
    |false=>ask I r f args hp
def drive (q:Nat→List D→List HO→Option CT):Tree→Tree
  |.need p t=>.need p (drive q t)
  |.br b t f=>.br b (drive q t) (drive q f)
  | .call f args hp k=>UM hp fun hp=>match q f args hp with
    |some r=>r.tree fun r=>.need r.need (UM r.hp fun h=>drive q (k r.out h))
    |none=>.call f args hp fun o h=>drive q (k o h)
  |.code c st k=>.code c st k
  |.fin o hp=>.fin o hp
  |.both t f=>.both (drive q t) (drive q f)
  |.qed=>.qed
  |.stop n=>.stop n
def zy (Pr:Program) (f:Nat) (c:List D→List HO→Option CT):Prop:=∀ args hp r,c args hp=some r→r.Good Pr f args hp
section
variable {Pr:Program} {T:Tab} {X:Ctx} {G:AOut→List HO→Prop} {a:Act} {w:World}
theorem Vx {f:Nat} {c:List D→List HO→Option CT} (h:zy Pr f c):zy Pr f (frameC c):=by
  intro args hp r hr
  unfold frameC at hr
  split at hr
  · cases hr
  · rename_i os hpr ht
    split at hr
    · cases hr
    · rename_i r0 hc
      cases hr
      exact CT.Good.map (g:=fun r=>⟨r.need,r.out.ren (Y8 (Tq hp args) hp.length),tN (Y8 (Tq hp args) hp.length) (Tq hp args) r.hp hpr⟩) (fun r hs hn=>(hs hn).frame _ ht rfl rfl) (h _ _ _ hc)
theorem rQ {f:Nat} {c:List D→List HO→Option CT} (h:zy Pr f c): ∀ n,zy Pr f (Vp alg c n)
  |0=>Vx h
  | n + 1 =>by
    intro args hp r hr
    unfold Vp at hr
    split at hr
    · rename_i u E l ho
      rw [zV] at ho
      split at hr
      · rename_i r0 hc
        refine CT.Good.mapO (fun r r' hrr hs hn=> ?_) hr (rQ h n _ _ _ hc)
        split at hrr
        · rename_i h1 h2
          cases hrr
          exact Spc.zkH (hs hn) ho rfl rfl h1 h2
        · cases hrr
      · cases hr
    · exact rQ h n _ _ _ hr
theorem zf {f:Nat} {c:List D→List HO→Option CT} (h:zy Pr f c):zy Pr f (zA alg c):=fun args hp=>rQ h hp.length args hp
theorem sS: ∀ {kn:List (Know Pr)} {f:Nat},zy Pr f (ask alg kn f)
  |[],f=>fun args hp r hr=>by cases hr
  | k ::r,f=>fun args hp x hr=>by
    unfold ask at hr
    split at hr
    · rename_i hb
      obtain rfl:=Nat.eq_of_beq_eq_true hb
      split at hr
      · rename_i y hy;cases hr;exact Vx k.ok args hp _ hy
      · exact sS args hp x hr
    · exact sS args hp x hr
theorem CT.xK {f:Nat} {args:List D} {hp:List HO} {k:AOut→List HO→Tree} {k':AOut→List HO→Tree} (ih: ∀ o h,(k' o h).ok Pr X G→(k o h).ok Pr X G): ∀ {c:CT},c.Good Pr f args hp→(c.tree fun r=>.need r.need (k' r.out r.hp)).ok Pr X G→∃ out hp',Spc Pr f args hp out hp'∧(k out hp').ok Pr X G
  |.one r,hc,h=>⟨r.out,r.hp,hc h.1,ih _ _ h.2⟩
  | .br b t e,hc,h=>by
    cases b with
    |true=>exact CT.xK ih (hc.1 rfl) (h.1 rfl)
    |false=>exact CT.xK ih (hc.2 rfl) (h.2 rfl)
theorem Yw {q:Nat→List D→List HO→Option CT} (hq: ∀ f,zy Pr f (q f)): ∀ {t:Tree},(drive q t).ok Pr X G→t.ok Pr X G:=by
  intro t
  induction t with
  |need p t ih=>exact fun h=>⟨h.1,ih h.2⟩
  |br b t f ih1 ih2=>exact fun h=>⟨fun e=>ih1 (h.1 e),fun e=>ih2 (h.2 e)⟩
  | call f args hp k ih=>
    intro h
    simp only [drive,VA] at h
    split at h
    · rename_i r hr;exact CT.xK (k':=fun o h=>drive q (k o h)) (fun o h=>ih o h) (hq f args hp r hr) h
    · obtain⟨o,hp',h1,h2⟩:=h;exact⟨o,hp',h1,ih _ _ h2⟩
  |code c st k ih=>exact fun h=>h
  |fin o hp=>exact fun h=>h
  |both t f ih1 ih2=>exact fun h=>⟨ih1 h.1,ih2 h.2⟩
  |qed=>exact fun h=>h
  |stop n=>exact fun h=>h
structure Rt where
  B:Code
  K:AEx→St→Tree
def xQ (fn:Func):Code:=match fn.body with|some c=>c|none=>.skip
def loopBody:Code→Code
  |.loop b=>b
  |c=>c
def cAt:List Nat→Code→Code
  |[],c=>c
  | n::p,c=>match c with
    |.seq a b=>(match n with|0=>cAt p a|_=>cAt p b)
    |.cond _ t e=>(match n with|0=>cAt p t|_=>cAt p e)
    |.block _ b=>cAt p b
    |c=>c
def kAt (I:Alg) (T:Tab) (cfg:Cfg):List Nat→Code→(AEx→St→Tree)→AEx→St→Tree
  |[],_,K=>K
  | n ::p,c,K=>match c with
    |.seq a b=>(match n with|0=>kAt I T cfg p a (fun e st=>match e with|.normal=>vc I T cfg b K st|e=>K e st)|_=>kAt I T cfg p b K)
    |.cond _ t e=>(match n with|0=>kAt I T cfg p t K|_=>kAt I T cfg p e K)
    | .block id b=>kAt I T cfg p b (fun e st=>match e with
      |.exit j=>(match Nat.beq j id with|true=>K .normal st|false=>K (.exit j) st)
      |e=>K e st)
    |_=>K
def rtAt:Nat→List Rt→Rt
  |_,[]=>⟨.skip,fun _ _=>.stop 50⟩
  |0,r::_=>r
  |n+1,_::l=>rtAt n l
def leaf (I:Alg) (T:Tab) (cfg:Cfg) (R:List Rt) (i:Nat) (p:List Nat) (st:St):Tree:=
  .code (cAt p (rtAt i R).B) st (kAt I T cfg p (rtAt i R).B (rtAt i R).K)
def zkP (I:Alg) (T:Tab) (cfg:Cfg) (c:Code) (K:AEx→St→Tree) (st:St):Tree:=
  match c with
  |.region _ ops draw=>regT I T cfg ops draw K (st.tidy cfg.keep)
  |c=>vc I T cfg c K st
def go (I:Alg) (T:Tab) (cfg:Cfg) (kn:List (Know Pr)) (R:List Rt) (i:Nat) (p:List Nat) (st:St):Tree:=
  drive (ask I kn) (zkP I T cfg (cAt p (rtAt i R).B) (kAt I T cfg p (rtAt i R).B (rtAt i R).K) st)
def cutM (cfg:Cfg) (k0:Nat) (dom:List Nat) (st:St):Option St:=St.cut cfg.fsl k0 dom (Zj cfg.mv st)
def zj7 (cfg:Cfg) (k0:Nat) (dom:List Nat) (A:St→Prop) (k:AEx→St→Tree):AEx→St→Tree:=fun e st=>
  match e with
  |.normal=>(match cutM cfg k0 dom st with|some s=>.need (A s) .qed|none=>.stop 19)
  |e=>k e st
def round (I:Alg) (T:Tab) (cfg:Cfg) (k0:Nat) (dom:List Nat) (A:St→Prop) (R:List Rt) (i:Nat) (p:List Nat):Rt:=
  ⟨loopBody (cAt p (rtAt i R).B),zj7 cfg k0 dom A (kAt I T cfg p (rtAt i R).B (rtAt i R).K)⟩
inductive PT where
  |need (p:Prop) (t:PT)
  |br (b:Bool) (t f:PT)
  |code (i:Nat) (p:List Nat) (st:St)
  |fin (o:AOut) (hp:List HO)
  |both (t f:PT)
  |qed
  |stop (n:Nat)
def PT.inst (I:Alg) (T:Tab) (cfg:Cfg) (R:List Rt):PT→Tree
  |.need p t=>.need p (t.inst I T cfg R)
  |.br b t f=>.br b (t.inst I T cfg R) (f.inst I T cfg R)
  |.code i p st=>leaf I T cfg R i p st
  |.fin o hp=>.fin o hp
  |.both t f=>.both (t.inst I T cfg R) (f.inst I T cfg R)
  |.qed=>.qed
  |.stop n=>.stop n
theorem zh {I:Alg} {cfg:Cfg} {kn:List (Know Pr)} {R:List Rt} {i:Nat} {p:List Nat} {st:St} (pt:PT) (h:go I T cfg kn R i p st=pt.inst I T cfg R) (k:Ok Pr X G (pt.inst I T cfg R)):Ok Pr X G (go I T cfg kn R i p st):=h▸k
theorem QV {I:Alg} {cfg:Cfg} {R:List Rt} {p:Prop} {t:PT}:Ok Pr X G (PT.inst I T cfg R (.need p t))↔p∧Ok Pr X G (t.inst I T cfg R):=zi2
theorem zfk {I:Alg} {cfg:Cfg} {R:List Rt} {b:Bool} {t f:PT}:Ok Pr X G (PT.inst I T cfg R (.br b t f))↔(b=true→Ok Pr X G (t.inst I T cfg R))∧(b=false→Ok Pr X G (f.inst I T cfg R)):=zlk
theorem QX {I:Alg} {cfg:Cfg} {R:List Rt} {t f:PT}:Ok Pr X G (PT.inst I T cfg R (.both t f))↔Ok Pr X G (t.inst I T cfg R)∧Ok Pr X G (f.inst I T cfg R):=zi3
theorem zcM {I:Alg} {cfg:Cfg} {R:List Rt} {o:AOut} {hp:List HO}:Ok Pr X G (PT.inst I T cfg R (.fin o hp))↔G o hp:=zkz
theorem zcL {I:Alg} {cfg:Cfg} {R:List Rt}:Ok Pr X G (PT.inst I T cfg R .qed)↔True:=zky
theorem QT {I:Alg} {cfg:Cfg} {R:List Rt} {n:Nat}:Ok Pr X G (PT.inst I T cfg R (.stop n))↔False:=zi1
theorem QW {I:Alg} {cfg:Cfg} {R:List Rt} {i:Nat} {p:List Nat} {st:St}:Ok Pr X G (PT.inst I T cfg R (.code i p st))↔Ok Pr X G (leaf I T cfg R i p st):=Iff.rfl
def Ye (cfg:Cfg):Code→Bool
  |.region id _ _=>memN id cfg.seam
  |_=>false
theorem spcG {P:Program} {T:Tab} (hT:T.fits P) (hm:P.follows .mixedOrders=true) {f:Nat} {fn:Func} (hf:P.funcs[f]? =some fn) (hn:(fn.name == "runtime.NumGoroutine")=false) (cfg:Cfg) (kn:List (Know P)) {args:List D} {hp:List HO} {out:AOut} {hp':List HO}
    (hb:(fn.body.isSome&& !Ye cfg (xQ fn)&&Nat.ble args.length fn.ntmps)=true)
    (h: ∀ (I:Alg) (X:Ctx),I=alg→X.bs0.length=hp.length→Ok P X (fun o h=>o=out∧h=hp') (go I T cfg kn [⟨xQ fn,finK I T cfg hp.length fn⟩] 0 [] { env:=V8 0 args,hp:=hp,n:=fn.ntmps})):Spc P f args hp out hp':=by
  simp only [Bool.and_eq_true,Bool.not_eq_true'] at hb
  refine zdD hT hm hf hn (cfg:=cfg) hb.1.1 hb.2 fun I X hI hX=> ?_
  subst hI
  have h1:=(h alg X rfl hX).out
  have h2:=Yw (fun f=>sS) h1
  have hs:=hb.1.2
  unfold funT
  unfold xQ at h2 hs
  cases hbd:fn.body with
  |none=>rw [hbd] at hb;cases hb.1.1
  | some c=>
    rw [hbd] at h2 hs
    simp only [rtAt,cAt,kAt] at h2
    simp only at hs ⊢
    cases c<;>first|exact h2|skip
    simp only [Ye] at hs
    simp only [vc,hs]
    exact h2
theorem tX (hT:T.fits Pr) (hm:Pr.follows .mixedOrders=true) {cfg:Cfg} {c:Code} {K:AEx→St→Tree} {st:St} (h:(zkP alg T cfg c K st).ok Pr X G) (hn:Now X st a w):c.wp Pr (Post X fun e st'=>(K e st').ok Pr X G) a w:=by
  cases c with
  |region id ops draw=>exact Uj hT hm h (hn.tidy cfg.keep)
  |_=>exact zb1 hT hm (cfg:=cfg) h hn
theorem Y6 {cfg:Cfg} {k0:Nat} (hk:X.bs0.length=k0) {dom:List Nat} {st s:St} (hc:cutM cfg k0 dom st=some s) (hn:Now X st a w):Now X s a w:=by
  obtain⟨S,K,hH,hE⟩:=hn
  obtain⟨K',h1,h2⟩:=tV cfg.mv hH hE
  exact zgd hk hc ⟨S,K',h1,h2⟩
theorem zu {I:Alg} (hI:I=alg) (hT:T.fits Pr) (hm:Pr.follows .mixedOrders=true) {cfg:Cfg} (kn:List (Know Pr)) {R:List Rt} {i:Nat} {p:List Nat} {st:St} {k0:Nat} (hk:X.bs0.length=k0) (dom:List Nat) {ι:Type} (Inv:ι→Prop) (Iv:ι→St) (μ:ι→Nat) (g0:ι)
    (hc:(match cAt p (rtAt i R).B with|.loop b=> !Ye cfg b|_=>false)=true) (h0:cutM cfg k0 dom st=some (Iv g0)) (hg0:Inv g0)
    (hr: ∀ (g:ι),Inv g→∀ (A:St→Prop),(∀ g',Inv g'→μ g'<μ g→A (Iv g'))→Ok Pr X G (go I T cfg kn (round I T cfg k0 dom A R i p::R) 0 [] (Iv g))):Ok Pr X G (leaf I T cfg R i p st):=by
  subst hI
  constructor
  unfold leaf
  intro S K a w hH hE
  obtain⟨b,hb⟩: ∃ b,cAt p (rtAt i R).B=.loop b:=by
    cases h:cAt p (rtAt i R).B<;>rw [h] at hc<;>first|exact⟨_,rfl⟩|cases hc
  rw [hb]
  refine wp_loop_ghost (fun n a w=>∃ g,Inv g∧μ g=n∧Now X (Iv g) a w) (μ g0) ⟨g0,hg0,rfl,Y6 hk h0 ⟨S,K,hH,hE⟩⟩ ?_
  rintro n a w ⟨g,hg,rfl,hn⟩
  have h1:=(hr g hg (fun s=>∃ g',Inv g'∧μ g'<μ g∧s=Iv g') (fun g' hi hl=>⟨g',hi,hl,rfl⟩)).out
  have h2:=Yw (fun f=>sS) h1
  simp only [rtAt,cAt,kAt,round,hb,loopBody] at h2
  refine wp_mono (tX hT hm h2 hn) fun e a' w' hq=> ?_
  obtain⟨e',st',h1,S',K',hH',hE',hem⟩:=hq
  generalize kAt alg T cfg p (rtAt i R).B (rtAt i R).K=k at h1
  have keep: ∀ {e:Exit} {e':AEx},(∀ (h:e'=.normal),False)→EM S' (K'.map CO.base) e e'→(k e' st').ok Pr X G→Post X (fun e st'=>(k e st').ok Pr X G) e a' w':=fun {e e'} _ hem h=>⟨e',st',h,S',K',hH',hE',hem⟩
  cases e' with
  | normal=>
    cases e with
    | normal=>
      have h1:((match cutM cfg k0 dom st' with|some s=>Tree.need (∃ g',Inv g'∧μ g'<μ g∧s=Iv g') .qed|none=>.stop 19):Tree).ok Pr X G:=h1
      split at h1
      · rename_i s hs
        obtain⟨⟨g',hi,hlt,rfl⟩,_⟩:=h1
        exact⟨μ g',hlt,g',hi,rfl,Y6 hk hs ⟨S',K',hH',hE'⟩⟩
      · exact h1.elim
    |exit i=>exact hem.elim
    |goto l=>exact hem.elim
    |ret=>exact hem.elim
    |panic ch=>exact hem.elim
    |outgrown=>exact hem.elim
  | exit j=>cases e with
    |exit i=>exact keep (fun h=>by cases h) hem h1
    |normal=>exact hem.elim
    |goto l=>exact hem.elim
    |ret=>exact hem.elim
    |panic ch=>exact hem.elim
    |outgrown=>exact hem.elim
  | ret=>cases e with
    |ret=>exact keep (fun h=>by cases h) hem h1
    |normal=>exact hem.elim
    |goto l=>exact hem.elim
    |exit j=>exact hem.elim
    |panic ch=>exact hem.elim
    |outgrown=>exact hem.elim
  | pan c=>cases e with
    |panic ch=>exact keep (fun h=>by cases h) hem h1
    |normal=>exact hem.elim
    |goto l=>exact hem.elim
    |exit j=>exact hem.elim
    |ret=>exact hem.elim
    |outgrown=>exact hem.elim
theorem seam {I:Alg} (hI:I=alg) (hT:T.fits Pr) (hm:Pr.follows .mixedOrders=true) {cfg:Cfg} (kn:List (Know Pr)) {R:List Rt} {i:Nat} {p:List Nat} {st:St} {k0:Nat} (hk:X.bs0.length=k0) (dom:List Nat) (st1:St)
    (h0:cutM cfg k0 dom st=some st1) (hr:Ok Pr X G (go I T cfg kn R i p st1)):Ok Pr X G (leaf I T cfg R i p st):=by
  subst hI
  constructor
  intro S K a w hH hE
  exact tX hT hm (Yw (fun f=>sS) hr.out) (Y6 hk h0 ⟨S,K,hH,hE⟩)
end
inductive AM where
  |ret
  |pan (c:C)
def MAM (S:Frz) (bs:List Value):AM→FrameMode→Prop
  |.ret,u=>u=.returning
  |.pan c,u=>∃ v,u=.panicking [{ v:=v,recovered:=false}]∧MC S bs c v
def SpcD (Pr:Program) (g:Nat) (caps:List Cap) (m:AM) (hp:List HO) (m':AM) (hp':List HO):Prop:=
  (∃ fn,Pr.funcs[g]? =some fn∧(fn.name == "runtime.NumGoroutine")=false∧fn.body.isNone=false)∧
  ∀ (S:Frz) (K:List CO) (fr:List Chunk) (w:World) (vs:List Value) (u:FrameMode),HR S (K.map CO.base) hp K→rF S (K.map CO.base) caps vs→At w (frzC S::(CO.zl K++fr))→MAM S (K.map CO.base) m u→
    CallsD Pr g vs.toArray u w fun e u' w'=>(∃ v,e=.returned v)∧∃ S' K',S.le S'∧Ext (K.map CO.base) (K'.map CO.base)∧HR S' (K'.map CO.base) hp' K'∧At w' (frzC S'::(CO.zl K'++fr))∧MAM S' (K'.map CO.base) m' (settle u')
structure Door (Pr:Program) where
  g:Nat
  c:Alg→AM→List Cap→List HO→Option (Prop × AM × List HO)
  ok: ∀ m caps hp p m' hp',c alg m caps hp=some (p,m',hp')→p→SpcD Pr g caps m hp m' hp'
def AM.out:AM→AEx
  |.ret=>.ret
  |.pan c=>.pan c
def zkB:AEx→Option AM
  |.normal=>some .ret
  |.ret=>some .ret
  |.pan c=>some (.pan c)
  |.exit _=>none
def zkV {Pr:Program} (I:Alg) (T:Tab) (cfg:Cfg) (k0:Nat) (fn:Func) (dk:Door Pr) (e:AEx) (st:St):Tree:=
  match st.df with
  |none=>zhE I T cfg k0 fn e st
  | some (g,caps)=>match Nat.beq g dk.g,zkB e with
    | true,some m=>(match dk.c I m caps st.hp with
      |some (p,m',hp')=>.need p (zhE I T cfg k0 fn m'.out { st with hp:=hp',df:=none})
      |none=>.stop 91)
    |_,_=>.stop 92
section
variable {Pr:Program} {T:Tab} {a:Act} {w:World}
theorem zel {g:Nat} {fn:Func} (hfn:Pr.funcs[g]? =some fn) (hname:(fn.name == "runtime.NumGoroutine")=false) (hbody:fn.body.isNone=false) (args:Array Value):(callFunc g args).run Pr w=.ok (.enter g args) w:=by
  have hname': ¬ fn.name= "runtime.NumGoroutine" :=by simpa using hname
  have hbody': ¬ fn.body=none:=by cases hb:fn.body with|none=>rw [hb] at hbody;cases hbody|some c=>simp
  simp [callFunc,program,hfn,Sem.run]
  rw [if_neg hname',if_neg hbody']
theorem zlg {P:Program} {T:Tab} (hT:T.fits P) (hm:P.follows .mixedOrders=true) {f:Nat} {fn:Func} (hf:P.funcs[f]? =some fn) (hn:(fn.name == "runtime.NumGoroutine")=false) (cfg:Cfg) (kn:List (Know P)) (dk:Door P) {args:List D} {hp:List HO} {out:AOut} {hp':List HO}
    (hb:(fn.body.isSome&& !Ye cfg (xQ fn)&&Nat.ble args.length fn.ntmps)=true)
    (h: ∀ (I:Alg) (X:Ctx),I=alg→X.bs0.length=hp.length→Ok P X (fun o h=>o=out∧h=hp') (go I T cfg kn [⟨xQ fn,zkV I T cfg hp.length fn dk⟩] 0 [] { env:=V8 0 args,hp:=hp,n:=fn.ntmps})):Spc P f args hp out hp':=by
  simp only [Bool.and_eq_true,Bool.not_eq_true'] at hb
  obtain⟨⟨hb1,hb2⟩,hb3⟩:=hb
  obtain⟨c,hc⟩:=Option.isSome_iff_exists.1 hb1
  have hbo:xQ fn=c:=by unfold xQ;rw [hc]
  refine⟨⟨fn,hf,hn,by rw [hc];rfl⟩,fun S K fr w vs hHR hargs hat=> ?_⟩
  have h1:=(h alg ⟨S,K.map CO.base,fr⟩ rfl (by simp [hHR.1])).out
  have h2:=Yw (fun f=>sS) h1
  simp only [rtAt,cAt,kAt,hbo] at h2
  have hal:=hargs.length
  have hle:=Nat.le_of_ble_eq_true hb3
  have hnow:Now ⟨S,K.map CO.base,fr⟩ { env:=V8 0 args,hp:=hp,n:=fn.ntmps} { tmps:=vs.toArray++Array.replicate (fn.ntmps - vs.toArray.size) undef,defers:=[]} w:=by
    refine⟨S,K,⟨Frz.le.refl S,Ext.refl _,hHR,hat⟩,⟨?_,rfl,fun t d hd=> ?_⟩⟩
    · simp [hal];omega
    · obtain⟨_,v,h1,h2⟩:=qE hargs hd
      simp only [Nat.sub_zero] at h1
      have hlt:=(List.getElem?_eq_some_iff.1 h1).1
      have e:(vs.toArray++Array.replicate (fn.ntmps - vs.toArray.size) undef).getD t undef=v:=by
        rw [Array.getD_eq_getD_getElem?,Array.getElem?_append_left (by simpa using hlt)]
        simp [h1]
      rw [e];exact h2
  refine calls_of_wp_defers hf hc (wp_mono (tX hT hm h2 hnow) fun e a w' hq=> ?_)
  obtain⟨e',st',hk,S',K',hH,hE,hem⟩:=hq
  have hlen:(K.map CO.base).length=hp.length:=by simp [hHR.1]
  unfold zkV at hk
  split at hk
  · rename_i hdf
    have hd:a.defers=[]:=by have:=hE.defers;rw [hdf] at this;exact this
    have hfin:=zaB (X:=⟨S,K.map CO.base,fr⟩) hT hlen hk hH hE hem
    cases e with
    |normal=>show Leaves P fn a.tmps _ a.defers .returning w';rw [hd];exact hfin
    |ret=>show Leaves P fn a.tmps _ a.defers .returning w';rw [hd];exact hfin
    |panic ch=>show Leaves P fn a.tmps _ a.defers (.panicking ch) w';rw [hd];exact hfin
    |exit i=>exact hfin.elim
    |goto l=>exact hfin.elim
    |outgrown=>exact hfin.elim
  · rename_i g caps hdf
    split at hk
    · rename_i m hg hmo
      have hg:=Nat.eq_of_beq_eq_true hg
      split at hk
      · rename_i p m' hp2 hc2
        obtain⟨hpn,hk⟩:=hk
        have hds:=hE.defers
        rw [hdf] at hds
        obtain⟨us,hcap,hds⟩:=hds
        have hspec:=dk.ok _ _ _ _ _ _ hc2 hpn
        rw [← hg] at hspec
        obtain⟨⟨gn,hgn,hgname,hgbody⟩,hspec⟩:=hspec
        have key: ∀ u,MAM S' (K'.map CO.base) m u→u≠ .run→Leaves P fn a.tmps (fun e w'=>∃ S' K',S.le S'∧Ext (K.map CO.base) (K'.map CO.base)∧HR S' (K'.map CO.base) hp' K'∧At w' (frzC S'::(CO.zl K'++fr))∧EOut S' (K'.map CO.base) out e) a.defers u w':=by
          intro u hu hrun
          rw [hds]
          refine⟨hrun,_,_,g,us.toArray,rfl,?_,CallsD.mono (hspec S' K' fr w' us u hH.2.2.1 hcap hH.2.2.2 hu) ?_⟩
          · simp only [invoke,Array.empty_append]
            exact zel hgn hgname hgbody _
          · rintro e2 u' w2 ⟨⟨v,rfl⟩,S2,K2,hle2,hex2,hHR2,hat2,hm2⟩
            simp only
            have hH2:Heap ⟨S,K.map CO.base,fr⟩ hp2 S2 K2 w2:=⟨hH.1.trans hle2,hH.2.1.trans hex2,hHR2,hat2⟩
            have hE2:Env S2 (K2.map CO.base) { st' with hp:=hp2,df:=none} { a with defers:=[]}:=⟨hE.size,rfl,fun t d hd=>(hE.slots t d hd).mono hle2 hex2⟩
            cases m' with
            | ret=>
              have:settle u'=.returning:=hm2
              rw [this]
              exact zaB (X:=⟨S,K.map CO.base,fr⟩) (e:=.ret) hT hlen hk hH2 hE2 trivial
            | pan c=>
              obtain⟨v2,h5,h6⟩:=hm2
              rw [h5]
              exact zaB (X:=⟨S,K.map CO.base,fr⟩) (e:=.panic _) hT hlen hk hH2 hE2 ⟨v2,rfl,h6⟩
        cases e with
        |normal=>cases e'<;>first|exact hem.elim|(cases hmo;exact key .returning rfl (by simp))
        |ret=>cases e'<;>first|exact hem.elim|(cases hmo;exact key .returning rfl (by simp))
        |panic ch=>cases e'<;>first|exact hem.elim|(cases hmo;exact key (.panicking ch) (by obtain⟨v,h1,h2⟩:=hem;exact⟨v,by rw [h1],h2⟩) (by simp))
        |exit i=>cases e'<;>first|exact hem.elim|(cases hmo;done)
        |goto l=>cases e'<;>exact hem.elim
        |outgrown=>cases e'<;>exact hem.elim
      · exact hk.elim
    · exact hk.elim
def recC:AM→C
  |.ret=>.p (.val .nilIface)
  |.pan c=>c
theorem Ug {P:Program} {T:Tab} (hT:T.fits P) (hm:P.follows .mixedOrders=true) {f:Nat} {fn:Func} (hf:P.funcs[f]? =some fn) (hn:(fn.name == "runtime.NumGoroutine")=false) (cfg:Cfg) (kn:List (Know P))
    {id t t2 ty0 ty1:Nat} {pos0 pos1:String} {af0 af1:Array Edge} {rest:Code}
    (hb:fn.body=some (.seq (.region id #[⟨some t,.call ⟨.builtin .recover,#[],#[]⟩,ty0,pos0,af0,none⟩,⟨some t2,.assign (.tmp t),ty1,pos1,af1,none⟩] false) rest))
    {m:AM} {caps:List Cap} {hp hp':List HO}
    (hbb:(Nat.blt t fn.ntmps&&Nat.blt t2 fn.ntmps&& !Nat.beq t t2&&Nat.ble caps.length fn.ntmps&& !Ye cfg rest)=true)
    (h: ∀ (I:Alg) (X:Ctx),I=alg→X.bs0.length=hp.length→Ok P X (fun o h=>o=.ret (.tup [])∧h=hp') (go I T cfg kn [⟨xQ fn,finK I T cfg hp.length fn⟩] 0 [1] (({ env:=V8 0 (caps.map dP),hp:=hp,n:=fn.ntmps}:St).put (some t) (.v (.one (recC m))) |>.put (some t2) (.v (.one (recC m)))))):SpcD P f caps m hp .ret hp':=by
  simp only [Bool.and_eq_true,Bool.not_eq_true'] at hbb
  obtain⟨⟨⟨⟨ht,ht2⟩,hne⟩,hle⟩,hseam⟩:=hbb
  have ht:t<fn.ntmps:=by simpa using ht
  have ht2:t2<fn.ntmps:=by simpa using ht2
  have hne:t≠t2:=Nat.ne_of_beq_eq_false hne
  have hle:=Nat.le_of_ble_eq_true hle
  refine⟨⟨fn,hf,hn,by rw [hb];rfl⟩,fun S K fr w vs u hHR hcap hat hmode=> ?_⟩
  have h1:=(h alg ⟨S,K.map CO.base,fr⟩ rfl (by simp [hHR.1])).out
  have h2:=Yw (fun f=>sS) h1
  have hbo:xQ fn=.seq (.region id #[⟨some t,.call ⟨.builtin .recover,#[],#[]⟩,ty0,pos0,af0,none⟩,⟨some t2,.assign (.tmp t),ty1,pos1,af1,none⟩] false) rest:=by unfold xQ;rw [hb]
  simp only [rtAt,hbo,cAt,kAt] at h2
  have hal:=hcap.mds.length
  rw [List.length_map] at hal
  have hlen:(K.map CO.base).length=hp.length:=by simp [hHR.1]
  refine callsD_of_wpS hf hb fun c₀ cs hu=> ?_
  obtain⟨x,u1,hrec,hx,hset⟩: ∃ x u1,(match recoverD (c₀::cs) with|some (v,cs')=>(v,cs')|none=>(.nilIface,c₀::cs))=(x,{ c₀ with mode:=u1}::cs)∧MC S (K.map CO.base) (recC m) x∧settle u1=.returning:=by
    cases m with
    | ret=>
      have hmode:u=.returning:=hmode
      subst hmode
      refine⟨.nilIface,.returning,?_,.val _ rfl,rfl⟩
      simp only [recoverD,hu]
      cases c₀;simp at hu;subst hu;rfl
    | pan c=>
      obtain⟨v,rfl,hv⟩:=hmode
      refine⟨v,.panicking [{ v:=v,recovered:=true}],?_,hv,rfl⟩
      simp [recoverD,hu]
  have hnow:Now ⟨S,K.map CO.base,fr⟩ (({ env:=V8 0 (caps.map dP),hp:=hp,n:=fn.ntmps}:St).put (some t) (.v (.one (recC m))) |>.put (some t2) (.v (.one (recC m)))) (({ tmps:=vs.toArray++Array.replicate (fn.ntmps - vs.toArray.size) undef,defers:=[]}:Act).put (some t) x |>.put (some t2) x) w:=by
    have hE0:Env S (K.map CO.base) { env:=V8 0 (caps.map dP),hp:=hp,n:=fn.ntmps} { tmps:=vs.toArray++Array.replicate (fn.ntmps - vs.toArray.size) undef,defers:=[]}:=by
      refine⟨?_,rfl,fun t d hd=> ?_⟩
      · simp [hal];omega
      · obtain⟨_,v,h1,h2⟩:=qE hcap.mds hd
        simp only [Nat.sub_zero] at h1
        have hlt:=(List.getElem?_eq_some_iff.1 h1).1
        have e:(vs.toArray++Array.replicate (fn.ntmps - vs.toArray.size) undef).getD t undef=v:=by
          rw [Array.getD_eq_getD_getElem?,Array.getElem?_append_left (by simpa using hlt)]
          simp [h1]
        rw [e];exact h2
    exact⟨S,K,by rw [vg,vg];exact⟨Frz.le.refl S,Ext.refl _,hHR,hat⟩,(hE0.put (some t) (d:=.v (.one (recC m))) hx).put (some t2) (d:=.v (.one (recC m))) hx⟩
  have hw:=tX hT hm h2 hnow
  refine wpS_seq (wpS_region ?_)
  have hsz:t<(vs.toArray++Array.replicate (fn.ntmps - vs.toArray.size) undef).size:=by simp [hal];omega
  have hev:({ tmps:=(vs.toArray++Array.replicate (fn.ntmps - vs.toArray.size) undef).setIfInBounds t x,defers:=[]}:Act).eval (.tmp t)=x:=by
    simp only [Act.eval]
    rw [Array.getD_eq_getD_getElem?,Array.getElem?_setIfInBounds_self_of_lt hsz];rfl
  have hgoal:rest.wpS P (bodyPostS P fn c₀ cs fun e u' w'=>(∃ v,e=.returned v)∧∃ S' K',S.le S'∧Ext (K.map CO.base) (K'.map CO.base)∧HR S' (K'.map CO.base) hp' K'∧At w' (frzC S'::(CO.zl K'++fr))∧MAM S' (K'.map CO.base) .ret (settle u'))
      (({ tmps:=vs.toArray++Array.replicate (fn.ntmps - vs.toArray.size) undef,defers:=[]}:Act).put (some t) x |>.put (some t2) x) ({ c₀ with mode:=u1}::cs) w:=by
    refine wpS_of_wp (wp_mono hw fun e a' w' hq=> ?_)
    obtain⟨e',st',hk,S',K',hH,hE,hem⟩:=hq
    unfold finK at hk
    split at hk
    case h_2=>exact hk.elim
    rename_i hdf
    have hd:a'.defers=[]:=by have:=hE.defers;rw [hdf] at this;exact this
    have hfin:=zaB (X:=⟨S,K.map CO.base,fr⟩) hT hlen hk hH hE hem
    cases e with
    |normal=>obtain⟨v,hv,S2,K2,h5,h6,h7,h8,_⟩:=hfin;exact⟨hd,u1,rfl,v,hv,⟨v,rfl⟩,S2,K2,h5,h6,h7,h8,hset⟩
    |ret=>obtain⟨v,hv,S2,K2,h5,h6,h7,h8,_⟩:=hfin;exact⟨hd,u1,rfl,v,hv,⟨v,rfl⟩,S2,K2,h5,h6,h7,h8,hset⟩
    |panic ch=>obtain⟨S2,K2,h5,h6,h7,h8,h9⟩:=hfin;exact h9.elim
    |exit i=>exact hfin.elim
    |goto l=>exact hfin.elim
    |outgrown=>exact hfin.elim
  clear hnow hw
  generalize vs.toArray++Array.replicate (fn.ntmps - vs.toArray.size) undef=tm at hev hgoal hsz ⊢
  have hr0: ∀ (a:Act),(execOp a.eval ⟨some t,.call ⟨.builtin .recover,#[],#[]⟩,ty0,pos0,af0,none⟩).run P w=.ok .recover w:=by
    intro a;simp [execOp,Go.resolve,invoke,builtin]
  simp only [List.size_toArray,List.length_cons,List.length_nil,Nat.zero_add,Nat.reduceAdd,List.range_succ_eq_map,List.range_zero,List.map_cons,List.map_nil]
  simp only [wpOpsS,List.getElem?_toArray,List.getElem?_cons_zero,List.getElem?_cons_succ,Region.wanted,if_true,hr0]
  cases hq:recoverD (c₀::cs) with
  | none=>
    rw [hq] at hrec
    simp only [Prod.mk.injEq] at hrec
    obtain⟨rfl,hcs⟩:=hrec
    simp only [Act.put,execOp,Sem.run_pure,hev,Oper.upon,Exit.thenS]
    rw [hcs]
    exact hgoal
  | some y=>
    obtain⟨y,cs'⟩:=y
    rw [hq] at hrec
    simp only [Prod.mk.injEq] at hrec
    obtain⟨rfl,rfl⟩:=hrec
    simp only [Act.put,execOp,Sem.run_pure,hev,Oper.upon,Exit.thenS]
    exact hgoal
end
theorem nrmA:type_of% (And.intro @zbZ <| And.intro @zgA <| And.intro @xJ <| And.intro @uO <| And.intro @zbW <| And.intro @zbV <| And.intro @zgz <| And.intro @zdx <| And.intro @Ru <| And.intro @Rw <| And.intro @Rx <| And.intro @Ry <| And.intro @Xa <| And.intro @sZ <| And.intro @VY <| And.intro @zbY <| And.intro @VW <| And.intro @zO <| And.intro @Xb <| And.intro @xN <| And.intro @RD <| And.intro @zbU <| And.intro @VX <| And.intro @zbX <| And.intro @sV <| And.intro @YJ <| And.intro @sU <| And.intro @sW <| And.intro @Ro <| And.intro @Y9 <| And.intro @Rz <| And.intro @zgy <| And.intro @zgx <| @zdy):=And.intro @zbZ <| And.intro @zgA <| And.intro @xJ <| And.intro @uO <| And.intro @zbW <| And.intro @zbV <| And.intro @zgz <| And.intro @zdx <| And.intro @Ru <| And.intro @Rw <| And.intro @Rx <| And.intro @Ry <| And.intro @Xa <| And.intro @sZ <| And.intro @VY <| And.intro @zbY <| And.intro @VW <| And.intro @zO <| And.intro @Xb <| And.intro @xN <| And.intro @RD <| And.intro @zbU <| And.intro @VX <| And.intro @zbX <| And.intro @sV <| And.intro @YJ <| And.intro @sU <| And.intro @sW <| And.intro @Ro <| And.intro @Y9 <| And.intro @Rz <| And.intro @zgy <| And.intro @zgx <| @zdy
theorem nrmB:type_of% (And.intro @decide_eq_true_eq <| And.intro @decide_eq_false_iff_not <| And.intro @beq_iff_eq.{0} <| And.intro @beq_eq_false_iff_ne.{0} <| And.intro @Bool.not_eq_true' <| And.intro @Bool.not_eq_false' <| And.intro @Bool.and_eq_true <| And.intro @Bool.and_true <| And.intro @Bool.true_and <| And.intro @and_true <| And.intro @true_and <| And.intro @ne_eq.{1} <| And.intro @Int.toNat_zero <| And.intro @Nat.sub_zero <| And.intro @List.drop_zero.{0} <| And.intro @zfo <| And.intro @zfp <| And.intro @zhU <| And.intro @zhV <| And.intro @Qx <| And.intro @xP <| And.intro @Int.toNat_natCast <| And.intro @Int.ofNat_eq_natCast <| And.intro @UInt8.ofNat_toNat <| And.intro @AOut.ret.injEq <| And.intro @AOut.pan.injEq <| And.intro @C.ifc.injEq <| And.intro @D.v.injEq <| And.intro @D.tup.injEq <| And.intro @V0.one.injEq <| And.intro @C.p.injEq <| And.intro @P.bool.injEq <| And.intro @P.int.injEq <| And.intro @P.str.injEq <| And.intro @Bool.false_eq_true <| And.intro @Bool.true_eq_false <| And.intro @imp_false <| And.intro @Decidable.not_not <| And.intro @not_true_eq_false <| @not_false_eq_true):=And.intro @decide_eq_true_eq <| And.intro @decide_eq_false_iff_not <| And.intro @beq_iff_eq.{0} <| And.intro @beq_eq_false_iff_ne.{0} <| And.intro @Bool.not_eq_true' <| And.intro @Bool.not_eq_false' <| And.intro @Bool.and_eq_true <| And.intro @Bool.and_true <| And.intro @Bool.true_and <| And.intro @and_true <| And.intro @true_and <| And.intro @ne_eq.{1} <| And.intro @Int.toNat_zero <| And.intro @Nat.sub_zero <| And.intro @List.drop_zero.{0} <| And.intro @zfo <| And.intro @zfp <| And.intro @zhU <| And.intro @zhV <| And.intro @Qx <| And.intro @xP <| And.intro @Int.toNat_natCast <| And.intro @Int.ofNat_eq_natCast <| And.intro @UInt8.ofNat_toNat <| And.intro @AOut.ret.injEq <| And.intro @AOut.pan.injEq <| And.intro @C.ifc.injEq <| And.intro @D.v.injEq <| And.intro @D.tup.injEq <| And.intro @V0.one.injEq <| And.intro @C.p.injEq <| And.intro @P.bool.injEq <| And.intro @P.int.injEq <| And.intro @P.str.injEq <| And.intro @Bool.false_eq_true <| And.intro @Bool.true_eq_false <| And.intro @imp_false <| And.intro @Decidable.not_not <| And.intro @not_true_eq_false <| @not_false_eq_true
theorem nrlB:type_of% (And.intro @List.cons.injEq.{0} <| And.intro @P.list.injEq <| And.intro @HO.row.injEq <| And.intro @heq_eq_eq.{1} <| And.intro @false_and <| @and_false):=And.intro @List.cons.injEq.{0} <| And.intro @P.list.injEq <| And.intro @HO.row.injEq <| And.intro @heq_eq_eq.{1} <| And.intro @false_and <| @and_false
theorem zn:type_of% (And.intro @QV <| And.intro @zfk <| And.intro @QX <| And.intro @zcM <| And.intro @zcL <| And.intro @QT <| @QW):=And.intro @QV <| And.intro @zfk <| And.intro @QX <| And.intro @zcM <| And.intro @zcL <| And.intro @QT <| @QW
end Go.Ab
namespace Go.Ab
open Go Go.Sep Go.RowKit
variable [Facts]
def Holds (W:World):Prop:=∀ w:World,(∀ (k:Nat) (o:Obj),W.heap[k]? =some o→w.heap[k]? =some o)→Facts.p w
def frzW (W:World) (hF:Holds W):Frz:=⟨fun k=>W.heap[k]?,W.os,W.tape,W.output,fun w hw=>hF w hw.2.2.2⟩
theorem zjs (W:World) (hF:Holds W):At W [frzC (frzW W hF)]:=
  ⟨fun k=>(W.heap[k]?).isSome=true,fun k=>(W.heap[k]?).isSome=true,fun _=>False,fun k=>by simp,fun _ _ h=>h,⟨fun _=>Iff.rfl,rfl,rfl,rfl,fun _ _ h=>h⟩,fun _ h=>h⟩
theorem UJ {W w:World} {hF:Holds W} (h:(frzW W hF).on w):Below W.heap.size W w:=by
  obtain⟨h1,h2,h3,h4⟩:=h
  have hb: ∀ k,k<W.heap.size→w.heap[k]? =W.heap[k]? :=fun k hk=>by
    have:W.heap[k]? =some W.heap[k]:=by simp [hk]
    rw [h4 k _ this,this]
  refine⟨h1,h2,h3,?_,hb⟩
  rcases Nat.lt_or_ge w.heap.size W.heap.size with hlt|hge
  · have:=hb w.heap.size hlt
    simp at this
    omega
  · exact hge
theorem zjr {W:World} {hF:Holds W} {size:Nat} {v:Value} {n:Nat} {cs:List Value} (h:Rd W size v n cs):RdS (frzW W hF) size v n cs:=by
  intro w hw
  obtain⟨ao,cap,e,h1,h2,h4,h3,hc⟩:=h
  refine⟨ao,cap,e,h1,h2,h4,h3,fun j u hu=> ?_⟩
  obtain⟨hs,hcell⟩:=hc j u hu
  exact⟨hs,((UJ hw).cell (block_lt hcell)).trans hcell⟩
theorem Spc.law {Pr:Program} {f:Nat} {args:List D} {hp':List HO} {W:World} {hF:Holds W} {vs:List Value} (h:Spc Pr f args [] (.ret (.v (.one (.p (.bool true))))) hp') (ha:MDs (frzW W hF) [] args vs):
    Calls Pr f vs.toArray W fun e w'=>e=.returned (.bool true)∧Below W.heap.size W w':=by
  refine(h.2 (frzW W hF) [] [] W vs ⟨rfl,fun i o c h=>by simp at h⟩ ha (zjs W hF)).mono fun e w' he=> ?_
  obtain⟨S',K',hle,_,_,hat,ho⟩:=he
  refine⟨?_,UJ ((At.frz hat).mono hle)⟩
  cases e with
  |returned v=>cases ho;rfl
  |panicked ch=>exact ho.elim
  |outgrown=>exact ho.elim
theorem zjf {W:World} {hF:Holds W} {v:Value} {u:U} {R:Sep.Rel u.den} (hR: ∀ cs x,R W cs x→MPs (frzW W hF) (enc alg u x) cs) {xs:List u.den} (h:RSl u.size R W [v] xs):MD (frzW W hF) [] (.v (.one (.p (.list u xs)))) v:=by
  obtain⟨v',vs,e,hr,hx⟩:=h
  cases e
  have hlen:=hr.len
  obtain⟨ao,cap,rfl,_⟩:=id hr
  refine MP.list u xs ao cap vs hlen (zjr hr) fun i x j p v hi hj hv=> ?_
  have hm:=hR _ _ (hx i x hi)
  obtain⟨v',h1,h2⟩:=hm.get hj
  rw [List.getElem?_take] at h1
  split at h1
  · rw [List.getElem?_drop,hv] at h1
    cases h1;exact h2
  · cases h1
theorem zjg {W:World} {hF:Holds W} {cs:List Value} {x:UInt8} (h:zhS W cs x):MPs (frzW W hF) (enc alg .byte x) cs:=by
  rw [show cs=[bv x] from h];exact⟨.int _ _,trivial⟩
end Go.Ab
namespace Go.Proofs.YtknaogelmckimaaGreatDoor
open Go Go.Ab
def lnS (l:Ln):HO:=.pack [.obj 118 [.row 1,.p (.bool l.cr),.p (.int .i64 l.code)],.row .byte 5 l.b]
def skO (m:Str) (n:Int) (bs:List Int):HO:=.pack [.obj 91 [.row 1,.row 2,.p (.int .i64 n)],.row .byte 5 m,.row .int 3 bs]
def fmS:Fm→List HO
  |⟨m,n,bs,p,none,f,pa,sk,co,out⟩=>[.obj 60 [.ptr 1 0,.p (.int .i64 p),.p (.val (.pointer none)),.row 2,.p (.int .i64 pa),.p (.int .i64 sk),.p (.int .i64 co),.row 3],skO m n bs,.row .fld 72 f,.row .evt 53 out]
  |⟨m,n,bs,p,some l,f,pa,sk,co,out⟩=>[.obj 60 [.ptr 1 0,.p (.int .i64 p),.ptr 2 0,.row 3,.p (.int .i64 pa),.p (.int .i64 sk),.p (.int .i64 co),.row 4],skO m n bs,lnS l,.row .fld 72 f,.row .evt 53 out]
def shapes:Gh→List HO
  |.fm f=>fmS f
  |_=>[]
def lnU:HO→Option Ln
  |.pack [.obj t [.row 1,.p (.bool cr),.p (.int .i64 co)],.row .byte e b]=>match Nat.beq t 118,Nat.beq e 5 with|true,true=>some ⟨b,cr,co⟩|_,_=>none
  |_=>none
theorem zkE {o:HO} {l:Ln} (h:lnU o=some l):o=lnS l:=by
  unfold lnU at h
  split at h
  · split at h
    · rename_i h1 h2;cases h;rw [Nat.eq_of_beq_eq_true h1,Nat.eq_of_beq_eq_true h2];rfl
    · cases h
  · cases h
def evU:HO→Option (List Evt)
  |.row .evt e l=>match Nat.beq e 53 with|true=>some l|false=>none
  |_=>none
theorem zik {o:HO} {l:List Evt} (h:evU o=some l):o=.row .evt 53 l:=by
  unfold evU at h
  split at h
  · split at h
    · rename_i h1;cases h;rw [Nat.eq_of_beq_eq_true h1]
    · cases h
  · cases h
def flU:HO→Option (List Fld)
  |.row .fld e l=>match Nat.beq e 72 with|true=>some l|false=>none
  |_=>none
theorem zii {o:HO} {l:List Fld} (h:flU o=some l):o=.row .fld 72 l:=by
  unfold flU at h
  split at h
  · split at h
    · rename_i h1;cases h;rw [Nat.eq_of_beq_eq_true h1]
    · cases h
  · cases h
def skU:HO→Option (Str × Int × List Int)
  |.pack [.obj t [.row 1,.row 2,.p (.int .i64 n)],.row .byte e m,.row .int e2 bs]=>match Nat.beq t 91,Nat.beq e 5,Nat.beq e2 3 with|true,true,true=>some (m,n,bs)|_,_,_=>none
  |_=>none
theorem zhY {o:HO} {x:Str × Int × List Int} (h:skU o=some x):o=skO x.1 x.2.1 x.2.2:=by
  unfold skU at h
  split at h
  · split at h
    · rename_i h1 h2 h3;cases h;rw [Nat.eq_of_beq_eq_true h1,Nat.eq_of_beq_eq_true h2,Nat.eq_of_beq_eq_true h3];rfl
    · cases h
  · cases h
def fmU:List HO→Option Fm
  | .obj t [.ptr 1 0,.p (.int .i64 p),.p (.val (.pointer none)),.row 2,.p (.int .i64 pa),.p (.int .i64 sk),.p (.int .i64 co),.row 3]::r=>(match Nat.beq t 60,r with
    |true,[a,b,c]=>(match skU a,flU b,evU c with|some x,some f,some out=>some ⟨x.1,x.2.1,x.2.2,p,none,f,pa,sk,co,out⟩|_,_,_=>none)
    |_,_=>none)
  | .obj t [.ptr 1 0,.p (.int .i64 p),.ptr 2 0,.row 3,.p (.int .i64 pa),.p (.int .i64 sk),.p (.int .i64 co),.row 4]::r=>(match Nat.beq t 60,r with
    |true,[a,l,b,c]=>(match skU a,lnU l,flU b,evU c with|some x,some ln,some f,some out=>some ⟨x.1,x.2.1,x.2.2,p,some ln,f,pa,sk,co,out⟩|_,_,_,_=>none)
    |_,_=>none)
  |_=>none
theorem zkQ {l:List HO} {q:Fm} (h:fmU l=some q):l=fmS q:=by
  unfold fmU at h
  split at h
  · split at h
    · rename_i h1;split at h
      · rename_i h2 h3 h4;cases h;rw [Nat.eq_of_beq_eq_true h1,zhY h2,zii h3,zik h4];rfl
      · cases h
    · cases h
  · split at h
    · rename_i h1;split at h
      · rename_i h2 h5 h3 h4;cases h;rw [Nat.eq_of_beq_eq_true h1,zhY h2,zkE h5,zii h3,zik h4];rfl
      · cases h
    · cases h
  · cases h
def shapeOf (l:List HO):Option Gh:=match fmU l with|some f=>some (.fm f)|none=>none
theorem zdF (l:List HO) (g:Gh) (h:shapeOf l=some g):shapes g=l:=by
  unfold shapeOf at h
  split at h
  · rename_i q hq;cases h;exact(zkQ hq).symm
  · cases h
end Go.Proofs.YtknaogelmckimaaGreatDoor
namespace Go.Proofs.YtknaogelmckimaaGreatDoor
open Go Go.Ab
instance facts:Facts:= { p:=fun w=>True,sh:=shapes,ab:=shapeOf,abok:=zdF}
def tabT:TT:=
 (.node (.node (.node (.node (.node (.node (.node (.node .nil 0 ⟨.other,1,0,none,none⟩
 .nil) 1 ⟨.other,1,8,(some [.val .nilFunc]),none⟩
 (.node .nil 2 ⟨.int .i64,1,8,(some [.int .i64 0]),none⟩
 .nil)) 3 ⟨.int .i64,1,8,(some [.int .i64 0]),none⟩
 (.node (.node .nil 4 ⟨.bool,1,1,(some [.bool false]),none⟩
 .nil) 5 ⟨.int .u8,1,1,(some [.int .u8 0]),none⟩
 (.node .nil 6 ⟨.int .u8,1,1,(some [.int .u8 0]),none⟩
 .nil))) 9 ⟨.str,1,16,(some [.str []]),none⟩
 (.node (.node (.node .nil 10 ⟨.str,1,16,(some [.str []]),none⟩
 .nil) 11 ⟨.str,1,16,(some [.str []]),none⟩
 (.node .nil 12 ⟨.int .u64,1,8,(some [.int .u64 0]),none⟩
 .nil)) 15 ⟨.ptr,1,8,(some [.val (.pointer none)]),none⟩
 (.node (.node .nil 16 ⟨.ptr,1,8,(some [.val (.pointer none)]),none⟩
 .nil) 17 ⟨.ptr,1,8,(some [.val (.pointer none)]),none⟩
 (.node .nil 20 ⟨.iface,1,16,(some [.val .nilIface]),none⟩
 .nil)))) 21 ⟨.int .i32,1,4,(some [.int .i32 0]),none⟩
 (.node (.node (.node (.node .nil 22 ⟨.slice 5,1,24,(some [.list .byte []]),(some .byte)⟩
 .nil) 23 ⟨.other,1,8,(some [.val .nilFunc]),none⟩
 (.node .nil 24 ⟨.ptr,1,8,(some [.val (.pointer none)]),none⟩
 .nil)) 25 ⟨.other,1,0,none,none⟩
 (.node (.node .nil 26 ⟨.other,1,8,(some [.val .nilFunc]),none⟩
 .nil) 27 ⟨.other,1,8,(some [.val .nilFunc]),none⟩
 (.node .nil 28 ⟨.slice 51,1,24,(some [.list .prt []]),(some .prt)⟩
 .nil))) 29 ⟨.other,1,0,none,none⟩
 (.node (.node (.node .nil 30 ⟨.other,1,8,(some [.val .nilFunc]),none⟩
 .nil) 31 ⟨.other,1,8,(some [.val .nilFunc]),none⟩
 (.node .nil 32 ⟨.slice 53,1,24,(some [.list .evt []]),(some .evt)⟩
 .nil)) 33 ⟨.other,1,8,(some [.val .nilFunc]),none⟩
 (.node (.node .nil 34 ⟨.other,1,0,none,none⟩
 .nil) 35 ⟨.other,1,8,(some [.val .nilFunc]),none⟩
 .nil)))) 36 ⟨.other,1,8,(some [.val .nilFunc]),none⟩
 (.node (.node (.node (.node (.node .nil 37 ⟨.other,1,8,(some [.val .nilFunc]),none⟩
 .nil) 38 ⟨.other,1,8,(some [.val .nilFunc]),none⟩
 (.node .nil 39 ⟨.other,1,8,(some [.val .nilFunc]),none⟩
 .nil)) 40 ⟨.other,1,0,none,none⟩
 (.node (.node .nil 41 ⟨.other,1,8,(some [.val .nilFunc]),none⟩
 .nil) 42 ⟨.other,1,8,(some [.val .nilFunc]),none⟩
 (.node .nil 43 ⟨.other,1,8,(some [.val .nilFunc]),none⟩
 .nil))) 44 ⟨.slice 3,1,24,(some [.list .int []]),(some .int)⟩
 (.node (.node (.node .nil 45 ⟨.slice 22,1,24,(some [.list .bytes []]),(some .bytes)⟩
 .nil) 46 ⟨.other,1,8,(some [.val .nilFunc]),none⟩
 (.node .nil 47 ⟨.slice 72,1,24,(some [.list .fld []]),(some .fld)⟩
 .nil)) 48 ⟨.struct [(0,9),(1,9),(2,3),(3,47),(4,3)],5,72,(some [.str [],.str [],.int .i64 0,.list .fld [],.int .i64 0]),none⟩
 (.node (.node .nil 49 ⟨.struct [(0,9),(1,9),(2,3),(3,47),(4,3)],5,72,(some [.str [],.str [],.int .i64 0,.list .fld [],.int .i64 0]),none⟩
 .nil) 50 ⟨.struct [(0,9),(1,9),(2,9),(3,22)],4,72,(some [.str [],.str [],.str [],.list .byte []]),none⟩
 (.node .nil 51 ⟨.struct [(0,9),(1,9),(2,9),(3,22)],4,72,(some [.str [],.str [],.str [],.nl []]),none⟩
 .nil)))) 52 ⟨.struct [(0,3),(1,49),(6,22),(7,51),(11,3)],12,184,(some [.int .i64 0,.str [],.str [],.int .i64 0,.list .fld [],.int .i64 0,.list .byte [],.str [],.str [],.str [],.nl [],.int .i64 0]),none⟩
 (.node (.node (.node (.node .nil 53 ⟨.struct [(0,3),(1,49),(6,22),(7,51),(11,3)],12,184,(some [.int .i64 0,.str [],.str [],.int .i64 0,.list .fld [],.int .i64 0,.list .byte [],.str [],.str [],.str [],.nl [],.int .i64 0]),none⟩
 .nil) 54 ⟨.other,1,8,(some [.val .nilFunc]),none⟩
 (.node .nil 55 ⟨.other,1,8,(some [.val .nilFunc]),none⟩
 .nil)) 56 ⟨.ptr,1,8,(some [.val (.pointer none)]),none⟩
 (.node (.node .nil 57 ⟨.other,1,8,(some [.val .nilFunc]),none⟩
 .nil) 58 ⟨.ptr,1,8,(some [.val (.pointer none)]),none⟩
 (.node .nil 59 ⟨.struct [(0,56),(1,3),(2,58),(3,47),(4,3),(5,3),(6,3),(7,32)],8,96,(some [.val (.pointer none),.int .i64 0,.val (.pointer none),.list .fld [],.int .i64 0,.int .i64 0,.int .i64 0,.list .evt []]),none⟩
 .nil))) 60 ⟨.struct [(0,56),(1,3),(2,58),(3,47),(4,3),(5,3),(6,3),(7,32)],8,96,(some [.val (.pointer none),.int .i64 0,.val (.pointer none),.list .fld [],.int .i64 0,.int .i64 0,.int .i64 0,.list .evt []]),none⟩
 (.node (.node (.node .nil 61 ⟨.other,1,0,none,none⟩
 .nil) 62 ⟨.other,1,8,(some [.val .nilFunc]),none⟩
 (.node .nil 63 ⟨.ptr,1,8,(some [.val (.pointer none)]),none⟩
 .nil)) 64 ⟨.other,1,8,(some [.val .nilFunc]),none⟩
 (.node (.node .nil 65 ⟨.other,1,8,(some [.val .nilFunc]),none⟩
 .nil) 66 ⟨.other,1,8,(some [.val .nilFunc]),none⟩
 .nil))))) 67 ⟨.other,1,8,(some [.val .nilFunc]),none⟩
 (.node (.node (.node (.node (.node (.node .nil 68 ⟨.other,1,8,(some [.val .nilFunc]),none⟩
 .nil) 69 ⟨.other,1,0,none,none⟩
 (.node .nil 70 ⟨.other,1,8,(some [.val .nilFunc]),none⟩
 .nil)) 71 ⟨.struct [(0,9),(1,9)],2,32,(some [.str [],.str []]),none⟩
 (.node (.node .nil 72 ⟨.struct [(0,9),(1,9)],2,32,(some [.str [],.str []]),none⟩
 .nil) 73 ⟨.other,1,0,none,none⟩
 (.node .nil 74 ⟨.other,1,8,(some [.val .nilFunc]),none⟩
 .nil))) 75 ⟨.other,1,0,none,none⟩
 (.node (.node (.node .nil 76 ⟨.other,1,8,(some [.val .nilFunc]),none⟩
 .nil) 77 ⟨.other,1,8,(some [.val .nilFunc]),none⟩
 (.node .nil 78 ⟨.other,1,0,none,none⟩
 .nil)) 79 ⟨.other,1,8,(some [.val .nilFunc]),none⟩
 (.node (.node .nil 80 ⟨.other,1,0,none,none⟩
 .nil) 81 ⟨.other,1,8,(some [.val .nilFunc]),none⟩
 (.node .nil 82 ⟨.struct [(0,9),(1,9)],2,32,(some [.str [],.str []]),none⟩
 .nil)))) 83 ⟨.slice 82,1,24,(some [.list .fld []]),(some .fld)⟩
 (.node (.node (.node (.node .nil 84 ⟨.struct [(0,9),(1,83)],2,40,(some [.str [],.list .fld []]),none⟩
 .nil) 85 ⟨.struct [(0,9),(1,83)],2,40,(some [.str [],.list .fld []]),none⟩
 (.node .nil 86 ⟨.other,1,8,(some [.val .nilFunc]),none⟩
 .nil)) 87 ⟨.int .u64,1,8,(some [.int .u64 0]),none⟩
 (.node (.node .nil 88 ⟨.other,1,8,(some [.val .nilFunc]),none⟩
 .nil) 89 ⟨.other,1,8,(some [.val .nilFunc]),none⟩
 (.node .nil 90 ⟨.struct [(0,22),(1,44),(2,3)],3,56,(some [.list .byte [],.list .int [],.int .i64 0]),none⟩
 .nil))) 91 ⟨.struct [(0,22),(1,44),(2,3)],3,56,(some [.list .byte [],.list .int [],.int .i64 0]),none⟩
 (.node (.node (.node .nil 92 ⟨.other,1,8,(some [.val .nilFunc]),none⟩
 .nil) 93 ⟨.other,1,8,(some [.val .nilFunc]),none⟩
 (.node .nil 94 ⟨.other,1,8,(some [.val .nilFunc]),none⟩
 .nil)) 95 ⟨.other,1,8,(some [.val .nilFunc]),none⟩
 (.node (.node .nil 96 ⟨.other,1,0,none,none⟩
 .nil) 97 ⟨.other,1,8,(some [.val .nilFunc]),none⟩
 .nil)))) 98 ⟨.other,1,8,(some [.val .nilFunc]),none⟩
 (.node (.node (.node (.node (.node .nil 99 ⟨.other,1,8,(some [.val .nilFunc]),none⟩
 .nil) 100 ⟨.other,1,0,none,none⟩
 (.node .nil 101 ⟨.other,1,8,(some [.val .nilFunc]),none⟩
 .nil)) 102 ⟨.other,1,0,none,none⟩
 (.node (.node .nil 103 ⟨.other,1,8,(some [.val .nilFunc]),none⟩
 .nil) 104 ⟨.other,1,8,(some [.val .nilFunc]),none⟩
 (.node .nil 105 ⟨.slice 9,1,24,(some [.list .str []]),(some .str)⟩
 .nil))) 106 ⟨.other,1,8,(some [.val .nilFunc]),none⟩
 (.node (.node (.node .nil 107 ⟨.other,1,8,(some [.val .nilFunc]),none⟩
 .nil) 108 ⟨.other,1,8,(some [.val .nilFunc]),none⟩
 (.node .nil 109 ⟨.other,1,8,(some [.val .nilFunc]),none⟩
 .nil)) 110 ⟨.array 256 4,256,256,none,none⟩
 (.node (.node .nil 111 ⟨.array 256 4,256,256,none,none⟩
 .nil) 112 ⟨.other,1,0,none,none⟩
 .nil))) 113 ⟨.other,1,8,(some [.val .nilFunc]),none⟩
 (.node (.node (.node (.node .nil 114 ⟨.other,1,8,(some [.val .nilFunc]),none⟩
 .nil) 115 ⟨.ptr,1,8,(some [.val (.pointer none)]),none⟩
 (.node .nil 116 ⟨.other,1,8,(some [.val .nilFunc]),none⟩
 .nil)) 117 ⟨.struct [(0,22),(1,4),(2,3)],3,40,(some [.list .byte [],.bool false,.int .i64 0]),none⟩
 (.node (.node .nil 118 ⟨.struct [(0,22),(1,4),(2,3)],3,40,(some [.list .byte [],.bool false,.int .i64 0]),none⟩
 .nil) 119 ⟨.other,1,8,(some [.val .nilFunc]),none⟩
 (.node .nil 120 ⟨.other,1,8,(some [.val .nilFunc]),none⟩
 .nil))) 121 ⟨.other,1,8,(some [.val .nilFunc]),none⟩
 (.node (.node (.node .nil 122 ⟨.other,1,8,(some [.val .nilFunc]),none⟩
 .nil) 123 ⟨.other,1,8,(some [.val .nilFunc]),none⟩
 (.node .nil 124 ⟨.other,1,8,(some [.val .nilFunc]),none⟩
 .nil)) 125 ⟨.other,1,0,none,none⟩
 (.node (.node .nil 126 ⟨.other,1,8,(some [.val .nilFunc]),none⟩
 .nil) 127 ⟨.other,1,8,(some [.val .nilFunc]),none⟩
 .nil)))))) 128 ⟨.other,1,0,none,none⟩
 (.node (.node (.node (.node (.node (.node (.node .nil 129 ⟨.other,1,8,(some [.val .nilFunc]),none⟩
 .nil) 130 ⟨.other,1,8,(some [.val .nilFunc]),none⟩
 (.node .nil 131 ⟨.int .u32,1,4,(some [.int .u32 0]),none⟩
 .nil)) 132 ⟨.other,1,0,none,none⟩
 (.node (.node .nil 133 ⟨.other,1,8,(some [.val .nilFunc]),none⟩
 .nil) 134 ⟨.other,1,8,(some [.val .nilFunc]),none⟩
 (.node .nil 135 ⟨.other,1,8,(some [.val .nilFunc]),none⟩
 .nil))) 136 ⟨.ptr,1,8,(some [.val (.pointer none)]),none⟩
 (.node (.node (.node .nil 137 ⟨.other,1,8,(some [.val .nilFunc]),none⟩
 .nil) 138 ⟨.other,1,8,(some [.val .nilFunc]),none⟩
 (.node .nil 139 ⟨.other,1,8,(some [.val .nilFunc]),none⟩
 .nil)) 140 ⟨.other,1,8,(some [.val .nilFunc]),none⟩
 (.node (.node .nil 141 ⟨.struct [],0,0,(some []),none⟩
 .nil) 142 ⟨.struct [],0,0,(some []),none⟩
 (.node .nil 143 ⟨.struct [],0,0,(some []),none⟩
 .nil)))) 144 ⟨.struct [(0,143),(0,131)],1,4,(some [.int .u32 0]),none⟩
 (.node (.node (.node (.node .nil 145 ⟨.struct [(0,143),(0,131)],1,4,(some [.int .u32 0]),none⟩
 .nil) 146 ⟨.struct [(0,21),(1,131)],2,8,(some [.int .i32 0,.int .u32 0]),none⟩
 (.node .nil 147 ⟨.struct [(0,21),(1,131)],2,8,(some [.int .i32 0,.int .u32 0]),none⟩
 .nil)) 148 ⟨.struct [(0,142),(0,147)],2,8,(some [.int .i32 0,.int .u32 0]),none⟩
 (.node (.node .nil 149 ⟨.struct [(0,142),(0,147)],2,8,(some [.int .i32 0,.int .u32 0]),none⟩
 .nil) 150 ⟨.struct [(0,142),(0,145),(1,149)],3,12,(some [.int .u32 0,.int .i32 0,.int .u32 0]),none⟩
 (.node .nil 151 ⟨.struct [(0,142),(0,145),(1,149)],3,12,(some [.int .u32 0,.int .i32 0,.int .u32 0]),none⟩
 .nil))) 152 ⟨.iface,1,16,(some [.val .nilIface]),none⟩
 (.node (.node (.node .nil 153 ⟨.iface,1,16,(some [.val .nilIface]),none⟩
 .nil) 154 ⟨.struct [(0,151),(3,153),(4,105)],5,56,(some [.int .u32 0,.int .i32 0,.int .u32 0,.val .nilIface,.list .str []]),none⟩
 (.node .nil 155 ⟨.struct [(0,151),(3,153),(4,105)],5,56,(some [.int .u32 0,.int .i32 0,.int .u32 0,.val .nilIface,.list .str []]),none⟩
 .nil)) 156 ⟨.other,1,8,(some [.val .nilFunc]),none⟩
 (.node (.node .nil 157 ⟨.array 256 5,256,256,none,none⟩
 .nil) 158 ⟨.struct [(0,5),(1,5)],2,2,(some [.int .u8 0,.int .u8 0]),none⟩
 .nil)))) 159 ⟨.struct [(0,5),(1,5)],2,2,(some [.int .u8 0,.int .u8 0]),none⟩
 (.node (.node (.node (.node (.node .nil 160 ⟨.array 16 159,32,32,(some [.int .u8 0,.int .u8 0,.int .u8 0,.int .u8 0,.int .u8 0,.int .u8 0,.int .u8 0,.int .u8 0,.int .u8 0,.int .u8 0,.int .u8 0,.int .u8 0,.int .u8 0,.int .u8 0,.int .u8 0,.int .u8 0,.int .u8 0,.int .u8 0,.int .u8 0,.int .u8 0,.int .u8 0,.int .u8 0,.int .u8 0,.int .u8 0,.int .u8 0,.int .u8 0,.int .u8 0,.int .u8 0,.int .u8 0,.int .u8 0,.int .u8 0,.int .u8 0]),none⟩
 .nil) 161 ⟨.other,1,8,(some [.val .nilFunc]),none⟩
 (.node .nil 162 ⟨.other,1,8,(some [.val .nilFunc]),none⟩
 .nil)) 163 ⟨.int .i64,1,8,(some [.int .i64 0]),none⟩
 (.node (.node .nil 164 ⟨.other,1,0,none,none⟩
 .nil) 165 ⟨.ptr,1,8,(some [.val (.pointer none)]),none⟩
 (.node .nil 166 ⟨.struct [(0,9)],1,16,(some [.str []]),none⟩
 .nil))) 167 ⟨.struct [(0,9)],1,16,(some [.str []]),none⟩
 (.node (.node (.node .nil 168 ⟨.other,1,8,(some [.val .nilFunc]),none⟩
 .nil) 169 ⟨.other,1,8,(some [.val .nilFunc]),none⟩
 (.node .nil 170 ⟨.ptr,1,8,(some [.val (.pointer none)]),none⟩
 .nil)) 171 ⟨.other,1,8,(some [.val .nilFunc]),none⟩
 (.node (.node .nil 172 ⟨.other,1,8,(some [.val .nilFunc]),none⟩
 .nil) 173 ⟨.other,1,8,(some [.val .nilFunc]),none⟩
 (.node .nil 174 ⟨.other,1,8,(some [.val .nilFunc]),none⟩
 .nil)))) 175 ⟨.ptr,1,8,(some [.val (.pointer none)]),none⟩
 (.node (.node (.node (.node .nil 176 ⟨.other,1,8,(some [.val .nilFunc]),none⟩
 .nil) 177 ⟨.ptr,1,8,(some [.val (.pointer none)]),none⟩
 (.node .nil 178 ⟨.other,1,8,(some [.val .nilFunc]),none⟩
 .nil)) 179 ⟨.ptr,1,8,(some [.val (.pointer none)]),none⟩
 (.node (.node .nil 180 ⟨.other,1,8,(some [.val .nilFunc]),none⟩
 .nil) 181 ⟨.ptr,1,8,(some [.val (.pointer none)]),none⟩
 (.node .nil 182 ⟨.other,1,8,(some [.val .nilFunc]),none⟩
 .nil))) 183 ⟨.array 256 5,256,256,none,none⟩
 (.node (.node (.node .nil 184 ⟨.ptr,1,8,(some [.val (.pointer none)]),none⟩
 .nil) 185 ⟨.array 256 22,256,6144,none,none⟩
 (.node .nil 186 ⟨.struct [(0,185),(256,105)],257,6168,none,none⟩
 .nil)) 187 ⟨.struct [(0,185),(256,105)],257,6168,none,none⟩
 (.node (.node .nil 188 ⟨.ptr,1,8,(some [.val (.pointer none)]),none⟩
 .nil) 189 ⟨.other,1,8,(some [.val .nilFunc]),none⟩
 .nil))))) 190 ⟨.ptr,1,8,(some [.val (.pointer none)]),none⟩
 (.node (.node (.node (.node (.node (.node .nil 191 ⟨.other,1,8,(some [.val .nilFunc]),none⟩
 .nil) 192 ⟨.other,1,8,(some [.val .nilFunc]),none⟩
 (.node .nil 193 ⟨.ptr,1,8,(some [.val (.pointer none)]),none⟩
 .nil)) 194 ⟨.other,1,8,(some [.val .nilFunc]),none⟩
 (.node (.node .nil 195 ⟨.struct [(0,193),(1,9)],2,24,(some [.val (.pointer none),.str []]),none⟩
 .nil) 196 ⟨.struct [(0,193),(1,9)],2,24,(some [.val (.pointer none),.str []]),none⟩
 (.node .nil 197 ⟨.ptr,1,8,(some [.val (.pointer none)]),none⟩
 .nil))) 198 ⟨.slice 197,1,24,none,none⟩
 (.node (.node (.node .nil 199 ⟨.struct [(0,9),(1,3),(2,9),(3,197),(4,198)],5,72,none,none⟩
 .nil) 200 ⟨.struct [(0,9),(1,3),(2,9),(3,197),(4,198)],5,72,none,none⟩
 (.node .nil 201 ⟨.struct [(0,200),(5,3),(6,157)],262,336,none,none⟩
 .nil)) 202 ⟨.struct [(0,200),(5,3),(6,157)],262,336,none,none⟩
 (.node (.node .nil 203 ⟨.other,1,8,(some [.val .nilFunc]),none⟩
 .nil) 204 ⟨.ptr,1,8,(some [.val (.pointer none)]),none⟩
 (.node .nil 205 ⟨.other,1,8,(some [.val .nilFunc]),none⟩
 .nil)))) 206 ⟨.ptr,1,8,(some [.val (.pointer none)]),none⟩
 (.node (.node (.node (.node .nil 207 ⟨.other,1,8,(some [.val .nilFunc]),none⟩
 .nil) 208 ⟨.other,1,8,none,none⟩
 (.node .nil 209 ⟨.other,1,8,(some [.val .nilFunc]),none⟩
 .nil)) 210 ⟨.other,1,8,(some [.val .nilFunc]),none⟩
 (.node (.node .nil 211 ⟨.array 256 3,256,2048,none,none⟩
 .nil) 212 ⟨.struct [(0,9),(1,211),(257,44)],258,2088,none,none⟩
 (.node .nil 213 ⟨.struct [(0,9),(1,211),(257,44)],258,2088,none,none⟩
 .nil))) 214 ⟨.other,1,8,(some [.val .nilFunc]),none⟩
 (.node (.node (.node .nil 215 ⟨.other,1,8,(some [.val .nilFunc]),none⟩
 .nil) 216 ⟨.other,1,8,(some [.val .nilFunc]),none⟩
 (.node .nil 217 ⟨.other,1,8,(some [.val .nilFunc]),none⟩
 .nil)) 220 ⟨.array 0 16,0,0,(some []),none⟩
 (.node (.node .nil 223 ⟨.int .u8,1,1,(some [.int .u8 0]),none⟩
 .nil) 224 ⟨.int .u8,1,1,(some [.int .u8 0]),none⟩
 .nil)))) 225 ⟨.other,1,8,(some [.val .nilFunc]),none⟩
 (.node (.node (.node (.node (.node .nil 226 ⟨.ptr,1,8,(some [.val (.pointer none)]),none⟩
 .nil) 227 ⟨.int .i32,1,4,(some [.int .i32 0]),none⟩
 (.node .nil 228 ⟨.int .i32,1,4,(some [.int .i32 0]),none⟩
 .nil)) 229 ⟨.struct [(0,12),(1,12),(2,131),(3,223),(4,5),(5,5),(6,224),(7,225),(8,226),(9,227),(10,228)],11,48,(some [.int .u64 0,.int .u64 0,.int .u32 0,.int .u8 0,.int .u8 0,.int .u8 0,.int .u8 0,.val .nilFunc,.val (.pointer none),.int .i32 0,.int .i32 0]),none⟩
 (.node (.node .nil 230 ⟨.struct [(0,12),(1,12),(2,131),(3,223),(4,5),(5,5),(6,224),(7,225),(8,226),(9,227),(10,228)],11,48,(some [.int .u64 0,.int .u64 0,.int .u32 0,.int .u8 0,.int .u8 0,.int .u8 0,.int .u8 0,.val .nilFunc,.val (.pointer none),.int .i32 0,.int .i32 0]),none⟩
 .nil) 231 ⟨.other,1,8,(some [.val .nilFunc]),none⟩
 (.node .nil 232 ⟨.ptr,1,8,(some [.val (.pointer none)]),none⟩
 .nil))) 233 ⟨.struct [(0,232),(1,22)],2,32,(some [.val (.pointer none),.list .byte []]),none⟩
 (.node (.node (.node .nil 234 ⟨.struct [(0,232),(1,22)],2,32,(some [.val (.pointer none),.list .byte []]),none⟩
 .nil) 235 ⟨.other,1,8,(some [.val .nilFunc]),none⟩
 (.node .nil 236 ⟨.iface,1,16,(some [.val .nilIface]),none⟩
 .nil)) 237 ⟨.iface,1,16,(some [.val .nilIface]),none⟩
 (.node (.node .nil 238 ⟨.other,1,0,none,none⟩
 .nil) 239 ⟨.other,1,8,(some [.val .nilFunc]),none⟩
 .nil))) 240 ⟨.other,1,8,(some [.val .nilFunc]),none⟩
 (.node (.node (.node (.node .nil 241 ⟨.other,1,8,(some [.val .nilFunc]),none⟩
 .nil) 242 ⟨.slice 5,1,24,(some [.list .byte []]),(some .byte)⟩
 (.node .nil 243 ⟨.ptr,1,8,(some [.val (.pointer none)]),none⟩
 .nil)) 244 ⟨.iface,1,16,(some [.val .nilIface]),none⟩
 (.node (.node .nil 245 ⟨.iface,1,16,(some [.val .nilIface]),none⟩
 .nil) 246 ⟨.iface,1,16,(some [.val .nilIface]),none⟩
 (.node .nil 247 ⟨.iface,1,16,(some [.val .nilIface]),none⟩
 .nil))) 248 ⟨.other,1,8,(some [.val .nilFunc]),none⟩
 (.node (.node (.node .nil 249 ⟨.other,1,0,none,none⟩
 .nil) 250 ⟨.other,1,8,(some [.val .nilFunc]),none⟩
 (.node .nil 251 ⟨.other,1,0,none,none⟩
 .nil)) 252 ⟨.struct [(0,245)],1,16,(some [.val .nilIface]),none⟩
 (.node (.node .nil 253 ⟨.struct [(0,245)],1,16,(some [.val .nilIface]),none⟩
 .nil) 254 ⟨.other,1,8,(some [.val .nilFunc]),none⟩
 .nil)))))))
def tab:Tab:=tabT.get
theorem zi:tab.fits Tryz.prog:=Tab.zjF (by kernel_rfl)
theorem mixed:Tryz.prog.follows .mixedOrders=true:=by kernel_rfl
end Go.Proofs.YtknaogelmckimaaGreatDoor
namespace Go.Proofs.YtknaogelmckimaaGreatDoor
open Go Go.Sep Go.Ab
def hd0:Hd:=⟨[],[],0,[],0⟩
def prt0:Prt:=⟨[],[],[],[]⟩
def evB (b:Str):Evt:=⟨2,hd0,b,prt0,0⟩
def evE:Evt:=⟨3,hd0,[],prt0,0⟩
def evF (c:Int):Evt:=⟨4,hd0,[],prt0,c⟩
def Zm (out:List Evt) (e:Evt):List Evt:=
  match out.getLast? with
  |some x=>if e.kind=2∧x.kind=2 then out.dropLast++[evB (x.bytes++e.bytes)] else out++[e]
  |none=>out++[e]
def zN (l:List Evt):List Evt:=l.foldl Zm []
theorem yY (z:List Evt) (x e:Evt):Zm (z++[x]) e=if e.kind=2∧x.kind=2 then z++[evB (x.bytes++e.bytes)] else z++[x]++[e]:=by
  unfold Zm
  simp
theorem rU (e:Evt):Zm [] e=[e]:=rfl
end Go.Proofs.YtknaogelmckimaaGreatDoor
namespace Go.Ab
open Go Go.Sep
variable [Facts]
def wfI (n:Int):Prop:= -9223372036854775808≤n∧n≤9223372036854775807
def wfS {α:Type} (s:List α):Prop:=s.length≤140737488355328
def zgI (f:Fld):Prop:=wfS f.name∧wfS f.value
def wfHd (h:Hd):Prop:=wfS h.method∧wfS h.target∧wfI h.minor∧(wfS h.fields∧∀ f ∈ h.fields,zgI f)∧wfI h.length
def zj1 (p:Prt):Prop:=wfS p.name∧wfS p.file∧wfS p.type∧wfS p.bytes
def wfZ:(u:U)→u.den→Prop
  |.byte,_=>True
  |.int,n=>wfI n
  |.str,(s:Str)=>wfS s
  |.fld,f=>zgI f
  |.bytes,(b:Str)=>wfS b
  |.hd,h=>wfHd h
  |.prt,p=>zj1 p
  |.evt,(e:Evt)=>wfI e.kind∧wfHd e.head∧wfS e.bytes∧zj1 e.part∧wfI e.code
  |.upl,(x:Upl)=>wfI x.id∧wfI x.size∧wfS x.note∧wfS x.bytes∧wfI x.sent
  |.ent,(e:Ent)=>wfI e.kind∧wfI e.id∧wfI e.n∧wfS e.text
  |.stp,(e:Stp)=>wfI e.kind∧wfI e.conn∧wfI e.n∧wfS e.bytes
  |.ask,(a:Ask)=>wfHd a.h∧wfS a.body
  |.cal,(c:Cal)=>wfI c.conn∧wfS c.b
  |.lst,(e:Lst)=>wfI e.op∧wfI e.n∧wfS e.b
  |.sst,(e:Sst)=>wfI e.op∧wfI e.id∧wfI e.n∧wfS e.text
  |.rpl,(r:Rpl)=>wfI r.status∧(wfS r.fields∧∀ f ∈ r.fields,zgI f)∧wfS r.body
  |.med,(m:Med)=>wfS m.word∧(wfS m.params∧∀ f ∈ m.params,zgI f)
  |_,_=>True
abbrev Small {H:Type} (Pr:Program) (t:TypeId) (d:DataW H):Prop:=(d.weights Pr t).all (· ≤reachBytes)=true
section
variable {H:Type} {hsh:TypeId × Value→H} {Pr:Program} {w:World} {hF:Holds w} {base:Nat} {spare:Nat→Bool} {held:Bool}
def Zg (hsh:TypeId × Value→H) (Pr:Program) (w:World) (hF:Holds w) (base:Nat) (spare:Nat→Bool) (held:Bool) (t:TypeId) (Q:List P→Prop):Prop:=
  ∀ fuel cs y,DataW.trod hsh Pr w base spare held fuel t cs=some y→Small Pr t y.1→∃ ps,MPs (frzW w hF) ps cs∧Q ps
theorem Zg.mono {t:TypeId} {Q Q':List P→Prop} (h:Zg hsh Pr w hF base spare held t Q) (hq: ∀ ps,Q ps→Q' ps):Zg hsh Pr w hF base spare held t Q':=by
  intro fuel cs y hy hs
  obtain⟨ps,h1,h2⟩:=h fuel cs y hy hs
  exact⟨ps,h1,hq _ h2⟩
def QU (u:U) (ps:List P):Prop:=∃ x:u.den,ps=enc alg u x∧wfZ u x
def QL (u:U) (ps:List P):Prop:=∃ l:List u.den,ps=[.list u l]∧wfS l∧∀ x ∈ l,wfZ u x
theorem op_byte {t:TypeId} (ht:Pr.underlying t=some (.int .u8)):Zg hsh Pr w hF base spare held t (QU .byte):=by
  intro fuel cs y h _
  obtain⟨c,hc⟩:=zdN ht fuel cs y h
  exact⟨enc alg .byte c,zjg hc,c,rfl,trivial⟩
theorem zch {n:Nat} (h:n≤reachBytes):n≤140737488355328:=Nat.le_trans h (by decide)
theorem op_str {t:TypeId} (ht:Pr.underlying t=some .string):Zg hsh Pr w hF base spare held t (QU .str):=by
  intro fuel cs y h hs
  obtain⟨s,rfl,hy,hl⟩:=DataW.trod_string ht h
  have e:Sep.S s.data.toList=s:=by cases s;rfl
  refine⟨[.str s.data.toList],⟨by rw [← e];exact .str _ (by simpa using hl),trivial⟩,s.data.toList,rfl,?_⟩
  rw [hy] at hs
  simp only [Small,DataW.weights,List.all_cons,List.all_nil,Bool.and_true,decide_eq_true_eq] at hs
  exact zch hs
def elemsOf:DataW H→List (DataW H)
  |.slice es _=>es
  |_=>[]
theorem za2 {α:Type} {t e:TypeId} {size:Nat} {R:Sep.Rel α} (ht:Pr.underlying t=some (.slice e)) (hs:Pr.cellsOf e=size) {fuel:Nat} {cs:List Value} {y:DataW H × List MemPlace}
    (h:DataW.trod hsh Pr w base spare held fuel t cs=some y) (he: ∀ n ci z,z.1 ∈ elemsOf y.1→DataW.trod hsh Pr w base spare held n e ci=some z→∃ x,R w ci x):
    ∃ xs,RSl size R w cs xs∧xs.length=(elemsOf y.1).length:=by
  rcases DataW.trod_slice ht h with⟨rfl,rfl⟩|⟨a,len,cap,elems,rest,n,_,rfl,rfl,_,hl,hm,hlen,hel,_,_⟩
  · exact⟨[],⟨_,[],rfl,⟨none,0,rfl,Nat.le_refl _,Nat.zero_le _,fun _=>rfl,by simp,fun j u h=>by simp at h⟩,fun i x h=>by simp at h⟩,rfl⟩
  · subst hs
    have each: ∀ i,i<len→∃ ci:List Value,ci.length=Pr.cellsOf e∧(∀ j u,ci[j]? =some u→w.cell? ((a.add (i * Pr.cellsOf e)).add j)=some u)∧∃ x,R w ci x:=by
      intro i hi
      have h1:=hel i hi
      rw [List.getElem?_eq_getElem (by omega),Option.bind_eq_some_iff] at h1
      obtain⟨ci,hci,hy⟩:=h1
      obtain⟨h2,h3⟩:=cells?_get hci
      exact⟨ci,h2,h3,he n ci _ (List.mem_map_of_mem (List.getElem_mem _)) hy⟩
    have all: ∀ m,m≤len→∃ (vs:List Value) (xs:List α),xs.length=m∧vs.length=m * Pr.cellsOf e∧(∀ j u,vs[j]? =some u→w.cell? (a.add j)=some u)∧∀ i x,xs[i]? =some x→R w ((vs.drop (i * Pr.cellsOf e)).take (Pr.cellsOf e)) x:=by
      intro m
      induction m with
      |zero=>intro _;exact⟨[],[],rfl,by simp,fun j u h=>by simp at h,fun i x h=>by simp at h⟩
      | succ m ih=>
        intro hm'
        obtain⟨vs,xs,h1,h2,h3,h4⟩:=ih (by omega)
        obtain⟨ci,c1,c2,x,c3⟩:=each m (by omega)
        refine⟨vs++ci,xs++[x],by simp [h1],by simp [h2,c1,Nat.succ_mul],fun j u hj=> ?_,fun i z hi=> ?_⟩
        · rcases Nat.lt_or_ge j vs.length with hj1|hj1
          · rw [List.getElem?_append_left hj1] at hj;exact h3 j u hj
          · rw [List.getElem?_append_right hj1] at hj
            have h5:=c2 _ _ hj
            rw [Addr.add_add,h2,show m * Pr.cellsOf e+(j - m * Pr.cellsOf e)=j by omega] at h5
            exact h5
        · rcases Nat.lt_or_ge i xs.length with hi1|hi1
          · rw [List.getElem?_append_left hi1] at hi
            have h5:=h4 i z hi
            have h6:i * Pr.cellsOf e+Pr.cellsOf e≤vs.length:=by rw [h2,← Nat.succ_mul];exact Nat.mul_le_mul_right _ (by omega)
            rw [List.drop_append_of_le_length (by omega),List.take_append_of_le_length (by simp;omega)]
            exact h5
          · rw [List.getElem?_append_right hi1] at hi
            have hi2:i=m:=by
              have:=(List.getElem?_eq_some_iff.1 hi).1
              simp at this;omega
            subst hi2
            rw [h1,Nat.sub_self] at hi
            simp at hi
            subst hi
            rw [← h2,List.drop_left,List.take_of_length_le (by omega)]
            exact c3
    obtain⟨vs,xs,h1,h2,h3,h4⟩:=all len (Nat.le_refl _)
    refine⟨xs,⟨_,vs,rfl,⟨some a,cap,by rw [h1],by omega,hm,(fun h=>by cases h),by rw [h1];exact h2,fun j u hj=> ?_⟩,h4⟩,by simp [elemsOf,h1,hlen]⟩
    have hsp:a.spot=none:=by
      cases hv:vs with
      |nil=>rw [hv] at hj;simp at hj
      | cons u0 r=>
        have:=h3 0 u0 (by rw [hv];rfl)
        rw [show a.add 0=a by simp [Addr.add]] at this
        exact ziy this
    exact⟨⟨a,rfl,hsp⟩,by rw [← Xc hsp];exact h3 j u hj⟩
theorem weightsAll_mem {e:TypeId}: ∀ {es:List (DataW H)} {d:DataW H},d ∈ es→∀ n ∈ d.weights Pr e,n ∈ DataW.weightsAll Pr e es
  | x::es,d,hd,n,hn=>by
    simp only [DataW.weightsAll,List.mem_append]
    rcases List.mem_cons.1 hd with rfl|hd
    · exact .inl hn
    · exact .inr (weightsAll_mem hd n hn)
theorem zdE {t e:TypeId} (ht:Pr.underlying t=some (.slice e)) {d z:DataW H} (h:Small Pr t d) (hz:z ∈ elemsOf d):Small Pr e z:=by
  cases d<;>simp only [elemsOf,List.not_mem_nil] at hz
  refine List.all_eq_true.2 fun n hn=>List.all_eq_true.1 h n ?_
  simp only [DataW.weights,ht,List.mem_cons,List.mem_append]
  exact .inr (.inl (weightsAll_mem hz n hn))
theorem zeB {t e:TypeId} (ht:Pr.underlying t=some (.slice e)) (hb:Nat.blt 0 (Pr.bytesOf e)=true) {d:DataW H} (h:Small Pr t d):(elemsOf d).length≤140737488355328:=by
  cases d<;>simp only [elemsOf]<;>try exact Nat.zero_le _
  rename_i es ss
  have h1:=List.all_eq_true.1 h ((es.length+ss.length) * Pr.bytesOf e) (by simp [DataW.weights,ht])
  have hb:0<Pr.bytesOf e:=by simpa [Nat.blt_eq] using hb
  refine zch (Nat.le_trans (Nat.le_trans (Nat.le_add_right _ ss.length) (Nat.le_mul_of_pos_right _ hb)) (by simpa using h1))
theorem op_list {t e:TypeId} {u:U} (ht:Pr.underlying t=some (.slice e)) (hc:Pr.cellsOf e=u.size) (hb:Nat.blt 0 (Pr.bytesOf e)=true) (he:Zg hsh Pr w hF base spare held e (QU u)):
    Zg hsh Pr w hF base spare held t (QL u):=by
  intro fuel cs y h hs
  obtain⟨l,hl,hlen⟩:=za2 (R:=fun _ cs (x:u.den)=>MPs (frzW w hF) (enc alg u x) cs∧wfZ u x) ht hc h (fun n ci z hz ht'=>by
    obtain⟨ps,h1,x,rfl,hx⟩:=he n ci z ht' (zdE ht hs hz)
    exact⟨x,h1,hx⟩)
  have hl':=hl
  obtain⟨v,vs,rfl,_,hx⟩:=hl
  refine⟨[.list u l],⟨zjf (fun _ _ h=>h.1) hl',trivial⟩,l,rfl,by unfold wfS;rw [hlen];exact zeB ht hb hs,fun x hm=> ?_⟩
  obtain⟨i,hi⟩:=List.getElem?_of_mem hm
  exact(hx i x hi).2
def zer (hsh:TypeId × Value→H) (Pr:Program) (w:World) (hF:Holds w) (base:Nat) (spare:Nat→Bool) (held:Bool):List Field→List (List P→Prop)→Prop
  |[],[]=>True
  |f::fs,Q::Qs=>Zg hsh Pr w hF base spare held f.type Q∧zer hsh Pr w hF base spare held fs Qs
  |_,_=>False
theorem zer.nil:zer hsh Pr w hF base spare held [] []:=trivial
theorem zer.cons {f:Field} {fs:List Field} {Q:List P→Prop} {Qs:List (List P→Prop)} (h:Zg hsh Pr w hF base spare held f.type Q) (k:zer hsh Pr w hF base spare held fs Qs):zer hsh Pr w hF base spare held (f::fs) (Q::Qs):=⟨h,k⟩
theorem MPs.append {S:Frz}: ∀ {a b:List P} {x y:List Value},MPs S a x→MPs S b y→MPs S (a++b) (x++y)
  |[],_,[],_,_,h=>h
  |_::_,_,_::_,_,h,k=>⟨h.1,MPs.append h.2 k⟩
theorem z_one {t:TypeId} {v:Value} {d:DataW H} {ps:List MemPlace} {Q:List P→Prop} (hr:v.oneCell'=true) (h:DataW.Trod hsh Pr w base spare held t v d ps) (hs:Small Pr t d) (ho:Zg hsh Pr w hF base spare held t Q): ∃ qs,MPs (frzW w hF) qs [v]∧Q qs:=by
  obtain⟨fuel,hf⟩:=h
  have hc:v.cells.toList=[v]:=by cases v<;>first|rfl|cases hr
  rw [hc] at hf
  exact ho fuel _ _ hf hs
theorem small_nth {ts:List TypeId} {ds:List (DataW H)} (h:(DataW.weightsEach Pr ts ds).all (· ≤reachBytes)=true) {j:Nat} {t:TypeId} {d:DataW H} (ht:ts[j]? =some t) (hd:ds[j]? =some d):Small Pr t d:=
  List.all_eq_true.2 fun n hn=>List.all_eq_true.1 h n (DataW.weights_mem_each ht hd n hn)
end
end Go.Ab
namespace Go.Proofs
open Go.Shelf
def Tryz.zbi:Go.Shelf.Ren:=⟨fun|161=>145|231=>68|227=>70|233=>71|235=>73|228=>93|197=>94|151=>95|260=>109|152=>110|137=>108|119=>120|224=>85|225=>121|217=>119|266=>132|n=>n,fun|9=>9|4=>4|3=>3|5=>5|117=>112|116=>111|0=>0|124=>115|105=>125|21=>21|119=>157|46=>87|139=>160|138=>159|n=>n,fun|3=>1|4=>2|n=>n⟩
theorem Tryz.lays161:Go.Proofs.Lays.n161 Tryz.prog Tryz.zbi:= {
  mixed:=by kernel_rfl
  f119:=Tryz.func120.trans (congrArg some (by kernel_rfl))
  f137:=Tryz.func108.trans (congrArg some (by kernel_rfl))
  f151:=Tryz.func95.trans (congrArg some (by kernel_rfl))
  f152:=Tryz.func110.trans (congrArg some (by kernel_rfl))
  f161:=Tryz.func145.trans (congrArg some (by kernel_rfl))
  f197:=Tryz.func94.trans (congrArg some (by kernel_rfl))
  f217:=Tryz.func119.trans (congrArg some (by kernel_rfl))
  f224:=Tryz.func85.trans (congrArg some (by kernel_rfl))
  f225:=Tryz.func121.trans (congrArg some (by kernel_rfl))
  f227:=Tryz.func70.trans (congrArg some (by kernel_rfl))
  f228:=Tryz.func93.trans (congrArg some (by kernel_rfl))
  f231:=Tryz.func68.trans (congrArg some (by kernel_rfl))
  f233:=Tryz.func71.trans (congrArg some (by kernel_rfl))
  f235:=Tryz.func73.trans (congrArg some (by kernel_rfl))
  f260:=Tryz.func109.trans (congrArg some (by kernel_rfl))
  f266:=Tryz.func132.trans (congrArg some (by kernel_rfl))
  t0:=Tryz.underlying0
  a0:=Tryz.isAgg0
  z0:=Tryz.sizeOf0
  v0:=Tryz.zeroValue0
  t3:=Tryz.underlying3
  a3:=Tryz.isAgg3
  z3:=Tryz.sizeOf3
  v3:=Tryz.zeroValue3
  t4:=Tryz.underlying4
  a4:=Tryz.isAgg4
  z4:=Tryz.sizeOf4
  v4:=Tryz.zeroValue4
  t5:=Tryz.underlying5
  a5:=Tryz.isAgg5
  z5:=Tryz.sizeOf5
  v5:=Tryz.zeroValue5
  t9:=Tryz.underlying9
  a9:=Tryz.isAgg9
  z9:=Tryz.sizeOf9
  v9:=Tryz.zeroValue9
  t21:=Tryz.underlying21
  a21:=Tryz.isAgg21
  z21:=Tryz.sizeOf21
  v21:=Tryz.zeroValue21
  t46:=Tryz.underlying87
  a46:=Tryz.isAgg87
  z46:=Tryz.sizeOf87
  v46:=Tryz.zeroValue87
  t105:=Tryz.underlying125
  a105:=Tryz.isAgg125
  z105:=Tryz.sizeOf125
  v105:=Tryz.zeroValue125
  t116:=Tryz.underlying111
  a116:=Tryz.isAgg111
  z116:=Tryz.sizeOf111
  t117:=Tryz.underlying112
  a117:=Tryz.isAgg112
  z117:=Tryz.sizeOf112
  v117:=Tryz.zeroValue112
  t119:=Tryz.underlying157
  a119:=Tryz.isAgg157
  z119:=Tryz.sizeOf157
  t124:=Tryz.underlying115
  a124:=Tryz.isAgg115
  z124:=Tryz.sizeOf115
  v124:=Tryz.zeroValue115
  t138:=Tryz.underlying159
  a138:=Tryz.isAgg159
  z138:=Tryz.sizeOf159
  v138:=Tryz.zeroValue159
  t139:=Tryz.underlying160
  a139:=Tryz.isAgg160
  z139:=Tryz.sizeOf160
  v139:=Tryz.zeroValue160
  g3:=by kernel_rfl
  g4:=by kernel_rfl}
def Tryz.zbj:Go.Shelf.Ren:=⟨fun|160=>50|232=>69|231=>68|227=>70|234=>72|233=>71|236=>74|235=>73|228=>93|271=>96|151=>95|197=>94|120=>111|152=>110|260=>109|137=>108|119=>120|224=>85|225=>121|217=>119|266=>132|n=>n,fun|9=>9|4=>4|3=>3|5=>5|117=>112|116=>111|0=>0|124=>115|21=>21|105=>125|46=>87|119=>157|139=>160|138=>159|n=>n,fun|3=>1|4=>2|n=>n⟩
theorem Tryz.lays160:Go.Proofs.Lays.n160 Tryz.prog Tryz.zbj:= {
  mixed:=by kernel_rfl
  f119:=Tryz.func120.trans (congrArg some (by kernel_rfl))
  f120:=Tryz.func111.trans (congrArg some (by kernel_rfl))
  f137:=Tryz.func108.trans (congrArg some (by kernel_rfl))
  f151:=Tryz.func95.trans (congrArg some (by kernel_rfl))
  f152:=Tryz.func110.trans (congrArg some (by kernel_rfl))
  f160:=Tryz.func50.trans (congrArg some (by kernel_rfl))
  f197:=Tryz.func94.trans (congrArg some (by kernel_rfl))
  f217:=Tryz.func119.trans (congrArg some (by kernel_rfl))
  f224:=Tryz.func85.trans (congrArg some (by kernel_rfl))
  f225:=Tryz.func121.trans (congrArg some (by kernel_rfl))
  f227:=Tryz.func70.trans (congrArg some (by kernel_rfl))
  f228:=Tryz.func93.trans (congrArg some (by kernel_rfl))
  f231:=Tryz.func68.trans (congrArg some (by kernel_rfl))
  f232:=Tryz.func69.trans (congrArg some (by kernel_rfl))
  f233:=Tryz.func71.trans (congrArg some (by kernel_rfl))
  f234:=Tryz.func72.trans (congrArg some (by kernel_rfl))
  f235:=Tryz.func73.trans (congrArg some (by kernel_rfl))
  f236:=Tryz.func74.trans (congrArg some (by kernel_rfl))
  f260:=Tryz.func109.trans (congrArg some (by kernel_rfl))
  f266:=Tryz.func132.trans (congrArg some (by kernel_rfl))
  f271:=Tryz.func96.trans (congrArg some (by kernel_rfl))
  t0:=Tryz.underlying0
  a0:=Tryz.isAgg0
  z0:=Tryz.sizeOf0
  v0:=Tryz.zeroValue0
  t3:=Tryz.underlying3
  a3:=Tryz.isAgg3
  z3:=Tryz.sizeOf3
  v3:=Tryz.zeroValue3
  t4:=Tryz.underlying4
  a4:=Tryz.isAgg4
  z4:=Tryz.sizeOf4
  v4:=Tryz.zeroValue4
  t5:=Tryz.underlying5
  a5:=Tryz.isAgg5
  z5:=Tryz.sizeOf5
  v5:=Tryz.zeroValue5
  t9:=Tryz.underlying9
  a9:=Tryz.isAgg9
  z9:=Tryz.sizeOf9
  v9:=Tryz.zeroValue9
  t21:=Tryz.underlying21
  a21:=Tryz.isAgg21
  z21:=Tryz.sizeOf21
  v21:=Tryz.zeroValue21
  t46:=Tryz.underlying87
  a46:=Tryz.isAgg87
  z46:=Tryz.sizeOf87
  v46:=Tryz.zeroValue87
  t105:=Tryz.underlying125
  a105:=Tryz.isAgg125
  z105:=Tryz.sizeOf125
  v105:=Tryz.zeroValue125
  t116:=Tryz.underlying111
  a116:=Tryz.isAgg111
  z116:=Tryz.sizeOf111
  t117:=Tryz.underlying112
  a117:=Tryz.isAgg112
  z117:=Tryz.sizeOf112
  v117:=Tryz.zeroValue112
  t119:=Tryz.underlying157
  a119:=Tryz.isAgg157
  z119:=Tryz.sizeOf157
  t124:=Tryz.underlying115
  a124:=Tryz.isAgg115
  z124:=Tryz.sizeOf115
  v124:=Tryz.zeroValue115
  t138:=Tryz.underlying159
  a138:=Tryz.isAgg159
  z138:=Tryz.sizeOf159
  v138:=Tryz.zeroValue159
  t139:=Tryz.underlying160
  a139:=Tryz.isAgg160
  z139:=Tryz.sizeOf160
  v139:=Tryz.zeroValue160
  g3:=by kernel_rfl
  g4:=by kernel_rfl}
def Tryz.zbk:Go.Shelf.Ren:=⟨fun|137=>108|217=>119|266=>132|n=>n,fun|9=>9|5=>5|3=>3|n=>n,fun|n=>n⟩
theorem Tryz.lays137:Go.Proofs.Lays.n137 Tryz.prog Tryz.zbk:= {
  mixed:=by kernel_rfl
  f137:=Tryz.func108.trans (congrArg some (by kernel_rfl))
  f217:=Tryz.func119.trans (congrArg some (by kernel_rfl))
  f266:=Tryz.func132.trans (congrArg some (by kernel_rfl))
  t3:=Tryz.underlying3
  a3:=Tryz.isAgg3
  z3:=Tryz.sizeOf3
  v3:=Tryz.zeroValue3
  t5:=Tryz.underlying5
  a5:=Tryz.isAgg5
  z5:=Tryz.sizeOf5
  v5:=Tryz.zeroValue5
  t9:=Tryz.underlying9
  a9:=Tryz.isAgg9
  z9:=Tryz.sizeOf9
  v9:=Tryz.zeroValue9}
def Tryz.zbh:Go.Shelf.Ren:=⟨fun|219=>128|217=>119|225=>121|224=>85|267=>138|266=>132|314=>147|n=>n,fun|9=>9|3=>3|4=>4|5=>5|46=>87|146=>132|51=>131|n=>n,fun|1=>0|n=>n⟩
theorem Tryz.lays219:Go.Proofs.Lays.n219 Tryz.prog Tryz.zbh:= {
  mixed:=by kernel_rfl
  f217:=Tryz.func119.trans (congrArg some (by kernel_rfl))
  f219:=Tryz.func128.trans (congrArg some (by kernel_rfl))
  f224:=Tryz.func85.trans (congrArg some (by kernel_rfl))
  f225:=Tryz.func121.trans (congrArg some (by kernel_rfl))
  f266:=Tryz.func132.trans (congrArg some (by kernel_rfl))
  f267:=Tryz.func138.trans (congrArg some (by kernel_rfl))
  f314:=Tryz.func147.trans (congrArg some (by kernel_rfl))
  t3:=Tryz.underlying3
  a3:=Tryz.isAgg3
  z3:=Tryz.sizeOf3
  v3:=Tryz.zeroValue3
  t4:=Tryz.underlying4
  a4:=Tryz.isAgg4
  z4:=Tryz.sizeOf4
  v4:=Tryz.zeroValue4
  t5:=Tryz.underlying5
  a5:=Tryz.isAgg5
  z5:=Tryz.sizeOf5
  v5:=Tryz.zeroValue5
  t9:=Tryz.underlying9
  a9:=Tryz.isAgg9
  z9:=Tryz.sizeOf9
  v9:=Tryz.zeroValue9
  t46:=Tryz.underlying87
  a46:=Tryz.isAgg87
  z46:=Tryz.sizeOf87
  v46:=Tryz.zeroValue87
  t51:=Tryz.underlying131
  a51:=Tryz.isAgg131
  z51:=Tryz.sizeOf131
  v51:=Tryz.zeroValue131
  t146:=Tryz.underlying132
  a146:=Tryz.isAgg132
  z146:=Tryz.sizeOf132
  v146:=Tryz.zeroValue132
  g1:=by kernel_rfl}
open Go.RowKit in
theorem Tryz.strings_IndexByte (s:ByteArray) (c:Int) (w:World):
    Calls Tryz.prog 108 #[.string s,.int .u8 c] w fun e w'=>e=.returned (.int .i64 (Lib.indexByte s.data.toList c.toNat.toUInt8))∧w'=w:=Any.strings_IndexByte Tryz.lays137 s c w
open Go.RowKit Go.Lib in
theorem Tryz.stringslite_Index_one (s:ByteArray) (c:UInt8) (w:World):
    Calls Tryz.prog 128 #[.string s,.string ⟨#[c]⟩] w fun e w'=>e=.returned (.int .i64 (Lib.indexByte s.data.toList c))∧w'=w:=Any.stringslite_Index_one Tryz.lays219 s c w
theorem Tryz.strings_Trim_laid (s cutset:ByteArray) (w:World) (hs:s.size≤9223372036854775807) (hcs:cutset.size<4294967281) (hascii: ∀ (j:Nat) b,cutset.data.toList[j]? =some b→b.toNat<128):
    Calls Tryz.prog 50 #[.string s,.string cutset] w fun e w'=>e=.returned (.string ⟨(Lib.trimS s.data.toList cutset.data.toList).toArray⟩)∧Go.RowKit.Below w.heap.size w w':=Any.strings_Trim_laid Tryz.lays160 (by kernel_rfl) s cutset w hs hcs hascii
theorem Tryz.strings_TrimLeft_laid (s cutset:ByteArray) (w:World) (hcs:cutset.size<4294967281) (hascii: ∀ (j:Nat) b,cutset.data.toList[j]? =some b→b.toNat<128):
    Calls Tryz.prog 145 #[.string s,.string cutset] w fun e w'=>e=.returned (.string ⟨(Lib.trimLeftS s.data.toList cutset.data.toList).toArray⟩)∧Go.RowKit.Below w.heap.size w w':=Any.strings_TrimLeft_laid Tryz.lays161 (by kernel_rfl) s cutset w hcs hascii
end Go.Proofs
namespace Go.Ab
open Go Go.Sep
variable [Facts]
theorem zbQ {w w':World} (h:RowKit.Below w.heap.size w w'):Keeps (fun k=>k<w.heap.size) w w':=⟨h.1,h.2,h.3,h.4,h.5⟩
theorem Spc.of_below {Pr:Program} {f:Nat} {args:List D} {hp:List HO} {d:D} (hf: ∃ fn,Pr.funcs[f]? =some fn∧(fn.name == "runtime.NumGoroutine")=false∧fn.body.isNone=false)
    (h: ∀ (S:Frz) (bs:List Value) (w:World) (vs:List Value),Facts.p w→MDs S bs args vs→∃ v,MD S bs d v∧Calls Pr f vs.toArray w fun e w'=>e=.returned v∧RowKit.Below w.heap.size w w'):Spc Pr f args hp (.ret d) hp:=by
  refine⟨hf,fun S K fr w vs hH hM hA=> ?_⟩
  obtain⟨v,hv,hc⟩:=h S _ w vs (At.frz hA).facts hM
  refine hc.mono fun e w' he=> ?_
  obtain⟨he,hb⟩:=he
  subst he
  exact⟨S,K,Frz.le.refl S,Ext.refl _,hH,hA.keep (zbQ hb),hv⟩
end Go.Ab
namespace Go.Proofs.YtknaogelmckimaaGreatDoor
open Go Go.Sep Go.Ab
set_option maxRecDepth 100000
theorem zb3 (s cs:Str):(Lib.trimS s cs).length≤s.length:=by
  unfold Lib.trimS Lib.trimLeftS Lib.trimRightS
  refine Nat.le_trans (List.dropWhile_sublist _).length_le ?_
  rw [List.length_reverse]
  exact Nat.le_trans (List.dropWhile_sublist _).length_le (by rw [List.length_reverse];exact Nat.le_refl _)
theorem um: ∀ (s:Str) (c:UInt8),-1≤Lib.indexByte s c∧Lib.indexByte s c<s.length
  |[],c=>by simp [Lib.indexByte]
  | b ::l,c=>by
    have:=um l c
    unfold Lib.indexByte
    rw [List.length_cons]
    split
    · omega
    · split
      · omega
      · omega
theorem zld (s:Str):Spc Tryz.prog 50 [.v (.one (.p (.str s))),.v (.one (.p (.str ([32,9]))))] [] (.ret (.v (.one (.p (.str (Lib.trimS s [32,9])))))) []:=by
  refine Spc.of_below ⟨_,Tryz.func50,by kernel_rfl,by kernel_rfl⟩ fun S bs w vs _ hM=> ?_
  obtain⟨v,r,rfl⟩: ∃ v r,vs=v::r:=by cases vs with|nil=>exact hM.elim|cons v r=>exact⟨v,r,rfl⟩
  obtain⟨h1,hM⟩:=hM
  obtain⟨v2,r2,rfl⟩: ∃ v r2,r=v::r2:=by cases r with|nil=>exact hM.elim|cons v r=>exact⟨v,r,rfl⟩
  obtain⟨h2,hM⟩:=hM
  obtain rfl:r2=[]:=by cases r2 with|nil=>rfl|cons v r=>exact hM.elim
  cases h1 with
  | str _ hl1=>
    cases h2 with
    | str _ hl2=>
      refine⟨.string (Sep.S (Lib.trimS s [32,9])),.str _ (Nat.le_trans (zb3 _ _) hl1),?_⟩
      exact Tryz.strings_Trim_laid (Sep.S s) (Sep.S [32,9]) w (by have:=hl1;unfold maxLen at this;exact this) (by decide) (fun j b hb=>by
        have:=List.mem_of_getElem? hb
        rcases(by simpa [Sep.S] using this:b=32∨b=9) with rfl|rfl<;>decide)
def Tj (I:Alg) (args:List D) (hp:List HO):Option CT:=match args,hp with
  |[.v (.one (.p (.str s))),.v (.one (.p (.str ([32,9]))))],[]=>(fun(s:Str)=>(some (.one ⟨I.hid (True),(.ret (.v (.one (.p (.str (I.hid (Lib.trimS s [32,9]))))))),[]⟩):Option CT)) s
  |_,_=>none
theorem zev:zy Tryz.prog 50 (Tj alg):=by
  intro args hp r h
  unfold Tj at h
  split at h
  · cases h;exact fun hn=>zld _
  · cases h
def ziv:Know Tryz.prog:=⟨50,Tj,zev⟩
def ziu:Know Tryz.prog:=⟨50,fun I=>zA I (Tj I),zf zev⟩
theorem zd3 (s:Str) (k:Int):Spc Tryz.prog 108 [.v (.one (.p (.str s))),.v (.one (.p (.int .u8 k)))] [] (.ret (.v (.one (.p (.int .i64 (Lib.indexByte s k.toNat.toUInt8)))))) []:=by
  refine Spc.of_below ⟨_,Tryz.func108,by kernel_rfl,by kernel_rfl⟩ fun S bs w vs _ hM=> ?_
  obtain⟨v,r,rfl⟩: ∃ v r,vs=v::r:=by cases vs with|nil=>exact hM.elim|cons v r=>exact⟨v,r,rfl⟩
  obtain⟨h1,hM⟩:=hM
  obtain⟨v2,r2,rfl⟩: ∃ v r2,r=v::r2:=by cases r with|nil=>exact hM.elim|cons v r=>exact⟨v,r,rfl⟩
  obtain⟨h2,hM⟩:=hM
  obtain rfl:r2=[]:=by cases r2 with|nil=>rfl|cons v r=>exact hM.elim
  cases h1 with
  | str _ hl1=>
    cases h2 with
    | int _ _=>
      refine⟨.int .i64 (Lib.indexByte s k.toNat.toUInt8),.int _ _,?_⟩
      refine(Tryz.strings_IndexByte (Sep.S s) k w).mono fun e w' h=> ?_
      obtain⟨he,rfl⟩:=h
      exact⟨he,RowKit.Below.refl _ _⟩
def uo (I:Alg) (args:List D) (hp:List HO):Option CT:=match args,hp with
  |[.v (.one (.p (.str s))),.v (.one (.p (.int .u8 k)))],[]=>(fun(s:Str) (k:Int)=>(some (.one ⟨I.hid (True),(.ret (.v (.one (.p (.int .i64 (I.hid (Lib.indexByte s k.toNat.toUInt8))))))),[]⟩):Option CT)) s k
  |_,_=>none
theorem Xn:zy Tryz.prog 108 (uo alg):=by
  intro args hp r h
  unfold uo at h
  split at h
  · cases h;exact fun hn=>zd3 _ _
  · cases h
def Q7:Know Tryz.prog:=⟨108,uo,Xn⟩
def Q5:Know Tryz.prog:=⟨108,fun I=>zA I (uo I),zf Xn⟩
theorem zje (s:Str) (c:UInt8):Spc Tryz.prog 128 [.v (.one (.p (.str s))),.v (.one (.p (.str ([c]))))] [] (.ret (.v (.one (.p (.int .i64 (Lib.indexByte s c)))))) []:=by
  refine Spc.of_below ⟨_,Tryz.func128,by kernel_rfl,by kernel_rfl⟩ fun S bs w vs _ hM=> ?_
  obtain⟨v,r,rfl⟩: ∃ v r,vs=v::r:=by cases vs with|nil=>exact hM.elim|cons v r=>exact⟨v,r,rfl⟩
  obtain⟨h1,hM⟩:=hM
  obtain⟨v2,r2,rfl⟩: ∃ v r2,r=v::r2:=by cases r with|nil=>exact hM.elim|cons v r=>exact⟨v,r,rfl⟩
  obtain⟨h2,hM⟩:=hM
  obtain rfl:r2=[]:=by cases r2 with|nil=>rfl|cons v r=>exact hM.elim
  cases h1 with
  | str _ hl1=>
    cases h2 with
    | str _ _=>
      refine⟨.int .i64 (Lib.indexByte s c),.int _ _,?_⟩
      refine(Tryz.stringslite_Index_one (Sep.S s) c w).mono fun e w' h=> ?_
      obtain⟨he,rfl⟩:=h
      exact⟨he,RowKit.Below.refl _ _⟩
def Ya (I:Alg) (args:List D) (hp:List HO):Option CT:=match args,hp with
  |[.v (.one (.p (.str s))),.v (.one (.p (.str ([c]))))],[]=>(fun(s:Str) (c:UInt8)=>(some (.one ⟨I.hid (True),(.ret (.v (.one (.p (.int .i64 (I.hid (Lib.indexByte s c))))))),[]⟩):Option CT)) s c
  |_,_=>none
theorem Q8:zy Tryz.prog 128 (Ya alg):=by
  intro args hp r h
  unfold Ya at h
  split at h
  · cases h;exact fun hn=>zje _ _
  · cases h
def zfm:Know Tryz.prog:=⟨128,Ya,Q8⟩
def zfl:Know Tryz.prog:=⟨128,fun I=>zA I (Ya I),zf Q8⟩
end Go.Proofs.YtknaogelmckimaaGreatDoor
namespace Go.Proofs.YtknaogelmckimaaGreatDoor
open Go Go.Sep Go.Ab
set_option maxRecDepth 100000
def lowK (k:Int):Int:=if 65≤k∧k≤90 then k+32 else k
def Ze (k:Int):Bool:=decide (48≤k∧k≤57)
def uK (k:Int):Bool:=decide (97≤lowK k∧lowK k≤122)
def marks:Str:=[33,35,36,37,38,39,42,43,45,46,94,95,96,124,126]
def tokB (k:Int):Bool:=Ze k||(uK k||decide (0≤Lib.indexByte marks k.toNat.toUInt8))
def vk (k:Int):Bool:=decide (k=9∨32≤k∧k≠127)
def hexK (k:Int):Int:=if Ze k then k - 48 else if uK k&&decide (lowK k≤102) then lowK k - 97+10 else -1
theorem zis (n:Int) (h:0≤n∧n≤255):IntKind.u8.wrap n=n:=by
  unfold IntKind.wrap
  simp only [show IntKind.u8.signed=false by decide,show IntKind.u8.bits=8 by decide,Bool.false_and,Bool.false_eq_true,if_false]
  omega
theorem wrap64 (n:Int) (h: -9223372036854775808≤n∧n≤9223372036854775807):IntKind.i64.wrap n=n:=by
  unfold IntKind.wrap
  simp only [show IntKind.i64.signed=true by decide,show IntKind.i64.bits=64 by decide]
  split<;>simp_all<;>omega
theorem ze9 {k:Int} (h:0≤k∧k≤255):0≤lowK k∧lowK k≤255:=by unfold lowK;split<;>omega
theorem zk3 (k:Int):Spc Tryz.prog 106 [.v (.one (.p (.int .u8 k)))] [] (.ret (.v (.one (.p (.bool (Ze k)))))) []:=by
  refine spcG zi mixed Tryz.func106 (by kernel_rfl) { keep:=some [0,2]} [] (by kernel_rfl) ?_
  intro I X hI hX
  refine zh (.br (I.ile 48 k) (.fin (.ret (.v (.one (.p (.bool (I.ile k 57)))))) []) (.fin (.ret (.v (.one (.p (.bool Bool.false))))) [])) (by kernel_rfl) ?_
  simp only [zn]
  subst hI
  simp only [nrmA,nrmB]
  unfold Ze
  exact⟨fun h=>decide_eq_decide.2 (by omega),fun h=>(decide_eq_false (by omega)).symm⟩
def WB (I:Alg) (args:List D) (hp:List HO):Option CT:=match args,hp with
  |[.v (.one (.p (.int .u8 k)))],[]=>(fun(k:Int)=>(some (.one ⟨I.hid (True),(.ret (.v (.one (.p (.bool (I.hid (Ze k))))))),[]⟩):Option CT)) k
  |_,_=>none
theorem zdl:zy Tryz.prog 106 (WB alg):=by
  intro args hp r h
  unfold WB at h
  split at h
  · cases h;exact fun hn=>zk3 _
  · cases h
def zdk:Know Tryz.prog:=⟨106,WB,zdl⟩
def zdj:Know Tryz.prog:=⟨106,fun I=>zA I (WB I),zf zdl⟩
theorem zkC (k:Int) (hneed:0≤k∧k≤255):Spc Tryz.prog 102 [.v (.one (.p (.int .u8 k)))] [] (.ret (.v (.one (.p (.int .u8 (lowK k)))))) []:=by
  refine spcG zi mixed Tryz.func102 (by kernel_rfl) { keep:=some [0,2]} [] (by kernel_rfl) ?_
  intro I X hI hX
  refine zh (.br (I.ile 65 k) (.br (I.ile k 90) (.need (I.inr Go.IntKind.u8 (I.add k 32)) (.fin (.ret (.v (.one (.p (.int .u8 (I.add k 32)))))) [])) (.fin (.ret (.v (.one (.p (.int .u8 k))))) [])) (.fin (.ret (.v (.one (.p (.int .u8 k))))) [])) (by kernel_rfl) ?_
  simp only [zn]
  subst hI
  simp only [nrmA,nrmB]
  unfold lowK
  (repeat' (first|refine And.intro ?_ ?_|intro _))<;>first|omega|exact True.intro|exact False.elim ‹False›|skip
def Wh (I:Alg) (args:List D) (hp:List HO):Option CT:=match args,hp with
  |[.v (.one (.p (.int .u8 k)))],[]=>(fun(k:Int)=>(some (.one ⟨I.hid (0≤k∧k≤255),(.ret (.v (.one (.p (.int .u8 (I.hid (lowK k))))))),[]⟩):Option CT)) k
  |_,_=>none
theorem zcE:zy Tryz.prog 102 (Wh alg):=by
  intro args hp r h
  unfold Wh at h
  split at h
  · cases h;exact fun hn=>zkC _ hn
  · cases h
def X9:Know Tryz.prog:=⟨102,Wh,zcE⟩
def X8:Know Tryz.prog:=⟨102,fun I=>zA I (Wh I),zf zcE⟩
theorem zjb (k:Int) (hneed:0≤k∧k≤255):Spc Tryz.prog 107 [.v (.one (.p (.int .u8 k)))] [] (.ret (.v (.one (.p (.bool (uK k)))))) []:=by
  refine spcG zi mixed Tryz.func107 (by kernel_rfl) { keep:=some [0,2]} [X9,X8] (by kernel_rfl) ?_
  intro I X hI hX
  refine zh (let y0:=I.hid (α:=(Prop)) (And (LE.le (0:Int) k) (LE.le k (255:Int)));.need y0 (.br (I.ile 97 (I.hid (α:=Int) (lowK k))) (.need y0 (.fin (.ret (.v (.one (.p (.bool (I.ile (I.hid (α:=Int) (lowK k)) 122)))))) [])) (.fin (.ret (.v (.one (.p (.bool Bool.false))))) []))) (by kernel_rfl) ?_
  simp only [zn]
  subst hI
  simp only [nrmA,nrmB]
  unfold uK
  (repeat' (first|refine And.intro ?_ ?_|intro _))<;>first|omega|exact True.intro|exact False.elim ‹False›|skip
  all_goals first|exact decide_eq_decide.2 (by omega)|exact(decide_eq_false (by omega)).symm|exact(decide_eq_true (by omega)).symm|(rw [show(k == 127)=decide (k=127) from rfl,← decide_not];exact decide_eq_decide.2 (by omega))
def Z8 (I:Alg) (args:List D) (hp:List HO):Option CT:=match args,hp with
  |[.v (.one (.p (.int .u8 k)))],[]=>(fun(k:Int)=>(some (.one ⟨I.hid (0≤k∧k≤255),(.ret (.v (.one (.p (.bool (I.hid (uK k))))))),[]⟩):Option CT)) k
  |_,_=>none
theorem QI:zy Tryz.prog 107 (Z8 alg):=by
  intro args hp r h
  unfold Z8 at h
  split at h
  · cases h;exact fun hn=>zjb _ hn
  · cases h
def QH:Know Tryz.prog:=⟨107,Z8,QI⟩
def QG:Know Tryz.prog:=⟨107,fun I=>zA I (Z8 I),zf QI⟩
theorem zj3 (k:Int) (hneed:0≤k∧k≤255):Spc Tryz.prog 92 [.v (.one (.p (.int .u8 k)))] [] (.ret (.v (.one (.p (.bool (tokB k)))))) []:=by
  refine spcG zi mixed Tryz.func92 (by kernel_rfl) { keep:=some [0,2]} [Q7,Q5,zdk,zdj,QH,QG] (by kernel_rfl) ?_
  intro I X hI hX
  refine zh (.need (I.hid (α:=(Prop)) True) (.br (I.hid (α:=Bool) (Ze k)) (.fin (.ret (.v (.one (.p (.bool Bool.true))))) []) (.need (I.hid (α:=(Prop)) (And (LE.le (0:Int) k) (LE.le k (255:Int)))) (.br (I.hid (α:=Bool) (uK k)) (.fin (.ret (.v (.one (.p (.bool Bool.true))))) []) (.need (I.hid (α:=(Prop)) True) (.fin (.ret (.v (.one (.p (.bool (I.ile 0 (I.hid (α:=Int) (Go.Lib.indexByte ([33,35,36,37,38,39,42,43,45,46,94,95,96,124,126]:Str) (Nat.toUInt8 (Int.toNat k)))))))))) [])))))) (by kernel_rfl) ?_
  simp only [zn]
  subst hI
  simp only [nrmA,nrmB]
  unfold tokB marks
  (repeat' (first|refine And.intro ?_ ?_|intro _))<;>first|omega|exact True.intro|exact False.elim ‹False›|skip
  all_goals simp [*]
def XF (I:Alg) (args:List D) (hp:List HO):Option CT:=match args,hp with
  |[.v (.one (.p (.int .u8 k)))],[]=>(fun(k:Int)=>(some (.one ⟨I.hid (0≤k∧k≤255),(.ret (.v (.one (.p (.bool (I.hid (tokB k))))))),[]⟩):Option CT)) k
  |_,_=>none
theorem zb8:zy Tryz.prog 92 (XF alg):=by
  intro args hp r h
  unfold XF at h
  split at h
  · cases h;exact fun hn=>zj3 _ hn
  · cases h
def tJ:Know Tryz.prog:=⟨92,XF,zb8⟩
def Zv:Know Tryz.prog:=⟨92,fun I=>zA I (XF I),zf zb8⟩
theorem zgJ (k:Int):Spc Tryz.prog 46 [.v (.one (.p (.int .u8 k)))] [] (.ret (.v (.one (.p (.bool (vk k)))))) []:=by
  refine spcG zi mixed Tryz.func46 (by kernel_rfl) { keep:=some [0,2]} [] (by kernel_rfl) ?_
  intro I X hI hX
  refine zh (.br (I.ieq k 9) (.fin (.ret (.v (.one (.p (.bool Bool.true))))) []) (.br (I.ile 32 k) (.fin (.ret (.v (.one (.p (.bool (I.bnot (I.ieq k 127))))))) []) (.fin (.ret (.v (.one (.p (.bool Bool.false))))) []))) (by kernel_rfl) ?_
  simp only [zn]
  subst hI
  simp only [nrmA,nrmB]
  unfold vk
  (repeat' (first|refine And.intro ?_ ?_|intro _))<;>first|omega|exact True.intro|exact False.elim ‹False›|skip
  all_goals first|exact decide_eq_decide.2 (by omega)|exact(decide_eq_false (by omega)).symm|exact(decide_eq_true (by omega)).symm|(rw [show(k == 127)=decide (k=127) from rfl,← decide_not];exact decide_eq_decide.2 (by omega))
def qj (I:Alg) (args:List D) (hp:List HO):Option CT:=match args,hp with
  |[.v (.one (.p (.int .u8 k)))],[]=>(fun(k:Int)=>(some (.one ⟨I.hid (True),(.ret (.v (.one (.p (.bool (I.hid (vk k))))))),[]⟩):Option CT)) k
  |_,_=>none
theorem Uc:zy Tryz.prog 46 (qj alg):=by
  intro args hp r h
  unfold qj at h
  split at h
  · cases h;exact fun hn=>zgJ _
  · cases h
def vC:Know Tryz.prog:=⟨46,qj,Uc⟩
def qi:Know Tryz.prog:=⟨46,fun I=>zA I (qj I),zf Uc⟩
theorem zjc (k:Int):Spc Tryz.prog 48 [.v (.one (.p (.int .u8 k)))] [] (.ret (.v (.one (.p (.bool (vk k)))))) []:=by
  refine spcG zi mixed Tryz.func48 (by kernel_rfl) { keep:=some [0,2]} [] (by kernel_rfl) ?_
  intro I X hI hX
  refine zh (.br (I.ieq k 9) (.fin (.ret (.v (.one (.p (.bool Bool.true))))) []) (.br (I.ilt 31 k) (.fin (.ret (.v (.one (.p (.bool (I.bnot (I.ieq k 127))))))) []) (.fin (.ret (.v (.one (.p (.bool Bool.false))))) []))) (by kernel_rfl) ?_
  simp only [zn]
  subst hI
  simp only [nrmA,nrmB]
  unfold vk
  (repeat' (first|refine And.intro ?_ ?_|intro _))<;>first|omega|exact True.intro|exact False.elim ‹False›|skip
  all_goals first|exact decide_eq_decide.2 (by omega)|exact(decide_eq_false (by omega)).symm|exact(decide_eq_true (by omega)).symm|(rw [show(k == 127)=decide (k=127) from rfl,← decide_not];exact decide_eq_decide.2 (by omega))
def Z9 (I:Alg) (args:List D) (hp:List HO):Option CT:=match args,hp with
  |[.v (.one (.p (.int .u8 k)))],[]=>(fun(k:Int)=>(some (.one ⟨I.hid (True),(.ret (.v (.one (.p (.bool (I.hid (vk k))))))),[]⟩):Option CT)) k
  |_,_=>none
theorem QS:zy Tryz.prog 48 (Z9 alg):=by
  intro args hp r h
  unfold Z9 at h
  split at h
  · cases h;exact fun hn=>zjc _
  · cases h
def wu:Know Tryz.prog:=⟨48,Z9,QS⟩
def wo:Know Tryz.prog:=⟨48,fun I=>zA I (Z9 I),zf QS⟩
theorem hex_ (k:Int) (hneed:0≤k∧k≤255):Spc Tryz.prog 127 [.v (.one (.p (.int .u8 k)))] [] (.ret (.v (.one (.p (.int .i64 (hexK k)))))) []:=by
  refine spcG zi mixed Tryz.func127 (by kernel_rfl) { keep:=some [0,2]} [zdk,zdj,X9,X8,QH,QG] (by kernel_rfl) ?_
  intro I X hI hX
  refine zh (let y0:=I.hid (α:=(Prop)) (And (LE.le (0:Int) k) (LE.le k (255:Int)));let y1:=I.add (I.wrap Go.IntKind.i64 (I.sub (I.hid (α:=Int) (lowK k)) 97)) 10;.need (I.hid (α:=(Prop)) True) (.br (I.hid (α:=Bool) (Ze k)) (.need (I.inr Go.IntKind.u8 (I.sub k 48)) (.fin (.ret (.v (.one (.p (.int .i64 (I.wrap Go.IntKind.i64 (I.sub k 48))))))) [])) (.need y0 (.br (I.hid (α:=Bool) (uK k)) (.need y0 (.br (I.ile (I.hid (α:=Int) (lowK k)) 102) (.need y0 (.need (I.inr Go.IntKind.u8 (I.sub (I.hid (α:=Int) (lowK k)) 97)) (.need (I.inr Go.IntKind.i64 y1) (.fin (.ret (.v (.one (.p (.int .i64 y1))))) [])))) (.fin (.ret (.v (.one (.p (.int .i64 (Neg.neg (1:Int))))))) []))) (.fin (.ret (.v (.one (.p (.int .i64 (Neg.neg (1:Int))))))) []))))) (by kernel_rfl) ?_
  simp only [zn]
  subst hI
  simp only [nrmA,nrmB]
  (repeat' (first|refine And.intro ?_ ?_|intro _))<;>first|omega|exact True.intro|exact False.elim ‹False›|skip
  all_goals first
    |(have:=of_decide_eq_true ‹Ze k=true›;omega)
    |(have:=of_decide_eq_true ‹Ze k=true›;unfold hexK;rw [if_pos ‹Ze k=true›,wrap64 _ (by omega)])
    |(have:=of_decide_eq_true ‹uK k=true›;omega)
    |(have:=of_decide_eq_true ‹uK k=true›;rw [wrap64 _ (by omega)];omega)
    |(have:=of_decide_eq_true ‹uK k=true›;rw [wrap64 _ (by omega)];unfold hexK;simp [*])
    |(unfold hexK;simp [*])
def zcO (I:Alg) (args:List D) (hp:List HO):Option CT:=match args,hp with
  |[.v (.one (.p (.int .u8 k)))],[]=>(fun(k:Int)=>(some (.one ⟨I.hid (0≤k∧k≤255),(.ret (.v (.one (.p (.int .i64 (I.hid (hexK k))))))),[]⟩):Option CT)) k
  |_,_=>none
theorem zic:zy Tryz.prog 127 (zcO alg):=by
  intro args hp r h
  unfold zcO at h
  split at h
  · cases h;exact fun hn=>hex_ _ hn
  · cases h
def zib:Know Tryz.prog:=⟨127,zcO,zic⟩
def zia:Know Tryz.prog:=⟨127,fun I=>zA I (zcO I),zf zic⟩
end Go.Proofs.YtknaogelmckimaaGreatDoor
namespace Go.Proofs.YtknaogelmckimaaGreatDoor
open Go Go.Sep Go.Ab
set_option maxRecDepth 100000
def tokA (s:Str):Bool:=s.all fun c=>tokB (c.toNat:Int)
def wH (s:Str):Bool:=s.all fun c=>vk (c.toNat:Int)
theorem xO (c:UInt8):0≤(c.toNat:Int)∧(c.toNat:Int)≤255:=by have:=c.toNat_lt;omega
theorem WH {p:UInt8→Bool} {s:Str} {i:Nat} (h:i<s.length):(s.drop i).all p=(p (s.getD i 0)&&(s.drop (i+1)).all p):=by
  rw [List.drop_eq_getElem_cons h,List.all_cons];simp [h]
theorem zjZ (s:Str) (hneed:s.length≤1000000):Spc Tryz.prog 49 [.v (.one (.p (.str s))),.v (.one (.fn 92 []))] [] (.ret (.v (.one (.p (.bool (tokA s)))))) []:=by
  generalize hr:tokA s=r
  refine spcG zi mixed Tryz.func49 (by kernel_rfl) { keep:=some [0,1,4,5,7,8]} [tJ] (by kernel_rfl) ?_
  intro I X hI hX
  refine zh (.code 0 [1,0,1,0] ⟨[(8,(.v (.one (.p (.int .i64 0))))),(7,(.v (.one (.p (.int .i64 (I.len (α:=UInt8) s)))))),(4,(.v (.one (.p (.val (.bool .false)))))),(0,(.v (.one (.p (.str s))))),(1,(.v (.one (.fn 92 []))))],[],18,none⟩) (by kernel_rfl) ?_
  simp only [zn]
  refine zu hI zi mixed [tJ] hX [0,1,7,8] (fun(i:Nat)=>i≤s.length∧tokA (s.drop i)=r) (fun(i:Nat)=>⟨[(0,.v (.one (.p (.str s)))),(1,.v (.one (.fn 92 []))),(7,.v (.one (.p (.int .i64 ((I.len (α:=UInt8) s)))))),(8,.v (.one (.p (.int .i64 i))))],[],18,none⟩) (fun(i:Nat)=>s.length - i) 0 (by kernel_rfl) (by kernel_rfl) ?_ ?_
  · exact⟨Nat.zero_le _,hr⟩
  rintro i ⟨h1,h2⟩ A hA
  refine zh (let y0:=I.b2i (I.get (α:=UInt8) s 0 (Nat.cast i));.br (I.ilt (Nat.cast i) (I.len (α:=UInt8) s)) (.need (I.inb (Nat.cast i) (I.len (α:=UInt8) s)) (.need (I.hid (α:=(Prop)) (And (LE.le (0:Int) y0) (LE.le y0 (255:Int)))) (.br (I.bnot (I.hid (α:=Bool) (tokB y0))) (.fin (.ret (.v (.one (.p (.bool Bool.false))))) []) (.need (I.inr Go.IntKind.i64 (I.add (Nat.cast i) 1)) (.need (A ⟨[(0,(.v (.one (.p (.str s))))),(1,(.v (.one (.fn 92 [])))),(7,(.v (.one (.p (.int .i64 (I.len (α:=UInt8) s)))))),(8,(.v (.one (.p (.int .i64 (I.add (Nat.cast i) 1))))))],[],18,none⟩) .qed))))) (.fin (.ret (.v (.one (.p (.bool Bool.true))))) [])) (by kernel_rfl) ?_
  simp only [zn]
  subst hI
  simp only [nrmA,nrmB]
  have hb:=xO (s.getD i 0)
  have hd:i<s.length→tokA (s.drop i)=(tokB (s.getD i 0).toNat&&tokA (s.drop (i+1))):=fun h=>WH h
  generalize s.getD i 0=x at *
  (repeat' (first|refine And.intro ?_ ?_|intro _))<;>first|omega|exact True.intro|exact False.elim ‹False›|skip
  all_goals first
    |(rw [← h2,hd (by omega)];simp [*];done)
    |(refine hA (i+1) ⟨by omega,?_⟩ (by omega);rw [← h2,hd (by omega)];simp [*];done)
    |(rw [← h2,List.drop_of_length_le (by omega)];rfl)
def YG (I:Alg) (args:List D) (hp:List HO):Option CT:=match args,hp with
  |[.v (.one (.p (.str s))),.v (.one (.fn 92 []))],[]=>(fun(s:Str)=>(some (.one ⟨I.hid (s.length≤1000000),(.ret (.v (.one (.p (.bool (I.hid (tokA s))))))),[]⟩):Option CT)) s
  |_,_=>none
theorem zaW:zy Tryz.prog 49 (YG alg):=by
  intro args hp r h
  unfold YG at h
  split at h
  · cases h;exact fun hn=>zjZ _ hn
  · cases h
def YF:Know Tryz.prog:=⟨49,YG,zaW⟩
def YE:Know Tryz.prog:=⟨49,fun I=>zA I (YG I),zf zaW⟩
theorem zhQ (s:Str) (hneed:s.length≤1000000):Spc Tryz.prog 49 [.v (.one (.p (.str s))),.v (.one (.fn 46 []))] [] (.ret (.v (.one (.p (.bool (wH s)))))) []:=by
  generalize hr:wH s=r
  refine spcG zi mixed Tryz.func49 (by kernel_rfl) { keep:=some [0,1,4,5,7,8]} [vC,YF,YE] (by kernel_rfl) ?_
  intro I X hI hX
  refine zh (.code 0 [1,0,1,0] ⟨[(8,(.v (.one (.p (.int .i64 0))))),(7,(.v (.one (.p (.int .i64 (I.len (α:=UInt8) s)))))),(4,(.v (.one (.p (.val (.bool .false)))))),(0,(.v (.one (.p (.str s))))),(1,(.v (.one (.fn 46 []))))],[],18,none⟩) (by kernel_rfl) ?_
  simp only [zn]
  refine zu hI zi mixed [vC,YF,YE] hX [0,1,7,8] (fun(i:Nat)=>i≤s.length∧wH (s.drop i)=r) (fun(i:Nat)=>⟨[(0,.v (.one (.p (.str s)))),(1,.v (.one (.fn 46 []))),(7,.v (.one (.p (.int .i64 ((I.len (α:=UInt8) s)))))),(8,.v (.one (.p (.int .i64 i))))],[],18,none⟩) (fun(i:Nat)=>s.length - i) 0 (by kernel_rfl) (by kernel_rfl) ?_ ?_
  · exact⟨Nat.zero_le _,hr⟩
  rintro i ⟨h1,h2⟩ A hA
  refine zh (.br (I.ilt (Nat.cast i) (I.len (α:=UInt8) s)) (.need (I.inb (Nat.cast i) (I.len (α:=UInt8) s)) (.need (I.hid (α:=(Prop)) True) (.br (I.bnot (I.hid (α:=Bool) (vk (I.b2i (I.get (α:=UInt8) s 0 (Nat.cast i)))))) (.fin (.ret (.v (.one (.p (.bool Bool.false))))) []) (.need (I.inr Go.IntKind.i64 (I.add (Nat.cast i) 1)) (.need (A ⟨[(0,(.v (.one (.p (.str s))))),(1,(.v (.one (.fn 46 [])))),(7,(.v (.one (.p (.int .i64 (I.len (α:=UInt8) s)))))),(8,(.v (.one (.p (.int .i64 (I.add (Nat.cast i) 1))))))],[],18,none⟩) .qed))))) (.fin (.ret (.v (.one (.p (.bool Bool.true))))) [])) (by kernel_rfl) ?_
  simp only [zn]
  subst hI
  simp only [nrmA,nrmB]
  have hb:=xO (s.getD i 0)
  have hd:i<s.length→wH (s.drop i)=(vk (s.getD i 0).toNat&&wH (s.drop (i+1))):=fun h=>WH h
  generalize s.getD i 0=x at *
  (repeat' (first|refine And.intro ?_ ?_|intro _))<;>first|omega|exact True.intro|exact False.elim ‹False›|skip
  all_goals first
    |(rw [← h2,hd (by omega)];simp [*];done)
    |(refine hA (i+1) ⟨by omega,?_⟩ (by omega);rw [← h2,hd (by omega)];simp [*];done)
    |(rw [← h2,List.drop_of_length_le (by omega)];rfl)
def qU (I:Alg) (args:List D) (hp:List HO):Option CT:=match args,hp with
  |[.v (.one (.p (.str s))),.v (.one (.fn 46 []))],[]=>(fun(s:Str)=>(some (.one ⟨I.hid (s.length≤1000000),(.ret (.v (.one (.p (.bool (I.hid (wH s))))))),[]⟩):Option CT)) s
  |_,_=>none
theorem Tf:zy Tryz.prog 49 (qU alg):=by
  intro args hp r h
  unfold qU at h
  split at h
  · cases h;exact fun hn=>zhQ _ hn
  · cases h
def Td:Know Tryz.prog:=⟨49,qU,Tf⟩
def Tc:Know Tryz.prog:=⟨49,fun I=>zA I (qU I),zf Tf⟩
def qZ (s:Str):Bool:=decide (s≠[])&&tokA s
theorem zhg (s:Str) (hneed:s.length≤1000000):Spc Tryz.prog 67 [.v (.one (.p (.str s)))] [] (.ret (.v (.one (.p (.bool (qZ s)))))) []:=by
  refine spcG zi mixed Tryz.func67 (by kernel_rfl) { keep:=some [0,2]} [tJ,Zv,YF,YE,Td,Tc] (by kernel_rfl) ?_
  intro I X hI hX
  refine zh (.br (I.bnot (I.seq s ([]:Str))) (.need (I.hid (α:=(Prop)) (LE.le (List.length s) 1000000)) (.fin (.ret (.v (.one (.p (.bool (I.hid (α:=Bool) (tokA s))))))) [])) (.fin (.ret (.v (.one (.p (.bool Bool.false))))) [])) (by kernel_rfl) ?_
  simp only [zn]
  subst hI
  simp only [nrmA,nrmB]
  unfold qZ
  (repeat' (first|refine And.intro ?_ ?_|intro _))<;>first|omega|exact True.intro|exact False.elim ‹False›|skip
  all_goals simp [*]
def qG (I:Alg) (args:List D) (hp:List HO):Option CT:=match args,hp with
  |[.v (.one (.p (.str s)))],[]=>(fun(s:Str)=>(some (.one ⟨I.hid (s.length≤1000000),(.ret (.v (.one (.p (.bool (I.hid (qZ s))))))),[]⟩):Option CT)) s
  |_,_=>none
theorem UE:zy Tryz.prog 67 (qG alg):=by
  intro args hp r h
  unfold qG at h
  split at h
  · cases h;exact fun hn=>zhg _ hn
  · cases h
def zd2:Know Tryz.prog:=⟨67,qG,UE⟩
def zd1:Know Tryz.prog:=⟨67,fun I=>zA I (qG I),zf UE⟩
theorem zd0 (s:Str) (hneed:s.length≤1000000):Spc Tryz.prog 28 [.v (.one (.p (.str s)))] [] (.ret (.v (.one (.p (.bool (wH s)))))) []:=by
  refine spcG zi mixed Tryz.func28 (by kernel_rfl) { keep:=some [0,2]} [vC,qi,YF,YE,Td,Tc] (by kernel_rfl) ?_
  intro I X hI hX
  refine zh (.need (I.hid (α:=(Prop)) (LE.le (List.length s) 1000000)) (.fin (.ret (.v (.one (.p (.bool (I.hid (α:=Bool) (wH s))))))) [])) (by kernel_rfl) ?_
  simp only [zn]
  subst hI
  simp only [nrmA,nrmB]
  exact hneed
def uj (I:Alg) (args:List D) (hp:List HO):Option CT:=match args,hp with
  |[.v (.one (.p (.str s)))],[]=>(fun(s:Str)=>(some (.one ⟨I.hid (s.length≤1000000),(.ret (.v (.one (.p (.bool (I.hid (wH s))))))),[]⟩):Option CT)) s
  |_,_=>none
theorem Xm:zy Tryz.prog 28 (uj alg):=by
  intro args hp r h
  unfold uj at h
  split at h
  · cases h;exact fun hn=>zd0 _ hn
  · cases h
def rW:Know Tryz.prog:=⟨28,uj,Xm⟩
def rV:Know Tryz.prog:=⟨28,fun I=>zA I (uj I),zf Xm⟩
theorem one_ (k:Int) (s:Str) (hneed:s.length≤1000000∧0≤k∧k≤255):Spc Tryz.prog 99 [.v (.one (.p (.int .u8 k))),.v (.one (.p (.str s)))] [] (.ret (.v (.one (.p (.bool (s.contains (UInt8.ofNat k.toNat))))))) []:=by
  generalize hr:s.contains (UInt8.ofNat k.toNat)=r
  refine spcG zi mixed Tryz.func99 (by kernel_rfl) { keep:=some [0,1,4,5]} [] (by kernel_rfl) ?_
  intro I X hI hX
  refine zh (.code 0 [1,0,1,0] ⟨[(5,(.v (.one (.p (.int .i64 0))))),(4,(.v (.one (.p (.val (.bool .false)))))),(0,(.v (.one (.p (.int .u8 k))))),(1,(.v (.one (.p (.str s)))))],[],17,none⟩) (by kernel_rfl) ?_
  simp only [zn]
  refine zu hI zi mixed [] hX [0,1,5] (fun(i:Nat)=>i≤s.length∧(s.drop i).contains (UInt8.ofNat k.toNat)=r) (fun(i:Nat)=>⟨[(0,.v (.one (.p (.int .u8 k)))),(1,.v (.one (.p (.str s)))),(5,.v (.one (.p (.int .i64 i))))],[],17,none⟩) (fun(i:Nat)=>s.length - i) 0 (by kernel_rfl) (by kernel_rfl) ?_ ?_
  · exact⟨Nat.zero_le _,hr⟩
  rintro i ⟨h1,h2⟩ A hA
  refine zh (.br (I.ilt (Nat.cast i) (I.len (α:=UInt8) s)) (.need (I.inb (Nat.cast i) (I.len (α:=UInt8) s)) (.br (I.ieq (I.b2i (I.get (α:=UInt8) s 0 (Nat.cast i))) k) (.fin (.ret (.v (.one (.p (.bool Bool.true))))) []) (.need (I.inr Go.IntKind.i64 (I.add (Nat.cast i) 1)) (.need (A ⟨[(0,(.v (.one (.p (.int .u8 k))))),(1,(.v (.one (.p (.str s))))),(5,(.v (.one (.p (.int .i64 (I.add (Nat.cast i) 1))))))],[],17,none⟩) .qed)))) (.fin (.ret (.v (.one (.p (.bool Bool.false))))) [])) (by kernel_rfl) ?_
  simp only [zn]
  subst hI
  simp only [nrmA,nrmB]
  have hd:i<s.length→(s.drop i).contains (UInt8.ofNat k.toNat)=((UInt8.ofNat k.toNat == s.getD i 0)||(s.drop (i+1)).contains (UInt8.ofNat k.toNat)):=fun h=>by
    rw [List.drop_eq_getElem_cons h,List.contains_cons];simp [h]
  have hc:((s.getD i 0).toNat:Int)=k↔UInt8.ofNat k.toNat=s.getD i 0:=by
    rw [← UInt8.toNat_inj,UInt8.toNat_ofNat']
    omega
  rw [hc]
  generalize s.getD i 0=x at *
  (repeat' (first|refine And.intro ?_ ?_|intro _))<;>first|omega|exact True.intro|exact False.elim ‹False›|skip
  all_goals first
    |(rw [← h2,hd (by omega)];simp [*];done)
    |(refine hA (i+1) ⟨by omega,?_⟩ (by omega);rw [← h2,hd (by omega)];simp [*];done)
    |(rw [← h2,List.drop_of_length_le (by omega)];rfl)
def zcv (I:Alg) (args:List D) (hp:List HO):Option CT:=match args,hp with
  |[.v (.one (.p (.int .u8 k))),.v (.one (.p (.str s)))],[]=>(fun(k:Int) (s:Str)=>(some (.one ⟨I.hid (s.length≤1000000∧0≤k∧k≤255),(.ret (.v (.one (.p (.bool (I.hid (s.contains (UInt8.ofNat k.toNat)))))))),[]⟩):Option CT)) k s
  |_,_=>none
theorem zh2:zy Tryz.prog 99 (zcv alg):=by
  intro args hp r h
  unfold zcv at h
  split at h
  · cases h;exact fun hn=>one_ _ _ hn
  · cases h
def zkw:Know Tryz.prog:=⟨99,zcv,zh2⟩
def zkv:Know Tryz.prog:=⟨99,fun I=>zA I (zcv I),zf zh2⟩
def tokR:Str:=[48,49,50,51,52,53,54,55,56,57,65,66,67,68,69,70,71,72,73,74,75,76,77,78,79,80,81,82,83,84,85,86,87,88,89,90,97,98,99,100,101,102,103,104,105,106,107,108,109,110,111,112,113,114,115,116,117,118,119,120,121,122,33,35,36,37,38,39,42,43,45,46,94,95,96,124,126]
theorem zjW {p:Int→Prop} [∀ k,Decidable (p k)] (h: ∀ n:Fin 256,p (n.1:Int)) {k:Int} (hk:0≤k∧k≤255):p k:=by
  have:=h ⟨k.toNat,by omega⟩
  rwa [show((k.toNat:Nat):Int)=k by omega] at this
theorem zgM {k:Int} (hk:0≤k∧k≤255):tokR.contains (UInt8.ofNat k.toNat)=tokB k:=
  zjW (p:=fun k=>tokR.contains (UInt8.ofNat k.toNat)=tokB k) (by decide+kernel) hk
theorem QO (k:Int) (hneed:0≤k∧k≤255):Spc Tryz.prog 79 [.v (.one (.p (.int .u8 k)))] [] (.ret (.v (.one (.p (.bool (tokB k)))))) []:=by
  rw [← zgM hneed]
  refine spcG zi mixed Tryz.func79 (by kernel_rfl) { keep:=some [0,2]} [zkw,zkv] (by kernel_rfl) ?_
  intro I X hI hX
  refine zh (let y0:=([99,100,101,102,103,104,105,106,107,108,109,110,111,112,113,114,115,116,117,118,119,120,121,122,33,35,36,37,38,39,42,43,45,46,94,95,96,124,126]:Str);let y1:=([48,49,50,51,52,53,54,55,56,57,65,66,67,68,69,70,71,72,73,74,75,76,77,78,79,80,81,82,83,84,85,86,87,88,89,90,97,98]:Str);.need (I.hid (α:=(Prop)) (And (LE.le (List.length (Array.toList (List.toArray (List.append y1 y0)))) 1000000) (And (LE.le (0:Int) k) (LE.le k (255:Int))))) (.fin (.ret (.v (.one (.p (.bool (I.hid (α:=Bool) (List.contains (Array.toList (List.toArray (List.append y1 y0))) (UInt8.ofNat (Int.toNat k))))))))) [])) (by kernel_rfl) ?_
  simp only [zn]
  subst hI
  simp only [nrmA,nrmB]
  trivial
def wQ (I:Alg) (args:List D) (hp:List HO):Option CT:=match args,hp with
  |[.v (.one (.p (.int .u8 k)))],[]=>(fun(k:Int)=>(some (.one ⟨I.hid (0≤k∧k≤255),(.ret (.v (.one (.p (.bool (I.hid (tokB k))))))),[]⟩):Option CT)) k
  |_,_=>none
theorem Zc:zy Tryz.prog 79 (wQ alg):=by
  intro args hp r h
  unfold wQ at h
  split at h
  · cases h;exact fun hn=>QO _ hn
  · cases h
def wP:Know Tryz.prog:=⟨79,wQ,Zc⟩
def wO:Know Tryz.prog:=⟨79,fun I=>zA I (wQ I),zf Zc⟩
theorem zdA (s:Str) (hneed:s.length≤1000000):Spc Tryz.prog 57 [.v (.one (.p (.str s)))] [] (.ret (.v (.one (.p (.bool (qZ s)))))) []:=by
  generalize hr:tokA s=r
  refine spcG zi mixed Tryz.func57 (by kernel_rfl) { keep:=some [0,2,3]} [wP,wO] (by kernel_rfl) ?_
  intro I X hI hX
  refine zh (.code 0 [1,0,1,0] ⟨[(3,(.v (.one (.p (.int .i64 0))))),(2,(.v (.one (.p (.val (.bool .false)))))),(0,(.v (.one (.p (.str s)))))],[],18,none⟩) (by kernel_rfl) ?_
  simp only [zn]
  refine zu hI zi mixed [wP,wO] hX [0,3] (fun(i:Nat)=>i≤s.length∧tokA (s.drop i)=r) (fun(i:Nat)=>⟨[(0,.v (.one (.p (.str s)))),(3,.v (.one (.p (.int .i64 i))))],[],18,none⟩) (fun(i:Nat)=>s.length - i) 0 (by kernel_rfl) (by kernel_rfl) ?_ ?_
  · exact⟨Nat.zero_le _,hr⟩
  rintro i ⟨h1,h2⟩ A hA
  refine zh (let y0:=I.b2i (I.get (α:=UInt8) s 0 (Nat.cast i));.br (I.ilt (Nat.cast i) (I.len (α:=UInt8) s)) (.need (I.inb (Nat.cast i) (I.len (α:=UInt8) s)) (.need (I.hid (α:=(Prop)) (And (LE.le (0:Int) y0) (LE.le y0 (255:Int)))) (.br (I.bnot (I.hid (α:=Bool) (tokB y0))) (.fin (.ret (.v (.one (.p (.bool Bool.false))))) []) (.need (I.inr Go.IntKind.i64 (I.add (Nat.cast i) 1)) (.need (A ⟨[(0,(.v (.one (.p (.str s))))),(3,(.v (.one (.p (.int .i64 (I.add (Nat.cast i) 1))))))],[],18,none⟩) .qed))))) (.fin (.ret (.v (.one (.p (.bool (I.ilt 0 (I.len (α:=UInt8) s))))))) [])) (by kernel_rfl) ?_
  simp only [zn]
  subst hI
  simp only [nrmA,nrmB]
  have hb:=xO (s.getD i 0)
  have hd:i<s.length→tokA (s.drop i)=(tokB (s.getD i 0).toNat&&tokA (s.drop (i+1))):=fun h=>WH h
  generalize s.getD i 0=x at *
  (repeat' (first|refine And.intro ?_ ?_|intro _))<;>first|omega|exact True.intro|exact False.elim ‹False›|skip
  all_goals first
    |(refine hA (i+1) ⟨by omega,?_⟩ (by omega);rw [← h2,hd (by omega)];simp [*];done)
    | (have h3:tokA s=false:=by(rw [hr,← h2,hd (by omega)];simp [*];done)
       simp [qZ,h3];done)
    | (have h3:tokA s=true:=by(rw [hr,← h2,List.drop_of_length_le (by omega)];rfl)
       unfold qZ
       rw [h3,Bool.and_true]
       exact decide_eq_decide.2 (by cases s<;>simp))
def vY (I:Alg) (args:List D) (hp:List HO):Option CT:=match args,hp with
  |[.v (.one (.p (.str s)))],[]=>(fun(s:Str)=>(some (.one ⟨I.hid (s.length≤1000000),(.ret (.v (.one (.p (.bool (I.hid (qZ s))))))),[]⟩):Option CT)) s
  |_,_=>none
theorem Xd:zy Tryz.prog 57 (vY alg):=by
  intro args hp r h
  unfold vY at h
  split at h
  · cases h;exact fun hn=>zdA _ hn
  · cases h
def RI:Know Tryz.prog:=⟨57,vY,Xd⟩
def RH:Know Tryz.prog:=⟨57,fun I=>zA I (vY I),zf Xd⟩
theorem zeH (s:Str) (hneed:s.length≤1000000):Spc Tryz.prog 26 [.v (.one (.p (.str s)))] [] (.ret (.v (.one (.p (.bool (wH s)))))) []:=by
  generalize hr:wH s=r
  refine spcG zi mixed Tryz.func26 (by kernel_rfl) { keep:=some [0,2,3]} [wu,wo] (by kernel_rfl) ?_
  intro I X hI hX
  refine zh (.code 0 [1,0,1,0] ⟨[(3,(.v (.one (.p (.int .i64 0))))),(2,(.v (.one (.p (.val (.bool .false)))))),(0,(.v (.one (.p (.str s)))))],[],15,none⟩) (by kernel_rfl) ?_
  simp only [zn]
  refine zu hI zi mixed [wu,wo] hX [0,3] (fun(i:Nat)=>i≤s.length∧wH (s.drop i)=r) (fun(i:Nat)=>⟨[(0,.v (.one (.p (.str s)))),(3,.v (.one (.p (.int .i64 i))))],[],15,none⟩) (fun(i:Nat)=>s.length - i) 0 (by kernel_rfl) (by kernel_rfl) ?_ ?_
  · exact⟨Nat.zero_le _,hr⟩
  rintro i ⟨h1,h2⟩ A hA
  refine zh (.br (I.ilt (Nat.cast i) (I.len (α:=UInt8) s)) (.need (I.inb (Nat.cast i) (I.len (α:=UInt8) s)) (.need (I.hid (α:=(Prop)) True) (.br (I.bnot (I.hid (α:=Bool) (vk (I.b2i (I.get (α:=UInt8) s 0 (Nat.cast i)))))) (.fin (.ret (.v (.one (.p (.bool Bool.false))))) []) (.need (I.inr Go.IntKind.i64 (I.add (Nat.cast i) 1)) (.need (A ⟨[(0,(.v (.one (.p (.str s))))),(3,(.v (.one (.p (.int .i64 (I.add (Nat.cast i) 1))))))],[],15,none⟩) .qed))))) (.fin (.ret (.v (.one (.p (.bool Bool.true))))) [])) (by kernel_rfl) ?_
  simp only [zn]
  subst hI
  simp only [nrmA,nrmB]
  have hb:=xO (s.getD i 0)
  have hd:i<s.length→wH (s.drop i)=(vk (s.getD i 0).toNat&&wH (s.drop (i+1))):=fun h=>WH h
  generalize s.getD i 0=x at *
  (repeat' (first|refine And.intro ?_ ?_|intro _))<;>first|omega|exact True.intro|exact False.elim ‹False›|skip
  all_goals first
    |(rw [← h2,hd (by omega)];simp [*];done)
    |(refine hA (i+1) ⟨by omega,?_⟩ (by omega);rw [← h2,hd (by omega)];simp [*];done)
    |(rw [← h2,List.drop_of_length_le (by omega)];rfl)
def tK (I:Alg) (args:List D) (hp:List HO):Option CT:=match args,hp with
  |[.v (.one (.p (.str s)))],[]=>(fun(s:Str)=>(some (.one ⟨I.hid (s.length≤1000000),(.ret (.v (.one (.p (.bool (I.hid (wH s))))))),[]⟩):Option CT)) s
  |_,_=>none
theorem WT:zy Tryz.prog 26 (tK alg):=by
  intro args hp r h
  unfold tK at h
  split at h
  · cases h;exact fun hn=>zeH _ hn
  · cases h
def zZ:Know Tryz.prog:=⟨26,tK,WT⟩
def zY:Know Tryz.prog:=⟨26,fun I=>zA I (tK I),zf WT⟩
end Go.Proofs.YtknaogelmckimaaGreatDoor
namespace Go.Proofs.YtknaogelmckimaaGreatDoor
open Go Go.Sep Go.Ab
set_option maxRecDepth 100000
def lowC (x:UInt8):UInt8:=if 65≤x.toNat∧x.toNat≤90 then x+32 else x
def lowS (s:Str):Str:=s.map lowC
theorem yS (s:Str):(lowS s).length=s.length:=by simp [lowS]
theorem zdU (x:UInt8):((lowC x).toNat:Int)=lowK x.toNat:=by
  unfold lowC lowK
  have:=x.toNat_lt
  split
  · rw [if_pos (by omega),UInt8.toNat_add]
    simp only [show(32:UInt8).toNat=32 from rfl]
    omega
  · rw [if_neg (by omega)]
theorem zi7 (x:UInt8):UInt8.ofNat (lowK x.toNat).toNat=lowC x:=by
  rw [← zdU,Int.toNat_natCast,UInt8.ofNat_toNat]
def bl (c:UInt8):Bool:=([32,9]:Str).contains c
def trL (s:Str):Str:=s.dropWhile bl
def trR (s:Str):Str:=(s.reverse.dropWhile bl).reverse
theorem zgL (s:Str):Lib.trimS s [32,9]=trL (trR s):=rfl
theorem Zu (c:UInt8) (l:Str):trL (c::l)=if bl c then trL l else c::l:=by unfold trL;rw [List.dropWhile_cons]
theorem zb6 (c:UInt8) (l:Str):trR (c::l)=if trR l=[]∧bl c=true then [] else c::trR l:=by
  unfold trR
  rw [List.reverse_cons,List.dropWhile_append]
  cases hd:l.reverse.dropWhile bl with
  |nil=>cases hb:bl c<;>simp [hb,List.dropWhile]
  |cons y r=>simp
theorem zb5 (c:UInt8) (l:Str):trR (l++[c])=if bl c then trR l else l++[c]:=by
  unfold trR
  rw [List.reverse_append]
  simp only [List.reverse_cons,List.reverse_nil,List.nil_append,List.singleton_append]
  rw [List.dropWhile_cons]
  split
  · rfl
  · simp
theorem zex: ∀ s:Str,trL (trR s)=trR (trL s)
  |[]=>rfl
  | c ::l=>by
    have ih:=zex l
    rw [zb6,Zu]
    by_cases hb:bl c=true
    · rw [if_pos hb,← ih]
      by_cases h0:trR l=[]
      · rw [if_pos ⟨h0,hb⟩,h0]
      · rw [if_neg (fun h=>h0 h.1),Zu,if_pos hb]
    · rw [if_neg hb,if_neg (fun h=>hb h.2),Zu,if_neg hb,zb6,if_neg (fun h=>hb h.2)]
theorem zaN (c:UInt8):bl c=true↔(c.toNat:Int)=32∨(c.toNat:Int)=9:=by
  unfold bl
  rw [List.contains_iff_mem,List.mem_cons,List.mem_singleton,← UInt8.toNat_inj,← UInt8.toNat_inj]
  simp only [show(32:UInt8).toNat=32 from rfl,show(9:UInt8).toNat=9 from rfl]
  omega
theorem zb7 {u:Str} (h:0<u.length→¬ bl (u.getD 0 0)=true):trL u=u:=by
  cases u with
  |nil=>rfl
  |cons c l=>rw [Zu,if_neg (by simpa using h (by simp))]
theorem zj2 {u:Str} (h:0<u.length) (hb:bl (u.getD 0 0)=true):trL u=trL (u.drop 1):=by
  cases u with
  |nil=>simp at h
  |cons c l=>rw [Zu,if_pos (by simpa using hb)];rfl
theorem zeA {u:Str} (h:0<u.length):u=u.take (u.length - 1)++[u.getD (u.length - 1) 0]:=by
  have hl:u.length - 1<u.length:=by omega
  have:=List.take_append_drop (u.length - 1) u
  rw [List.drop_eq_getElem_cons hl,List.drop_of_length_le (by omega)] at this
  simpa [hl] using this.symm
theorem zb4 {u:Str} (h:0<u.length→¬ bl (u.getD (u.length - 1) 0)=true):trR u=u:=by
  rcases Nat.eq_zero_or_pos u.length with h0|h0
  · rw [List.eq_nil_of_length_eq_zero h0];rfl
  · have:=zeA h0
    generalize hc:u.getD (u.length - 1) 0=c at *
    rw [this,zb5,if_neg (h h0)]
theorem zhX {u:Str} (h:0<u.length) (hb:bl (u.getD (u.length - 1) 0)=true):trR u=trR (u.take (u.length - 1)):=by
  have:=zeA h
  generalize hc:u.getD (u.length - 1) 0=c at *
  generalize ht:u.take (u.length - 1)=t at *
  rw [this,zb5,if_pos hb]
theorem zk9 (s:Str):Spc Tryz.prog 29 [.v (.one (.p (.str s)))] [] (.ret (.v (.one (.p (.str (Lib.trimS s [32,9])))))) []:=by
  refine spcG zi mixed Tryz.func29 (by kernel_rfl) { keep:=some [0,2]} [ziv,ziu] (by kernel_rfl) ?_
  intro I X hI hX
  refine zh (.need (I.hid (α:=(Prop)) True) (.fin (.ret (.v (.one (.p (.str (I.hid (α:=Str) (Go.Lib.trimS s ([32,9]:Str)))))))) [])) (by kernel_rfl) ?_
  simp only [zn]
  subst hI
  simp only [nrmA,nrmB]
  try trivial
def WG (I:Alg) (args:List D) (hp:List HO):Option CT:=match args,hp with
  |[.v (.one (.p (.str s)))],[]=>(fun(s:Str)=>(some (.one ⟨I.hid (True),(.ret (.v (.one (.p (.str (I.hid (Lib.trimS s [32,9]))))))),[]⟩):Option CT)) s
  |_,_=>none
theorem zds:zy Tryz.prog 29 (WG alg):=by
  intro args hp r h
  unfold WG at h
  split at h
  · cases h;exact fun hn=>zk9 _
  · cases h
def zdr:Know Tryz.prog:=⟨29,WG,zds⟩
def zdq:Know Tryz.prog:=⟨29,fun I=>zA I (WG I),zf zds⟩
theorem zgK (s:Str) (hneed:s.length≤1000000):Spc Tryz.prog 27 [.v (.one (.p (.str s)))] [] (.ret (.v (.one (.p (.str (Lib.trimS s [32,9])))))) []:=by
  rw [zgL,zex]
  generalize hr:trR (trL s)=r
  refine spcG zi mixed Tryz.func27 (by kernel_rfl) { keep:=some [0,2]} [] (by kernel_rfl) ?_
  intro I X hI hX
  refine zh (.code 0 [1,0,0] ⟨[(2,(.v (.one (.p (.str ([]:Str)))))),(0,(.v (.one (.p (.str s)))))],[],43,none⟩) (by kernel_rfl) ?_
  simp only [zn]
  refine zu hI zi mixed [] hX [0] (fun(u:Str)=>trR (trL u)=r∧u.length≤1000000) (fun(u:Str)=>⟨[(0,.v (.one (.p (.str u))))],[],43,none⟩) (fun(u:Str)=>u.length) s (by kernel_rfl) (by kernel_rfl) ?_ ?_
  · exact⟨hr,hneed⟩
  rintro u ⟨h1,h2⟩ A hA
  refine zh (let y0:=I.cutb 1 (I.len (α:=UInt8) u) (I.len (α:=UInt8) u);let y1:=I.cut (α:=UInt8) u 1 (I.len (α:=UInt8) u);let y2:=I.b2i (I.get (α:=UInt8) u 0 0);.br (I.ilt 0 (I.len (α:=UInt8) u)) (.need (I.inb 0 (I.len (α:=UInt8) u)) (.br (I.ieq y2 32) (.need y0 (.need (A ⟨[(0,(.v (.one (.p (.str y1)))))],[],43,none⟩) .qed)) (.need (I.inb 0 (I.len (α:=UInt8) u)) (.br (I.ieq y2 9) (.need y0 (.need (A ⟨[(0,(.v (.one (.p (.str y1)))))],[],43,none⟩) .qed)) (.code 1 [1,1,0,0] ⟨[(0,(.v (.one (.p (.str u)))))],[],43,none⟩))))) (.code 1 [1,1,0,0] ⟨[(0,(.v (.one (.p (.str u)))))],[],43,none⟩)) (by kernel_rfl) ?_
  simp only [zn]
  have hc:I.cut (α:=UInt8) u 1 (I.len (α:=UInt8) u)=u.drop 1:=by
    rw [hI,xN,zO]
    simp only [Int.toNat_natCast,show(1:Int).toNat=1 from rfl]
    exact List.take_of_length_le (by rw [List.length_drop];exact Nat.le_refl _)
  rw [hc]
  have hgo:0<u.length→bl (u.getD 0 0)=true→A ⟨[(0,.v (.one (.p (.str ((u.drop 1))))))],[],43,none⟩:=fun q1 q2=>
    hA _ ⟨by rw [← h1,zj2 q1 q2],by rw [List.length_drop];omega⟩ (by rw [List.length_drop];omega)
  refine⟨fun c1=>⟨?_,fun c2=> ?_,fun c2=>⟨?_,fun c3=> ?_,fun c3=> ?_⟩⟩,fun c1=> ?_⟩
  · subst hI
    simp only [nrmA,nrmB] at c1
    simp only [nrmA,nrmB]
    omega
  · subst hI
    simp only [nrmA,nrmB] at c1
    simp only [nrmA,nrmB] at c2
    simp only [nrmA,nrmB]
    exact⟨by omega,hgo (by omega) ((zaN _).2 (.inl c2))⟩
  · subst hI
    simp only [nrmA,nrmB] at c1
    simp only [nrmA,nrmB]
    omega
  · subst hI
    simp only [nrmA,nrmB] at c1
    simp only [nrmA,nrmB] at c3
    simp only [nrmA,nrmB]
    exact⟨by omega,hgo (by omega) ((zaN _).2 (.inr c3))⟩
  · have hst:trL u=u:=zb7 fun q h=>by
      subst hI
      simp only [nrmA,nrmB] at c2
      simp only [nrmA,nrmB] at c3
      rcases(zaN _).1 h with h|h
      · exact c2 h
      · exact c3 h
    refine zu hI zi mixed [] hX [0] (fun(v:Str)=>trR v=r∧v.length≤1000000) (fun(v:Str)=>⟨[(0,.v (.one (.p (.str v))))],[],43,none⟩) (fun(v:Str)=>v.length) u (by kernel_rfl) (by kernel_rfl) ?_ ?_
    · exact⟨by rw [← h1,hst],h2⟩
    rintro v ⟨k1,k2⟩ B hB
    refine zh (let y0:=I.inr Go.IntKind.i64 (I.sub (I.len (α:=UInt8) v) 1);let y1:=I.cutb 0 (I.sub (I.len (α:=UInt8) v) 1) (I.len (α:=UInt8) v);let y2:=I.b2i (I.get (α:=UInt8) v 0 (I.sub (I.len (α:=UInt8) v) 1));let y3:=I.inb (I.sub (I.len (α:=UInt8) v) 1) (I.len (α:=UInt8) v);let y4:=I.cut (α:=UInt8) v 0 (I.sub (I.len (α:=UInt8) v) 1);.br (I.ilt 0 (I.len (α:=UInt8) v)) (.need y0 (.need y3 (.br (I.ieq y2 32) (.need y0 (.need y1 (.need (B ⟨[(0,(.v (.one (.p (.str y4)))))],[],43,none⟩) .qed))) (.need y0 (.need y3 (.br (I.ieq y2 9) (.need y0 (.need y1 (.need (B ⟨[(0,(.v (.one (.p (.str y4)))))],[],43,none⟩) .qed))) (.fin (.ret (.v (.one (.p (.str v))))) []))))))) (.fin (.ret (.v (.one (.p (.str v))))) [])) (by kernel_rfl) ?_
    simp only [zn]
    subst hI
    simp only [nrmA,nrmB]
    have hgo:0<v.length→bl (v.getD (v.length - 1) 0)=true→B ⟨[(0,.v (.one (.p (.str ((v.take (v.length - 1)))))))],[],43,none⟩:=fun q1 q2=>
      hB _ ⟨by rw [← k1,zhX q1 q2],by rw [List.length_take];omega⟩ (by rw [List.length_take];omega)
    have hend:(0<v.length→¬ bl (v.getD (v.length - 1) 0)=true)→v=r:=fun q=>by rw [← k1,zb4 q]
    rw [zaN] at hgo hend
    simp only [show((v.length:Int) - 1).toNat=v.length - 1 by omega]
    (repeat' (first|refine And.intro ?_ ?_|intro _))<;>first|omega|exact True.intro|exact False.elim ‹False›|skip
    all_goals first
      |exact hgo (by omega) (.inl ‹_›)
      |exact hgo (by omega) (.inr ‹_›)
      |(refine hend fun _ h=> ?_;rcases h with h|h<;>contradiction)
      |exact hend (fun h=>by omega)
  · have hst:trL u=u:=zb7 fun q h=>by
      subst hI
      simp only [nrmA,nrmB] at c1
      omega
    refine zu hI zi mixed [] hX [0] (fun(v:Str)=>trR v=r∧v.length≤1000000) (fun(v:Str)=>⟨[(0,.v (.one (.p (.str v))))],[],43,none⟩) (fun(v:Str)=>v.length) u (by kernel_rfl) (by kernel_rfl) ?_ ?_
    · exact⟨by rw [← h1,hst],h2⟩
    rintro v ⟨k1,k2⟩ B hB
    refine zh (let y0:=I.inr Go.IntKind.i64 (I.sub (I.len (α:=UInt8) v) 1);let y1:=I.cutb 0 (I.sub (I.len (α:=UInt8) v) 1) (I.len (α:=UInt8) v);let y2:=I.b2i (I.get (α:=UInt8) v 0 (I.sub (I.len (α:=UInt8) v) 1));let y3:=I.inb (I.sub (I.len (α:=UInt8) v) 1) (I.len (α:=UInt8) v);let y4:=I.cut (α:=UInt8) v 0 (I.sub (I.len (α:=UInt8) v) 1);.br (I.ilt 0 (I.len (α:=UInt8) v)) (.need y0 (.need y3 (.br (I.ieq y2 32) (.need y0 (.need y1 (.need (B ⟨[(0,(.v (.one (.p (.str y4)))))],[],43,none⟩) .qed))) (.need y0 (.need y3 (.br (I.ieq y2 9) (.need y0 (.need y1 (.need (B ⟨[(0,(.v (.one (.p (.str y4)))))],[],43,none⟩) .qed))) (.fin (.ret (.v (.one (.p (.str v))))) []))))))) (.fin (.ret (.v (.one (.p (.str v))))) [])) (by kernel_rfl) ?_
    simp only [zn]
    subst hI
    simp only [nrmA,nrmB]
    have hgo:0<v.length→bl (v.getD (v.length - 1) 0)=true→B ⟨[(0,.v (.one (.p (.str ((v.take (v.length - 1)))))))],[],43,none⟩:=fun q1 q2=>
      hB _ ⟨by rw [← k1,zhX q1 q2],by rw [List.length_take];omega⟩ (by rw [List.length_take];omega)
    have hend:(0<v.length→¬ bl (v.getD (v.length - 1) 0)=true)→v=r:=fun q=>by rw [← k1,zb4 q]
    rw [zaN] at hgo hend
    simp only [show((v.length:Int) - 1).toNat=v.length - 1 by omega]
    (repeat' (first|refine And.intro ?_ ?_|intro _))<;>first|omega|exact True.intro|exact False.elim ‹False›|skip
    all_goals first
      |exact hgo (by omega) (.inl ‹_›)
      |exact hgo (by omega) (.inr ‹_›)
      |(refine hend fun _ h=> ?_;rcases h with h|h<;>contradiction)
      |exact hend (fun h=>by omega)
def ql (I:Alg) (args:List D) (hp:List HO):Option CT:=match args,hp with
  |[.v (.one (.p (.str s)))],[]=>(fun(s:Str)=>(some (.one ⟨I.hid (s.length≤1000000),(.ret (.v (.one (.p (.str (I.hid (Lib.trimS s [32,9]))))))),[]⟩):Option CT)) s
  |_,_=>none
theorem Uf:zy Tryz.prog 27 (ql alg):=by
  intro args hp r h
  unfold ql at h
  split at h
  · cases h;exact fun hn=>zgK _ hn
  · cases h
def Ue:Know Tryz.prog:=⟨27,ql,Uf⟩
def Ud:Know Tryz.prog:=⟨27,fun I=>zA I (ql I),zf Uf⟩
theorem zjV (s:Str) (hneed:s.length≤1000000):Spc Tryz.prog 88 [.v (.one (.p (.str s)))] [] (.ret (.v (.one (.p (.str (lowS s)))))) []:=by
  refine spcG zi mixed Tryz.func88 (by kernel_rfl) { keep:=some [0,2,3,4,5,8,9,10]} [X9,X8] (by kernel_rfl) ?_
  intro I X hI hX
  refine zh (.code 0 [1,1,0,1,0] ⟨[(10,(.v (.one (.p (.int .i64 0))))),(9,(.v (.one (.p (.int .i64 (I.len (α:=UInt8) s)))))),(8,(.v (.one (.row 0)))),(3,(.v (.one (.row 0)))),(2,(.v (.one (.p (.str ([]:Str)))))),(0,(.v (.one (.p (.str s)))))],[(.row .byte 5 s)],23,none⟩) (by kernel_rfl) ?_
  simp only [zn]
  refine zu hI zi mixed [X9,X8] hX [0,3,8,9,10] (fun(g:Nat × Str)=>match g with|(i,b)=>i≤s.length∧b=lowS (s.take i)++s.drop i) (fun(g:Nat × Str)=>match g with|(i,b)=>⟨[(0,.v (.one (.p (.str s)))),(3,.v (.one (.row 0))),(8,.v (.one (.row 0))),(9,.v (.one (.p (.int .i64 ((I.len (α:=UInt8) s)))))),(10,.v (.one (.p (.int .i64 i))))],[.row .byte 5 b],23,none⟩) (fun(g:Nat × Str)=>match g with|(i,b)=>s.length - i) (0,s) (by kernel_rfl) (by kernel_rfl) ?_ ?_
  · exact⟨Nat.zero_le _,rfl⟩
  rintro⟨i,b⟩ ⟨h1,h2⟩ A hA
  simp only at hA
  refine zh (let y0:=I.b2i (I.get (α:=UInt8) b 0 (Nat.cast i));let y1:=I.inb (Nat.cast i) (I.len (α:=UInt8) b);.br (I.ilt (Nat.cast i) (I.len (α:=UInt8) s)) (.need y1 (.need y1 (.need (I.hid (α:=(Prop)) (And (LE.le (0:Int) y0) (LE.le y0 (255:Int)))) (.need y1 (.need (I.inr Go.IntKind.u8 (I.hid (α:=Int) (lowK y0))) (.need y1 (.need (I.inr Go.IntKind.i64 (I.add (Nat.cast i) 1)) (.need (A ⟨[(0,(.v (.one (.p (.str s))))),(3,(.v (.one (.row 0)))),(8,(.v (.one (.row 0)))),(9,(.v (.one (.p (.int .i64 (I.len (α:=UInt8) s)))))),(10,(.v (.one (.p (.int .i64 (I.add (Nat.cast i) 1))))))],[(.row .byte 5 (I.set (α:=UInt8) b (Nat.cast i) (I.i2b (I.hid (α:=Int) (lowK y0)))))],23,none⟩) .qed)))))))) (.fin (.ret (.v (.one (.p (.str b))))) [])) (by kernel_rfl) ?_
  simp only [zn]
  subst hI
  simp only [nrmA,nrmB]
  have hlen:b.length=s.length:=by rw [h2,List.length_append,yS,List.length_take,List.length_drop];omega
  have hx:i<s.length→b.getD i 0=s.getD i 0:=fun h=>by
    rw [h2,List.getD_eq_getElem?_getD,List.getD_eq_getElem?_getD,List.getElem?_append_right (by rw [yS,List.length_take];omega),yS,List.length_take,List.getElem?_drop]
    congr 2
    omega
  have hset:i<s.length→b.set i (lowC (s.getD i 0))=lowS (s.take (i+1))++s.drop (i+1):=fun h=>by
    have e:(lowS (s.take i)).length=i:=by rw [yS,List.length_take];omega
    rw [h2,List.set_append_right _ _ (by omega),e,Nat.sub_self,List.drop_eq_getElem_cons h,List.set_cons_zero,List.take_succ_eq_append_getElem h,show s.getD i 0=s[i] by simp [h]]
    unfold lowS
    rw [List.map_append,List.append_assoc]
    rfl
  have hby:=xO (s.getD i 0)
  have hlk:=ze9 hby
  refine⟨fun c=> ?_,fun c=> ?_⟩
  · rw [hx (by omega),zi7,hset (by omega)]
    exact⟨by omega,by omega,by omega,by omega,by omega,by omega,by omega,hA (i+1,_) ⟨by simp only;omega,rfl⟩ (by simp only;omega)⟩
  · rw [h2,List.drop_of_length_le (by omega),List.take_of_length_le (by omega),List.append_nil]
def YC (I:Alg) (args:List D) (hp:List HO):Option CT:=match args,hp with
  |[.v (.one (.p (.str s)))],[]=>(fun(s:Str)=>(some (.one ⟨I.hid (s.length≤1000000),(.ret (.v (.one (.p (.str (I.hid (lowS s))))))),[]⟩):Option CT)) s
  |_,_=>none
theorem zaM:zy Tryz.prog 88 (YC alg):=by
  intro args hp r h
  unfold YC at h
  split at h
  · cases h;exact fun hn=>zjV _ hn
  · cases h
def wF:Know Tryz.prog:=⟨88,YC,zaM⟩
def wE:Know Tryz.prog:=⟨88,fun I=>zA I (YC I),zf zaM⟩
theorem zj4 (s:Str) (hneed:s.length≤1000000):Spc Tryz.prog 61 [.v (.one (.p (.str s)))] [] (.ret (.v (.one (.p (.str (lowS s)))))) []:=by
  refine spcG zi mixed Tryz.func61 (by kernel_rfl) { keep:=some [0,2,3,4,5,6]} [] (by kernel_rfl) ?_
  intro I X hI hX
  refine zh (.code 0 [1,1,0,1,0] ⟨[(4,(.v (.one (.p (.int .i64 0))))),(3,(.v (.one (.p (.str ([]:Str)))))),(2,(.v (.one (.p (.str ([]:Str)))))),(0,(.v (.one (.p (.str s)))))],[],36,none⟩) (by kernel_rfl) ?_
  simp only [zn]
  refine zu hI zi mixed [] hX [0,3,4] (fun(g:Nat × Str)=>match g with|(i,out)=>i≤s.length∧out=lowS (s.take i)) (fun(g:Nat × Str)=>match g with|(i,out)=>⟨[(0,.v (.one (.p (.str s)))),(3,.v (.one (.p (.str out)))),(4,.v (.one (.p (.int .i64 i))))],[],36,none⟩) (fun(g:Nat × Str)=>match g with|(i,out)=>s.length - i) (0,[]) (by kernel_rfl) (by kernel_rfl) ?_ ?_
  · exact⟨Nat.zero_le _,rfl⟩
  rintro⟨i,out⟩ ⟨h1,h2⟩ A hA
  simp only at hA
  refine zh (.br (I.ilt (Nat.cast i) (I.len (α:=UInt8) s)) (.need (I.inr Go.IntKind.i64 (I.add (Nat.cast i) 1)) (.need (I.cutb (Int.ofNat i) (I.add (Nat.cast i) 1) (I.len (α:=UInt8) s)) (.code 0 [1,0,0,1,0,1,0] ⟨[(6,(.v (.one (.p (.int .i64 0))))),(5,(.v (.one (.p (.str (I.cut (α:=UInt8) s (Int.ofNat i) (I.add (Nat.cast i) 1))))))),(0,(.v (.one (.p (.str s))))),(3,(.v (.one (.p (.str out))))),(4,(.v (.one (.p (.int .i64 (Nat.cast i))))))],[],36,none⟩))) (.fin (.ret (.v (.one (.p (.str out))))) [])) (by kernel_rfl) ?_
  simp only [zn]
  refine⟨fun c1=>⟨?_,?_,?_⟩,fun c1=> ?_⟩
  · subst hI
    simp only [nrmA,nrmB] at c1
    simp only [nrmA,nrmB]
    omega
  · subst hI
    simp only [nrmA,nrmB] at c1
    simp only [nrmA,nrmB]
    omega
  · have hi:i<s.length:=by
      subst hI
      simp only [nrmA,nrmB] at c1
      omega
    generalize hc0:I.cut (α:=UInt8) s (Int.ofNat i) (I.add (↑i) 1)=c0
    have hc1:c0=[s.getD i 0]:=by
      rw [← hc0,hI,xN,xJ]
      simp only [Int.ofNat_eq_natCast,Int.toNat_natCast,show((i:Int)+1).toNat=i+1 by omega]
      rw [List.drop_eq_getElem_cons hi,Nat.add_sub_cancel_left,List.take_succ_cons,List.take_zero]
      simp [hi]
    generalize hx:s.getD i 0=x at *
    have hxb:=x.toNat_lt
    have hcap: ∀ k:Nat,k<26→((([65,66,67,68,69,70,71,72,73,74,75,76,77,78,79,80,81,82,83,84,85,86,87,88,89,90]:Str).getD k 0).toNat=65+k∧((([97,98,99,100,101,102,103,104,105,106,107,108,109,110,111,112,113,114,115,116,117,118,119,120,121,122]:Str).drop k).take 1)=[UInt8.ofNat (97+k)]):=by decide+kernel
    refine zu hI zi mixed [] hX [0,3,4,5,6] (fun(g:Nat × Str)=>match g with|(k,c)=>k≤26∧c=[if 65≤x.toNat∧x.toNat<65+k then x+32 else x]) (fun(g:Nat × Str)=>match g with|(k,c)=>⟨[(0,.v (.one (.p (.str s)))),(3,.v (.one (.p (.str out)))),(4,.v (.one (.p (.int .i64 i)))),(5,.v (.one (.p (.str c)))),(6,.v (.one (.p (.int .i64 k))))],[],36,none⟩) (fun(g:Nat × Str)=>match g with|(k,c)=>26 - k) (0,c0) (by kernel_rfl) (by kernel_rfl) ?_ ?_
    · refine⟨Nat.zero_le _,?_⟩
      rw [hc1,if_neg (by omega)]
    rintro⟨k,c⟩ ⟨k1,k2⟩ B hB
    simp only at hB
    refine zh (let y0:=([97,98,99,100,101,102,103,104,105,106,107,108,109,110,111,112,113,114,115,116,117,118,119,120,121,122]:Str);let y1:=([65,66,67,68,69,70,71,72,73,74,75,76,77,78,79,80,81,82,83,84,85,86,87,88,89,90]:Str);let y2:=I.inr Go.IntKind.i64 (I.add (Nat.cast k) 1);.br (I.ilt (Nat.cast k) 26) (.need (I.inb (Nat.cast k) (I.len (α:=UInt8) y1)) (.need (I.inb (Nat.cast i) (I.len (α:=UInt8) s)) (.br (I.ieq (I.b2i (I.get (α:=UInt8) y1 0 (Nat.cast k))) (I.b2i (I.get (α:=UInt8) s 0 (Nat.cast i)))) (.need y2 (.need (I.cutb (Int.ofNat k) (I.add (Nat.cast k) 1) (I.len (α:=UInt8) y0)) (.need y2 (.need (B ⟨[(0,(.v (.one (.p (.str s))))),(3,(.v (.one (.p (.str out))))),(4,(.v (.one (.p (.int .i64 (Nat.cast i)))))),(5,(.v (.one (.p (.str (I.cut (α:=UInt8) y0 (Int.ofNat k) (I.add (Nat.cast k) 1))))))),(6,(.v (.one (.p (.int .i64 (I.add (Nat.cast k) 1))))))],[],36,none⟩) .qed)))) (.need y2 (.need (B ⟨[(0,(.v (.one (.p (.str s))))),(3,(.v (.one (.p (.str out))))),(4,(.v (.one (.p (.int .i64 (Nat.cast i)))))),(5,(.v (.one (.p (.str c))))),(6,(.v (.one (.p (.int .i64 (I.add (Nat.cast k) 1))))))],[],36,none⟩) .qed))))) (.need (I.few (I.add (I.len (α:=UInt8) out) (I.len (α:=UInt8) c)) 1000000000) (.need (I.inr Go.IntKind.i64 (I.add (Nat.cast i) 1)) (.need (A ⟨[(0,(.v (.one (.p (.str s))))),(3,(.v (.one (.p (.str (I.app (α:=UInt8) out c)))))),(4,(.v (.one (.p (.int .i64 (I.add (Nat.cast i) 1))))))],[],36,none⟩) .qed)))) (by kernel_rfl) ?_
    simp only [zn]
    subst hI
    simp only [nrmA,nrmB]
    rw [hx]
    generalize hCAP:([65,66,67,68,69,70,71,72,73,74,75,76,77,78,79,80,81,82,83,84,85,86,87,88,89,90]:Str)=CAP at *
    generalize hLOW:([97,98,99,100,101,102,103,104,105,106,107,108,109,110,111,112,113,114,115,116,117,118,119,120,121,122]:Str)=LOW at *
    have hol:out.length≤1000000:=by rw [h2,yS,List.length_take];omega
    have hc1l:c.length=1:=by rw [k2];rfl
    have hcl:CAP.length=26:=by rw [← hCAP];rfl
    have hll:LOW.length=26:=by rw [← hLOW];rfl
    have hcond:k<26→(CAP.getD k 0=x↔x.toNat=65+k):=fun h=>by rw [← UInt8.toNat_inj,(hcap k h).1];omega
    have heq:k<26→CAP.getD k 0=x→(LOW.drop k).take (((k:Int)+1).toNat - k)=[if 65≤x.toNat∧x.toNat<65+(k+1) then x+32 else x]:=fun h e=>by
      have e:=(hcond h).1 e
      rw [show((k:Int)+1).toNat - k=1 by omega,(hcap k h).2,if_pos (by omega)]
      congr 1
      rw [← UInt8.toNat_inj,UInt8.toNat_ofNat',UInt8.toNat_add,e]
      simp only [show(32:UInt8).toNat=32 from rfl]
      omega
    have hne:k<26→¬ CAP.getD k 0=x→c=[if 65≤x.toNat∧x.toNat<65+(k+1) then x+32 else x]:=fun h e=>by
      have e: ¬ x.toNat=65+k:=fun h'=>e ((hcond h).2 h')
      rw [k2]
      congr 1
      by_cases h1:65≤x.toNat∧x.toNat<65+k
      · rw [if_pos h1,if_pos (by omega)]
      · rw [if_neg h1,if_neg (by omega)]
    have hend: ¬ k<26→out++c=lowS (s.take (i+1)):=fun h=>by
      have hk:k=26:=by omega
      subst hk
      rw [k2,h2,List.take_succ_eq_append_getElem hi]
      unfold lowS
      rw [List.map_append]
      congr 1
      rw [← hx,show s.getD i 0=s[i] by simp [hi]]
      show _=[lowC s[i]]
      unfold lowC
      congr 1
      by_cases h1:65≤s[i].toNat∧s[i].toNat<65+26
      · rw [if_pos h1,if_pos (by omega)]
      · rw [if_neg h1,if_neg (by omega)]
    (repeat' (first|refine And.intro ?_ ?_|intro _))<;>first|omega|exact True.intro|exact False.elim ‹False›|skip
    all_goals first
      |omega
      |exact hB (k+1,_) ⟨by simp only;omega,heq (by omega) ‹_›⟩ (by simp only;omega)
      |exact hB (k+1,_) ⟨by simp only;omega,hne (by omega) ‹_›⟩ (by simp only;omega)
      |(rw [hend (by omega)];exact hA (i+1,_) ⟨by simp only;omega,rfl⟩ (by simp only;omega))
  · subst hI
    simp only [nrmA,nrmB] at c1
    simp only [nrmA,nrmB]
    rw [h2,List.take_of_length_le (by omega)]
def XG (I:Alg) (args:List D) (hp:List HO):Option CT:=match args,hp with
  |[.v (.one (.p (.str s)))],[]=>(fun(s:Str)=>(some (.one ⟨I.hid (s.length≤1000000),(.ret (.v (.one (.p (.str (I.hid (lowS s))))))),[]⟩):Option CT)) s
  |_,_=>none
theorem zca:zy Tryz.prog 61 (XG alg):=by
  intro args hp r h
  unfold XG at h
  split at h
  · cases h;exact fun hn=>zj4 _ hn
  · cases h
def yF:Know Tryz.prog:=⟨61,XG,zca⟩
def yE:Know Tryz.prog:=⟨61,fun I=>zA I (XG I),zf zca⟩
end Go.Proofs.YtknaogelmckimaaGreatDoor
namespace Go.Proofs.YtknaogelmckimaaGreatDoor
open Go Go.Sep Go.Ab
def ln0:Ln:=⟨[],false,0⟩
def za3 (c:UInt8):Bool:=vk (c.toNat:Int)
def lnF (s:Ln) (c:UInt8):Ln × Str × Bool × Int:=
  if s.code≠0 then(s,[],false,s.code)
  else if s.cr then(if c=10 then(⟨[],false,0⟩,s.b,true,0) else(⟨s.b,s.cr,2⟩,[],false,2))
  else if c=10 then(⟨s.b,s.cr,2⟩,[],false,2)
  else if c=13 then(⟨s.b,true,s.code⟩,[],false,0)
  else if za3 c=false then(⟨s.b,s.cr,3⟩,[],false,3)
  else if s.b.length=200 then(⟨s.b,s.cr,4⟩,[],false,4)
  else(⟨s.b++[c],s.cr,s.code⟩,[],false,0)
def lnB (s:Ln):Bool:=decide (0<s.b.length)||s.cr
def yM (pre:Str):Str→Str × Int × Bool × Int
  |[]=>([],0,false,0)
  | c ::r=>
    if c=13 then
      match r with
      |[]=>([],0,false,0)
      |d::_=>if d=10 then(pre,(pre.length:Int)+2,true,0) else([],(pre.length:Int)+2,false,2)
    else if c=10 then([],(pre.length:Int)+1,false,2)
    else if za3 c=false then([],(pre.length:Int)+1,false,3)
    else if pre.length=200 then([],(pre.length:Int)+1,false,4)
    else yM (pre++[c]) r
def zC (b:Str):Str × Int × Bool × Int:=yM [] b
inductive LnR where
  |more (s:Ln)
  |line (t rest:Str)
  |bad (e:Int) (rest:Str)
def x9 (s:Ln):Str→LnR
  |[]=>.more s
  |c::r=>if(lnF s c).2.2.1=true then .line (lnF s c).2.1 r else if(lnF s c).2.2.2≠0 then .bad (lnF s c).2.2.2 r else x9 (lnF s c).1 r
def LnIs (pre r:Str):LnR→Prop
  |.more s=>yM pre r=([],0,false,0)∧s.code=0∧(lnB s=true↔r≠[]∨pre≠[])
  |.line t rest=>∃ n:Nat,yM pre r=(t,((pre.length+n:Nat):Int),true,0)∧n≤r.length∧0<n∧rest=r.drop n
  |.bad e rest=>∃ n:Nat,yM pre r=([],((pre.length+n:Nat):Int),false,e)∧e≠0∧n≤r.length∧0<n∧rest=r.drop n
theorem zfc: ∀ (r pre:Str),LnIs pre r (x9 ⟨pre,false,0⟩ r)
  |[],pre=>⟨rfl,rfl,by cases pre<;>simp [lnB]⟩
  | c :: r,pre=>by
    by_cases h10:c=10
    · subst h10
      have e:x9 ⟨pre,false,0⟩ (10::r)=.bad 2 r:=by simp [x9,lnF]
      rw [e]
      exact⟨1,by simp [yM],by decide,by simp,by decide,rfl⟩
    by_cases h13:c=13
    · subst h13
      cases r with
      | nil=>
        have e:x9 ⟨pre,false,0⟩ [13]=.more ⟨pre,true,0⟩:=by simp [x9,lnF]
        rw [e]
        exact⟨by simp [yM],rfl,by simp [lnB]⟩
      | cons d r=>
        by_cases hd:d=10
        · subst hd
          have e:x9 ⟨pre,false,0⟩ (13::10::r)=.line pre r:=by simp [x9,lnF]
          rw [e]
          exact⟨2,by simp [yM],by simp,by decide,by simp⟩
        · have e:x9 ⟨pre,false,0⟩ (13::d::r)=.bad 2 r:=by simp [x9,lnF,hd]
          rw [e]
          exact⟨2,by simp [yM,hd],by decide,by simp,by decide,by simp⟩
    by_cases hs:za3 c=false
    · have e:x9 ⟨pre,false,0⟩ (c::r)=.bad 3 r:=by simp [x9,lnF,h10,h13,hs]
      rw [e]
      exact⟨1,by simp [yM.eq_def,h10,h13,hs],by decide,by simp,by decide,rfl⟩
    by_cases hl:pre.length=200
    · have e:x9 ⟨pre,false,0⟩ (c::r)=.bad 4 r:=by simp [x9,lnF,h10,h13,hs,hl]
      rw [e]
      exact⟨1,by rw [yM.eq_def];simp [h10,h13,hs,hl],by decide,by simp,by decide,rfl⟩
    have ih:=zfc r (pre++[c])
    have e1:lnF ⟨pre,false,0⟩ c=(⟨pre++[c],false,0⟩,[],false,0):=by simp [lnF,h10,h13,hs,hl]
    have e2:yM pre (c::r)=yM (pre++[c]) r:=by rw [yM.eq_def];simp [h10,h13,hs,hl]
    have e3:x9 ⟨pre,false,0⟩ (c::r)=x9 ⟨pre++[c],false,0⟩ r:=by rw [x9,e1];simp
    rw [e3]
    generalize x9 ⟨pre++[c],false,0⟩ r=x at ih
    cases x with
    | more s=>
      obtain⟨h1,h2,h3⟩:=ih
      exact⟨by rw [e2,h1],h2,by rw [h3];simp⟩
    | line t rest=>
      obtain⟨n,h1,h2,h3,h4⟩:=ih
      exact⟨n+1,by rw [e2,h1];simp;omega,by simp;omega,by omega,by rw [h4];simp⟩
    | bad e rest=>
      obtain⟨n,h1,h2,h3,h4,h5⟩:=ih
      exact⟨n+1,by rw [e2,h1];simp;omega,h2,by simp;omega,by omega,by rw [h5];simp⟩
theorem zbg (r:Str):LnIs [] r (x9 ln0 r):=zfc r []
theorem zff (s:Ln) (c:UInt8):(lnF s c).2.1.length≤s.b.length:=by
  unfold lnF
  repeat' split
  all_goals simp
theorem zkG (s:Ln) (c:UInt8):(lnF s c).1.b.length≤s.b.length+1:=by
  unfold lnF
  repeat' split
  all_goals simp
end Go.Proofs.YtknaogelmckimaaGreatDoor
namespace Go.Proofs.YtknaogelmckimaaGreatDoor
open Go Go.Sep Go.Ab
set_option maxRecDepth 100000
def zx (m:Str):Str→Int→Int
  |[],i=>if m.isPrefixOf [] then i else -1
  |x::b,i=>if m.isPrefixOf (x::b) then i else zx m b (i+1)
theorem Xx (m:Str): ∀ (b:Str) (i:Int),b.length<m.length→zx m b i= -1
  | [],i,h=>by
    cases m with
    |nil=>simp at h
    |cons y m=>simp [zx,List.isPrefixOf]
  | x ::b,i,h=>by
    have: ¬ m.isPrefixOf (x::b)=true:=fun hp=>by
      have:=(List.isPrefixOf_iff_prefix.1 hp).length_le;omega
    rw [zx,if_neg this]
    exact Xx m b _ (by simp at h;omega)
theorem VK (m b:Str) (i:Nat) (h:i<b.length∨m=[]):zx m (b.drop i) i=if m=(b.drop i).take m.length then(i:Int) else zx m (b.drop (i+1)) (i+1:Nat):=by
  have hp:m.isPrefixOf (b.drop i)=true↔m=(b.drop i).take m.length:=by rw [List.isPrefixOf_iff_prefix,List.prefix_iff_eq_take]
  rcases h with h|h
  · rw [List.drop_eq_getElem_cons h] at hp ⊢
    rw [zx]
    by_cases hc:m.isPrefixOf (b[i]::b.drop (i+1))=true
    · rw [if_pos hc,if_pos (hp.1 hc)]
    · rw [if_neg hc,if_neg (fun e=>hc (hp.2 e))];rfl
  · subst h
    have h2:([]:Str).isPrefixOf (b.drop i)=true:=by cases b.drop i<;>rfl
    rw [if_pos (hp.1 h2)]
    cases hd:b.drop i with
    |nil=>simp [zx]
    |cons y r=>simp [zx]
theorem zef (b m:Str) (hneed:b.length≤1000000∧m.length≤1000000):Spc Tryz.prog 34 [.v (.one (.p (.list .byte b))),.v (.one (.p (.str m)))] [] (.ret (.v (.one (.p (.int .i64 (zx m b 0)))))) []:=by
  refine spcG zi mixed Tryz.func34 (by kernel_rfl) { keep:=some [0,1,4,5]} [] (by kernel_rfl) ?_
  intro I X hI hX
  refine zh (.code 0 [1,0,1,0] ⟨[(5,(.v (.one (.p (.int .i64 0))))),(4,(.v (.one (.p (.int .i64 0))))),(0,(.v (.one (.p (.list .byte b))))),(1,(.v (.one (.p (.str m)))))],[],26,none⟩) (by kernel_rfl) ?_
  simp only [zn]
  refine zu hI zi mixed [] hX [0,1,5] (fun(i:Nat)=>zx m b 0=zx m (b.drop i) i∧i≤b.length) (fun(i:Nat)=>⟨[(0,.v (.one (.p (.list .byte b)))),(1,.v (.one (.p (.str m)))),(5,.v (.one (.p (.int .i64 i))))],[],26,none⟩) (fun(i:Nat)=>b.length - i) 0 (by kernel_rfl) (by kernel_rfl) ?_ ?_
  · exact⟨by simp,Nat.zero_le _⟩
  rintro i ⟨hf,hib⟩ A hA
  refine zh (let y0:=I.add (Nat.cast i) (I.len (α:=UInt8) m);.need (I.inr Go.IntKind.i64 y0) (.br (I.ile y0 (I.len (α:=UInt8) b)) (.need (I.inr Go.IntKind.i64 y0) (.need (I.cutb (Int.ofNat i) y0 (I.len (α:=UInt8) b)) (.br (I.seq (I.cut (α:=UInt8) b (Int.ofNat i) y0) m) (.fin (.ret (.v (.one (.p (.int .i64 (Nat.cast i)))))) []) (.need (I.inr Go.IntKind.i64 (I.add (Nat.cast i) 1)) (.need (A ⟨[(0,(.v (.one (.p (.list .byte b))))),(1,(.v (.one (.p (.str m))))),(5,(.v (.one (.p (.int .i64 (I.add (Nat.cast i) 1))))))],[],26,none⟩) .qed))))) (.fin (.ret (.v (.one (.p (.int .i64 (Neg.neg (1:Int))))))) []))) (by kernel_rfl) ?_
  simp only [zn]
  subst hI
  simp only [nrmA,nrmB]
  simp only [show((i:Int)+(m.length:Int)).toNat=i+m.length by omega,Nat.add_sub_cancel_left]
  have hor:i+m.length≤b.length→(i<b.length∨m=[]):=fun h=>by
    rcases m with _|⟨y,m⟩
    · exact .inr rfl
    · left;simp at h;omega
  (repeat' (first|refine And.intro ?_ ?_|intro _))<;>first|omega|exact True.intro|exact False.elim ‹False›|skip
  · rename_i hle heq
    rw [hf,VK m b i (hor (by omega)),if_pos heq.symm]
  · rename_i hle hne
    have hlt:i<b.length:=(hor (by omega)).resolve_right (fun e=>hne (by subst e;simp))
    refine hA (i+1) ⟨?_,by omega⟩ (by omega)
    rw [hf,VK m b i (hor (by omega)),if_neg (fun h=>hne h.symm)]
  · rename_i hgt
    rw [hf,Xx m (b.drop i) i (by simp only [List.length_drop];omega)]
def uz (I:Alg) (args:List D) (hp:List HO):Option CT:=match args,hp with
  |[.v (.one (.p (.list .byte b))),.v (.one (.p (.str m)))],[]=>(fun(b m:Str)=>(some (.one ⟨I.hid (b.length≤1000000∧m.length≤1000000),(.ret (.v (.one (.p (.int .i64 (I.hid (zx m b 0))))))),[]⟩):Option CT)) b m
  |_,_=>none
theorem Xw:zy Tryz.prog 34 (uz alg):=by
  intro args hp r h
  unfold uz at h
  split at h
  · cases h;exact fun hn=>zef _ _ hn
  · cases h
def wZ:Know Tryz.prog:=⟨34,uz,Xw⟩
def wY:Know Tryz.prog:=⟨34,fun I=>zA I (uz I),zf Xw⟩
end Go.Proofs.YtknaogelmckimaaGreatDoor
namespace Go.Proofs.YtknaogelmckimaaGreatDoor
open Go Go.Sep Go.Ab
set_option maxRecDepth 100000
def cutB (s:Str) (c:UInt8):Str × Str × Bool:=
  if 0≤Lib.indexByte s c then(s.take (Lib.indexByte s c).toNat,s.drop ((Lib.indexByte s c).toNat+1),true) else(s,[],false)
def zF (s:Str):Fld × Int:=
  if(cutB s 58).2.2=false then(⟨[],[]⟩,5)
  else if qZ (cutB s 58).1=false then(⟨[],[]⟩,6)
  else if 40<(cutB s 58).1.length then(⟨[],[]⟩,4)
  else if wH (cutB s 58).2.1=false then(⟨[],[]⟩,3)
  else(⟨(cutB s 58).1,Lib.trimS (cutB s 58).2.1 [32,9]⟩,0)
theorem zdm (s:Str) (c:UInt8):(cutB s c).1.length≤s.length∧(cutB s c).2.1.length≤s.length:=by
  unfold cutB
  split
  · simp only [List.length_take,List.length_drop];omega
  · simp
theorem zj5 (s:Str) (c:UInt8) (hneed:s.length≤1000000):Spc Tryz.prog 116 [.v (.one (.p (.str s))),.v (.one (.p (.str ([c]))))] [] (.ret (.tup [(.one (.p (.str ((cutB s c).1)))),(.one (.p (.str ((cutB s c).2.1)))),(.one (.p (.bool ((cutB s c).2.2))))])) []:=by
  generalize hr:cutB s c=r
  obtain⟨a,b,d⟩:=r
  refine spcG zi mixed Tryz.func116 (by kernel_rfl) { keep:=some [0,1,4,5,6,7]} [zfm,zfl] (by kernel_rfl) ?_
  intro I X hI hX
  refine zh (let y0:=I.hid (α:=Int) (Go.Lib.indexByte s c);let y1:=I.add y0 (I.len (α:=UInt8) ([c]:Str));.need (I.hid (α:=(Prop)) True) (.br (I.ile 0 y0) (.need (I.cutb 0 y0 (I.len (α:=UInt8) s)) (.need (I.inr Go.IntKind.i64 y1) (.need (I.cutb y1 (I.len (α:=UInt8) s) (I.len (α:=UInt8) s)) (.fin (.ret (.tup [(.one (.p (.str (I.cut (α:=UInt8) s 0 y0)))),(.one (.p (.str (I.cut (α:=UInt8) s y1 (I.len (α:=UInt8) s))))),(.one (.p (.bool Bool.true)))])) [])))) (.fin (.ret (.tup [(.one (.p (.str s))),(.one (.p (.str ([]:Str)))),(.one (.p (.bool Bool.false)))])) []))) (by kernel_rfl) ?_
  simp only [zn]
  subst hI
  simp only [nrmA,nrmB]
  have hx:=um s c
  simp only [List.length_cons,List.length_nil]
  refine⟨fun h=> ?_,fun h=> ?_⟩
  · rw [cutB,if_pos h] at hr
    simp only [Prod.mk.injEq] at hr
    obtain⟨rfl,rfl,rfl⟩:=hr
    refine⟨by omega,by omega,by omega,?_⟩
    rw [show(Lib.indexByte s c+((0+1:Nat):Int)).toNat=(Lib.indexByte s c).toNat+1 by omega]
    have e:List.take (s.length - ((Lib.indexByte s c).toNat+1)) (List.drop ((Lib.indexByte s c).toNat+1) s)=List.drop ((Lib.indexByte s c).toNat+1) s:=List.take_of_length_le (by rw [List.length_drop];exact Nat.le_refl _)
    rw [e]
  · rw [cutB,if_neg h] at hr
    simp only [Prod.mk.injEq] at hr
    obtain⟨rfl,rfl,rfl⟩:=hr
    rfl
def XI (I:Alg) (args:List D) (hp:List HO):Option CT:=match args,hp with
  |[.v (.one (.p (.str s))),.v (.one (.p (.str ([c]))))],[]=>(fun(s:Str) (c:UInt8)=>(some (.one ⟨I.hid (s.length≤1000000),(.ret (.tup [(.one (.p (.str (I.hid ((cutB s c).1))))),(.one (.p (.str (I.hid ((cutB s c).2.1))))),(.one (.p (.bool (I.hid ((cutB s c).2.2)))))])),[]⟩):Option CT)) s c
  |_,_=>none
theorem zcb:zy Tryz.prog 116 (XI alg):=by
  intro args hp r h
  unfold XI at h
  split at h
  · cases h;exact fun hn=>zj5 _ _ hn
  · cases h
def zgQ:Know Tryz.prog:=⟨116,XI,zcb⟩
def zgP:Know Tryz.prog:=⟨116,fun I=>zA I (XI I),zf zcb⟩
theorem zlh (s:Str) (c:UInt8) (hneed:s.length≤1000000):Spc Tryz.prog 98 [.v (.one (.p (.str s))),.v (.one (.p (.str ([c]))))] [] (.ret (.tup [(.one (.p (.str ((cutB s c).1)))),(.one (.p (.str ((cutB s c).2.1)))),(.one (.p (.bool ((cutB s c).2.2))))])) []:=by
  refine spcG zi mixed Tryz.func98 (by kernel_rfl) { keep:=some [0,1,4,5,6]} [zgQ,zgP] (by kernel_rfl) ?_
  intro I X hI hX
  refine zh (.need (I.hid (α:=(Prop)) (LE.le (List.length s) 1000000)) (.fin (.ret (.tup [(.one (.p (.str (I.hid (α:=Str) (Prod.fst (cutB s c)))))),(.one (.p (.str (I.hid (α:=Str) (Prod.fst (Prod.snd (cutB s c))))))),(.one (.p (.bool (I.hid (α:=Bool) (Prod.snd (Prod.snd (cutB s c)))))))])) [])) (by kernel_rfl) ?_
  simp only [zn]
  subst hI
  simp only [nrmA,nrmB]
  exact hneed
def Tv (I:Alg) (args:List D) (hp:List HO):Option CT:=match args,hp with
  |[.v (.one (.p (.str s))),.v (.one (.p (.str ([c]))))],[]=>(fun(s:Str) (c:UInt8)=>(some (.one ⟨I.hid (s.length≤1000000),(.ret (.tup [(.one (.p (.str (I.hid ((cutB s c).1))))),(.one (.p (.str (I.hid ((cutB s c).2.1))))),(.one (.p (.bool (I.hid ((cutB s c).2.2)))))])),[]⟩):Option CT)) s c
  |_,_=>none
theorem zeI:zy Tryz.prog 98 (Tv alg):=by
  intro args hp r h
  unfold Tv at h
  split at h
  · cases h;exact fun hn=>zlh _ _ hn
  · cases h
def ziG:Know Tryz.prog:=⟨98,Tv,zeI⟩
def ziF:Know Tryz.prog:=⟨98,fun I=>zA I (Tv I),zf zeI⟩
theorem zkg (s:Str) (hneed:s.length≤1000000):Spc Tryz.prog 78 [.v (.one (.p (.str s)))] [] (.ret (.tup [(.agg [(.p (.str ((zF s).1.name))),(.p (.str ((zF s).1.value)))]),(.one (.p (.int .i64 ((zF s).2))))])) []:=by
  generalize hr:zF s=r
  obtain⟨⟨a,b⟩,d⟩:=r
  refine spcG zi mixed Tryz.func78 (by kernel_rfl) { keep:=some [0,2,3,4,5,6]} [zd2,zd1,rW,rV,zdr,zdq,ziG,ziF] (by kernel_rfl) ?_
  intro I X hI hX
  refine zh (let y0:=I.hid (α:=Str) (Prod.fst (cutB s (58:UInt8)));let y1:=I.hid (α:=Str) (Prod.fst (Prod.snd (cutB s (58:UInt8))));.need (I.hid (α:=(Prop)) (LE.le (List.length s) 1000000)) (.br (I.bnot (I.hid (α:=Bool) (Prod.snd (Prod.snd (cutB s (58:UInt8)))))) (.fin (.ret (.tup [(.agg [(.p (.str ([]:Str))),(.p (.str ([]:Str)))]),(.one (.p (.int .i64 5)))])) []) (.need (I.hid (α:=(Prop)) (LE.le (List.length y0) 1000000)) (.br (I.bnot (I.hid (α:=Bool) (qZ y0))) (.fin (.ret (.tup [(.agg [(.p (.str ([]:Str))),(.p (.str ([]:Str)))]),(.one (.p (.int .i64 6)))])) []) (.br (I.ilt 40 (I.len (α:=UInt8) y0)) (.fin (.ret (.tup [(.agg [(.p (.str ([]:Str))),(.p (.str ([]:Str)))]),(.one (.p (.int .i64 4)))])) []) (.need (I.hid (α:=(Prop)) (LE.le (List.length y1) 1000000)) (.br (I.bnot (I.hid (α:=Bool) (wH y1))) (.fin (.ret (.tup [(.agg [(.p (.str ([]:Str))),(.p (.str ([]:Str)))]),(.one (.p (.int .i64 3)))])) []) (.need (I.hid (α:=(Prop)) True) (.fin (.ret (.tup [(.agg [(.p (.str y0)),(.p (.str (I.hid (α:=Str) (Go.Lib.trimS y1 ([32,9]:Str)))))]),(.one (.p (.int .i64 0)))])) []))))))))) (by kernel_rfl) ?_
  simp only [zn]
  subst hI
  simp only [nrmA,nrmB]
  have hl:=zdm s 58
  unfold zF at hr
  (repeat' (first|refine And.intro ?_ ?_|intro _))<;>first|omega|exact True.intro|exact False.elim ‹False›|skip
  all_goals first
    |(rw [if_pos (by assumption)] at hr;cases hr;rfl)
    |(rw [if_neg (by simp [*]),if_pos (by assumption)] at hr;cases hr;rfl)
    |(rw [if_neg (by simp [*]),if_neg (by simp [*]),if_pos (by omega)] at hr;cases hr;rfl)
    |(rw [if_neg (by simp [*]),if_neg (by simp [*]),if_neg (by omega),if_pos (by assumption)] at hr;cases hr;rfl)
    |(rw [if_neg (by simp [*]),if_neg (by simp [*]),if_neg (by omega),if_neg (by simp [*])] at hr;cases hr;rfl)
def X3 (I:Alg) (args:List D) (hp:List HO):Option CT:=match args,hp with
  |[.v (.one (.p (.str s)))],[]=>(fun(s:Str)=>(some (.one ⟨I.hid (s.length≤1000000),(.ret (.tup [(.agg [(.p (.str (I.hid ((zF s).1.name)))),(.p (.str (I.hid ((zF s).1.value))))]),(.one (.p (.int .i64 (I.hid ((zF s).2)))))])),[]⟩):Option CT)) s
  |_,_=>none
theorem zcq:zy Tryz.prog 78 (X3 alg):=by
  intro args hp r h
  unfold X3 at h
  split at h
  · cases h;exact fun hn=>zkg _ hn
  · cases h
def zcp:Know Tryz.prog:=⟨78,X3,zcq⟩
def zco:Know Tryz.prog:=⟨78,fun I=>zA I (X3 I),zf zcq⟩
end Go.Proofs.YtknaogelmckimaaGreatDoor
namespace Go.Proofs.YtknaogelmckimaaGreatDoor
open Go Go.Sep Go.Ab
set_option maxRecDepth 100000
theorem U3 (c:UInt8): ∀ (s:Str) (i:Int),zx [c] s i=if Lib.indexByte s c= -1 then -1 else i+Lib.indexByte s c
  |[],i=>by simp [zx,Lib.indexByte,List.isPrefixOf]
  | x ::l,i=>by
    have ih:=U3 c l (i+1)
    have hb:=um l c
    have hp:([c]:Str).isPrefixOf (x::l)=(c == x):=by simp [List.isPrefixOf]
    rw [zx,hp,ih,Lib.indexByte]
    by_cases h:x=c
    · subst h;simp
    · have h1:(c == x)=false:=by simpa using fun e=>h e.symm
      have h2:(x == c)=false:=by simpa using h
      simp only [h1,h2,Bool.false_eq_true,if_false]
      by_cases h3:Lib.indexByte l c= -1
      · simp [h3]
      · simp only [h3,beq_iff_eq,if_false]
        rw [if_neg (by omega)]
        omega
theorem zeg (s:Str):zx [58] s 0=Lib.indexByte s 58:=by
  rw [U3]
  split
  · rename_i h;rw [h]
  · omega
theorem zhF (s:Str) (hneed:s.length≤1000000):Spc Tryz.prog 36 [.v (.one (.p (.str s)))] [] (.ret (.tup [(.agg [(.p (.str ((zF s).1.name))),(.p (.str ((zF s).1.value)))]),(.one (.p (.int .i64 ((zF s).2))))])) []:=by
  generalize hr:zF s=r
  obtain⟨⟨a,b⟩,d⟩:=r
  refine spcG zi mixed Tryz.func36 (by kernel_rfl) { keep:=some [0,2,3,4]} [RI,RH,zZ,zY,Ue,Ud,wZ,wY] (by kernel_rfl) ?_
  intro I X hI hX
  refine zh (let y0:=I.hid (α:=Int) (zx ([58]:Str) s (0:Int));let y1:=I.cut (α:=UInt8) s (I.add y0 1) (I.len (α:=UInt8) s);let y2:=I.cutb (I.add y0 1) (I.len (α:=UInt8) s) (I.len (α:=UInt8) s);let y3:=I.hid (α:=(Prop)) (LE.le (List.length y1) 1000000);let y4:=I.cutb 0 y0 (I.len (α:=UInt8) s);let y5:=I.inr Go.IntKind.i64 (I.add y0 1);.need (I.hid (α:=(Prop)) (And (LE.le (List.length s) 1000000) (LE.le (List.length ([58]:Str)) 1000000))) (.br (I.ilt y0 0) (.fin (.ret (.tup [(.agg [(.p (.str ([]:Str))),(.p (.str ([]:Str)))]),(.one (.p (.int .i64 5)))])) []) (.need y4 (.need (I.hid (α:=(Prop)) (LE.le (List.length (I.cut (α:=UInt8) s 0 y0)) 1000000)) (.br (I.bnot (I.hid (α:=Bool) (qZ (I.cut (α:=UInt8) s 0 y0)))) (.fin (.ret (.tup [(.agg [(.p (.str ([]:Str))),(.p (.str ([]:Str)))]),(.one (.p (.int .i64 6)))])) []) (.br (I.ilt 40 y0) (.fin (.ret (.tup [(.agg [(.p (.str ([]:Str))),(.p (.str ([]:Str)))]),(.one (.p (.int .i64 4)))])) []) (.need y5 (.need y2 (.need y3 (.br (I.bnot (I.hid (α:=Bool) (wH y1))) (.fin (.ret (.tup [(.agg [(.p (.str ([]:Str))),(.p (.str ([]:Str)))]),(.one (.p (.int .i64 3)))])) []) (.need y4 (.need y5 (.need y2 (.need y3 (.fin (.ret (.tup [(.agg [(.p (.str (I.cut (α:=UInt8) s 0 y0))),(.p (.str (I.hid (α:=Str) (Go.Lib.trimS y1 ([32,9]:Str)))))]),(.one (.p (.int .i64 0)))])) []))))))))))))))) (by kernel_rfl) ?_
  simp only [zn]
  subst hI
  simp only [nrmA,nrmB]
  rw [zeg]
  have hx:=um s 58
  simp only [List.length_cons,List.length_nil]
  by_cases h:0≤Lib.indexByte s 58
  · have hcb:cutB s 58=(s.take (Lib.indexByte s 58).toNat,s.drop ((Lib.indexByte s 58).toNat+1),true):=by rw [cutB,if_pos h]
    have e:List.take (s.length - ((Lib.indexByte s 58).toNat+1)) (List.drop ((Lib.indexByte s 58).toNat+1) s)=List.drop ((Lib.indexByte s 58).toNat+1) s:=List.take_of_length_le (by rw [List.length_drop];exact Nat.le_refl _)
    rw [zF,hcb] at hr
    simp only at hr
    rw [show(Lib.indexByte s 58+1).toNat=(Lib.indexByte s 58).toNat+1 by omega,e]
    have l1:(s.take (Lib.indexByte s 58).toNat).length=(Lib.indexByte s 58).toNat:=by rw [List.length_take];omega
    have l2:(s.drop ((Lib.indexByte s 58).toNat+1)).length≤s.length:=by rw [List.length_drop];omega
    generalize s.take (Lib.indexByte s 58).toNat=nm at *
    generalize s.drop ((Lib.indexByte s 58).toNat+1)=vl at *
    rw [if_neg (by decide)] at hr
    (repeat' (first|refine And.intro ?_ ?_|intro _))<;>first|omega|exact True.intro|exact False.elim ‹False›|skip
    all_goals first
      |(rw [if_pos (by assumption)] at hr;cases hr;rfl)
      |(rw [if_neg (by simp [*]),if_pos (by omega)] at hr;cases hr;rfl)
      |(rw [if_neg (by simp [*]),if_neg (by omega),if_pos (by assumption)] at hr;cases hr;rfl)
      |(rw [if_neg (by simp [*]),if_neg (by omega),if_neg (by simp [*])] at hr;cases hr;rfl)
  · have hcb:cutB s 58=(s,[],false):=by rw [cutB,if_neg h]
    rw [zF,hcb] at hr
    simp only [if_true] at hr
    cases hr
    exact⟨⟨hneed,by omega⟩,fun _=>rfl,fun h'=>absurd h (by omega)⟩
def qQ (I:Alg) (args:List D) (hp:List HO):Option CT:=match args,hp with
  |[.v (.one (.p (.str s)))],[]=>(fun(s:Str)=>(some (.one ⟨I.hid (s.length≤1000000),(.ret (.tup [(.agg [(.p (.str (I.hid ((zF s).1.name)))),(.p (.str (I.hid ((zF s).1.value))))]),(.one (.p (.int .i64 (I.hid ((zF s).2)))))])),[]⟩):Option CT)) s
  |_,_=>none
theorem U5:zy Tryz.prog 36 (qQ alg):=by
  intro args hp r h
  unfold qQ at h
  split at h
  · cases h;exact fun hn=>zhF _ hn
  · cases h
def qP:Know Tryz.prog:=⟨36,qQ,U5⟩
def qO:Know Tryz.prog:=⟨36,fun I=>zA I (qQ I),zf U5⟩
end Go.Proofs.YtknaogelmckimaaGreatDoor
namespace Go.Proofs.YtknaogelmckimaaGreatDoor
open Go Go.Sep Go.Ab
set_option maxRecDepth 100000
end Go.Proofs.YtknaogelmckimaaGreatDoor
namespace Go.Proofs.YtknaogelmckimaaGreatDoor
open Go Go.Sep Go.Ab
set_option maxRecDepth 100000
def valsF (l:List Fld) (n:Str):List Str:=(l.filter fun f=>decide (lowS f.name=lowS n)).map (·.value)
theorem zlu (l:List Fld) (n:Str) (hneed:l.length≤1000∧n.length≤1000000∧∀ f ∈ l,f.name.length≤1000000∧f.value.length≤1000000):Spc Tryz.prog 122 [.v (.one (.p (.list .fld l))),.v (.one (.p (.str n)))] [] (.ret (.v (.one (.row 0)))) [.row .str 9 ((valsF l n))]:=by
  refine spcG zi mixed Tryz.func122 (by kernel_rfl) { nr:=[5],keep:=some [0,1,4,5,7,8,9,10]} [wF,wE] (by kernel_rfl) ?_
  intro I X hI hX
  refine zh (.code 0 [1,1,0,1,0] ⟨[(10,(.v (.one (.p (.int .i64 0))))),(9,(.v (.one (.p (.int .i64 (I.len (α:=Fld) l)))))),(8,(.v (.one (.p (.list .fld l))))),(5,(.v (.one (.row 0)))),(4,(.v (.one .nilS))),(0,(.v (.one (.p (.list .fld l))))),(1,(.v (.one (.p (.str n)))))],[(.row .str 9 ([]:List (Str)))],27,none⟩) (by kernel_rfl) ?_
  simp only [zn]
  refine zu hI zi mixed [wF,wE] hX [0,1,5,8,9,10] (fun(g:Nat × List Str)=>match g with|(i,o)=>i≤l.length∧o=valsF (l.take i) n) (fun(g:Nat × List Str)=>match g with|(i,o)=>⟨[(0,.v (.one (.p (.list .fld l)))),(1,.v (.one (.p (.str n)))),(5,.v (.one (.row 0))),(8,.v (.one (.p (.list .fld l)))),(9,.v (.one (.p (.int .i64 ((I.len (α:=Fld) l)))))),(10,.v (.one (.p (.int .i64 i))))],[.row .str 9 o],27,none⟩) (fun(g:Nat × List Str)=>match g with|(i,o)=>l.length - i) (0,[]) (by kernel_rfl) (by kernel_rfl) ?_ ?_
  · exact⟨Nat.zero_le _,rfl⟩
  rintro⟨i,o⟩ ⟨h1,h2⟩ A hA
  simp only at hA
  refine zh (let y0:=I.get (α:=Fld) l (Fld.mk ([]:Str) ([]:Str)) (Nat.cast i);let y1:=I.inr Go.IntKind.i64 (I.add (Nat.cast i) 1);let y2:=I.inb (Nat.cast i) (I.len (α:=Fld) l);.br (I.ilt (Nat.cast i) (I.len (α:=Fld) l)) (.need y2 (.need y2 (.need (I.hid (α:=(Prop)) (LE.le (List.length (Fld.name y0)) 1000000)) (.need (I.hid (α:=(Prop)) (LE.le (List.length n) 1000000)) (.br (I.seq (I.hid (α:=Str) (lowS (Fld.name y0))) (I.hid (α:=Str) (lowS n))) (.need (I.few (I.add (I.len (α:=Str) o) (I.len (α:=Str) ([(Fld.value y0)]:List (Str)))) 100000000) (.need y1 (.need (A ⟨[(0,(.v (.one (.p (.list .fld l))))),(1,(.v (.one (.p (.str n))))),(5,(.v (.one (.row 0)))),(8,(.v (.one (.p (.list .fld l))))),(9,(.v (.one (.p (.int .i64 (I.len (α:=Fld) l)))))),(10,(.v (.one (.p (.int .i64 (I.add (Nat.cast i) 1))))))],[(.row .str 9 (I.app (α:=Str) o ([(Fld.value y0)]:List (Str))))],27,none⟩) .qed))) (.need y1 (.need (A ⟨[(0,(.v (.one (.p (.list .fld l))))),(1,(.v (.one (.p (.str n))))),(5,(.v (.one (.row 0)))),(8,(.v (.one (.p (.list .fld l))))),(9,(.v (.one (.p (.int .i64 (I.len (α:=Fld) l)))))),(10,(.v (.one (.p (.int .i64 (I.add (Nat.cast i) 1))))))],[(.row .str 9 o)],27,none⟩) .qed))))))) (.fin (.ret (.v (.one (.row 0)))) [(.row .str 9 o)])) (by kernel_rfl) ?_
  simp only [zn]
  subst hI
  simp only [nrmA,nrmB]
  have hx:i<l.length→(l.getD i ⟨[],[]⟩) ∈ l:=fun h=>by rw [show l.getD i ⟨[],[]⟩=l[i] by simp [h]];exact List.getElem_mem h
  have hs:i<l.length→valsF (l.take (i+1)) n=if lowS (l.getD i ⟨[],[]⟩).name=lowS n then o++[(l.getD i ⟨[],[]⟩).value] else o:=fun h=>by
    rw [show l.getD i ⟨[],[]⟩=l[i] by simp [h],List.take_succ_eq_append_getElem h,h2]
    unfold valsF
    rw [List.filter_append,List.map_append]
    by_cases hc:lowS l[i].name=lowS n<;>simp [hc]
  have hol:o.length≤i:=by
    rw [h2]
    unfold valsF
    rw [List.length_map]
    exact Nat.le_trans (List.length_filter_le _ _) (by rw [List.length_take];omega)
  have hn:=fun h=>hneed.2.2 _ (hx h)
  generalize l.getD i ⟨[],[]⟩=x at *
  simp only [List.length_cons,List.length_nil]
  (repeat' (first|refine And.intro ?_ ?_|intro _))<;>first|omega|exact True.intro|exact False.elim ‹False›|skip
  all_goals first
    |(have:=hn (by omega);omega)
    |exact hA (i+1,_) ⟨by simp only;omega,by simp only;rw [hs (by omega),if_pos (by assumption)]⟩ (by simp only;omega)
    |exact hA (i+1,_) ⟨by simp only;omega,by simp only;rw [hs (by omega),if_neg (by assumption)]⟩ (by simp only;omega)
    |(rw [h2,List.take_of_length_le (by omega)])
def SN (I:Alg) (args:List D) (hp:List HO):Option CT:=match args,hp with
  |[.v (.one (.p (.list .fld l))),.v (.one (.p (.str n)))],[]=>(fun(l:List Fld) (n:Str)=>(some (.one ⟨I.hid (l.length≤1000∧n.length≤1000000∧∀ f ∈ l,f.name.length≤1000000∧f.value.length≤1000000),(.ret (.v (.one (.row 0)))),[.row .str 9 (I.hid ((valsF l n)))]⟩):Option CT)) l n
  |_,_=>none
theorem zf1:zy Tryz.prog 122 (SN alg):=by
  intro args hp r h
  unfold SN at h
  split at h
  · cases h;exact fun hn=>zlu _ _ hn
  · cases h
def zjO:Know Tryz.prog:=⟨122,SN,zf1⟩
def zjN:Know Tryz.prog:=⟨122,fun I=>zA I (SN I),zf zf1⟩
theorem zet (l:List Fld) (n:Str) (hneed:l.length≤1000∧n.length≤1000000∧∀ f ∈ l,f.name.length≤1000000∧f.value.length≤1000000):Spc Tryz.prog 63 [.v (.one (.p (.list .fld l))),.v (.one (.p (.str n)))] [] (.ret (.v (.one (.row 0)))) [.row .str 9 ((valsF l n))]:=by
  refine spcG zi mixed Tryz.func63 (by kernel_rfl) { nr:=[5],keep:=some [0,1,4,5,6]} [yF,yE] (by kernel_rfl) ?_
  intro I X hI hX
  refine zh (.code 0 [1,1,0,1,0] ⟨[(6,(.v (.one (.p (.int .i64 0))))),(5,(.v (.one (.row 0)))),(4,(.v (.one .nilS))),(0,(.v (.one (.p (.list .fld l))))),(1,(.v (.one (.p (.str n)))))],[(.row .str 9 ([]:List (Str)))],31,none⟩) (by kernel_rfl) ?_
  simp only [zn]
  refine zu hI zi mixed [yF,yE] hX [0,1,5,6] (fun(g:Nat × List Str)=>match g with|(i,o)=>i≤l.length∧o=valsF (l.take i) n) (fun(g:Nat × List Str)=>match g with|(i,o)=>⟨[(0,.v (.one (.p (.list .fld l)))),(1,.v (.one (.p (.str n)))),(5,.v (.one (.row 0))),(6,.v (.one (.p (.int .i64 i))))],[.row .str 9 o],31,none⟩) (fun(g:Nat × List Str)=>match g with|(i,o)=>l.length - i) (0,[]) (by kernel_rfl) (by kernel_rfl) ?_ ?_
  · exact⟨Nat.zero_le _,rfl⟩
  rintro⟨i,o⟩ ⟨h1,h2⟩ A hA
  simp only at hA
  refine zh (let y0:=I.get (α:=Fld) l (Fld.mk ([]:Str) ([]:Str)) (Nat.cast i);let y1:=I.inb (Nat.cast i) (I.len (α:=Fld) l);let y2:=I.inr Go.IntKind.i64 (I.add (Nat.cast i) 1);.br (I.ilt (Nat.cast i) (I.len (α:=Fld) l)) (.need y1 (.need y1 (.need (I.hid (α:=(Prop)) (LE.le (List.length (Fld.name y0)) 1000000)) (.need (I.hid (α:=(Prop)) (LE.le (List.length n) 1000000)) (.br (I.seq (I.hid (α:=Str) (lowS (Fld.name y0))) (I.hid (α:=Str) (lowS n))) (.need y1 (.need y1 (.need (I.few (I.add (I.len (α:=Str) o) (I.len (α:=Str) ([(Fld.value y0)]:List (Str)))) 100000000) (.need y2 (.need (A ⟨[(0,(.v (.one (.p (.list .fld l))))),(1,(.v (.one (.p (.str n))))),(5,(.v (.one (.row 0)))),(6,(.v (.one (.p (.int .i64 (I.add (Nat.cast i) 1))))))],[(.row .str 9 (I.app (α:=Str) o ([(Fld.value y0)]:List (Str))))],31,none⟩) .qed))))) (.need y2 (.need (A ⟨[(0,(.v (.one (.p (.list .fld l))))),(1,(.v (.one (.p (.str n))))),(5,(.v (.one (.row 0)))),(6,(.v (.one (.p (.int .i64 (I.add (Nat.cast i) 1))))))],[(.row .str 9 o)],31,none⟩) .qed))))))) (.fin (.ret (.v (.one (.row 0)))) [(.row .str 9 o)])) (by kernel_rfl) ?_
  simp only [zn]
  subst hI
  simp only [nrmA,nrmB]
  have hx:i<l.length→(l.getD i ⟨[],[]⟩) ∈ l:=fun h=>by rw [show l.getD i ⟨[],[]⟩=l[i] by simp [h]];exact List.getElem_mem h
  have hs:i<l.length→valsF (l.take (i+1)) n=if lowS (l.getD i ⟨[],[]⟩).name=lowS n then o++[(l.getD i ⟨[],[]⟩).value] else o:=fun h=>by
    rw [show l.getD i ⟨[],[]⟩=l[i] by simp [h],List.take_succ_eq_append_getElem h,h2]
    unfold valsF
    rw [List.filter_append,List.map_append]
    by_cases hc:lowS l[i].name=lowS n<;>simp [hc]
  have hol:o.length≤i:=by
    rw [h2]
    unfold valsF
    rw [List.length_map]
    exact Nat.le_trans (List.length_filter_le _ _) (by rw [List.length_take];omega)
  have hn:=fun h=>hneed.2.2 _ (hx h)
  generalize l.getD i ⟨[],[]⟩=x at *
  simp only [List.length_cons,List.length_nil]
  (repeat' (first|refine And.intro ?_ ?_|intro _))<;>first|omega|exact True.intro|exact False.elim ‹False›|skip
  all_goals first
    |(have:=hn (by omega);omega)
    |exact hA (i+1,_) ⟨by simp only;omega,by simp only;rw [hs (by omega),if_pos (by assumption)]⟩ (by simp only;omega)
    |exact hA (i+1,_) ⟨by simp only;omega,by simp only;rw [hs (by omega),if_neg (by assumption)]⟩ (by simp only;omega)
    |(rw [h2,List.take_of_length_le (by omega)])
def tC (I:Alg) (args:List D) (hp:List HO):Option CT:=match args,hp with
  |[.v (.one (.p (.list .fld l))),.v (.one (.p (.str n)))],[]=>(fun(l:List Fld) (n:Str)=>(some (.one ⟨I.hid (l.length≤1000∧n.length≤1000000∧∀ f ∈ l,f.name.length≤1000000∧f.value.length≤1000000),(.ret (.v (.one (.row 0)))),[.row .str 9 (I.hid ((valsF l n)))]⟩):Option CT)) l n
  |_,_=>none
theorem WJ:zy Tryz.prog 63 (tC alg):=by
  intro args hp r h
  unfold tC at h
  split at h
  · cases h;exact fun hn=>zet _ _ hn
  · cases h
def tu:Know Tryz.prog:=⟨63,tC,WJ⟩
def tq:Know Tryz.prog:=⟨63,fun I=>zA I (tC I),zf WJ⟩
end Go.Proofs.YtknaogelmckimaaGreatDoor
namespace Go.Proofs.YtknaogelmckimaaGreatDoor
open Go Go.Sep Go.Ab
set_option maxRecDepth 100000
def oneF (l:List Str):Str × Int:=if l.length=0 then([],10) else if l.length=1 then(l.getD 0 [],0) else([],9)
theorem zlr (l:List Fld) (n:Str) (hneed:l.length≤1000∧n.length≤1000000∧∀ f ∈ l,f.name.length≤1000000∧f.value.length≤1000000):Spc Tryz.prog 112 [.v (.one (.p (.list .fld l))),.v (.one (.p (.str n)))] [] (.ret (.tup [(.one (.p (.str ((oneF (valsF l n)).1)))),(.one (.p (.int .i64 ((oneF (valsF l n)).2))))])) []:=by
  generalize hr:oneF (valsF l n)=r
  obtain⟨a,d⟩:=r
  refine spcG zi mixed Tryz.func112 (by kernel_rfl) { keep:=some [0,1,4,5,6,11]} [zjO,zjN] (by kernel_rfl) ?_
  intro I X hI hX
  refine zh (let y0:=I.len (α:=Str) (I.hid (α:=(List (Str))) (valsF l n));.need (I.hid (α:=(Prop)) (And (LE.le (List.length l) 1000) (And (LE.le (List.length n) 1000000) (∀ (f:Fld),f ∈ l→List.length f.name≤1000000∧List.length f.value≤1000000)))) (.br (I.ieq y0 0) (.fin (.ret (.tup [(.one (.p (.str ([]:Str)))),(.one (.p (.int .i64 10)))])) []) (.br (I.ieq y0 1) (.need (I.inb 0 y0) (.need (I.inb 0 y0) (.fin (.ret (.tup [(.one (.p (.str (I.get (α:=Str) (I.hid (α:=(List (Str))) (valsF l n)) ([]:Str) 0)))),(.one (.p (.int .i64 0)))])) []))) (.fin (.ret (.tup [(.one (.p (.str ([]:Str)))),(.one (.p (.int .i64 9)))])) [])))) (by kernel_rfl) ?_
  simp only [zn]
  subst hI
  simp only [nrmA,nrmB]
  unfold oneF at hr
  (repeat' (first|refine And.intro ?_ ?_|intro _))<;>first|omega|exact True.intro|exact False.elim ‹False›|skip
  all_goals first
    |assumption
    |exact(hneed.2.2 _ (by assumption)).1
    |exact(hneed.2.2 _ (by assumption)).2
    |(rw [if_pos (by omega)] at hr;cases hr;rfl)
    |(rw [if_neg (by omega),if_pos (by omega)] at hr;cases hr;rfl)
    |(rw [if_neg (by omega),if_neg (by omega)] at hr;cases hr;rfl)
def SI (I:Alg) (args:List D) (hp:List HO):Option CT:=match args,hp with
  |[.v (.one (.p (.list .fld l))),.v (.one (.p (.str n)))],[]=>(fun(l:List Fld) (n:Str)=>(some (.one ⟨I.hid (l.length≤1000∧n.length≤1000000∧∀ f ∈ l,f.name.length≤1000000∧f.value.length≤1000000),(.ret (.tup [(.one (.p (.str (I.hid ((oneF (valsF l n)).1))))),(.one (.p (.int .i64 (I.hid ((oneF (valsF l n)).2)))))])),[]⟩):Option CT)) l n
  |_,_=>none
theorem zfW:zy Tryz.prog 112 (SI alg):=by
  intro args hp r h
  unfold SI at h
  split at h
  · cases h;exact fun hn=>zlr _ _ hn
  · cases h
def zjK:Know Tryz.prog:=⟨112,SI,zfW⟩
def zjJ:Know Tryz.prog:=⟨112,fun I=>zA I (SI I),zf zfW⟩
theorem zkx (l:List Fld) (n:Str) (hneed:l.length≤1000∧n.length≤1000000∧∀ f ∈ l,f.name.length≤1000000∧f.value.length≤1000000):Spc Tryz.prog 58 [.v (.one (.p (.list .fld l))),.v (.one (.p (.str n)))] [] (.ret (.tup [(.one (.p (.str ((oneF (valsF l n)).1)))),(.one (.p (.int .i64 ((oneF (valsF l n)).2))))])) []:=by
  generalize hr:oneF (valsF l n)=r
  obtain⟨a,d⟩:=r
  refine spcG zi mixed Tryz.func58 (by kernel_rfl) { keep:=some [0,1,4,5,6]} [tu,tq] (by kernel_rfl) ?_
  intro I X hI hX
  refine zh (let y0:=I.len (α:=Str) (I.hid (α:=(List (Str))) (valsF l n));.need (I.hid (α:=(Prop)) (And (LE.le (List.length l) 1000) (And (LE.le (List.length n) 1000000) (∀ (f:Fld),f ∈ l→List.length f.name≤1000000∧List.length f.value≤1000000)))) (.br (I.ieq y0 0) (.fin (.ret (.tup [(.one (.p (.str ([]:Str)))),(.one (.p (.int .i64 10)))])) []) (.br (I.ilt 1 y0) (.fin (.ret (.tup [(.one (.p (.str ([]:Str)))),(.one (.p (.int .i64 9)))])) []) (.need (I.inb 0 y0) (.need (I.inb 0 y0) (.fin (.ret (.tup [(.one (.p (.str (I.get (α:=Str) (I.hid (α:=(List (Str))) (valsF l n)) ([]:Str) 0)))),(.one (.p (.int .i64 0)))])) [])))))) (by kernel_rfl) ?_
  simp only [zn]
  subst hI
  simp only [nrmA,nrmB]
  unfold oneF at hr
  (repeat' (first|refine And.intro ?_ ?_|intro _))<;>first|omega|exact True.intro|exact False.elim ‹False›|skip
  all_goals first
    |assumption
    |exact(hneed.2.2 _ (by assumption)).1
    |exact(hneed.2.2 _ (by assumption)).2
    |(rw [if_pos (by omega)] at hr;cases hr;rfl)
    |(rw [if_neg (by omega),if_pos (by omega)] at hr;cases hr;rfl)
    |(rw [if_neg (by omega),if_neg (by omega)] at hr;cases hr;rfl)
def X7 (I:Alg) (args:List D) (hp:List HO):Option CT:=match args,hp with
  |[.v (.one (.p (.list .fld l))),.v (.one (.p (.str n)))],[]=>(fun(l:List Fld) (n:Str)=>(some (.one ⟨I.hid (l.length≤1000∧n.length≤1000000∧∀ f ∈ l,f.name.length≤1000000∧f.value.length≤1000000),(.ret (.tup [(.one (.p (.str (I.hid ((oneF (valsF l n)).1))))),(.one (.p (.int .i64 (I.hid ((oneF (valsF l n)).2)))))])),[]⟩):Option CT)) l n
  |_,_=>none
theorem zcw:zy Tryz.prog 58 (X7 alg):=by
  intro args hp r h
  unfold X7 at h
  split at h
  · cases h;exact fun hn=>zkx _ _ hn
  · cases h
def TW:Know Tryz.prog:=⟨58,X7,zcw⟩
def TV:Know Tryz.prog:=⟨58,fun I=>zA I (X7 I),zf zcw⟩
end Go.Proofs.YtknaogelmckimaaGreatDoor
namespace Go.Proofs.YtknaogelmckimaaGreatDoor
open Go Go.Sep Go.Ab
set_option maxRecDepth 100000
theorem Ti {p:UInt8→Bool} {s:Str} {i:Nat} (h:i≤(s.takeWhile p).length):(i<s.length∧p (s.getD i 0)=true)↔i<(s.takeWhile p).length:=by
  induction s generalizing i with
  |nil=>simp
  | cons c r ih=>
    by_cases hc:p c=true
    · simp only [List.takeWhile_cons,hc,if_true,List.length_cons] at h ⊢
      cases i with
      |zero=>simp [hc]
      | succ i=>
        have:=ih (i:=i) (by omega)
        simp only [List.getD_cons_succ]
        constructor
        · rintro⟨h1,h2⟩;have:=this.1 ⟨by omega,h2⟩;omega
        · intro h1;have:=this.2 (by omega);exact⟨by omega,this.2⟩
    · simp only [List.takeWhile_cons,hc,Bool.false_eq_true,if_false,List.length_nil] at h ⊢
      have:i=0:=by omega
      subst this
      simp [hc]
theorem WN (p:UInt8→Bool) (s:Str):s.take (s.takeWhile p).length=s.takeWhile p:=by
  induction s with
  |nil=>simp
  |cons c r ih=>by_cases hc:p c=true<;>simp [List.takeWhile_cons,hc,ih]
theorem drop_tw (p:UInt8→Bool) (s:Str):s.drop (s.takeWhile p).length=s.dropWhile p:=by
  induction s with
  |nil=>simp
  |cons c r ih=>by_cases hc:p c=true<;>simp [List.takeWhile_cons,List.dropWhile_cons,hc,ih]
theorem zhW (p:UInt8→Bool) (s:Str):(s.takeWhile p).length≤s.length:=(List.takeWhile_sublist p).length_le
theorem zk2 (p:UInt8→Bool) (s:Str):(s.dropWhile p).length≤s.length:=(List.dropWhile_sublist p).length_le
def isTk (c:UInt8):Bool:=tokB (c.toNat:Int)
def tokS (s:Str):Str:=s.takeWhile isTk
def tokE (s:Str):Str:=s.dropWhile isTk
theorem yP (s:Str):(tokS s).length≤s.length:=zhW _ _
theorem xU (s:Str):(tokE s).length≤s.length:=zk2 _ _
theorem ziw (s:Str):(tokS s).length+(tokE s).length=s.length:=by
  have:=congrArg List.length (List.takeWhile_append_dropWhile (p:=isTk) (l:=s))
  rw [List.length_append] at this;exact this
def skS (s:Str):Str:=Lib.trimLeftS s [32,9]
theorem xE (s:Str):(skS s).length≤s.length:=by
  unfold skS Lib.trimLeftS
  exact(List.dropWhile_sublist _).length_le
def zI (s:Str) (c:UInt8):Bool:=s.head? == some c
theorem UG {s:Str} {c:UInt8} (h:zI s c=true):0<s.length:=by
  cases s with
  |nil=>simp [zI] at h
  |cons a r=>simp
theorem YT {s:Str} {c:UInt8}:zI s c=true↔0<s.length∧s.getD 0 0=c:=by
  cases s with
  |nil=>simp [zI]
  |cons a r=>simp [zI]
theorem drop1 (s:Str):List.take (s.length - Int.toNat 1) (List.drop (Int.toNat 1) s)=s.drop 1:=by
  show List.take (s.length - 1) (List.drop 1 s)=s.drop 1
  exact List.take_of_length_le (by simp)
def quoF:Str→Option (Str × Str)
  |[]=>none
  |[x]=>if x=34 then some ([],[]) else none
  |x::y::r=>if x=34 then some ([],y::r) else if x=92 then(quoF r).map (fun p=>(y::p.1,p.2)) else(quoF (y::r)).map (fun p=>(x::p.1,p.2))
def quoV (s:Str):Str:=match quoF s with|some p=>p.1|none=>[]
def quoR (s:Str):Str:=match quoF s with|some p=>p.2|none=>[]
theorem X0: ∀ (s:Str) (p:Str × Str),quoF s=some p→p.1.length+p.2.length<s.length
  |[],p,h=>by simp [quoF] at h
  | [x],p,h=>by
    simp only [quoF] at h
    split at h
    · cases h;simp
    · cases h
  | x ::y::r,p,h=>by
    simp only [quoF] at h
    split at h
    · cases h;simp
    · split at h
      · rw [Option.map_eq_some_iff] at h
        obtain⟨q,hq,rfl⟩:=h
        have:=X0 r q hq
        simp only [List.length_cons];omega
      · rw [Option.map_eq_some_iff] at h
        obtain⟨q,hq,rfl⟩:=h
        have:=X0 (y::r) q hq
        simp only [List.length_cons] at this ⊢;omega
theorem zg2 (s:Str):(quoR s).length≤s.length:=by
  unfold quoR
  split
  · rename_i p h;have:=X0 _ _ h;omega
  · simp
theorem zg1 (s:Str):(quoV s).length≤s.length:=by
  unfold quoV
  split
  · rename_i p h;have:=X0 _ _ h;omega
  · simp
def parM (s:Str):Int × Fld × Str:=
  if tokS s=[] then(5,⟨[],[]⟩,tokE s)
  else if zI (tokE s) 61=false then(5,⟨[],[]⟩,tokE s)
  else if zI ((tokE s).drop 1) 34=true then
    if(quoF ((tokE s).drop 2)).isSome=true then(0,⟨lowS (tokS s),quoV ((tokE s).drop 2)⟩,quoR ((tokE s).drop 2)) else(14,⟨[],[]⟩,[])
  else if tokS ((tokE s).drop 1)=[] then(5,⟨[],[]⟩,tokE ((tokE s).drop 1))
  else(0,⟨lowS (tokS s),tokS ((tokE s).drop 1)⟩,tokE ((tokE s).drop 1))
theorem TJ (s:Str):(parM s).2.2.length≤s.length∧(parM s).2.1.name.length≤s.length∧(parM s).2.1.value.length≤s.length:=by
  have h1:=xU s
  have h2:=xU ((tokE s).drop 1)
  have h3:=zg2 ((tokE s).drop 2)
  have h4:=zg1 ((tokE s).drop 2)
  have h5:=yP s
  have h6:=yP ((tokE s).drop 1)
  simp only [List.length_drop] at h2 h3 h4 h6
  unfold parM
  repeat' split
  all_goals simp only [List.length_nil,yS];omega
def getP (l:List Fld) (n:Str):Str × Bool:=match l.find? (fun f=>f.name == n) with|some f=>(f.value,true)|none=>([],false)
def medL:Nat→Str→List Fld→Int × List Fld × Str
  |0,s,ps=>(5,ps,s)
  | n +1,s,ps=>
    if zI s 59=true then
      if(parM (skS (s.drop 1))).1≠0 then((parM (skS (s.drop 1))).1,ps,(parM (skS (s.drop 1))).2.2)
      else if(getP ps (parM (skS (s.drop 1))).2.1.name).2=true then(9,ps,(parM (skS (s.drop 1))).2.2)
      else if ps.length=8 then(8,ps,(parM (skS (s.drop 1))).2.2)
      else medL n (skS (parM (skS (s.drop 1))).2.2) (ps++[(parM (skS (s.drop 1))).2.1])
    else if s=[] then(0,ps,s) else(5,ps,s)
def medB (w:Str) (s:Str):Int × Med × Str:=((medL ((skS s).length+1) (skS s) []).1,⟨w,(medL ((skS s).length+1) (skS s) []).2.1⟩,(medL ((skS s).length+1) (skS s) []).2.2)
def medA (s:Str):Int × Med × Str:=
  if tokS s=[] then(5,⟨[],[]⟩,tokE s)
  else if zI (tokE s) 47=true then
    if tokS ((tokE s).drop 1)=[] then(5,⟨[],[]⟩,tokE ((tokE s).drop 1))
    else medB (lowS (tokS s)++([47]++lowS (tokS ((tokE s).drop 1)))) (tokE ((tokE s).drop 1))
  else medB (lowS (tokS s)) (tokE s)
def yB (s:Str):Int × Med × Str:=medA (skS s)
def zX (s:Str):Med × Int:=if wH s=false then(⟨[],[]⟩,3) else if(yB s).1=0 then((yB s).2.1,0) else(⟨[],[]⟩,(yB s).1)
theorem Qu (s:Str):(parM s).1=0∨(parM s).1=5∨(parM s).1=14:=by
  unfold parM
  repeat' split
  all_goals simp
end Go.Proofs.YtknaogelmckimaaGreatDoor
namespace Go.Proofs.YtknaogelmckimaaGreatDoor
open Go Go.Sep Go.Ab
set_option maxRecDepth 100000
theorem zk7 (l:Str) (hneed:l.length≤100000000):Spc Tryz.prog 47 [.v (.one (.p (.list .byte l)))] [] (.ret (.v (.one (.row 0)))) [.row .byte 5 l]:=by
  refine spcG zi mixed Tryz.func47 (by kernel_rfl) { keep:=some [0,2]} [] (by kernel_rfl) ?_
  intro I X hI hX
  refine zh (let y0:=I.few (I.add (I.len (α:=UInt8) ([]:Str)) (I.len (α:=UInt8) l)) 140737488355328;let y1:HO:=.row .byte 5 (I.app (α:=UInt8) ([]:Str) l);.br (I.ieq (I.len (α:=UInt8) l) 0) (.both (.fin (.ret (.v (.one (.row 0)))) [(.row .byte 5 ([]:Str))]) (.need y0 (.fin (.ret (.v (.one (.row 0)))) [y1]))) (.need y0 (.fin (.ret (.v (.one (.row 0)))) [y1]))) (by kernel_rfl) ?_
  simp only [zn]
  subst hI
  dsimp only [alg]
  have h2:((([]:Str).length:Nat):Int)+((l.length:Nat):Int)≤140737488355328:=by simp;omega
  refine⟨fun h=>⟨⟨trivial,?_⟩,h2,trivial,rfl⟩,fun h=>⟨h2,trivial,rfl⟩⟩
  have:l=[]:=List.eq_nil_of_length_eq_zero (by have:=eq_of_beq h;omega)
  subst this;rfl
def WE (I:Alg) (args:List D) (hp:List HO):Option CT:=match args,hp with
  |[.v (.one (.p (.list .byte l)))],[]=>(fun(l:Str)=>(some (.one ⟨I.hid (l.length≤100000000),(.ret (.v (.one (.row 0)))),[.row .byte 5 l]⟩):Option CT)) l
  |_,_=>none
theorem zdn:zy Tryz.prog 47 (WE alg):=by
  intro args hp r h
  unfold WE at h
  split at h
  · cases h;exact fun hn=>zk7 _ hn
  · cases h
def SY:Know Tryz.prog:=⟨47,WE,zdn⟩
def WC:Know Tryz.prog:=⟨47,fun I=>zA I (WE I),zf zdn⟩
theorem zdH (x y:Str):Spc Tryz.prog 21 [.v (.one (.p (.list .byte x))),.v (.one (.p (.list .byte y)))] [] (.ret (.v (.one (.p (.bool (x == y)))))) []:=by
  refine spcG zi mixed Tryz.func21 (by kernel_rfl) { keep:=some [0,1,4]} [] (by kernel_rfl) ?_
  intro I X hI hX
  refine zh (.fin (.ret (.v (.one (.p (.bool (I.seq x y)))))) []) (by kernel_rfl) ?_
  simp only [zn]
  subst hI
  exact⟨rfl,trivial⟩
def vZ (I:Alg) (args:List D) (hp:List HO):Option CT:=match args,hp with
  |[.v (.one (.p (.list .byte x))),.v (.one (.p (.list .byte y)))],[]=>(fun(x y:Str)=>(some (.one ⟨I.hid (True),(.ret (.v (.one (.p (.bool (I.hid (x == y))))))),[]⟩):Option CT)) x y
  |_,_=>none
theorem Xf:zy Tryz.prog 21 (vZ alg):=by
  intro args hp r h
  unfold vZ at h
  split at h
  · cases h;exact fun hn=>zdH _ _
  · cases h
def rJ:Know Tryz.prog:=⟨21,vZ,Xf⟩
def rH:Know Tryz.prog:=⟨21,fun I=>zA I (vZ I),zf Xf⟩
end Go.Proofs.YtknaogelmckimaaGreatDoor
namespace Go.Sep.P
theorem ru {a b s:List UInt8} (ha:a<:+s) (hb:b<:+s) (h:a.length≤b.length):a<:+b:=List.suffix_of_suffix_length_le ha hb h
structure Top (m s:List UInt8) (b n:Nat):Prop where
  le:n≤b
  suf:m.take n<:+s
  top: ∀ k,k≤b→m.take k<:+s→k≤n
theorem Top.eq {m s:List UInt8} {b n n':Nat} (h:Top m s b n) (h':Top m s b n'):n=n':=
  Nat.le_antisymm (h'.top n h.le h.suf) (h.top n' h'.le h'.suf)
def xw (m s:List UInt8):Nat→Nat
  |0=>0
  |k+1=>if m.take (k+1)<:+s then k+1 else xw m s k
theorem xG (m s:List UInt8): ∀ b,Top m s b (xw m s b)
  |0=>⟨Nat.le_refl _,by simp [xw],fun k hk _=>hk⟩
  | b + 1=>by
    unfold xw
    split
    · rename_i h;exact⟨Nat.le_refl _,h,fun k hk _=>hk⟩
    · rename_i h
      have ih:=xG m s b
      refine⟨Nat.le_succ_of_le ih.le,ih.suf,fun k hk hs=> ?_⟩
      rcases Nat.lt_or_ge k (b+1) with h1|h1
      · exact ih.top k (by omega) hs
      · have:k=b+1:=by omega
        subst this;exact(h hs).elim
def held (m s:List UInt8):Nat:=xw m s (m.length - 1)
def zT (m:List UInt8) (i:Nat):Nat:=xw m (m.take i) (i - 1)
theorem vW {m:List UInt8} {i:Nat} (h:0<i):zT m i<i:=by
  have:=(xG m (m.take i) (i - 1)).le
  unfold zT;omega
def fall (m:List UInt8) (c:UInt8):Nat→Nat→Nat
  |0,n=>n
  |f+1,n=>if n=0 then 0 else if m[n]? =some c then n else fall m c f (zT m n)
theorem Yq (m:List UInt8) (c:UInt8) (f:Nat):fall m c f 0=0:=by cases f<;>simp [fall]
theorem zaI (m:List UInt8) (c:UInt8): ∀ (f n:Nat),n≤f→∀ g,n≤g→fall m c f n=fall m c g n
  | 0,n,h,g,_=>by
    have:n=0:=by omega
    subst this;rw [Yq,Yq]
  | f + 1,n,h,g,hg=>by
    cases g with
    | zero=>
      have:n=0:=by omega
      subst this;rw [Yq,Yq]
    | succ g=>
      simp only [fall]
      split
      · rfl
      · split
        · rfl
        · rename_i h0 _
          have hb:=vW (m:=m) (i:=n) (by omega)
          exact zaI m c f _ (by omega) g (by omega)
structure zlc (m:List UInt8) (c:UInt8) (n j:Nat):Prop where
  le:j≤n
  suf:m.take j<:+m.take n
  top: ∀ k,k≤n→m.take k<:+m.take n→m[k]? =some c→k≤j
  fits:j=0∨m[j]? =some c
theorem SE (m:List UInt8) (c:UInt8) (hm: ∀ k,k≤m.length→(m.take k).length=k): ∀ (f n:Nat),n≤f→n≤m.length→zlc m c n (fall m c f n)
  | 0,n,h,hn=>by
    have:n=0:=by omega
    subst this
    exact⟨Nat.le_refl _,List.suffix_refl _,fun k hk _ _=>hk,.inl rfl⟩
  | f + 1,n,h,hn=>by
    simp only [fall]
    split
    · rename_i h0;subst h0;exact⟨Nat.le_refl _,List.suffix_refl _,fun k hk _ _=>hk,.inl rfl⟩
    · split
      · rename_i h0 h1;exact⟨Nat.le_refl _,List.suffix_refl _,fun k hk _ _=>hk,.inr h1⟩
      · rename_i h0 h1
        have hb:=vW (m:=m) (i:=n) (by omega)
        have ht:Top m (m.take n) (n - 1) (zT m n):=xG m (m.take n) (n - 1)
        have ih:=SE m c hm f (zT m n) (by omega) (by omega)
        refine⟨by have:=ih.le;omega,ih.suf.trans ht.suf,fun k hk hs hc=> ?_,ih.fits⟩
        have hne:k≠n:=by rintro rfl;exact h1 hc
        have hkb:k≤zT m n:=ht.top k (by omega) hs
        refine ih.top k hkb (ru hs ht.suf ?_) hc
        rw [hm k (by omega),hm _ (by omega)]
        exact hkb
theorem take_len {m:List UInt8}: ∀ k,k≤m.length→(m.take k).length=k:=fun k hk=>by simp;omega
theorem rf {m s:List UInt8} {k:Nat} {c:UInt8} (hk:k<m.length):m.take (k+1)<:+s++[c]↔m.take k<:+s∧m[k]? =some c:=by
  rw [List.take_succ_eq_append_getElem hk,List.getElem?_eq_getElem hk]
  constructor
  · rintro⟨t,ht⟩
    rw [← List.append_assoc] at ht
    have:=List.append_inj' ht rfl
    exact⟨⟨t,this.1⟩,by simpa using this.2⟩
  · rintro⟨⟨t,ht⟩,hc⟩
    have hc':m[k]=c:=by simpa using hc
    exact⟨t,by rw [← List.append_assoc,ht,hc']⟩
theorem Top.step {m s:List UInt8} {b n:Nat} {c:UInt8} (h:Top m s b n) (hb:b<m.length):
    (m[fall m c n n]? =some c→Top m (s++[c]) (b+1) (fall m c n n+1))∧(m[fall m c n n]? ≠some c→Top m (s++[c]) (b+1) 0∧fall m c n n=0):=by
  have hn:n≤m.length:=by have:=h.le;omega
  have hf:=SE m c take_len n n (Nat.le_refl _) hn
  generalize fall m c n n=j at hf
  have hjl:j<m.length:=by have:=hf.le;have:=h.le;omega
  have key: ∀ k,k+1≤b+1→m.take (k+1)<:+s++[c]→k≤j∧m[k]? =some c:=by
    intro k hk hs
    obtain⟨h1,h2⟩:=(rf (by omega)).1 hs
    have h3:=h.top k (by omega) h1
    have h4:m.take k<:+m.take n:=ru h1 h.suf (by rw [take_len k (by omega),take_len n hn];exact h3)
    exact⟨hf.top k h3 h4 h2,h2⟩
  constructor
  · intro hc
    refine⟨by have:=hf.le;have:=h.le;omega,(rf hjl).2 ⟨hf.suf.trans h.suf,hc⟩,fun k hk hs=> ?_⟩
    cases k with
    |zero=>omega
    |succ k=>have:=(key k hk hs).1;omega
  · intro hc
    have hj0:j=0:=hf.fits.resolve_right hc
    subst hj0
    refine⟨⟨Nat.zero_le _,by simp,fun k hk hs=> ?_⟩,rfl⟩
    cases k with
    |zero=>omega
    | succ k=>
      obtain⟨h1,h2⟩:=key k hk hs
      have:k=0:=by omega
      subst this;exact(hc h2).elim
theorem Top.lower {m s:List UInt8} {b b' n:Nat} (h:Top m s b n) (hn:n≤b') (hb:b'≤b):Top m s b' n:=⟨hn,h.suf,fun k hk hs=>h.top k (by omega) hs⟩
theorem uq (m s:List UInt8):Top m s (m.length - 1) (held m s):=xG m s _
theorem zbO {m:List UInt8} {i:Nat} (hi:i<m.length) (h0:0<i):
    zT m (i+1)=(if m[fall m m[i] (zT m i) (zT m i)]? =some m[i] then fall m m[i] (zT m i) (zT m i)+1 else 0):=by
  have ht:=xG m (m.take i) (i - 1)
  have hs:=ht.step (c:=m[i]) (by omega)
  have e:m.take i++[m[i]]=m.take (i+1):=(List.take_succ_eq_append_getElem hi).symm
  rw [e,show i - 1+1=i by omega] at hs
  have hnew:=xG m (m.take (i+1)) (i+1 - 1)
  change Top m (m.take (i+1)) i (zT m (i+1)) at hnew
  change(m[fall m m[i] (zT m i) (zT m i)]? =some m[i]→_)∧_ at hs
  split
  · rename_i hc;exact hnew.eq (hs.1 hc)
  · rename_i hc;exact hnew.eq (hs.2 hc).1
theorem zfV {m:List UInt8} {n k j:Nat} (hj:0<j) (hk:k+j=n) (hn:n≤m.length) (h:m.take k++m.take j=m.take n):
    m.take k++m.take (j - zT m j)=m.take (k+(j - zT m j))∧m.take (k+(j - zT m j))++m.take (zT m j)=m.take n:=by
  have hb:=vW (m:=m) hj
  have ht:Top m (m.take j) (j - 1) (zT m j):=xG m (m.take j) (j - 1)
  generalize zT m j=b at hb ht
  obtain⟨t,e⟩:=ht.suf
  have hl:=congrArg List.length e
  rw [List.length_append,take_len b (by omega),take_len j (by omega)] at hl
  have e2:t=m.take (j - b):=by
    have h1:(m.take j).take t.length=t:=by rw [← e];simp
    rw [List.take_take,show min t.length j=j - b by omega] at h1
    exact h1.symm
  subst e2
  have e3:m.take n=(m.take k++m.take (j - b))++m.take b:=by rw [List.append_assoc,e,h]
  have e4:m.take (k+(j - b))=m.take k++m.take (j - b):=by
    have h1:(m.take n).take (k+(j - b))=m.take (k+(j - b)):=by rw [List.take_take,show min (k+(j - b)) n=k+(j - b) by omega]
    rw [← h1,e3]
    exact List.take_left' (by rw [List.length_append,take_len k (by omega),take_len _ (by omega)])
  exact⟨e4.symm,by rw [e4,e3]⟩
theorem zaH {m:List UInt8} {c:UInt8} {j:Nat} (h0:0<j) (h:m[j]? ≠some c):fall m c j j=fall m c (zT m j) (zT m j):=by
  have hb:=vW (m:=m) h0
  cases j with
  |zero=>omega
  | succ i=>
    rw [fall,if_neg (by omega),if_neg h]
    exact zaI m c _ _ (by omega) _ (Nat.le_refl _)
theorem qg {m:List UInt8} {c:UInt8} {j:Nat} (h:j=0∨m[j]? =some c):fall m c j j=j:=by
  cases j with
  |zero=>rfl
  |succ i=>rw [fall,if_neg (by omega),if_pos (h.resolve_left (by omega))]
theorem zhj (m:List UInt8):held m []=0:=by
  have h: ∀ k,k≤m.length→xw m [] k=0:=by
    intro k
    induction k with
    |zero=>intro _;rfl
    | succ k ih=>
      intro hk
      rw [xw,if_neg,ih (by omega)]
      intro hs
      have:=hs.length_le
      rw [List.length_take,List.length_nil] at this;omega
  exact h _ (by omega)
def feed (m:List UInt8) (n:Nat) (c:UInt8):List UInt8 × Nat × Bool:=
  let j:=fall m c n n
  let out:=m.take (n - j)
  if m[j]? =some c then(if j+1<m.length then(out,j+1,false) else(out,0,true)) else(out++[c],0,false)
theorem zaD {m s:List UInt8} (hm:0<m.length) (c:UInt8) {n:Nat} (ht:Top m s (m.length - 1) n):
    ((feed m n c).2.2=true↔m<:+s++[c])∧((feed m n c).2.2=false→Top m (s++[c]) (m.length - 1) (feed m n c).2.1)∧((feed m n c).2.2=true→(feed m n c).2.1=0∧n+1=m.length)∧
      (feed m n c).1++(if(feed m n c).2.2 then m else m.take (feed m n c).2.1)=m.take n++[c]∧(feed m n c).1.length≤n+1:=by
  generalize hr:feed m n c=r
  have hn:n≤m.length - 1:=ht.le
  have hs:=ht.step (c:=c) (by omega)
  have hf:=SE m c take_len n n (Nat.le_refl _) (by omega)
  rw [show m.length - 1+1=m.length by omega] at hs
  have hsplit:m.take (n - fall m c n n)++m.take (fall m c n n)=m.take n:=by
    obtain⟨t,ht'⟩:=hf.suf
    have hl:=congrArg List.length ht'
    rw [List.length_append,take_len _ (by have:=hf.le;omega),take_len n (by omega)] at hl
    have h1:(m.take n).take t.length=t:=by rw [← ht'];simp
    rw [List.take_take,show min t.length n=n - fall m c n n by omega] at h1
    rw [h1];exact ht'
  by_cases hc:m[fall m c n n]? =some c
  · have hjl:fall m c n n<m.length:=by
      have:=hf.le;omega
    have htop:=hs.1 hc
    have hcc:m.take (fall m c n n)++[c]=m.take (fall m c n n+1):=by
      rw [List.take_succ_eq_append_getElem hjl]
      rw [List.getElem?_eq_getElem hjl] at hc
      simp at hc;rw [hc]
    by_cases hlt:fall m c n n+1<m.length
    · have e:r=(m.take (n - fall m c n n),fall m c n n+1,false):=by simp only [← hr,feed,hc,hlt,if_true]
      rw [e]
      refine⟨⟨by simp,fun hsuf=> ?_⟩,fun _=> ?_,by simp,?_⟩
      · have:=htop.top m.length (Nat.le_refl _) (by rw [List.take_length];exact hsuf)
        omega
      · exact htop.lower (by omega) (by omega)
      · simp only [Bool.false_eq_true,if_false]
        rw [← hcc,← List.append_assoc,hsplit]
        exact⟨rfl,by simp;omega⟩
    · have hj:fall m c n n+1=m.length:=by omega
      have e:r=(m.take (n - fall m c n n),0,true):=by simp only [← hr,feed,hc,hlt,if_true,if_false]
      rw [e]
      have hml:m.take (fall m c n n+1)=m:=by rw [hj,List.take_length]
      have hjn:fall m c n n=n:=by
        have:=hf.le;omega
      refine⟨⟨fun _=> ?_,by simp⟩,by simp,fun _=>⟨rfl,by omega⟩,?_⟩
      · have:=htop.suf;rw [hml] at this;exact this
      · simp only [if_true]
        refine⟨?_,by simp;omega⟩
        rw [← hsplit,List.append_assoc,hcc.trans hml]
  · obtain⟨htop,hj0⟩:=hs.2 hc
    have e:r=(m.take n++[c],0,false):=by simp only [← hr,feed,hc,if_false];rw [hj0,Nat.sub_zero]
    rw [e]
    refine⟨⟨by simp,fun hsuf=> ?_⟩,fun _=> ?_,by simp,by simp,by simp;omega⟩
    · have:=htop.top m.length (Nat.le_refl _) (by rw [List.take_length];exact hsuf)
      omega
    · exact htop.lower (Nat.zero_le _) (by omega)
end Go.Sep.P
namespace Go.Proofs.YtknaogelmckimaaGreatDoor
open Go Go.Sep Go.Ab
set_option maxRecDepth 100000
set_option linter.unusedSimpArgs false
set_option linter.unusedVariables false
def cfgS:Cfg:= { sl:=[⟨91,0,.byte,some 5⟩,⟨91,1,.int,some 3⟩],nr:=[6]}
def wG (m:Str):List Int:=(List.range (m.length+1)).map fun i=>((P.zT m i:Nat):Int)
theorem zgk (m:Str) (i:Int) (h0:0≤i) (h:i≤m.length):(wG m).getD i.toNat 0=(P.zT m i.toNat:Nat):=by
  unfold wG
  rw [List.getD_eq_getElem?_getD,List.getElem?_map,List.getElem?_range (by omega)];rfl
theorem zgj (m:Str):(wG m).length=m.length+1:=by simp [wG]
def yh (m:Str) (n:Nat) (c:UInt8):Str × Nat × Bool:=if m=[] then([c],n,false) else P.feed m n c
theorem zlq (m:Str) (n:Int) (bs:List Int) (k:Int) (hneed:bs=wG m∧m.length≤1000000∧0≤n∧(m=[]∨n<m.length)∧0≤k∧k≤255):Spc Tryz.prog 25 [.v (.one (.ptr 0 0)),.v (.one (.p (.int .u8 k)))] [.pack [.obj 91 [(.row 1),(.row 2),(.p (.int .i64 n))],.row .byte 5 m,.row .int 3 bs]] (.ret (.tup [(.one (.row 1)),(.one (.p (.bool ((yh m n.toNat (UInt8.ofNat k.toNat)).2.2))))])) [.pack [.obj 91 [(.row 1),(.row 2),(.p (.int .i64 (((yh m n.toNat (UInt8.ofNat k.toNat)).2.1:Int))))],.row .byte 5 m,.row .int 3 bs],.row .byte 5 ((yh m n.toNat (UInt8.ofNat k.toNat)).1)]:=by
  obtain⟨hbs,hl,hn0,hn,hk0,hk1⟩:=hneed
  generalize hr:yh m n.toNat (UInt8.ofNat k.toNat)=r
  obtain⟨out,n',fd⟩:=r
  refine spcG zi mixed Tryz.func25 (by kernel_rfl) { cfgS with keep:=some [0,1,4,5,6,7]} [] (by kernel_rfl) ?_
  intro I X hI hX
  refine zh (let y0:HO:=.obj 91 [(.row 1),(.row 2),(.p (.int .i64 n))];.br (I.ieq (I.len (α:=UInt8) m) 0) (.need (I.inr Go.IntKind.u8 k) (.fin (.ret (.tup [(.one (.row 1)),(.one (.p (.bool Bool.false)))])) [(.pack [y0,(.row .byte 5 m),(.row .int 3 bs)]),(.row .byte 5 ([(I.i2b k)]:Str))])) (.code 0 [1,1,1,0,0] ⟨[(6,(.v (.one (.row 3)))),(5,(.v (.one (.p (.val (.bool .false)))))),(4,(.v (.one .nilS))),(0,(.v (.one (.ptr 0 0)))),(1,(.v (.one (.p (.int .u8 k)))))],[y0,(.row .byte 5 m),(.row .int 3 bs),(.row .byte 5 ([]:Str))],100,none⟩)) (by kernel_rfl) ?_
  simp only [zn]
  refine⟨fun h=> ?_,fun h=> ?_⟩
  · subst hI
    simp only [nrmA,nrmB] at h
    have:m=[]:=List.eq_nil_of_length_eq_zero (by omega)
    subst this
    simp only [yh,if_true,Prod.mk.injEq] at hr
    obtain⟨rfl,rfl,rfl⟩:=hr
    simp only [nrmA,nrmB]
    refine⟨⟨hk0,hk1⟩,?_⟩
    rw [Int.toNat_of_nonneg hn0]
  have hm:m≠[]:=by
    subst hI
    simp only [nrmA,nrmB] at h
    rintro rfl;simp at h
  have hm0:0<m.length:=by cases m<;>simp_all
  have hn:n<m.length:=hn.resolve_left hm
  simp only [yh,if_neg hm] at hr
  refine zu hI zi mixed [WC] hX [0,1,6] (fun(p:Nat × Str)=>p.1≤n.toNat∧p.2.length+p.1=n.toNat∧P.fall m (UInt8.ofNat k.toNat) p.1 p.1=P.fall m (UInt8.ofNat k.toNat) n.toNat n.toNat∧p.2++m.take p.1=m.take n.toNat∧p.2=m.take p.2.length)
    (fun p=>⟨[(0,.v (.one (.ptr 0 0))),(1,.v (.one (.p (.int .u8 k)))),(6,.v (.one (.row 1)))],[.pack [.obj 91 [.row 1,.row 2,.p (.int .i64 p.1)],.row .byte 5 m,.row .int 3 bs],.row .byte 5 p.2],100,none⟩) (fun p=>p.1) (n.toNat,[])
    (by kernel_rfl) ?_ ⟨Nat.le_refl _,by simp,rfl,by simp,by simp⟩ ?_
  · simp only [Int.toNat_of_nonneg hn0];kernel_rfl
  rintro⟨j,o⟩ ⟨hjn,hoj,hfall,hcat,hpre⟩ A hA
  simp only at hjn hoj hfall hcat hpre
  refine zh (let y0:=I.inb (Nat.cast j) (I.len (α:=UInt8) m);let y1:=I.sub (Nat.cast j) (I.get (α:=Int) bs 0 (Nat.cast j));let y2:=I.bnot (I.ieq (I.b2i (I.get (α:=UInt8) m 0 (Nat.cast j))) k);let y3:HO:=.pack [(.obj 91 [(.row 1),(.row 2),(.p (.int .i64 (I.add (Nat.cast j) 1)))]),(.row .byte 5 m),(.row .int 3 bs)];let y4:HO:=.pack [(.obj 91 [(.row 1),(.row 2),(.p (.int .i64 (Nat.cast j)))]),(.row .byte 5 m),(.row .int 3 bs)];let y5:=I.few (I.add (I.len (α:=UInt8) o) (I.len (α:=UInt8) ([(I.i2b k)]:Str))) 140737488355328;let y6:HO:=.pack [(.obj 91 [(.row 1),(.row 2),(.p (.int .i64 0))]),(.row .byte 5 m),(.row .int 3 bs)];let y7:HO:=.row .byte 5 (I.app (α:=UInt8) o ([(I.i2b k)]:Str));let y8:=I.ilt (I.add (Nat.cast j) 1) (I.len (α:=UInt8) m);let y9:=I.inr Go.IntKind.i64 (I.add (Nat.cast j) 1);let y10:=I.inb (Nat.cast j) (I.len (α:=Int) bs);.br (I.ilt 0 (Nat.cast j)) (.need y0 (.need y0 (.br y2 (.need y10 (.need y10 (.need (I.inr Go.IntKind.i64 y1) (.need (I.cutb 0 y1 (I.len (α:=UInt8) m)) (.need (I.few (I.add (I.len (α:=UInt8) o) (I.len (α:=UInt8) (I.cut (α:=UInt8) m 0 y1))) 140737488355328) (.need (A ⟨[(0,(.v (.one (.ptr 0 0)))),(1,(.v (.one (.p (.int .u8 k))))),(6,(.v (.one (.row 1))))],[(.pack [(.obj 91 [(.row 1),(.row 2),(.p (.int .i64 (I.get (α:=Int) bs 0 (Nat.cast j))))]),(.row .byte 5 m),(.row .int 3 bs)]),(.row .byte 5 (I.app (α:=UInt8) o (I.cut (α:=UInt8) m 0 y1)))],100,none⟩) .qed)))))) (.need y0 (.need y0 (.br y2 (.need (I.inr Go.IntKind.u8 k) (.need y5 (.fin (.ret (.tup [(.one (.row 1)),(.one (.p (.bool Bool.false)))])) [y4,y7]))) (.need y9 (.br y8 (.fin (.ret (.tup [(.one (.row 1)),(.one (.p (.bool Bool.false)))])) [y3,(.row .byte 5 o)]) (.fin (.ret (.tup [(.one (.row 1)),(.one (.p (.bool Bool.true)))])) [y6,(.row .byte 5 o)]))))))))) (.need y0 (.need y0 (.br y2 (.need (I.inr Go.IntKind.u8 k) (.need y5 (.fin (.ret (.tup [(.one (.row 1)),(.one (.p (.bool Bool.false)))])) [y4,y7]))) (.need y9 (.br y8 (.fin (.ret (.tup [(.one (.row 1)),(.one (.p (.bool Bool.false)))])) [y3,(.row .byte 5 o)]) (.fin (.ret (.tup [(.one (.row 1)),(.one (.p (.bool Bool.true)))])) [y6,(.row .byte 5 o)]))))))) (by kernel_rfl) ?_
  simp only [zn]
  subst hI hbs
  simp only [nrmA,nrmB]
  have hb:=zgk m j (by omega) (by omega)
  simp only [Int.toNat_natCast] at hb
  have hbl:0<j→P.zT m j<j:=P.vW
  have hj:j<m.length:=by omega
  have hge:m.getD j 0=m[j]:=by simp [hj]
  rw [hb,zgj,hge]
  have hcc:(m[j].toNat:Int)=k↔m[j]? =some (UInt8.ofNat k.toNat):=by
    rw [List.getElem?_eq_getElem hj,Option.some.injEq,← UInt8.toNat_inj,UInt8.toNat_ofNat']
    omega
  simp only [hcc]
  have hfeed:=hr
  simp only [P.feed] at hfeed
  rw [← hfall] at hfeed
  refine⟨fun h0=>⟨by omega,by omega,fun hne=>⟨by omega,by omega,by omega,by omega,by simp only [List.length_take];omega,?_⟩,fun heq=>⟨by omega,by omega,fun hne=>(hne heq).elim,fun _=>⟨by omega,fun hlt=> ?_,fun hlt=> ?_⟩⟩⟩,fun h0=>⟨by omega,by omega,fun hne=> ?_,fun heq=>⟨by omega,fun hlt=> ?_,fun hlt=> ?_⟩⟩⟩
  · obtain⟨h1,h2⟩:=P.zfV (m:=m) (n:=n.toNat) (k:=o.length) (j:=j) (by omega) (by omega) (by omega) (by rw [← hpre];exact hcat)
    have hx:(↑j - ↑(P.zT m j):Int).toNat=j - P.zT m j:=by omega
    have hbj:=hbl (by omega)
    rw [hx]
    refine hA (P.zT m j,o++m.take (j - P.zT m j)) ⟨by simp only;omega,?_,?_,?_,?_⟩ hbj
    · simp only [List.length_append,List.length_take];omega
    · rw [← hfall];exact(P.zaH (by omega) hne).symm
    · simp only;rw [← h2,← h1,← hpre]
    · have:(o++m.take (j - P.zT m j)).length=o.length+(j - P.zT m j):=by simp only [List.length_append,List.length_take];omega
      simp only;rw [this,← h1,← hpre]
  · have hstop:=P.qg (c:=UInt8.ofNat k.toNat) (.inr heq)
    rw [hstop,if_pos heq,if_pos (by omega)] at hfeed
    simp only [Prod.mk.injEq] at hfeed
    obtain⟨rfl,rfl,rfl⟩:=hfeed
    rw [show n.toNat - j=o.length by omega,← hpre]
    exact⟨rfl,rfl⟩
  · have hstop:=P.qg (c:=UInt8.ofNat k.toNat) (.inr heq)
    rw [hstop,if_pos heq,if_neg (by omega)] at hfeed
    simp only [Prod.mk.injEq] at hfeed
    obtain⟨rfl,rfl,rfl⟩:=hfeed
    rw [show n.toNat - j=o.length by omega,← hpre]
    exact⟨rfl,rfl⟩
  all_goals
    have hj0:j=0:=by omega
    subst hj0
    have hstop:=P.qg (m:=m) (c:=UInt8.ofNat k.toNat) (j:=0) (.inl rfl)
    rw [hstop] at hfeed
    rw [show n.toNat=o.length by omega,Nat.sub_zero,← hpre] at hfeed
  · rw [if_neg hne] at hfeed
    simp only [Prod.mk.injEq] at hfeed
    obtain⟨rfl,rfl,rfl⟩:=hfeed
    exact⟨⟨hk0,hk1⟩,by simp only [List.length_cons,List.length_nil];omega,rfl,rfl⟩
  · rw [if_pos heq,if_pos (by omega)] at hfeed
    simp only [Prod.mk.injEq] at hfeed
    obtain⟨rfl,rfl,rfl⟩:=hfeed
    exact⟨rfl,rfl⟩
  · rw [if_pos heq,if_neg (by omega)] at hfeed
    simp only [Prod.mk.injEq] at hfeed
    obtain⟨rfl,rfl,rfl⟩:=hfeed
    exact⟨rfl,rfl⟩
def SC (I:Alg) (args:List D) (hp:List HO):Option CT:=match args,hp with
  |[.v (.one (.ptr 0 0)),.v (.one (.p (.int .u8 k)))],[.pack [.obj 91 [(.row 1),(.row 2),(.p (.int .i64 n))],.row .byte 5 m,.row .int 3 bs]]=>(fun(m:Str) (n:Int) (bs:List Int) (k:Int)=>(some (.one ⟨I.hid (bs=wG m∧m.length≤1000000∧0≤n∧(m=[]∨n<m.length)∧0≤k∧k≤255),(.ret (.tup [(.one (.row 1)),(.one (.p (.bool (I.hid ((yh m n.toNat (UInt8.ofNat k.toNat)).2.2)))))])),[.pack [.obj 91 [(.row 1),(.row 2),(.p (.int .i64 (I.hid (((yh m n.toNat (UInt8.ofNat k.toNat)).2.1:Int)))))],.row .byte 5 m,.row .int 3 bs],.row .byte 5 (I.hid ((yh m n.toNat (UInt8.ofNat k.toNat)).1))]⟩):Option CT)) m n bs k
  |_,_=>none
theorem zfU:zy Tryz.prog 25 (SC alg):=by
  intro args hp r h
  unfold SC at h
  split at h
  · cases h;exact fun hn=>zlq _ _ _ _ hn
  · cases h
def Y4:Know Tryz.prog:=⟨25,SC,zfU⟩
def Y3:Know Tryz.prog:=⟨25,fun I=>zA I (SC I),zf zfU⟩
def xk (m:Str) (i:Nat):List Int:=(List.range (m.length+1)).map fun q=>if q<i then((P.zT m q:Nat):Int) else 0
theorem zbN (m:Str) (i:Nat) (h:m.length<i):xk m i=wG m:=by
  unfold xk wG
  refine List.map_congr_left fun q hq=> ?_
  rw [if_pos (by have:=List.mem_range.1 hq;omega)]
theorem zbJ (m:Str):xk m 2=List.replicate (m.length+1) 0:=by
  unfold xk
  refine List.ext_getElem (by simp) fun q h1 h2=> ?_
  simp only [List.getElem_map,List.getElem_range,List.getElem_replicate]
  split
  · have:q=0∨q=1:=by omega
    rcases this with rfl|rfl
    · simp [P.zT,P.xw]
    · simp [P.zT,P.xw]
  · rfl
theorem zbL (m:Str) (i:Nat):(xk m i).length=m.length+1:=by simp [xk]
theorem zbM (m:Str) (i q:Nat) (h:q<i) (hm:q≤m.length):(xk m i).getD q 0=(P.zT m q:Nat):=by
  unfold xk
  rw [List.getD_eq_getElem?_getD,List.getElem?_map,List.getElem?_range (by omega)]
  simp [h]
theorem zbK (m:Str) (i:Nat):(xk m i).set i ((P.zT m i:Nat):Int)=xk m (i+1):=by
  unfold xk
  refine List.ext_getElem (by simp) fun q h1 h2=> ?_
  simp only [List.getElem_set,List.getElem_map,List.getElem_range]
  by_cases h:i=q
  · subst h;simp
  · rw [if_neg h]
    by_cases hq:q<i
    · rw [if_pos hq,if_pos (by omega)]
    · rw [if_neg hq,if_neg (by omega)]
theorem new_ (m:Str) (hneed:m.length≤999999):Spc Tryz.prog 24 [.v (.one (.p (.list .byte m)))] [] (.ret (.v (.one (.ptr 0 0)))) [.pack [.obj 91 [(.row 1),(.row 2),(.p (.int .i64 0))],.row .byte 5 m,.row .int 3 ((wG m))]]:=by
  refine spcG zi mixed Tryz.func24 (by kernel_rfl) { cfgS with seam:=[2],keep:=some [0,2,3,4,5]} [SY,WC] (by kernel_rfl) ?_
  intro I X hI hX
  refine zh (let y0:=I.same (α:=Int) (I.add (I.len (α:=UInt8) m) 1) (I.add (I.len (α:=UInt8) m) 1);let y1:HO:=.row .int 3 (I.rep (α:=Int) (I.add (I.len (α:=UInt8) m) 1) 0);let y2:=I.hid (α:=(Prop)) (LE.le (List.length m) 100000000);let y3:=I.few (I.add (I.len (α:=UInt8) m) 1) 1000000;let y4:=I.nng (I.add (I.len (α:=UInt8) m) 1);.need (I.inr Go.IntKind.i64 (I.add (I.len (α:=UInt8) m) 1)) (.both (.need y2 (.need y0 (.need y4 (.need y3 (.code 0 [1,1,0] ⟨[(3,(.v (.one (.ptr 2 0)))),(2,(.v (.one (.p (.val (.pointer .none)))))),(0,(.v (.one (.p (.list .byte m)))))],[(.row .byte 5 m),y1,(.obj 91 [(.row 0),(.row 1),(.p (.int .i64 0))])],60,none⟩))))) (.need y0 (.need y4 (.need y3 (.need y2 (.code 0 [1,1,0] ⟨[(3,(.v (.one (.ptr 2 0)))),(2,(.v (.one (.p (.val (.pointer .none)))))),(0,(.v (.one (.p (.list .byte m)))))],[y1,(.row .byte 5 m),(.obj 91 [(.row 1),(.row 0),(.p (.int .i64 0))])],60,none⟩))))))) (by kernel_rfl) ?_
  simp only [zn]
  refine⟨?n1,⟨?n2,?n3,?n4,?n5,seam hI zi mixed [] hX [0,3] ⟨[(0,.v (.one (.p (.list .byte m)))),(3,.v (.one (.ptr 0 0)))],[.pack [.obj 91 [(.row 1),(.row 2),(.p (.int .i64 0))],.row .byte 5 m,.row .int 3 ((I.rep (α:=Int) (I.add (I.len (α:=UInt8) m) 1) (0:Int)))]],60,none⟩ (by kernel_rfl) ?on⟩,?n3,?n4,?n5,?n2,seam hI zi mixed [] hX [0,3] _ (by kernel_rfl) ?on⟩
  case on=>
    have hrep:(I.rep (α:=Int) (I.add (I.len (α:=UInt8) m) 1) (0:Int))=xk m 2:=by
      subst hI
      simp only [nrmA,nrmB]
      rw [zbJ];rfl
    rw [hrep]
    generalize hb2:xk m 2=b2
    refine zh (.code 0 [1,1,1,0,1,0] ⟨[(5,(.v (.one (.p (.int .i64 1))))),(4,(.v (.one (.p (.int .i64 0))))),(0,(.v (.one (.p (.list .byte m))))),(3,(.v (.one (.ptr 0 0))))],[(.pack [(.obj 91 [(.row 1),(.row 2),(.p (.int .i64 0))]),(.row .byte 5 m),(.row .int 3 b2)])],60,none⟩) (by kernel_rfl) ?_
    simp only [zn]
    refine zu hI zi mixed [SY,WC] hX [0,3,5,4] (fun(g:Nat × Nat × List Int)=>match g with|(i,k,bs)=>1≤i∧(i≤m.length∨i=1)∧k=P.zT m i∧bs=xk m (i+1)) (fun(g:Nat × Nat × List Int)=>match g with|(i,k,bs)=>⟨[(0,.v (.one (.p (.list .byte m)))),(3,.v (.one (.ptr 0 0))),(5,.v (.one (.p (.int .i64 i)))),(4,.v (.one (.p (.int .i64 k))))],[.pack [.obj 91 [(.row 1),(.row 2),(.p (.int .i64 0))],.row .byte 5 m,.row .int 3 bs]],60,none⟩) (fun(g:Nat × Nat × List Int)=>match g with|(i,k,bs)=>m.length - i) (1,0,b2) (by kernel_rfl) (by kernel_rfl) ?_ ?_
    · exact⟨Nat.le_refl _,.inr rfl,by simp [P.zT,P.xw],hb2.symm⟩
    rintro⟨i,k,bs⟩ ⟨hi,him,rfl,hbs⟩ A hA
    simp only at hA
    generalize hk:P.zT m i=k at hA
    refine zh (let y0:HO:=.pack [(.obj 91 [(.row 1),(.row 2),(.p (.int .i64 0))]),(.row .byte 5 m),(.row .int 3 bs)];.br (I.ilt (Nat.cast i) (I.len (α:=UInt8) m)) (.code 0 [1,0,0,0,0] ⟨[(0,(.v (.one (.p (.list .byte m))))),(3,(.v (.one (.ptr 0 0)))),(5,(.v (.one (.p (.int .i64 (Nat.cast i)))))),(4,(.v (.one (.p (.int .i64 (Nat.cast k))))))],[y0],60,none⟩) (.fin (.ret (.v (.one (.ptr 0 0)))) [y0])) (by kernel_rfl) ?_
    simp only [zn]
    refine⟨fun hlt=> ?_,fun hlt=> ?_⟩
    · refine zu hI zi mixed [SY,WC] hX [0,3,5,4] (fun(q:Nat)=>q≤k∧P.fall m (m.getD i 0) q q=P.fall m (m.getD i 0) k k) (fun(q:Nat)=>⟨[(0,.v (.one (.p (.list .byte m)))),(3,.v (.one (.ptr 0 0))),(5,.v (.one (.p (.int .i64 i)))),(4,.v (.one (.p (.int .i64 q))))],[.pack [.obj 91 [(.row 1),(.row 2),(.p (.int .i64 0))],.row .byte 5 m,.row .int 3 bs]],60,none⟩) (fun(q:Nat)=>q) k (by kernel_rfl) (by kernel_rfl) ?_ ?_
      · exact⟨Nat.le_refl _,rfl⟩
      rintro q ⟨hq,hfall⟩ B hB
      refine zh (let y0:=I.inb (I.add (Nat.cast i) 1) (I.len (α:=Int) bs);let y1:=I.inr Go.IntKind.i64 (I.add (Nat.cast i) 1);let y2:=I.inb (Nat.cast i) (I.len (α:=UInt8) m);let y3:=I.inb (Nat.cast q) (I.len (α:=UInt8) m);let y4:=I.ieq (I.b2i (I.get (α:=UInt8) m 0 (Nat.cast i))) (I.b2i (I.get (α:=UInt8) m 0 (Nat.cast q)));let y5:HO:=.obj 91 [(.row 1),(.row 2),(.p (.int .i64 0))];let y6:HO:=.pack [y5,(.row .byte 5 m),(.row .int 3 (I.set (α:=Int) bs (I.add (Nat.cast i) 1) (I.add (Nat.cast q) 1)))];let y7:HO:=.pack [y5,(.row .byte 5 m),(.row .int 3 (I.set (α:=Int) bs (I.add (Nat.cast i) 1) (Nat.cast q)))];let y8:=I.inr Go.IntKind.i64 (I.add (Nat.cast q) 1);let y9:=I.inb (Nat.cast q) (I.len (α:=Int) bs);.br (I.ilt 0 (Nat.cast q)) (.need y2 (.need y2 (.need y3 (.need y3 (.br (I.bnot y4) (.need y9 (.need y9 (.need (B ⟨[(0,(.v (.one (.p (.list .byte m))))),(3,(.v (.one (.ptr 0 0)))),(5,(.v (.one (.p (.int .i64 (Nat.cast i)))))),(4,(.v (.one (.p (.int .i64 (I.get (α:=Int) bs 0 (Nat.cast q)))))))],[(.pack [y5,(.row .byte 5 m),(.row .int 3 bs)])],60,none⟩) .qed))) (.need y2 (.need y2 (.need y3 (.need y3 (.br y4 (.need y8 (.need y1 (.need y0 (.need y0 (.need y1 (.need (A ⟨[(0,(.v (.one (.p (.list .byte m))))),(3,(.v (.one (.ptr 0 0)))),(5,(.v (.one (.p (.int .i64 (I.add (Nat.cast i) 1)))))),(4,(.v (.one (.p (.int .i64 (I.add (Nat.cast q) 1))))))],[y6],60,none⟩) .qed)))))) (.need y1 (.need y0 (.need y0 (.need y1 (.need (A ⟨[(0,(.v (.one (.p (.list .byte m))))),(3,(.v (.one (.ptr 0 0)))),(5,(.v (.one (.p (.int .i64 (I.add (Nat.cast i) 1)))))),(4,(.v (.one (.p (.int .i64 (Nat.cast q))))))],[y7],60,none⟩) .qed))))))))))))))) (.need y2 (.need y2 (.need y3 (.need y3 (.br y4 (.need y8 (.need y1 (.need y0 (.need y0 (.need y1 (.need (A ⟨[(0,(.v (.one (.p (.list .byte m))))),(3,(.v (.one (.ptr 0 0)))),(5,(.v (.one (.p (.int .i64 (I.add (Nat.cast i) 1)))))),(4,(.v (.one (.p (.int .i64 (I.add (Nat.cast q) 1))))))],[y6],60,none⟩) .qed)))))) (.need y1 (.need y0 (.need y0 (.need y1 (.need (A ⟨[(0,(.v (.one (.p (.list .byte m))))),(3,(.v (.one (.ptr 0 0)))),(5,(.v (.one (.p (.int .i64 (I.add (Nat.cast i) 1)))))),(4,(.v (.one (.p (.int .i64 (Nat.cast q))))))],[y7],60,none⟩) .qed))))))))))) (by kernel_rfl) ?_
      simp only [zn]
      subst hI hbs
      simp only [nrmA,nrmB] at hlt
      have hil:i<m.length:=by omega
      have hkl:k<i:=by rw [← hk];exact P.vW (by omega)
      have hql:q<m.length:=by omega
      have hst:=P.zbO hil (by omega)
      have hgi:m.getD i 0=m[i]:=by simp [hil]
      have hgq:m.getD q 0=m[q]:=by simp [hql]
      have hg0:=zbM m (i+1) q (by omega) (by omega)
      have hbl:0<q→P.zT m q<q:=P.vW
      rw [hk] at hst
      rw [hgi] at hfall
      rw [← hfall] at hst
      simp only [nrmA,nrmB]
      rw [hgi,hgq,zbL,hg0,show((i:Int)+1).toNat=i+1 by omega]
      have hset:=zbK m (i+1)
      have hcc:m[i]=m[q]↔m[q]? =some m[i]:=by rw [List.getElem?_eq_getElem hql];simp [eq_comm]
      have hA1:(q=0∨m[i]=m[q])→m[i]=m[q]→A ⟨[(0,.v (.one (.p (.list .byte m)))),(3,.v (.one (.ptr 0 0))),(5,.v (.one (.p (.int .i64 ((i:Int)+1))))),(4,.v (.one (.p (.int .i64 ((q:Int)+1)))))],[.pack [.obj 91 [(.row 1),(.row 2),(.p (.int .i64 0))],.row .byte 5 m,.row .int 3 (((xk m (i+1)).set (i+1) ((q:Int)+1)))]],60,none⟩:=by
        intro h1 h2
        rw [P.qg (by rw [← hcc];exact h1),if_pos (hcc.1 h2)] at hst
        have:=hA (i+1,q+1,xk m (i+2)) ⟨by omega,by omega,hst.symm,rfl⟩ (by simp only;omega)
        rw [hst] at hset
        rw [← hset] at this
        exact this
      have hA2:(q=0∨m[i]=m[q])→¬m[i]=m[q]→A ⟨[(0,.v (.one (.p (.list .byte m)))),(3,.v (.one (.ptr 0 0))),(5,.v (.one (.p (.int .i64 ((i:Int)+1))))),(4,.v (.one (.p (.int .i64 q))))],[.pack [.obj 91 [(.row 1),(.row 2),(.p (.int .i64 0))],.row .byte 5 m,.row .int 3 (((xk m (i+1)).set (i+1) (q:Int)))]],60,none⟩:=by
        intro h1 h2
        obtain rfl:q=0:=h1.resolve_right h2
        rw [P.qg (.inl rfl),if_neg (fun h=>h2 (hcc.2 h))] at hst
        have:=hA (i+1,0,xk m (i+2)) ⟨by omega,by omega,hst.symm,rfl⟩ (by simp only;omega)
        rw [hst] at hset
        rw [← hset] at this
        exact this
      (repeat' (first|refine And.intro ?_ ?_|intro _))<;>first|omega|exact True.intro|exact False.elim ‹False›|skip
      · refine hB (P.zT m q) ⟨by have:=hbl (by omega);omega,?_⟩ (hbl (by omega))
        rw [hgi,← P.zaH (by omega) (fun h=>‹¬m[i]=m[q]› (hcc.2 h)),hfall]
      · exact hA1 (.inr ‹_›) ‹_›
      · exact hA2 (.inr ‹_›) ‹_›
      · exact hA1 (.inl (by omega)) ‹_›
      · exact hA2 (.inl (by omega)) ‹_›
    · subst hI hbs
      simp only [nrmA,nrmB] at hlt
      rw [zbN m _ (by omega)]
      exact⟨trivial,rfl⟩
  all_goals subst hI;simp only [nrmA,nrmB];try omega
def zcz (I:Alg) (args:List D) (hp:List HO):Option CT:=match args,hp with
  |[.v (.one (.p (.list .byte m)))],[]=>(fun(m:Str)=>(some (.one ⟨I.hid (m.length≤999999),(.ret (.v (.one (.ptr 0 0)))),[.pack [.obj 91 [(.row 1),(.row 2),(.p (.int .i64 0))],.row .byte 5 m,.row .int 3 (I.hid ((wG m)))]]⟩):Option CT)) m
  |_,_=>none
theorem zh7:zy Tryz.prog 24 (zcz alg):=by
  intro args hp r h
  unfold zcz at h
  split at h
  · cases h;exact fun hn=>new_ _ hn
  · cases h
def zh6:Know Tryz.prog:=⟨24,zcz,zh7⟩
def zh5:Know Tryz.prog:=⟨24,fun I=>zA I (zcz I),zf zh7⟩
end Go.Proofs.YtknaogelmckimaaGreatDoor
namespace Go.Proofs.YtknaogelmckimaaGreatDoor
open Go Go.Sep Go.Ab
def yG (s:Str):Bool:= !decide (70<s.length)&&(wH s&&(decide (Lib.trimS s [32,9]=s)&&decide (s≠[])))
def xR (b:Str) (c:UInt8):Str:=
  if c=47∨c=92 then []
  else if c=9∨vk (c.toNat:Int)=false∨c=34∨c=58 then b++[95]
  else if c=46∧b=[] then b
  else b++[c]
def vI (s:Str):Str:=if(s.foldl xR []).take 40=[] then [102,105,108,101] else(s.foldl xR []).take 40
def pctM:Str→Option Str
  |[]=>some []
  | c ::r=>
    if c≠37 then(pctM r).map (c:: ·)
    else match r with
      |a::b::r'=>if hexK (a.toNat:Int)<0∨hexK (b.toNat:Int)<0 then none else(pctM r').map (UInt8.ofNat (16 * hexK (a.toNat:Int)+hexK (b.toNat:Int)).toNat:: ·)
      |_=>none
def utfS:Str:=[117,116,102,45,56,39,39]
def extM (s:Str):Option Str:=if s.length<7∨lowS (s.take 7)≠utfS then none else pctM (s.drop 7)
def xA:Str:=[99,111,110,116,101,110,116,45,100,105,115,112,111,115,105,116,105,111,110]
def Yz:Str:=[99,111,110,116,101,110,116,45,116,121,112,101]
def zaF:Str:=[102,111,114,109,45,100,97,116,97]
def ze5:Str:=[110,97,109,101]
def zby:Str:=[102,105,108,101,110,97,109,101]
def Xy:Str:=[102,105,108,101,110,97,109,101,42]
def extV (s:Str):Str:=(extM s).getD []
def extB (s:Str):Bool:=(extM s).isSome
def ziU (f x:Str × Bool):Str:=if x.2=true then vI (extV x.1) else if f.2=true then vI f.1 else []
def partT (t:Str × Int):Str:=if t.2=0 then t.1 else []
def zg5 (a:Str × Int) (m:Med × Int) (n f x:Str × Bool) (t:Str × Int):Prt × Int:=
  if a.2≠0 then(prt0,a.2)
  else if m.2≠0 then(prt0,m.2)
  else if m.1.word≠zaF then(prt0,11)
  else if n.2=false then(prt0,6)
  else if x.2=true∧extB x.1=false then(prt0,5)
  else if t.2=9 then(prt0,9)
  else(⟨n.1,ziU f x,partT t,[]⟩,0)
def zM (l:List Fld):Prt × Int:=
  zg5 (oneF (valsF l xA)) (zX (oneF (valsF l xA)).1) (getP (zX (oneF (valsF l xA)).1).1.params ze5) (getP (zX (oneF (valsF l xA)).1).1.params zby) (getP (zX (oneF (valsF l xA)).1).1.params Xy) (oneF (valsF l Yz))
def evP (p:Prt):Evt:=⟨5,hd0,[],p,0⟩
def evO:Evt:=⟨6,hd0,[],prt0,0⟩
def zG (f:Fm) (c:Int):Fm:= { f with pos:=8,code:=c,out:=f.out++[evF c]}
def fmSk (f:Fm) (c:UInt8):Fm:= { f with held:=((yh f.mark f.held.toNat c).2.1:Int)}
def yD (f:Fm):Fm:=
  if(zM f.fields).2≠0 then zG f (zM f.fields).2
  else if f.parts=12 then zG f 8
  else fmSk (fmSk { f with parts:=f.parts+1,pos:=6,out:=f.out++[evP (zM f.fields).1],skip:=2} 13) 10
def xH (f:Fm) (s:Str):Fm:=
  if s=[] then yD f
  else if f.fields.length=16 then zG f 8
  else if(zF s).2≠0 then zG f (zF s).2
  else { f with fields:=f.fields++[(zF s).1]}
def zJ (f:Fm) (c:UInt8):Fm:=
  if f.pos=1∧c=45 then { f with pos:=2}
  else if f.pos=2∧c=45 then { f with pos:=7,out:=f.out++[evE]}
  else if f.pos≠2∧(c=32∨c=9) then { f with pos:=3}
  else if f.pos≠2∧c=13 then { f with pos:=4}
  else zG f 5
def yI (f:Fm) (c:UInt8):Str:=(yh f.mark f.held.toNat c).1.drop (min f.skip ((yh f.mark f.held.toNat c).1.length:Int)).toNat
def yg (f:Fm) (c:UInt8):Fm:=
  if(yh f.mark f.held.toNat c).2.2=false then
    { fmSk f c with skip:=f.skip - min f.skip ((yh f.mark f.held.toNat c).1.length:Int),out:=if f.pos=6∧yI f c≠[] then f.out++[evB (yI f c)] else f.out}
  else { fmSk f c with pos:=1,skip:=0,out:=if f.pos=6 then(if yI f c≠[] then f.out++[evB (yI f c),evO] else f.out++[evO]) else f.out}
def lnOf (f:Fm):Ln:=match f.ln with|some l=>l|none=>ln0
def fmF (f:Fm) (c:UInt8):Fm:=
  if f.pos=0∨f.pos=6 then yg f c
  else if f.pos=1∨f.pos=2∨f.pos=3 then zJ f c
  else if f.pos=4 then(if c≠10 then zG f 2 else { f with pos:=5,ln:=some ln0,fields:=[]})
  else if f.pos=5 then
    if(lnF (lnOf f) c).2.2.2≠0 then zG { f with ln:=some (lnF (lnOf f) c).1} (lnF (lnOf f) c).2.2.2
    else if(lnF (lnOf f) c).2.2.1=true then xH { f with ln:=some (lnF (lnOf f) c).1} (lnF (lnOf f) c).2.1
    else { f with ln:=some (lnF (lnOf f) c).1}
  else f
def zH (b:Str):Str:=[13,10,45,45]++b
def fm0 (b:Str):Fm:=fmSk (fmSk ⟨zH b,0,wG (zH b),0,none,[],0,0,0,[]⟩ 13) 10
def xC (f:Fm) (b:Str):Fm:=b.foldl fmF f
def zW (f:Fm) (b:Str):Fm:=xC { f with out:=[]} b
def yT (f:Fm):Int:=if f.pos=8 then f.code else if f.pos=7 then 0 else 14
def prtS (l:List Prt) (e:Evt):List Prt:=
  if e.kind=5 then l++[e.part]
  else if e.kind=2 then(match l.getLast? with|some p=>l.dropLast++[{ p with bytes:=p.bytes++e.bytes}]|none=>l)
  else l
def xM (b x:Str):List Prt × Int:=
  if yG b=false then([],5)
  else if yT (zW (fm0 b) x)≠0 then([],yT (zW (fm0 b) x))
  else((zN (zW (fm0 b) x).out).foldl prtS [],0)
end Go.Proofs.YtknaogelmckimaaGreatDoor
namespace Go.Proofs.YtknaogelmckimaaGreatDoor
open Go Go.Sep Go.Ab
set_option maxRecDepth 100000
theorem YS {k:Int} (hk:0≤k∧k≤255): -1≤hexK k∧hexK k≤15:=zjW (p:=fun k=> -1≤hexK k∧hexK k≤15) (by decide+kernel) hk
theorem zhi {k:Int} (hk:0≤k∧k≤255):(∀ j:Fin 16,lowC (UInt8.ofNat k.toNat)=([48,49,50,51,52,53,54,55,56,57,97,98,99,100,101,102]:Str).getD j.1 0→hexK k=(j.1:Int))∧((∀ j:Fin 16,¬ lowC (UInt8.ofNat k.toNat)=([48,49,50,51,52,53,54,55,56,57,97,98,99,100,101,102]:Str).getD j.1 0)→hexK k= -1):=
  zjW (p:=fun k=>(∀ j:Fin 16,lowC (UInt8.ofNat k.toNat)=([48,49,50,51,52,53,54,55,56,57,97,98,99,100,101,102]:Str).getD j.1 0→hexK k=(j.1:Int))∧((∀ j:Fin 16,¬ lowC (UInt8.ofNat k.toNat)=([48,49,50,51,52,53,54,55,56,57,97,98,99,100,101,102]:Str).getD j.1 0)→hexK k= -1)) (by decide+kernel) hk
theorem zkO (k:Int) (hneed:0≤k∧k≤255):Spc Tryz.prog 62 [.v (.one (.p (.int .u8 k)))] [] (.ret (.v (.one (.p (.int .i64 (hexK k)))))) []:=by
  generalize hr:hexK k=r
  obtain⟨f1,f2⟩:=zhi hneed
  rw [hr] at f1 f2
  refine spcG zi mixed Tryz.func62 (by kernel_rfl) { keep:=some [0,2,3,4,5]} [yF,yE] (by kernel_rfl) ?_
  intro I X hI hX
  refine zh (.need (I.inr Go.IntKind.u8 k) (.need (I.hid (α:=(Prop)) (LE.le (List.length ([(I.i2b k)]:Str)) 1000000)) (.code 0 [1,1,1,0,1,0] ⟨[(5,(.v (.one (.p (.int .i64 0))))),(4,(.v (.one (.p (.str (I.hid (α:=Str) (lowS ([(I.i2b k)]:Str)))))))),(3,(.v (.one (.p (.str ([48,49,50,51,52,53,54,55,56,57,97,98,99,100,101,102]:Str)))))),(2,(.v (.one (.p (.int .i64 0))))),(0,(.v (.one (.p (.int .u8 k)))))],[(.row .byte 5 ([(I.i2b k)]:Str))],22,none⟩))) (by kernel_rfl) ?_
  simp only [zn]
  refine⟨(by rw [hI];simp only [nrmA,nrmB];omega),(by rw [hI,Rz];simp),?_⟩
  generalize hu:I.hid (lowS [I.i2b k])=u
  have hu1:u=[lowC (UInt8.ofNat k.toNat)]:=by rw [← hu,hI];rfl
  generalize lowC (UInt8.ofNat k.toNat)=x at *
  refine zu hI zi mixed [yF,yE] hX [0,3,4,5] (fun(j:Nat)=>j≤16∧∀ j':Fin 16,j'.1<j→¬ x=([48,49,50,51,52,53,54,55,56,57,97,98,99,100,101,102]:Str).getD j'.1 0) (fun(j:Nat)=>⟨[(0,.v (.one (.p (.int .u8 k)))),(3,.v (.one (.p (.str ([48,49,50,51,52,53,54,55,56,57,97,98,99,100,101,102]))))),(4,.v (.one (.p (.str u)))),(5,.v (.one (.p (.int .i64 j))))],[],22,none⟩) (fun(j:Nat)=>16 - j) 0 (by kernel_rfl) (by kernel_rfl) ?_ ?_
  · exact⟨Nat.zero_le _,fun _ h=>absurd h (Nat.not_lt_zero _)⟩
  rintro j ⟨h1,h2⟩ A hA
  refine zh (let y0:=([48,49,50,51,52,53,54,55,56,57,97,98,99,100,101,102]:Str);let y1:=I.inr Go.IntKind.i64 (I.add (Nat.cast j) 1);.br (I.ilt (Nat.cast j) 16) (.need y1 (.need (I.cutb (Int.ofNat j) (I.add (Nat.cast j) 1) (I.len (α:=UInt8) y0)) (.br (I.seq u (I.cut (α:=UInt8) y0 (Int.ofNat j) (I.add (Nat.cast j) 1))) (.fin (.ret (.v (.one (.p (.int .i64 (Nat.cast j)))))) []) (.need y1 (.need (A ⟨[(0,(.v (.one (.p (.int .u8 k))))),(3,(.v (.one (.p (.str y0))))),(4,(.v (.one (.p (.str u))))),(5,(.v (.one (.p (.int .i64 (I.add (Nat.cast j) 1))))))],[],22,none⟩) .qed))))) (.fin (.ret (.v (.one (.p (.int .i64 (Neg.neg (1:Int))))))) [])) (by kernel_rfl) ?_
  simp only [zn]
  subst hI
  simp only [nrmA,nrmB]
  generalize hH:([48,49,50,51,52,53,54,55,56,57,97,98,99,100,101,102]:Str)=H at *
  have hHl:H.length=16:=by rw [← hH];rfl
  have hcut:j<16→(H.drop j).take (((j:Int)+1).toNat - j)=[H.getD j 0]:=fun h=>by
    rw [show((j:Int)+1).toNat - j=1 by omega,List.drop_eq_getElem_cons (by omega),List.take_succ_cons,List.take_zero]
    simp [hHl,h]
  have hq:j<16→(u=(H.drop j).take (((j:Int)+1).toNat - j)↔x=H.getD j 0):=fun h=>by
    rw [hcut h,hu1];simp
  (repeat' (first|refine And.intro ?_ ?_|intro _))<;>first|omega|exact True.intro|exact False.elim ‹False›|skip
  all_goals first
    |omega
    |exact(f1 ⟨j,by omega⟩ ((hq (by omega)).1 ‹_›)).symm
    | (refine hA (j+1) ⟨by omega,fun j' hj'=> ?_⟩ (by omega)
       rcases Nat.lt_or_ge j'.1 j with hlt|hge
       · exact h2 j' hlt
       · rw [show j'.1=j by omega];exact fun e=>‹¬ u=_› ((hq (by omega)).2 e))
    |exact(f2 fun j'=>h2 j' (by have:=j'.2;omega)).symm
def Wn (I:Alg) (args:List D) (hp:List HO):Option CT:=match args,hp with
  |[.v (.one (.p (.int .u8 k)))],[]=>(fun(k:Int)=>(some (.one ⟨I.hid (0≤k∧k≤255),(.ret (.v (.one (.p (.int .i64 (I.hid (hexK k))))))),[]⟩):Option CT)) k
  |_,_=>none
theorem zcP:zy Tryz.prog 62 (Wn alg):=by
  intro args hp r h
  unfold Wn at h
  split at h
  · cases h;exact fun hn=>zkO _ hn
  · cases h
def Sv:Know Tryz.prog:=⟨62,Wn,zcP⟩
def Sr:Know Tryz.prog:=⟨62,fun I=>zA I (Wn I),zf zcP⟩
end Go.Proofs.YtknaogelmckimaaGreatDoor
namespace Go.Proofs.YtknaogelmckimaaGreatDoor
open Go Go.Sep Go.Ab
set_option maxRecDepth 100000
def Zq (s p:Str):Str × Bool:=if s.length<p.length∨lowS (s.take p.length)≠p then([],false) else(s.drop p.length,true)
theorem zlt (s p:Str) (hneed:s.length≤1000000∧p.length≤100):Spc Tryz.prog 126 [.v (.one (.p (.str s))),.v (.one (.p (.str p)))] [] (.ret (.tup [(.one (.p (.str ((Zq s p).1)))),(.one (.p (.bool ((Zq s p).2))))])) []:=by
  obtain⟨h1,h2⟩:=hneed
  generalize hr:Zq s p=r
  obtain⟨a,k⟩:=r
  refine spcG zi mixed Tryz.func126 (by kernel_rfl) { keep:=some [0,1,4,5]} [wF,wE] (by kernel_rfl) ?_
  intro I X hI hX
  refine zh (let y0:=I.cut (α:=UInt8) s 0 (I.len (α:=UInt8) p);.br (I.ilt (I.len (α:=UInt8) s) (I.len (α:=UInt8) p)) (.fin (.ret (.tup [(.one (.p (.str ([]:Str)))),(.one (.p (.bool Bool.false)))])) []) (.need (I.cutb 0 (I.len (α:=UInt8) p) (I.len (α:=UInt8) s)) (.need (I.hid (α:=(Prop)) (LE.le (List.length y0) 1000000)) (.br (I.bnot (I.seq (I.hid (α:=Str) (lowS y0)) p)) (.fin (.ret (.tup [(.one (.p (.str ([]:Str)))),(.one (.p (.bool Bool.false)))])) []) (.need (I.cutb (I.len (α:=UInt8) p) (I.len (α:=UInt8) s) (I.len (α:=UInt8) s)) (.fin (.ret (.tup [(.one (.p (.str (I.cut (α:=UInt8) s (I.len (α:=UInt8) p) (I.len (α:=UInt8) s))))),(.one (.p (.bool Bool.true)))])) [])))))) (by kernel_rfl) ?_
  simp only [zn]
  subst hI
  unfold Zq at hr
  simp only [nrmA,nrmB,nrlB,reduceCtorEq]
  (repeat' (first|refine And.intro ?_ ?_|intro _))<;>first|omega|exact True.intro|exact False.elim ‹False›|skip
  all_goals first
    |omega
    |(simp only [List.length_take];omega)
    |(rw [if_pos (Or.inl (by omega))] at hr;cases hr;rfl)
    |(rw [if_pos (Or.inr ‹_›)] at hr;cases hr;rfl)
    |(rw [if_neg (fun h=>h.elim (fun h=>by omega) (fun h=>h ‹_›))] at hr;cases hr;first|rfl|exact List.take_of_length_le (by simp))
def SL (I:Alg) (args:List D) (hp:List HO):Option CT:=match args,hp with
  |[.v (.one (.p (.str s))),.v (.one (.p (.str p)))],[]=>(fun(s p:Str)=>(some (.one ⟨I.hid (s.length≤1000000∧p.length≤100),(.ret (.tup [(.one (.p (.str (I.hid ((Zq s p).1))))),(.one (.p (.bool (I.hid ((Zq s p).2)))))])),[]⟩):Option CT)) s p
  |_,_=>none
theorem zf0:zy Tryz.prog 126 (SL alg):=by
  intro args hp r h
  unfold SL at h
  split at h
  · cases h;exact fun hn=>zlt _ _ hn
  · cases h
def zfZ:Know Tryz.prog:=⟨126,SL,zf0⟩
def zfY:Know Tryz.prog:=⟨126,fun I=>zA I (SL I),zf zf0⟩
theorem ziR {r:Str} {i:Nat} (h:i<r.length) (k: ¬ r.getD i 0=37):pctM (r.drop i)=(pctM (r.drop (i+1))).map (r.getD i 0:: ·):=by
  have e:r.getD i 0=r[i]:=by simp [h]
  rw [e] at k
  rw [List.drop_eq_getElem_cons h,pctM.eq_def]
  simp only
  rw [if_pos k,e]
theorem ziQ {r:Str} {i:Nat} (h:i<r.length) (k:r.getD i 0=37) (h2:r.length≤i+2):pctM (r.drop i)=none:=by
  have e:r.getD i 0=r[i]:=by simp [h]
  rw [e] at k
  rw [List.drop_eq_getElem_cons h,pctM.eq_def]
  simp only [k,ne_eq,not_true_eq_false,if_false]
  have hl:(r.drop (i+1)).length≤1:=by rw [List.length_drop];omega
  match hd:r.drop (i+1),hl with
  |[],_=>rfl
  |[_],_=>rfl
  |_::_::_,h=>simp at h
theorem ziS {r:Str} {i:Nat} (h:i+2<r.length) (k:r.getD i 0=37):pctM (r.drop i)=if hexK ((r.getD (i+1) 0).toNat:Int)<0∨hexK ((r.getD (i+2) 0).toNat:Int)<0 then none else(pctM (r.drop (i+3))).map (UInt8.ofNat (16 * hexK ((r.getD (i+1) 0).toNat:Int)+hexK ((r.getD (i+2) 0).toNat:Int)).toNat:: ·):=by
  have h0:i<r.length:=by omega
  have h1:i+1<r.length:=by omega
  have e0:r.getD i 0=r[i]:=by simp [h0]
  have e1:r.getD (i+1) 0=r[i+1]:=by simp [h1]
  have e2:r.getD (i+2) 0=r[i+2]:=by simp [h]
  rw [e0] at k
  rw [List.drop_eq_getElem_cons h0,List.drop_eq_getElem_cons h1,List.drop_eq_getElem_cons h,pctM,if_neg (by simp [k]),e1,e2]
theorem zls (s:Str) (hneed:s.length≤1000000):Spc Tryz.prog 115 [.v (.one (.p (.str s)))] [] (.ret (.tup [(.one (.p (.str ((extV s))))),(.one (.p (.bool ((extB s)))))])) []:=by
  unfold extV extB
  generalize hr:extM s=r
  refine spcG zi mixed Tryz.func115 (by kernel_rfl) { nr:=[6],keep:=some [0,2,3,4,5,6,7]} [zib,zia,zfZ,zfY] (by kernel_rfl) ?_
  intro I X hI hX
  refine zh (let y0:=([117,116,102,45,56,39,39]:Str);let y1:=I.hid (α:=Bool) (Prod.snd (Zq s y0));.need (I.hid (α:=(Prop)) (And (LE.le (List.length s) 1000000) (LE.le (List.length y0) 100))) (.br (I.bnot y1) (.fin (.ret (.tup [(.one (.p (.str ([]:Str)))),(.one (.p (.bool Bool.false)))])) []) (.code 0 [1,1,1,1,0,1,0] ⟨[(7,(.v (.one (.p (.int .i64 0))))),(6,(.v (.one (.row 0)))),(5,(.v (.one (.p (.bool y1))))),(4,(.v (.one (.p (.str (I.hid (α:=Str) (Prod.fst (Zq s y0)))))))),(3,(.v (.one (.p (.val (.bool .false)))))),(2,(.v (.one (.p (.str ([]:Str)))))),(0,(.v (.one (.p (.str s)))))],[(.row .byte 5 ([]:Str))],72,none⟩))) (by kernel_rfl) ?_
  simp only [zn]
  rw [show([117,116,102,45,56,39,39]:Str)=utfS from rfl]
  have hc:extM s=if(Zq s utfS).2=false then none else pctM (Zq s utfS).1:=by
    unfold extM Zq
    by_cases h:s.length<7∨lowS (s.take 7)≠utfS
    · rw [if_pos h,if_pos (show s.length<utfS.length∨lowS (s.take utfS.length)≠utfS from h)];rfl
    · rw [if_neg h,if_neg (show ¬ (s.length<utfS.length∨lowS (s.take utfS.length)≠utfS) from h)];rfl
  have hl:(Zq s utfS).1.length≤1000000:=by
    unfold Zq
    split
    · simp
    · simp only [List.length_drop];omega
  rw [hc] at hr
  generalize(Zq s utfS).2=k at *
  generalize(Zq s utfS).1=R at *
  have h7:utfS.length≤100:=by decide
  (repeat' (first|refine And.intro ?_ ?_|intro _))
  all_goals try(subst hI;(simp only [nrmA,nrmB,nrlB,reduceCtorEq] at *);first|done|trivial|omega|exact⟨hneed,h7⟩|(rw [if_pos ‹_›] at hr;rw [← hr];exact⟨rfl,rfl⟩))
  have hk:k=true:=by
    subst hI
    simp only [nrmA,nrmB,nrlB,reduceCtorEq] at *
    simpa using ‹_›
  rw [hk] at hr
  simp only [Bool.true_eq_false,if_false] at hr
  rw [show I.hid R=R by subst hI;rfl]
  refine zu hI zi mixed [zib,zia,zfZ,zfY] hX [4,6,7] (fun(g:Nat × Str)=>match g with|(i,b)=>i≤R.length∧b.length≤i∧r=(pctM (R.drop i)).map (b++ ·)) (fun(g:Nat × Str)=>match g with|(i,b)=>⟨[(4,.v (.one (.p (.str R)))),(6,.v (.one (.row 0))),(7,.v (.one (.p (.int .i64 i))))],[.row .byte 5 b],72,none⟩) (fun(g:Nat × Str)=>match g with|(i,b)=>R.length - i) (0,[]) (by kernel_rfl) (by kernel_rfl) ?_ ?_
  · refine⟨Nat.zero_le _,Nat.le_refl _,?_⟩
    rw [List.drop_zero,hr]
    cases r<;>rfl
  rintro⟨i,b⟩ ⟨h1,h2,h3⟩ A hA
  simp only at hA h1 h2 h3
  refine zh (let y1:=I.b2i (I.get (α:=UInt8) R 0 (I.add (Nat.cast i) 1));let y2:=I.b2i (I.get (α:=UInt8) R 0 (I.add (Nat.cast i) 2));let y0:=I.add (I.mul 16 (I.hid (α:=Int) (hexK y1))) (I.hid (α:=Int) (hexK y2));let y3:=I.b2i (I.get (α:=UInt8) R 0 (Nat.cast i));let y4:=I.inr Go.IntKind.i64 (I.add (Nat.cast i) 2);let y5:=I.inr Go.IntKind.i64 (I.add (Nat.cast i) 1);let y6:=I.hid (α:=(Prop)) (And (LE.le (0:Int) y1) (LE.le y1 (255:Int)));let y7:=I.hid (α:=(Prop)) (And (LE.le (0:Int) y2) (LE.le y2 (255:Int)));let y8:=I.inb (I.add (Nat.cast i) 1) (I.len (α:=UInt8) R);let y9:=I.inb (I.add (Nat.cast i) 2) (I.len (α:=UInt8) R);let y10:=I.inb (Nat.cast i) (I.len (α:=UInt8) R);.br (I.ilt (Nat.cast i) (I.len (α:=UInt8) R)) (.need y10 (.br (I.bnot (I.ieq y3 37)) (.need y10 (.need (I.inr Go.IntKind.u8 y3) (.need (I.few (I.add (I.len (α:=UInt8) b) (I.len (α:=UInt8) ([(I.i2b y3)]:Str))) 140737488355328) (.need y5 (.need (A ⟨[(4,(.v (.one (.p (.str R))))),(6,(.v (.one (.row 0)))),(7,(.v (.one (.p (.int .i64 (I.add (Nat.cast i) 1))))))],[(.row .byte 5 (I.app (α:=UInt8) b ([(I.i2b y3)]:Str)))],72,none⟩) .qed))))) (.need y4 (.br (I.ile (I.len (α:=UInt8) R) (I.add (Nat.cast i) 2)) (.fin (.ret (.tup [(.one (.p (.str ([]:Str)))),(.one (.p (.bool Bool.false)))])) []) (.need y5 (.need y8 (.need y6 (.br (I.ilt (I.hid (α:=Int) (hexK y1)) 0) (.fin (.ret (.tup [(.one (.p (.str ([]:Str)))),(.one (.p (.bool Bool.false)))])) []) (.need y4 (.need y9 (.need y7 (.br (I.ilt (I.hid (α:=Int) (hexK y2)) 0) (.fin (.ret (.tup [(.one (.p (.str ([]:Str)))),(.one (.p (.bool Bool.false)))])) []) (.need y5 (.need y8 (.need y4 (.need y9 (.need y6 (.need (I.inr Go.IntKind.i64 (I.mul 16 (I.hid (α:=Int) (hexK y1)))) (.need y7 (.need (I.inr Go.IntKind.i64 y0) (.need (I.inr Go.IntKind.u8 (I.wrap Go.IntKind.u8 y0)) (.need (I.few (I.add (I.len (α:=UInt8) b) (I.len (α:=UInt8) ([(I.i2b (I.wrap Go.IntKind.u8 y0))]:Str))) 140737488355328) (.need y4 (.need (I.inr Go.IntKind.i64 (I.add (I.add (Nat.cast i) 2) 1)) (.need (A ⟨[(4,(.v (.one (.p (.str R))))),(6,(.v (.one (.row 0)))),(7,(.v (.one (.p (.int .i64 (I.add (I.add (Nat.cast i) 2) 1))))))],[(.row .byte 5 (I.app (α:=UInt8) b ([(I.i2b (I.wrap Go.IntKind.u8 y0))]:Str)))],72,none⟩) .qed))))))))))))))))))))))))) (.fin (.ret (.tup [(.one (.p (.str b))),(.one (.p (.bool Bool.true)))])) [])) (by kernel_rfl) ?_
  simp only [zn]
  subst hI
  simp only [nrmA,nrmB,nrlB,reduceCtorEq]
  have e1:((i:Int)+1).toNat=i+1:=by omega
  have e2:((i:Int)+2).toNat=i+2:=by omega
  rw [e1,e2]
  have b37:(R.getD i 0).toNat=37↔R.getD i 0=37:=⟨fun h=>UInt8.toNat_inj.1 h,fun h=>by rw [h];rfl⟩
  have g0:i<R.length→¬ R.getD i 0=37→_:=fun h k=>ziR h k
  have g1:i<R.length→R.getD i 0=37→R.length≤i+2→_:=fun h k=>ziQ h k
  have g2:i+2<R.length→R.getD i 0=37→_:=fun h k=>ziS h k
  have l0:=(R.getD i 0).toNat_lt
  have l1:=(R.getD (i+1) 0).toNat_lt
  have l2:=(R.getD (i+2) 0).toNat_lt
  have m1:=YS (k:=((R.getD (i+1) 0).toNat:Int)) ⟨by omega,by omega⟩
  have m2:=YS (k:=((R.getD (i+2) 0).toNat:Int)) ⟨by omega,by omega⟩
  have hend: ¬ i<R.length→r=some b:=fun h=>by rw [h3,List.drop_of_length_le (by omega)];simp [pctM]
  have hA2:=fun(c:UInt8) (j:Nat) (h:i<j) (hj:j≤R.length) (e:pctM (R.drop i)=(pctM (R.drop j)).map (c:: ·))=>hA (j,b++[c]) ⟨hj,by rw [List.length_append,List.length_singleton];omega,by rw [h3,e,Option.map_map];congr 1;funext x;simp⟩ (by simp only;omega)
  generalize R.getD i 0=x0 at *
  generalize R.getD (i+1) 0=x1 at *
  generalize R.getD (i+2) 0=x2 at *
  refine⟨fun c=>⟨by omega,fun c2=>⟨by omega,by omega,by simp only [List.length_singleton];omega,by omega,?_⟩,fun c2=> ?_⟩,fun c=> ?_⟩
  · have:=hA2 x0 (i+1) (by omega) (by omega) (g0 (by omega) (fun h=>c2 (by have:=b37.2 h;omega)))
    simp only [Int.natCast_add,Int.natCast_one] at this
    exact this
  · have hx:x0=37:=b37.1 (by omega)
    subst hx
    have gs:R.length≤i+2→r=none:=fun h=>by rw [h3,g1 (by omega) rfl h];rfl
    have gm:=fun h=>g2 h rfl
    have gn:i+2<R.length→(hexK (x1.toNat:Int)<0∨hexK (x2.toNat:Int)<0)→r=none:=fun h k=>by rw [h3,gm h,if_pos k];rfl
    have gy:i+2<R.length→¬ hexK (x1.toNat:Int)<0→¬ hexK (x2.toNat:Int)<0→_:=fun h k k2=>hA2 (UInt8.ofNat (16 * hexK (x1.toNat:Int)+hexK (x2.toNat:Int)).toNat) (i+3) (by omega) (by omega) (by rw [gm h,if_neg (fun q=>q.elim k k2)])
    have wr: ¬ hexK (x1.toNat:Int)<0→¬ hexK (x2.toNat:Int)<0→IntKind.u8.wrap (16 * hexK (x1.toNat:Int)+hexK (x2.toNat:Int))=16 * hexK (x1.toNat:Int)+hexK (x2.toNat:Int):=fun k k2=>zis _ ⟨by omega,by omega⟩
    (repeat' (first|refine And.intro ?_ ?_|intro _))<;>first|omega|exact True.intro|exact False.elim ‹False›|skip
    all_goals first
      |omega
      |(rw [gs (by omega)];done)
      |(rw [gs (by omega)];rfl)
      |(rw [gn (by omega) (Or.inl ‹_›)];rfl)
      |(rw [gn (by omega) (Or.inr ‹_›)];rfl)
      |(rw [wr ‹_› ‹_›];omega)
      |(simp only [List.length_singleton];omega)
      |(rw [wr ‹_› ‹_›,show(i:Int)+2+1=((i+3:Nat):Int) by omega];exact gy (by omega) ‹_› ‹_›)
  · rw [hend (by omega)]
    exact⟨rfl,rfl⟩
def SK (I:Alg) (args:List D) (hp:List HO):Option CT:=match args,hp with
  |[.v (.one (.p (.str s)))],[]=>(fun(s:Str)=>(some (.one ⟨I.hid (s.length≤1000000),(.ret (.tup [(.one (.p (.str (I.hid ((extV s)))))),(.one (.p (.bool (I.hid ((extB s))))))])),[]⟩):Option CT)) s
  |_,_=>none
theorem zfX:zy Tryz.prog 115 (SK alg):=by
  intro args hp r h
  unfold SK at h
  split at h
  · cases h;exact fun hn=>zls _ hn
  · cases h
def zjM:Know Tryz.prog:=⟨115,SK,zfX⟩
def zjL:Know Tryz.prog:=⟨115,fun I=>zA I (SK I),zf zfX⟩
theorem Qe (s:Str) (i:Nat) (h:i<s.length):(s.take (i+1)).foldl xR []=xR ((s.take i).foldl xR []) (s.getD i 0):=by
  rw [List.take_succ_eq_append_getElem h,List.foldl_append]
  simp [h]
theorem zgU (s:Str): ∀ b:Str,(s.foldl xR b).length≤b.length+s.length:=by
  induction s with
  |nil=>intro b;simp
  | cons c r ih=>
    intro b
    have h:=ih (xR b c)
    have h2:(xR b c).length≤b.length+1:=by
      unfold xR
      repeat' split
      all_goals simp
    rw [List.foldl_cons,List.length_cons];omega
theorem rE (c:UInt8) (k:Nat) (h:k<256):(c.toNat:Int)=(k:Int)↔c=UInt8.ofNat k:=by
  constructor
  · intro e
    rw [← UInt8.toNat_inj,UInt8.toNat_ofNat',Nat.mod_eq_of_lt h];omega
  · intro e
    rw [e,UInt8.toNat_ofNat',Nat.mod_eq_of_lt h]
theorem zgW (b:Str) (c:UInt8):xR b c=if(c.toNat:Int)=47 then [] else if(c.toNat:Int)=92 then [] else if(c.toNat:Int)=9 then b++[95] else if vk (c.toNat:Int)=false then b++[95] else if(c.toNat:Int)=34 then b++[95] else if(c.toNat:Int)=58 then b++[95] else if(c.toNat:Int)=46 then(if(b.length:Int)=0 then b else b++[c]) else b++[c]:=by
  have h0:(b.length:Int)=0↔b=[]:=by rw [← List.length_eq_zero_iff];omega
  have e1:(c.toNat:Int)=47↔c=47:=rE c 47 (by decide)
  have e2:(c.toNat:Int)=92↔c=92:=rE c 92 (by decide)
  have e3:(c.toNat:Int)=9↔c=9:=rE c 9 (by decide)
  have e4:(c.toNat:Int)=34↔c=34:=rE c 34 (by decide)
  have e5:(c.toNat:Int)=58↔c=58:=rE c 58 (by decide)
  have e6:(c.toNat:Int)=46↔c=46:=rE c 46 (by decide)
  simp only [e1,e2,e3,e4,e5,e6,h0]
  unfold xR
  generalize vk (c.toNat:Int)=k
  clear e1 e2 e3 e4 e5 e6 h0
  repeat' split
  all_goals simp_all
theorem zkW (s:Str) (hneed:s.length≤1000000):Spc Tryz.prog 23 [.v (.one (.p (.str s)))] [] (.ret (.v (.one (.p (.str ((vI s))))))) []:=by
  refine spcG zi mixed Tryz.func23 (by kernel_rfl) { nr:=[3],keep:=some [0,2,3,4,5,7,8]} [vC,qi] (by kernel_rfl) ?_
  intro I X hI hX
  refine zh (.code 0 [1,1,0,1,0] ⟨[(8,(.v (.one (.p (.int .i64 0))))),(7,(.v (.one (.p (.int .i64 (I.len (α:=UInt8) s)))))),(3,(.v (.one (.row 0)))),(2,(.v (.one (.p (.str ([]:Str)))))),(0,(.v (.one (.p (.str s)))))],[(.row .byte 5 ([]:Str))],63,none⟩) (by kernel_rfl) ?_
  simp only [zn]
  refine zu hI zi mixed [vC,qi] hX [0,3,7,8] (fun(g:Nat × Str)=>match g with|(i,b)=>i≤s.length∧b=(s.take i).foldl xR []) (fun(g:Nat × Str)=>match g with|(i,b)=>⟨[(0,.v (.one (.p (.str s)))),(3,.v (.one (.row 0))),(7,.v (.one (.p (.int .i64 ((I.len (α:=UInt8) s)))))),(8,.v (.one (.p (.int .i64 i))))],[.row .byte 5 b],63,none⟩) (fun(g:Nat × Str)=>match g with|(i,b)=>s.length - i) (0,[]) (by kernel_rfl) (by kernel_rfl) ?_ ?_
  · exact⟨Nat.zero_le _,rfl⟩
  rintro⟨i,b⟩ ⟨h1,h2⟩ A hA
  simp only at hA h1 h2
  refine zh (let y0:=I.b2i (I.get (α:=UInt8) s 0 (Nat.cast i));let y1:=I.inr Go.IntKind.i64 (I.add (Nat.cast i) 1);let y2:=I.few (I.add (I.len (α:=UInt8) b) (I.len (α:=UInt8) ([(I.i2b 95)]:Str))) 140737488355328;let y3:HO:=.row .byte 5 (I.app (α:=UInt8) b ([(I.i2b 95)]:Str));let y4:=I.few (I.add (I.len (α:=UInt8) b) (I.len (α:=UInt8) ([(I.i2b y0)]:Str))) 140737488355328;let y5:HO:=.row .byte 5 (I.app (α:=UInt8) b ([(I.i2b y0)]:Str));.br (I.ilt (Nat.cast i) (I.len (α:=UInt8) s)) (.need (I.inb (Nat.cast i) (I.len (α:=UInt8) s)) (.br (I.ieq y0 47) (.need y1 (.need (A ⟨[(0,(.v (.one (.p (.str s))))),(3,(.v (.one (.row 0)))),(7,(.v (.one (.p (.int .i64 (I.len (α:=UInt8) s)))))),(8,(.v (.one (.p (.int .i64 (I.add (Nat.cast i) 1))))))],[(.row .byte 5 ([]:Str))],63,none⟩) .qed)) (.br (I.ieq y0 92) (.need y1 (.need (A ⟨[(0,(.v (.one (.p (.str s))))),(3,(.v (.one (.row 0)))),(7,(.v (.one (.p (.int .i64 (I.len (α:=UInt8) s)))))),(8,(.v (.one (.p (.int .i64 (I.add (Nat.cast i) 1))))))],[(.row .byte 5 ([]:Str))],63,none⟩) .qed)) (.br (I.ieq y0 9) (.need (I.inr Go.IntKind.u8 95) (.need y2 (.need y1 (.need (A ⟨[(0,(.v (.one (.p (.str s))))),(3,(.v (.one (.row 0)))),(7,(.v (.one (.p (.int .i64 (I.len (α:=UInt8) s)))))),(8,(.v (.one (.p (.int .i64 (I.add (Nat.cast i) 1))))))],[y3],63,none⟩) .qed)))) (.need (I.hid (α:=(Prop)) True) (.br (I.bnot (I.hid (α:=Bool) (vk y0))) (.need (I.inr Go.IntKind.u8 95) (.need y2 (.need y1 (.need (A ⟨[(0,(.v (.one (.p (.str s))))),(3,(.v (.one (.row 0)))),(7,(.v (.one (.p (.int .i64 (I.len (α:=UInt8) s)))))),(8,(.v (.one (.p (.int .i64 (I.add (Nat.cast i) 1))))))],[y3],63,none⟩) .qed)))) (.br (I.ieq y0 34) (.need (I.inr Go.IntKind.u8 95) (.need y2 (.need y1 (.need (A ⟨[(0,(.v (.one (.p (.str s))))),(3,(.v (.one (.row 0)))),(7,(.v (.one (.p (.int .i64 (I.len (α:=UInt8) s)))))),(8,(.v (.one (.p (.int .i64 (I.add (Nat.cast i) 1))))))],[y3],63,none⟩) .qed)))) (.br (I.ieq y0 58) (.need (I.inr Go.IntKind.u8 95) (.need y2 (.need y1 (.need (A ⟨[(0,(.v (.one (.p (.str s))))),(3,(.v (.one (.row 0)))),(7,(.v (.one (.p (.int .i64 (I.len (α:=UInt8) s)))))),(8,(.v (.one (.p (.int .i64 (I.add (Nat.cast i) 1))))))],[y3],63,none⟩) .qed)))) (.br (I.ieq y0 46) (.br (I.ieq (I.len (α:=UInt8) b) 0) (.need y1 (.need (A ⟨[(0,(.v (.one (.p (.str s))))),(3,(.v (.one (.row 0)))),(7,(.v (.one (.p (.int .i64 (I.len (α:=UInt8) s)))))),(8,(.v (.one (.p (.int .i64 (I.add (Nat.cast i) 1))))))],[(.row .byte 5 b)],63,none⟩) .qed)) (.need (I.inr Go.IntKind.u8 y0) (.need y4 (.need y1 (.need (A ⟨[(0,(.v (.one (.p (.str s))))),(3,(.v (.one (.row 0)))),(7,(.v (.one (.p (.int .i64 (I.len (α:=UInt8) s)))))),(8,(.v (.one (.p (.int .i64 (I.add (Nat.cast i) 1))))))],[y5],63,none⟩) .qed))))) (.need (I.inr Go.IntKind.u8 y0) (.need y4 (.need y1 (.need (A ⟨[(0,(.v (.one (.p (.str s))))),(3,(.v (.one (.row 0)))),(7,(.v (.one (.p (.int .i64 (I.len (α:=UInt8) s)))))),(8,(.v (.one (.p (.int .i64 (I.add (Nat.cast i) 1))))))],[y5],63,none⟩) .qed))))))))))))) (.br (I.ilt 40 (I.len (α:=UInt8) b)) (.need (I.cutb 0 40 (I.len (α:=UInt8) b)) (.br (I.ieq (I.sub 40 0) 0) (.fin (.ret (.v (.one (.p (.str ([102,105,108,101]:Str)))))) []) (.fin (.ret (.v (.one (.p (.str (I.cut (α:=UInt8) b 0 40)))))) []))) (.br (I.ieq (I.len (α:=UInt8) b) 0) (.fin (.ret (.v (.one (.p (.str ([102,105,108,101]:Str)))))) []) (.fin (.ret (.v (.one (.p (.str b))))) [])))) (by kernel_rfl) ?_
  simp only [zn]
  subst hI
  simp only [nrmA,nrmB,nrlB,reduceCtorEq]
  have hs:=Qe s i
  have hbl:=zgU (s.take i) []
  rw [← h2] at hs hbl
  rw [List.length_take,List.length_nil] at hbl
  have hA2:i<s.length→_:=fun h=>hA (i+1,xR b (s.getD i 0)) ⟨by simp only;omega,(hs h).symm⟩ (by simp only;omega)
  have l0:=(s.getD i 0).toNat_lt
  rw [zgW] at hA2
  have hend: ¬ i<s.length→s.foldl xR []=b:=fun h=>by rw [h2,List.take_of_length_le (by omega)]
  have hm: ¬ i<s.length→vI s=if b.take 40=[] then [102,105,108,101] else b.take 40:=fun h=>by unfold vI;rw [hend h]
  have hn:0<b.length→¬ b.take 40=[]:=fun h k=>by have:=congrArg List.length k;rw [List.length_take,List.length_nil] at this;omega
  generalize s.getD i 0=c at *
  (repeat' (first|refine And.intro ?_ ?_|intro _))<;>first|omega|exact True.intro|exact False.elim ‹False›|skip
  all_goals first
    |omega
    |exact⟨by omega,by omega⟩
    |(simp only [List.length_singleton];omega)
    |(rw [hm (by omega),if_neg (hn (by omega))];first|rfl|exact(List.take_of_length_le (by omega)).symm)
    |(rw [hm (by omega),if_pos (by rw [List.eq_nil_of_length_eq_zero (show b.length=0 by omega)];rfl)])
    |(have h:=hA2 (by omega);(repeat(first|rw [if_pos (by first|omega|assumption)] at h|rw [if_neg (by first|omega|assumption|simpa using ‹_=true›)] at h));simp only [Int.natCast_add,Int.natCast_one] at h;exact h)
def Wv (I:Alg) (args:List D) (hp:List HO):Option CT:=match args,hp with
  |[.v (.one (.p (.str s)))],[]=>(fun(s:Str)=>(some (.one ⟨I.hid (s.length≤1000000),(.ret (.v (.one (.p (.str (I.hid ((vI s)))))))),[]⟩):Option CT)) s
  |_,_=>none
theorem zc8:zy Tryz.prog 23 (Wv alg):=by
  intro args hp r h
  unfold Wv at h
  split at h
  · cases h;exact fun hn=>zkW _ hn
  · cases h
def zc7:Know Tryz.prog:=⟨23,Wv,zc8⟩
def zc6:Know Tryz.prog:=⟨23,fun I=>zA I (Wv I),zf zc8⟩
theorem zk0 (s:Str) (hneed:s.length≤140737488355328):Spc Tryz.prog 9 [.v (.one (.p (.str s)))] [] (.ret (.v (.one (.p (.bool ((yG s))))))) []:=by
  refine spcG zi mixed Tryz.func9 (by kernel_rfl) { keep:=some [0,2]} [rW,rV,zdr,zdq] (by kernel_rfl) ?_
  intro I X hI hX
  refine zh (.br (I.ilt 70 (I.len (α:=UInt8) s)) (.fin (.ret (.v (.one (.p (.bool Bool.false))))) []) (.need (I.hid (α:=(Prop)) (LE.le (List.length s) 1000000)) (.br (I.bnot (I.hid (α:=Bool) (wH s))) (.fin (.ret (.v (.one (.p (.bool Bool.false))))) []) (.need (I.hid (α:=(Prop)) True) (.br (I.bnot (I.seq (I.hid (α:=Str) (Go.Lib.trimS s ([32,9]:Str))) s)) (.fin (.ret (.v (.one (.p (.bool Bool.false))))) []) (.fin (.ret (.v (.one (.p (.bool (I.bnot (I.seq s ([]:Str)))))))) [])))))) (by kernel_rfl) ?_
  simp only [zn]
  subst hI
  simp only [nrmA,nrmB,nrlB,reduceCtorEq]
  unfold yG
  have h70:(70<s.length)↔((70:Int)<(s.length:Int)):=by omega
  simp only [h70]
  (repeat' (first|refine And.intro ?_ ?_|intro _))<;>first|omega|exact True.intro|exact False.elim ‹False›|skip
  all_goals first
    |omega
    |(rw [decide_eq_false (by omega),‹wH s=true›,decide_eq_true ‹Lib.trimS s _=s›];cases s<;>simp)
    |(simp_all;done)
def WA (I:Alg) (args:List D) (hp:List HO):Option CT:=match args,hp with
  |[.v (.one (.p (.str s)))],[]=>(fun(s:Str)=>(some (.one ⟨I.hid (s.length≤140737488355328),(.ret (.v (.one (.p (.bool (I.hid ((yG s)))))))),[]⟩):Option CT)) s
  |_,_=>none
theorem zdd:zy Tryz.prog 9 (WA alg):=by
  intro args hp r h
  unfold WA at h
  split at h
  · cases h;exact fun hn=>zk0 _ hn
  · cases h
def Yt:Know Tryz.prog:=⟨9,WA,zdd⟩
def Yr:Know Tryz.prog:=⟨9,fun I=>zA I (WA I),zf zdd⟩
end Go.Proofs.YtknaogelmckimaaGreatDoor
