/- Texts of this proof, one behind the other: AbP AbO ShpE Tab Evt InZ Shelf Lib ChrA ChrB ChrC LnL Fnd FldA FldB FldG FldD FldE ParL Base SeekL SeekM FrmL ChrD FrmA ParA. -/
import Derived.Deep.LoopGhost
import Derived.Recover
import Derived.KernelRfl
import Derived.Test.YtknaogelmckimaaDoorProg
import Derived.WalkKit
import Derived.WideShapes
import Derived.ChangeArms
import Derived.SizedLaws
import Derived.Shelf.Strings.SlTrimAscii
import Derived.Shelf.Strings.Trim
import Derived.Shelf.Small.Utf8
import Derived.Shelf.Small.Strs
import Derived.Shelf.Strings.Search1
import Derived.Shelf.Strings.Search2
import Derived.Shelf.Strings.Cut
import Derived.Shelf.LaysM
import Derived.Shelf.Strings.Shaped
import Derived.Shelf.Strings.Runes
import Derived.Shelf.Strings.AsciiSet
import Derived.Shelf.Unicode.DecodeSlow
import Derived.Below
import Derived.Test.YtknaogelmckimaaDoorMb
set_option linter.all false
namespace Go.Ab
open Go Go.Sep
variable [Facts]
theorem zah {α:Type} (x:α):alg.hid x=x:=rfl
theorem zed (k:IntKind) (x y:Int):alg.shl k x y=k.wrap (x * 2 ^ (min y.toNat k.bits)):=rfl
theorem zec (x y:Int):alg.shr x y=x.fdiv (2 ^ (min y.toNat 64)):=rfl
theorem zbC (op:BinOp) (k:IntKind) (x y:Int):alg.bits op k x y=k.wrap (match op with
    |.and=>(BitVec.ofInt k.bits x&&& BitVec.ofInt k.bits y).toNat
    |.or=>(BitVec.ofInt k.bits x|||BitVec.ofInt k.bits y).toNat
    |_=>(BitVec.ofInt k.bits x ^^^ BitVec.ofInt k.bits y).toNat:Nat):=rfl
theorem zdd:IntKind.i64.min= -9223372036854775808:=by decide
theorem zde:IntKind.i64.max=9223372036854775807:=by decide
theorem zfl:IntKind.u8.min=0:=by decide
theorem zfm:IntKind.u8.max=255:=by decide
theorem Tn (c:UInt8):UInt8.ofNat ((c.toNat:Int)).toNat=c:=by simp
theorem xg (c d:UInt8):((c.toNat:Int)=(d.toNat:Int))↔c=d:=by
  constructor
  · intro h;exact UInt8.toNat_inj.1 (by omega)
  · intro h;rw [h]
structure CR where
  need:Prop
  out:AOut
  hp:List HO
inductive CT where
  |one (r:CR)
  |br (b:Bool) (t f:CT)
def CT.Good (Pr:Program) (f:Nat) (args:List D) (hp:List HO):CT→Prop
  |.one r=>r.need→Spc Pr f args hp r.out r.hp
  |.br b t e=>(b=true→t.Good Pr f args hp)∧(b=false→e.Good Pr f args hp)
def CT.map (g:CR→CR):CT→CT
  |.one r=>.one (g r)
  |.br b t e=>.br b (t.map g) (e.map g)
def CT.mapO (g:CR→Option CR):CT→Option CT
  |.one r=>match g r with|some r=>some (.one r)|none=>none
  |.br b t e=>match t.mapO g,e.mapO g with|some t,some e=>some (.br b t e)|_,_=>none
def CT.tree (k:CR→Tree):CT→Tree
  |.one r=>k r
  |.br b t e=>.br b (t.tree k) (e.tree k)
theorem CT.Good.map {Pr:Program} {f f':Nat} {args args':List D} {hp hp':List HO} {g:CR→CR} (h: ∀ r:CR,(r.need→Spc Pr f args hp r.out r.hp)→(g r).need→Spc Pr f' args' hp' (g r).out (g r).hp): ∀ {c:CT},c.Good Pr f args hp→(c.map g).Good Pr f' args' hp'
  |.one r,hc=>h r hc
  |.br _ _ _,hc=>⟨fun e=>CT.Good.map h (hc.1 e),fun e=>CT.Good.map h (hc.2 e)⟩
theorem CT.Good.mapO {Pr:Program} {f f':Nat} {args args':List D} {hp hp':List HO} {g:CR→Option CR} (h: ∀ r r':CR,g r=some r'→(r.need→Spc Pr f args hp r.out r.hp)→r'.need→Spc Pr f' args' hp' r'.out r'.hp): ∀ {c c':CT},c.mapO g=some c'→c.Good Pr f args hp→c'.Good Pr f' args' hp'
  | .one r,c',e,hc=>by
    simp only [CT.mapO] at e
    split at e
    · rename_i r' hr;cases e;exact h r r' hr hc
    · cases e
  | .br b t f,c',e,hc=>by
    simp only [CT.mapO] at e
    split at e
    · rename_i t' f' ht hf;cases e;exact⟨fun e=>CT.Good.mapO h ht (hc.1 e),fun e=>CT.Good.mapO h hf (hc.2 e)⟩
    · cases e
structure Know (Pr:Program) where
  f:Nat
  c:Alg→List D→List HO→Option CT
  ok: ∀ args hp r,c alg args hp=some r→r.Good Pr f args hp
def zfq:List D→List Nat
  |[]=>[]
  |d::ds=>zez d++zfq ds
def VN (hp:List HO) (args:List D):List Nat:=gather hp 60 (zfq args) []
def frameC (c:List D→List HO→Option CT) (args:List D) (hp:List HO):Option CT:=
  match wP (VN hp args) hp with
  |none=>none
  | some (os,hpr)=>match c (args.map (D.ren fun q=>idx q (VN hp args) 0)) (os.map (HO.ren fun q=>idx q (VN hp args) 0)) with
    |none=>none
    |some r=>some (r.map fun r=>⟨r.need,r.out.ren (Ya (VN hp args) hp.length),uz (Ya (VN hp args) hp.length) (VN hp args) r.hp hpr⟩)
def XI (I:Alg) (c:List D→List HO→Option CT):Nat→List D→List HO→Option CT
  |0,args,hp=>frameC c args hp
  | n + 1,args,hp=>match nth hp n with
    | some (.row u E l)=>(match XI I c n (args.map (D.frz I n u l)) (setN (hp.map (HO.frz I n u l)) n .gone) with
      | some r=>r.mapO fun r=>(match noLA r.out,Tq r.hp with
        |true,true=>some ⟨r.need,r.out,setN r.hp n (.row u E l)⟩
        |_,_=>none)
      |none=>none)
    |_=>XI I c n args hp
def zA (I:Alg) (c:List D→List HO→Option CT) (args:List D) (hp:List HO):Option CT:=XI I c hp.length args hp
def ask {Pr:Program} (I:Alg):List (Know Pr)→Nat→List D→List HO→Option CT
  |[],_,_,_=>none
  | k::r,f,args,hp=>match Nat.beq k.f f with
    |true=>(match frameC (k.c I) args hp with|some x=>some x|none=>ask I r f args hp)
    |false=>ask I r f args hp
def drive (q:Nat→List D→List HO→Option CT):Tree→Tree
  |.need p t=>.need p (drive q t)
  |.br b t f=>.br b (drive q t) (drive q f)
  | .call f args hp k=>Vo hp fun hp=>match q f args hp with
    |some r=>r.tree fun r=>.need r.need (Vo r.hp fun h=>drive q (k r.out h))
    |none=>.call f args hp fun o h=>drive q (k o h)
  |.code c st k=>.code c st k
  |.fin o hp=>.fin o hp
  |.both t f=>.both (drive q t) (drive q f)
  |.qed=>.qed
  |.stop n=>.stop n
def zx (Pr:Program) (f:Nat) (c:List D→List HO→Option CT):Prop:=∀ args hp r,c args hp=some r→r.Good Pr f args hp
section
variable {Pr:Program} {T:Tab} {X:Ctx} {G:AOut→List HO→Prop} {a:Act} {w:World}
theorem XP {f:Nat} {c:List D→List HO→Option CT} (h:zx Pr f c):zx Pr f (frameC c):=by
  intro args hp r hr
  unfold frameC at hr
  split at hr
  · cases hr
  · rename_i os hpr ht
    split at hr
    · cases hr
    · rename_i r0 hc
      cases hr
      exact CT.Good.map (g:=fun r=>⟨r.need,r.out.ren (Ya (VN hp args) hp.length),uz (Ya (VN hp args) hp.length) (VN hp args) r.hp hpr⟩) (fun r hs hn=>(hs hn).frame _ ht rfl rfl) (h _ _ _ hc)
theorem tX {f:Nat} {c:List D→List HO→Option CT} (h:zx Pr f c): ∀ n,zx Pr f (XI alg c n)
  |0=>XP h
  | n + 1 =>by
    intro args hp r hr
    unfold XI at hr
    split at hr
    · rename_i u E l ho
      rw [zM] at ho
      split at hr
      · rename_i r0 hc
        refine CT.Good.mapO (fun r r' hrr hs hn=> ?_) hr (tX h n _ _ _ hc)
        split at hrr
        · rename_i h1 h2
          cases hrr
          exact Spc.zhN (hs hn) ho rfl rfl h1 h2
        · cases hrr
      · cases hr
    · exact tX h n _ _ _ hr
theorem zf {f:Nat} {c:List D→List HO→Option CT} (h:zx Pr f c):zx Pr f (zA alg c):=fun args hp=>tX h hp.length args hp
theorem uQ: ∀ {kn:List (Know Pr)} {f:Nat},zx Pr f (ask alg kn f)
  |[],f=>fun args hp r hr=>by cases hr
  | k ::r,f=>fun args hp x hr=>by
    unfold ask at hr
    split at hr
    · rename_i hb
      obtain rfl:=Nat.eq_of_beq_eq_true hb
      split at hr
      · rename_i y hy;cases hr;exact XP k.ok args hp _ hy
      · exact uQ args hp x hr
    · exact uQ args hp x hr
theorem CT.yY {f:Nat} {args:List D} {hp:List HO} {k:AOut→List HO→Tree} {k':AOut→List HO→Tree} (ih: ∀ o h,(k' o h).ok Pr X G→(k o h).ok Pr X G): ∀ {c:CT},c.Good Pr f args hp→(c.tree fun r=>.need r.need (k' r.out r.hp)).ok Pr X G→∃ out hp',Spc Pr f args hp out hp'∧(k out hp').ok Pr X G
  |.one r,hc,h=>⟨r.out,r.hp,hc h.1,ih _ _ h.2⟩
  | .br b t e,hc,h=>by
    cases b with
    |true=>exact CT.yY ih (hc.1 rfl) (h.1 rfl)
    |false=>exact CT.yY ih (hc.2 rfl) (h.2 rfl)
theorem Zu {q:Nat→List D→List HO→Option CT} (hq: ∀ f,zx Pr f (q f)): ∀ {t:Tree},(drive q t).ok Pr X G→t.ok Pr X G:=by
  intro t
  induction t with
  |need p t ih=>exact fun h=>⟨h.1,ih h.2⟩
  |br b t f ih1 ih2=>exact fun h=>⟨fun e=>ih1 (h.1 e),fun e=>ih2 (h.2 e)⟩
  | call f args hp k ih=>
    intro h
    simp only [drive,XR] at h
    split at h
    · rename_i r hr;exact CT.yY (k':=fun o h=>drive q (k o h)) (fun o h=>ih o h) (hq f args hp r hr) h
    · obtain⟨o,hp',h1,h2⟩:=h;exact⟨o,hp',h1,ih _ _ h2⟩
  |code c st k ih=>exact fun h=>h
  |fin o hp=>exact fun h=>h
  |both t f ih1 ih2=>exact fun h=>⟨ih1 h.1,ih2 h.2⟩
  |qed=>exact fun h=>h
  |stop n=>exact fun h=>h
structure Rt where
  B:Code
  K:AEx→St→Tree
def xk (fn:Func):Code:=match fn.body with|some c=>c|none=>.skip
def loopBody:Code→Code
  |.loop b=>b
  |c=>c
def cAt:List Nat→Code→Code
  |[],c=>c
  | n::p,c=>match c with
    |.seq a b=>(match n with|0=>cAt p a|_=>cAt p b)
    |.cond _ t e=>(match n with|0=>cAt p t|_=>cAt p e)
    |.block _ b=>cAt p b
    |c=>c
def kAt (I:Alg) (T:Tab) (cfg:Cfg):List Nat→Code→(AEx→St→Tree)→AEx→St→Tree
  |[],_,K=>K
  | n ::p,c,K=>match c with
    |.seq a b=>(match n with|0=>kAt I T cfg p a (fun e st=>match e with|.normal=>vc I T cfg b K st|e=>K e st)|_=>kAt I T cfg p b K)
    |.cond _ t e=>(match n with|0=>kAt I T cfg p t K|_=>kAt I T cfg p e K)
    | .block id b=>kAt I T cfg p b (fun e st=>match e with
      |.exit j=>(match Nat.beq j id with|true=>K .normal st|false=>K (.exit j) st)
      |e=>K e st)
    |_=>K
def rtAt:Nat→List Rt→Rt
  |_,[]=>⟨.skip,fun _ _=>.stop 50⟩
  |0,r::_=>r
  |n+1,_::l=>rtAt n l
def leaf (I:Alg) (T:Tab) (cfg:Cfg) (R:List Rt) (i:Nat) (p:List Nat) (st:St):Tree:=
  .code (cAt p (rtAt i R).B) st (kAt I T cfg p (rtAt i R).B (rtAt i R).K)
def zhV (I:Alg) (T:Tab) (cfg:Cfg) (c:Code) (K:AEx→St→Tree) (st:St):Tree:=
  match c with
  |.region _ ops draw=>regT I T cfg ops draw K (st.tidy cfg.keep)
  |c=>vc I T cfg c K st
def go (I:Alg) (T:Tab) (cfg:Cfg) (kn:List (Know Pr)) (R:List Rt) (i:Nat) (p:List Nat) (st:St):Tree:=
  drive (ask I kn) (zhV I T cfg (cAt p (rtAt i R).B) (kAt I T cfg p (rtAt i R).B (rtAt i R).K) st)
def cutM (cfg:Cfg) (k0:Nat) (dom:List Nat) (st:St):Option St:=St.cut cfg.fsl k0 dom (qx cfg.mv st)
def zhg (cfg:Cfg) (k0:Nat) (dom:List Nat) (A:St→Prop) (k:AEx→St→Tree):AEx→St→Tree:=fun e st=>
  match e with
  |.normal=>(match cutM cfg k0 dom st with|some s=>.need (A s) .qed|none=>.stop 19)
  |e=>k e st
def round (I:Alg) (T:Tab) (cfg:Cfg) (k0:Nat) (dom:List Nat) (A:St→Prop) (R:List Rt) (i:Nat) (p:List Nat):Rt:=
  ⟨loopBody (cAt p (rtAt i R).B),zhg cfg k0 dom A (kAt I T cfg p (rtAt i R).B (rtAt i R).K)⟩
inductive PT where
  |need (p:Prop) (t:PT)
  |br (b:Bool) (t f:PT)
  |code (i:Nat) (p:List Nat) (st:St)
  |fin (o:AOut) (hp:List HO)
  |both (t f:PT)
  |qed
  |stop (n:Nat)
def PT.inst (I:Alg) (T:Tab) (cfg:Cfg) (R:List Rt):PT→Tree
  |.need p t=>.need p (t.inst I T cfg R)
  |.br b t f=>.br b (t.inst I T cfg R) (f.inst I T cfg R)
  |.code i p st=>leaf I T cfg R i p st
  |.fin o hp=>.fin o hp
  |.both t f=>.both (t.inst I T cfg R) (f.inst I T cfg R)
  |.qed=>.qed
  |.stop n=>.stop n
theorem zh {I:Alg} {cfg:Cfg} {kn:List (Know Pr)} {R:List Rt} {i:Nat} {p:List Nat} {st:St} (pt:PT) (h:go I T cfg kn R i p st=pt.inst I T cfg R) (k:Ok Pr X G (pt.inst I T cfg R)):Ok Pr X G (go I T cfg kn R i p st):=h▸k
theorem TR {I:Alg} {cfg:Cfg} {R:List Rt} {p:Prop} {t:PT}:Ok Pr X G (PT.inst I T cfg R (.need p t))↔p∧Ok Pr X G (t.inst I T cfg R):=zgl
theorem zc9 {I:Alg} {cfg:Cfg} {R:List Rt} {b:Bool} {t f:PT}:Ok Pr X G (PT.inst I T cfg R (.br b t f))↔(b=true→Ok Pr X G (t.inst I T cfg R))∧(b=false→Ok Pr X G (f.inst I T cfg R)):=ziu
theorem TU {I:Alg} {cfg:Cfg} {R:List Rt} {t f:PT}:Ok Pr X G (PT.inst I T cfg R (.both t f))↔Ok Pr X G (t.inst I T cfg R)∧Ok Pr X G (f.inst I T cfg R):=zgm
theorem za0 {I:Alg} {cfg:Cfg} {R:List Rt} {o:AOut} {hp:List HO}:Ok Pr X G (PT.inst I T cfg R (.fin o hp))↔G o hp:=zhG
theorem zaZ {I:Alg} {cfg:Cfg} {R:List Rt}:Ok Pr X G (PT.inst I T cfg R .qed)↔True:=zhF
theorem TQ {I:Alg} {cfg:Cfg} {R:List Rt} {n:Nat}:Ok Pr X G (PT.inst I T cfg R (.stop n))↔False:=zgk
theorem TS {I:Alg} {cfg:Cfg} {R:List Rt} {i:Nat} {p:List Nat} {st:St}:Ok Pr X G (PT.inst I T cfg R (.code i p st))↔Ok Pr X G (leaf I T cfg R i p st):=Iff.rfl
def Zh (cfg:Cfg):Code→Bool
  |.region id _ _=>memN id cfg.seam
  |_=>false
theorem spcG {P:Program} {T:Tab} (hT:T.fits P) (hm:P.follows .mixedOrders=true) {f:Nat} {fn:Func} (hf:P.funcs[f]? =some fn) (hn:(fn.name == "runtime.NumGoroutine")=false) (cfg:Cfg) (kn:List (Know P)) {args:List D} {hp:List HO} {out:AOut} {hp':List HO}
    (hb:(fn.body.isSome&& !Zh cfg (xk fn)&&Nat.ble args.length fn.ntmps)=true)
    (h: ∀ (I:Alg) (X:Ctx),I=alg→X.bs0.length=hp.length→Ok P X (fun o h=>o=out∧h=hp') (go I T cfg kn [⟨xk fn,finK I T cfg hp.length fn⟩] 0 [] { env:=WC 0 args,hp:=hp,n:=fn.ntmps})):Spc P f args hp out hp':=by
  simp only [Bool.and_eq_true,Bool.not_eq_true'] at hb
  refine zbG hT hm hf hn (cfg:=cfg) hb.1.1 hb.2 fun I X hI hX=> ?_
  subst hI
  have h1:=(h alg X rfl hX).out
  have h2:=Zu (fun f=>uQ) h1
  have hs:=hb.1.2
  unfold funT
  unfold xk at h2 hs
  cases hbd:fn.body with
  |none=>rw [hbd] at hb;cases hb.1.1
  | some c=>
    rw [hbd] at h2 hs
    simp only [rtAt,cAt,kAt] at h2
    simp only at hs ⊢
    cases c<;>first|exact h2|skip
    simp only [Zh] at hs
    simp only [vc,hs]
    exact h2
theorem uF (hT:T.fits Pr) (hm:Pr.follows .mixedOrders=true) {cfg:Cfg} {c:Code} {K:AEx→St→Tree} {st:St} (h:(zhV alg T cfg c K st).ok Pr X G) (hn:Now X st a w):c.wp Pr (Post X fun e st'=>(K e st').ok Pr X G) a w:=by
  cases c with
  |region id ops draw=>exact WN hT hm h (hn.tidy cfg.keep)
  |_=>exact zal hT hm (cfg:=cfg) h hn
theorem Z8 {cfg:Cfg} {k0:Nat} (hk:X.bs0.length=k0) {dom:List Nat} {st s:St} (hc:cutM cfg k0 dom st=some s) (hn:Now X st a w):Now X s a w:=by
  obtain⟨S,K,hH,hE⟩:=hn
  obtain⟨K',h1,h2⟩:=uD cfg.mv hH hE
  exact zdU hk hc ⟨S,K',h1,h2⟩
theorem zu {I:Alg} (hI:I=alg) (hT:T.fits Pr) (hm:Pr.follows .mixedOrders=true) {cfg:Cfg} (kn:List (Know Pr)) {R:List Rt} {i:Nat} {p:List Nat} {st:St} {k0:Nat} (hk:X.bs0.length=k0) (dom:List Nat) {ι:Type} (Inv:ι→Prop) (Iv:ι→St) (μ:ι→Nat) (g0:ι)
    (hc:(match cAt p (rtAt i R).B with|.loop b=> !Zh cfg b|_=>false)=true) (h0:cutM cfg k0 dom st=some (Iv g0)) (hg0:Inv g0)
    (hr: ∀ (g:ι),Inv g→∀ (A:St→Prop),(∀ g',Inv g'→μ g'<μ g→A (Iv g'))→Ok Pr X G (go I T cfg kn (round I T cfg k0 dom A R i p::R) 0 [] (Iv g))):Ok Pr X G (leaf I T cfg R i p st):=by
  subst hI
  constructor
  unfold leaf
  intro S K a w hH hE
  obtain⟨b,hb⟩: ∃ b,cAt p (rtAt i R).B=.loop b:=by
    cases h:cAt p (rtAt i R).B<;>rw [h] at hc<;>first|exact⟨_,rfl⟩|cases hc
  rw [hb]
  refine wp_loop_ghost (fun n a w=>∃ g,Inv g∧μ g=n∧Now X (Iv g) a w) (μ g0) ⟨g0,hg0,rfl,Z8 hk h0 ⟨S,K,hH,hE⟩⟩ ?_
  rintro n a w ⟨g,hg,rfl,hn⟩
  have h1:=(hr g hg (fun s=>∃ g',Inv g'∧μ g'<μ g∧s=Iv g') (fun g' hi hl=>⟨g',hi,hl,rfl⟩)).out
  have h2:=Zu (fun f=>uQ) h1
  simp only [rtAt,cAt,kAt,round,hb,loopBody] at h2
  refine wp_mono (uF hT hm h2 hn) fun e a' w' hq=> ?_
  obtain⟨e',st',h1,S',K',hH',hE',hem⟩:=hq
  generalize kAt alg T cfg p (rtAt i R).B (rtAt i R).K=k at h1
  have keep: ∀ {e:Exit} {e':AEx},(∀ (h:e'=.normal),False)→EM S' (K'.map CO.base) e e'→(k e' st').ok Pr X G→Post X (fun e st'=>(k e st').ok Pr X G) e a' w':=fun {e e'} _ hem h=>⟨e',st',h,S',K',hH',hE',hem⟩
  cases e' with
  | normal=>
    cases e with
    | normal=>
      have h1:((match cutM cfg k0 dom st' with|some s=>Tree.need (∃ g',Inv g'∧μ g'<μ g∧s=Iv g') .qed|none=>.stop 19):Tree).ok Pr X G:=h1
      split at h1
      · rename_i s hs
        obtain⟨⟨g',hi,hlt,rfl⟩,_⟩:=h1
        exact⟨μ g',hlt,g',hi,rfl,Z8 hk hs ⟨S',K',hH',hE'⟩⟩
      · exact h1.elim
    |exit i=>exact hem.elim
    |goto l=>exact hem.elim
    |ret=>exact hem.elim
    |panic ch=>exact hem.elim
    |outgrown=>exact hem.elim
  | exit j=>cases e with
    |exit i=>exact keep (fun h=>by cases h) hem h1
    |normal=>exact hem.elim
    |goto l=>exact hem.elim
    |ret=>exact hem.elim
    |panic ch=>exact hem.elim
    |outgrown=>exact hem.elim
  | ret=>cases e with
    |ret=>exact keep (fun h=>by cases h) hem h1
    |normal=>exact hem.elim
    |goto l=>exact hem.elim
    |exit j=>exact hem.elim
    |panic ch=>exact hem.elim
    |outgrown=>exact hem.elim
  | pan c=>cases e with
    |panic ch=>exact keep (fun h=>by cases h) hem h1
    |normal=>exact hem.elim
    |goto l=>exact hem.elim
    |exit j=>exact hem.elim
    |ret=>exact hem.elim
    |outgrown=>exact hem.elim
theorem seam {I:Alg} (hI:I=alg) (hT:T.fits Pr) (hm:Pr.follows .mixedOrders=true) {cfg:Cfg} (kn:List (Know Pr)) {R:List Rt} {i:Nat} {p:List Nat} {st:St} {k0:Nat} (hk:X.bs0.length=k0) (dom:List Nat) (st1:St)
    (h0:cutM cfg k0 dom st=some st1) (hr:Ok Pr X G (go I T cfg kn R i p st1)):Ok Pr X G (leaf I T cfg R i p st):=by
  subst hI
  constructor
  intro S K a w hH hE
  exact uF hT hm (Zu (fun f=>uQ) hr.out) (Z8 hk h0 ⟨S,K,hH,hE⟩)
end
inductive AM where
  |ret
  |pan (c:C)
def MAM (S:Frz) (bs:List Value):AM→FrameMode→Prop
  |.ret,u=>u=.returning
  |.pan c,u=>∃ v,u=.panicking [{ v:=v,recovered:=false}]∧MC S bs c v
def SpcD (Pr:Program) (g:Nat) (caps:List Cap) (m:AM) (hp:List HO) (m':AM) (hp':List HO):Prop:=
  (∃ fn,Pr.funcs[g]? =some fn∧(fn.name == "runtime.NumGoroutine")=false∧fn.body.isNone=false)∧
  ∀ (S:Frz) (K:List CO) (fr:List Chunk) (w:World) (vs:List Value) (u:FrameMode),HR S (K.map CO.base) hp K→tC S (K.map CO.base) caps vs→At w (frzC S::(CO.zl K++fr))→MAM S (K.map CO.base) m u→
    CallsD Pr g vs.toArray u w fun e u' w'=>(∃ v,e=.returned v)∧∃ S' K',S.le S'∧Ext (K.map CO.base) (K'.map CO.base)∧HR S' (K'.map CO.base) hp' K'∧At w' (frzC S'::(CO.zl K'++fr))∧MAM S' (K'.map CO.base) m' (settle u')
structure Door (Pr:Program) where
  g:Nat
  c:Alg→AM→List Cap→List HO→Option (Prop × AM × List HO)
  ok: ∀ m caps hp p m' hp',c alg m caps hp=some (p,m',hp')→p→SpcD Pr g caps m hp m' hp'
def AM.out:AM→AEx
  |.ret=>.ret
  |.pan c=>.pan c
def zhH:AEx→Option AM
  |.normal=>some .ret
  |.ret=>some .ret
  |.pan c=>some (.pan c)
  |.exit _=>none
def zh2 {Pr:Program} (I:Alg) (T:Tab) (cfg:Cfg) (k0:Nat) (fn:Func) (dk:Door Pr) (e:AEx) (st:St):Tree:=
  match st.df with
  |none=>ze6 I T cfg k0 fn e st
  | some (g,caps)=>match Nat.beq g dk.g,zhH e with
    | true,some m=>(match dk.c I m caps st.hp with
      |some (p,m',hp')=>.need p (ze6 I T cfg k0 fn m'.out { st with hp:=hp',df:=none})
      |none=>.stop 91)
    |_,_=>.stop 92
section
variable {Pr:Program} {T:Tab} {a:Act} {w:World}
theorem zcj {g:Nat} {fn:Func} (hfn:Pr.funcs[g]? =some fn) (hname:(fn.name == "runtime.NumGoroutine")=false) (hbody:fn.body.isNone=false) (args:Array Value):(callFunc g args).run Pr w=.ok (.enter g args) w:=by
  have hname': ¬ fn.name= "runtime.NumGoroutine" :=by simpa using hname
  have hbody': ¬ fn.body=none:=by cases hb:fn.body with|none=>rw [hb] at hbody;cases hbody|some c=>simp
  simp [callFunc,program,hfn,Sem.run]
  rw [if_neg hname',if_neg hbody']
theorem ziq {P:Program} {T:Tab} (hT:T.fits P) (hm:P.follows .mixedOrders=true) {f:Nat} {fn:Func} (hf:P.funcs[f]? =some fn) (hn:(fn.name == "runtime.NumGoroutine")=false) (cfg:Cfg) (kn:List (Know P)) (dk:Door P) {args:List D} {hp:List HO} {out:AOut} {hp':List HO}
    (hb:(fn.body.isSome&& !Zh cfg (xk fn)&&Nat.ble args.length fn.ntmps)=true)
    (h: ∀ (I:Alg) (X:Ctx),I=alg→X.bs0.length=hp.length→Ok P X (fun o h=>o=out∧h=hp') (go I T cfg kn [⟨xk fn,zh2 I T cfg hp.length fn dk⟩] 0 [] { env:=WC 0 args,hp:=hp,n:=fn.ntmps})):Spc P f args hp out hp':=by
  simp only [Bool.and_eq_true,Bool.not_eq_true'] at hb
  obtain⟨⟨hb1,hb2⟩,hb3⟩:=hb
  obtain⟨c,hc⟩:=Option.isSome_iff_exists.1 hb1
  have hbo:xk fn=c:=by unfold xk;rw [hc]
  refine⟨⟨fn,hf,hn,by rw [hc];rfl⟩,fun S K fr w vs hHR hargs hat=> ?_⟩
  have h1:=(h alg ⟨S,K.map CO.base,fr⟩ rfl (by simp [hHR.1])).out
  have h2:=Zu (fun f=>uQ) h1
  simp only [rtAt,cAt,kAt,hbo] at h2
  have hal:=hargs.length
  have hle:=Nat.le_of_ble_eq_true hb3
  have hnow:Now ⟨S,K.map CO.base,fr⟩ { env:=WC 0 args,hp:=hp,n:=fn.ntmps} { tmps:=vs.toArray++Array.replicate (fn.ntmps - vs.toArray.size) undef,defers:=[]} w:=by
    refine⟨S,K,⟨Frz.le.refl S,Ext.refl _,hHR,hat⟩,⟨?_,rfl,fun t d hd=> ?_⟩⟩
    · simp [hal];omega
    · obtain⟨_,v,h1,h2⟩:=rC hargs hd
      simp only [Nat.sub_zero] at h1
      have hlt:=(List.getElem?_eq_some_iff.1 h1).1
      have e:(vs.toArray++Array.replicate (fn.ntmps - vs.toArray.size) undef).getD t undef=v:=by
        rw [Array.getD_eq_getD_getElem?,Array.getElem?_append_left (by simpa using hlt)]
        simp [h1]
      rw [e];exact h2
  refine calls_of_wp_defers hf hc (wp_mono (uF hT hm h2 hnow) fun e a w' hq=> ?_)
  obtain⟨e',st',hk,S',K',hH,hE,hem⟩:=hq
  have hlen:(K.map CO.base).length=hp.length:=by simp [hHR.1]
  unfold zh2 at hk
  split at hk
  · rename_i hdf
    have hd:a.defers=[]:=by have:=hE.defers;rw [hdf] at this;exact this
    have hfin:=Rj (X:=⟨S,K.map CO.base,fr⟩) hT hlen hk hH hE hem
    cases e with
    |normal=>show Leaves P fn a.tmps _ a.defers .returning w';rw [hd];exact hfin
    |ret=>show Leaves P fn a.tmps _ a.defers .returning w';rw [hd];exact hfin
    |panic ch=>show Leaves P fn a.tmps _ a.defers (.panicking ch) w';rw [hd];exact hfin
    |exit i=>exact hfin.elim
    |goto l=>exact hfin.elim
    |outgrown=>exact hfin.elim
  · rename_i g caps hdf
    split at hk
    · rename_i m hg hmo
      have hg:=Nat.eq_of_beq_eq_true hg
      split at hk
      · rename_i p m' hp2 hc2
        obtain⟨hpn,hk⟩:=hk
        have hds:=hE.defers
        rw [hdf] at hds
        obtain⟨us,hcap,hds⟩:=hds
        have hspec:=dk.ok _ _ _ _ _ _ hc2 hpn
        rw [← hg] at hspec
        obtain⟨⟨gn,hgn,hgname,hgbody⟩,hspec⟩:=hspec
        have key: ∀ u,MAM S' (K'.map CO.base) m u→u≠ .run→Leaves P fn a.tmps (fun e w'=>∃ S' K',S.le S'∧Ext (K.map CO.base) (K'.map CO.base)∧HR S' (K'.map CO.base) hp' K'∧At w' (frzC S'::(CO.zl K'++fr))∧EOut S' (K'.map CO.base) out e) a.defers u w':=by
          intro u hu hrun
          rw [hds]
          refine⟨hrun,_,_,g,us.toArray,rfl,?_,CallsD.mono (hspec S' K' fr w' us u hH.2.2.1 hcap hH.2.2.2 hu) ?_⟩
          · simp only [invoke,Array.empty_append]
            exact zcj hgn hgname hgbody _
          · rintro e2 u' w2 ⟨⟨v,rfl⟩,S2,K2,hle2,hex2,hHR2,hat2,hm2⟩
            simp only
            have hH2:Heap ⟨S,K.map CO.base,fr⟩ hp2 S2 K2 w2:=⟨hH.1.trans hle2,hH.2.1.trans hex2,hHR2,hat2⟩
            have hE2:Env S2 (K2.map CO.base) { st' with hp:=hp2,df:=none} { a with defers:=[]}:=⟨hE.size,rfl,fun t d hd=>(hE.slots t d hd).mono hle2 hex2⟩
            cases m' with
            | ret=>
              have:settle u'=.returning:=hm2
              rw [this]
              exact Rj (X:=⟨S,K.map CO.base,fr⟩) (e:=.ret) hT hlen hk hH2 hE2 trivial
            | pan c=>
              obtain⟨v2,h5,h6⟩:=hm2
              rw [h5]
              exact Rj (X:=⟨S,K.map CO.base,fr⟩) (e:=.panic _) hT hlen hk hH2 hE2 ⟨v2,rfl,h6⟩
        cases e with
        |normal=>cases e'<;>first|exact hem.elim|(cases hmo;exact key .returning rfl (by simp))
        |ret=>cases e'<;>first|exact hem.elim|(cases hmo;exact key .returning rfl (by simp))
        |panic ch=>cases e'<;>first|exact hem.elim|(cases hmo;exact key (.panicking ch) (by obtain⟨v,h1,h2⟩:=hem;exact⟨v,by rw [h1],h2⟩) (by simp))
        |exit i=>cases e'<;>first|exact hem.elim|(cases hmo;done)
        |goto l=>cases e'<;>exact hem.elim
        |outgrown=>cases e'<;>exact hem.elim
      · exact hk.elim
    · exact hk.elim
def recC:AM→C
  |.ret=>.p (.val .nilIface)
  |.pan c=>c
theorem WJ {P:Program} {T:Tab} (hT:T.fits P) (hm:P.follows .mixedOrders=true) {f:Nat} {fn:Func} (hf:P.funcs[f]? =some fn) (hn:(fn.name == "runtime.NumGoroutine")=false) (cfg:Cfg) (kn:List (Know P))
    {id t t2 ty0 ty1:Nat} {pos0 pos1:String} {af0 af1:Array Edge} {rest:Code}
    (hb:fn.body=some (.seq (.region id #[⟨some t,.call ⟨.builtin .recover,#[],#[]⟩,ty0,pos0,af0,none⟩,⟨some t2,.assign (.tmp t),ty1,pos1,af1,none⟩] false) rest))
    {m:AM} {caps:List Cap} {hp hp':List HO}
    (hbb:(Nat.blt t fn.ntmps&&Nat.blt t2 fn.ntmps&& !Nat.beq t t2&&Nat.ble caps.length fn.ntmps&& !Zh cfg rest)=true)
    (h: ∀ (I:Alg) (X:Ctx),I=alg→X.bs0.length=hp.length→Ok P X (fun o h=>o=.ret (.tup [])∧h=hp') (go I T cfg kn [⟨xk fn,finK I T cfg hp.length fn⟩] 0 [1] (({ env:=WC 0 (caps.map dP),hp:=hp,n:=fn.ntmps}:St).put (some t) (.v (.one (recC m))) |>.put (some t2) (.v (.one (recC m)))))):SpcD P f caps m hp .ret hp':=by
  simp only [Bool.and_eq_true,Bool.not_eq_true'] at hbb
  obtain⟨⟨⟨⟨ht,ht2⟩,hne⟩,hle⟩,hseam⟩:=hbb
  have ht:t<fn.ntmps:=by simpa using ht
  have ht2:t2<fn.ntmps:=by simpa using ht2
  have hne:t≠t2:=Nat.ne_of_beq_eq_false hne
  have hle:=Nat.le_of_ble_eq_true hle
  refine⟨⟨fn,hf,hn,by rw [hb];rfl⟩,fun S K fr w vs u hHR hcap hat hmode=> ?_⟩
  have h1:=(h alg ⟨S,K.map CO.base,fr⟩ rfl (by simp [hHR.1])).out
  have h2:=Zu (fun f=>uQ) h1
  have hbo:xk fn=.seq (.region id #[⟨some t,.call ⟨.builtin .recover,#[],#[]⟩,ty0,pos0,af0,none⟩,⟨some t2,.assign (.tmp t),ty1,pos1,af1,none⟩] false) rest:=by unfold xk;rw [hb]
  simp only [rtAt,hbo,cAt,kAt] at h2
  have hal:=hcap.mds.length
  rw [List.length_map] at hal
  have hlen:(K.map CO.base).length=hp.length:=by simp [hHR.1]
  refine callsD_of_wpS hf hb fun c₀ cs hu=> ?_
  obtain⟨x,u1,hrec,hx,hset⟩: ∃ x u1,(match recoverD (c₀::cs) with|some (v,cs')=>(v,cs')|none=>(.nilIface,c₀::cs))=(x,{ c₀ with mode:=u1}::cs)∧MC S (K.map CO.base) (recC m) x∧settle u1=.returning:=by
    cases m with
    | ret=>
      have hmode:u=.returning:=hmode
      subst hmode
      refine⟨.nilIface,.returning,?_,.val _ rfl,rfl⟩
      simp only [recoverD,hu]
      cases c₀;simp at hu;subst hu;rfl
    | pan c=>
      obtain⟨v,rfl,hv⟩:=hmode
      refine⟨v,.panicking [{ v:=v,recovered:=true}],?_,hv,rfl⟩
      simp [recoverD,hu]
  have hnow:Now ⟨S,K.map CO.base,fr⟩ (({ env:=WC 0 (caps.map dP),hp:=hp,n:=fn.ntmps}:St).put (some t) (.v (.one (recC m))) |>.put (some t2) (.v (.one (recC m)))) (({ tmps:=vs.toArray++Array.replicate (fn.ntmps - vs.toArray.size) undef,defers:=[]}:Act).put (some t) x |>.put (some t2) x) w:=by
    have hE0:Env S (K.map CO.base) { env:=WC 0 (caps.map dP),hp:=hp,n:=fn.ntmps} { tmps:=vs.toArray++Array.replicate (fn.ntmps - vs.toArray.size) undef,defers:=[]}:=by
      refine⟨?_,rfl,fun t d hd=> ?_⟩
      · simp [hal];omega
      · obtain⟨_,v,h1,h2⟩:=rC hcap.mds hd
        simp only [Nat.sub_zero] at h1
        have hlt:=(List.getElem?_eq_some_iff.1 h1).1
        have e:(vs.toArray++Array.replicate (fn.ntmps - vs.toArray.size) undef).getD t undef=v:=by
          rw [Array.getD_eq_getD_getElem?,Array.getElem?_append_left (by simpa using hlt)]
          simp [h1]
        rw [e];exact h2
    exact⟨S,K,by rw [wH,wH];exact⟨Frz.le.refl S,Ext.refl _,hHR,hat⟩,(hE0.put (some t) (d:=.v (.one (recC m))) hx).put (some t2) (d:=.v (.one (recC m))) hx⟩
  have hw:=uF hT hm h2 hnow
  refine wpS_seq (wpS_region ?_)
  have hsz:t<(vs.toArray++Array.replicate (fn.ntmps - vs.toArray.size) undef).size:=by simp [hal];omega
  have hev:({ tmps:=(vs.toArray++Array.replicate (fn.ntmps - vs.toArray.size) undef).setIfInBounds t x,defers:=[]}:Act).eval (.tmp t)=x:=by
    simp only [Act.eval]
    rw [Array.getD_eq_getD_getElem?,Array.getElem?_setIfInBounds_self_of_lt hsz];rfl
  have hgoal:rest.wpS P (bodyPostS P fn c₀ cs fun e u' w'=>(∃ v,e=.returned v)∧∃ S' K',S.le S'∧Ext (K.map CO.base) (K'.map CO.base)∧HR S' (K'.map CO.base) hp' K'∧At w' (frzC S'::(CO.zl K'++fr))∧MAM S' (K'.map CO.base) .ret (settle u'))
      (({ tmps:=vs.toArray++Array.replicate (fn.ntmps - vs.toArray.size) undef,defers:=[]}:Act).put (some t) x |>.put (some t2) x) ({ c₀ with mode:=u1}::cs) w:=by
    refine wpS_of_wp (wp_mono hw fun e a' w' hq=> ?_)
    obtain⟨e',st',hk,S',K',hH,hE,hem⟩:=hq
    unfold finK at hk
    split at hk
    case h_2=>exact hk.elim
    rename_i hdf
    have hd:a'.defers=[]:=by have:=hE.defers;rw [hdf] at this;exact this
    have hfin:=Rj (X:=⟨S,K.map CO.base,fr⟩) hT hlen hk hH hE hem
    cases e with
    |normal=>obtain⟨v,hv,S2,K2,h5,h6,h7,h8,_⟩:=hfin;exact⟨hd,u1,rfl,v,hv,⟨v,rfl⟩,S2,K2,h5,h6,h7,h8,hset⟩
    |ret=>obtain⟨v,hv,S2,K2,h5,h6,h7,h8,_⟩:=hfin;exact⟨hd,u1,rfl,v,hv,⟨v,rfl⟩,S2,K2,h5,h6,h7,h8,hset⟩
    |panic ch=>obtain⟨S2,K2,h5,h6,h7,h8,h9⟩:=hfin;exact h9.elim
    |exit i=>exact hfin.elim
    |goto l=>exact hfin.elim
    |outgrown=>exact hfin.elim
  clear hnow hw
  generalize vs.toArray++Array.replicate (fn.ntmps - vs.toArray.size) undef=tm at hev hgoal hsz ⊢
  have hr0: ∀ (a:Act),(execOp a.eval ⟨some t,.call ⟨.builtin .recover,#[],#[]⟩,ty0,pos0,af0,none⟩).run P w=.ok .recover w:=by
    intro a;simp [execOp,Go.resolve,invoke,builtin]
  simp only [List.size_toArray,List.length_cons,List.length_nil,Nat.zero_add,Nat.reduceAdd,List.range_succ_eq_map,List.range_zero,List.map_cons,List.map_nil]
  simp only [wpOpsS,List.getElem?_toArray,List.getElem?_cons_zero,List.getElem?_cons_succ,Region.wanted,if_true,hr0]
  cases hq:recoverD (c₀::cs) with
  | none=>
    rw [hq] at hrec
    simp only [Prod.mk.injEq] at hrec
    obtain⟨rfl,hcs⟩:=hrec
    simp only [Act.put,execOp,Sem.run_pure,hev,Oper.upon,Exit.thenS]
    rw [hcs]
    exact hgoal
  | some y=>
    obtain⟨y,cs'⟩:=y
    rw [hq] at hrec
    simp only [Prod.mk.injEq] at hrec
    obtain⟨rfl,rfl⟩:=hrec
    simp only [Act.put,execOp,Sem.run_pure,hev,Oper.upon,Exit.thenS]
    exact hgoal
end
theorem nrmA:type_of% (And.intro @zaj <| And.intro @zef <| And.intro @xW <| And.intro @uS <| And.intro @zae <| And.intro @zad <| And.intro @zee <| And.intro @zbB <| And.intro @UL <| And.intro @UM <| And.intro @UN <| And.intro @UO <| And.intro @Yc <| And.intro @uX <| And.intro @Ws <| And.intro @zai <| And.intro @Wp <| And.intro @zL <| And.intro @Yd <| And.intro @xN <| And.intro @UQ <| And.intro @zac <| And.intro @Wq <| And.intro @zaf <| And.intro @uU <| And.intro @ZG <| And.intro @uT <| And.intro @uV <| And.intro @UK <| And.intro @Yb <| And.intro @zah <| And.intro @zed <| And.intro @zec <| @zbC):=And.intro @zaj <| And.intro @zef <| And.intro @xW <| And.intro @uS <| And.intro @zae <| And.intro @zad <| And.intro @zee <| And.intro @zbB <| And.intro @UL <| And.intro @UM <| And.intro @UN <| And.intro @UO <| And.intro @Yc <| And.intro @uX <| And.intro @Ws <| And.intro @zai <| And.intro @Wp <| And.intro @zL <| And.intro @Yd <| And.intro @xN <| And.intro @UQ <| And.intro @zac <| And.intro @Wq <| And.intro @zaf <| And.intro @uU <| And.intro @ZG <| And.intro @uT <| And.intro @uV <| And.intro @UK <| And.intro @Yb <| And.intro @zah <| And.intro @zed <| And.intro @zec <| @zbC
theorem nrmB:type_of% (And.intro @decide_eq_true_eq <| And.intro @decide_eq_false_iff_not <| And.intro @beq_iff_eq.{0} <| And.intro @beq_eq_false_iff_ne.{0} <| And.intro @Bool.not_eq_true' <| And.intro @Bool.not_eq_false' <| And.intro @Bool.and_eq_true <| And.intro @Bool.and_true <| And.intro @Bool.true_and <| And.intro @and_true <| And.intro @true_and <| And.intro @ne_eq.{1} <| And.intro @Int.toNat_zero <| And.intro @Nat.sub_zero <| And.intro @List.drop_zero.{0} <| And.intro @zdd <| And.intro @zde <| And.intro @zfl <| And.intro @zfm <| And.intro @Tn <| And.intro @xg <| And.intro @Int.toNat_natCast <| And.intro @Int.ofNat_eq_natCast <| And.intro @UInt8.ofNat_toNat <| And.intro @AOut.ret.injEq <| And.intro @AOut.pan.injEq <| And.intro @C.ifc.injEq <| And.intro @D.v.injEq <| And.intro @D.tup.injEq <| And.intro @V0.one.injEq <| And.intro @C.p.injEq <| And.intro @P.bool.injEq <| And.intro @P.int.injEq <| And.intro @P.str.injEq <| And.intro @Bool.false_eq_true <| And.intro @Bool.true_eq_false <| And.intro @imp_false <| And.intro @Decidable.not_not <| And.intro @not_true_eq_false <| @not_false_eq_true):=And.intro @decide_eq_true_eq <| And.intro @decide_eq_false_iff_not <| And.intro @beq_iff_eq.{0} <| And.intro @beq_eq_false_iff_ne.{0} <| And.intro @Bool.not_eq_true' <| And.intro @Bool.not_eq_false' <| And.intro @Bool.and_eq_true <| And.intro @Bool.and_true <| And.intro @Bool.true_and <| And.intro @and_true <| And.intro @true_and <| And.intro @ne_eq.{1} <| And.intro @Int.toNat_zero <| And.intro @Nat.sub_zero <| And.intro @List.drop_zero.{0} <| And.intro @zdd <| And.intro @zde <| And.intro @zfl <| And.intro @zfm <| And.intro @Tn <| And.intro @xg <| And.intro @Int.toNat_natCast <| And.intro @Int.ofNat_eq_natCast <| And.intro @UInt8.ofNat_toNat <| And.intro @AOut.ret.injEq <| And.intro @AOut.pan.injEq <| And.intro @C.ifc.injEq <| And.intro @D.v.injEq <| And.intro @D.tup.injEq <| And.intro @V0.one.injEq <| And.intro @C.p.injEq <| And.intro @P.bool.injEq <| And.intro @P.int.injEq <| And.intro @P.str.injEq <| And.intro @Bool.false_eq_true <| And.intro @Bool.true_eq_false <| And.intro @imp_false <| And.intro @Decidable.not_not <| And.intro @not_true_eq_false <| @not_false_eq_true
theorem nrlB:type_of% (And.intro @List.cons.injEq.{0} <| And.intro @P.list.injEq <| And.intro @HO.row.injEq <| And.intro @heq_eq_eq.{1} <| And.intro @false_and <| @and_false):=And.intro @List.cons.injEq.{0} <| And.intro @P.list.injEq <| And.intro @HO.row.injEq <| And.intro @heq_eq_eq.{1} <| And.intro @false_and <| @and_false
theorem zq:type_of% (And.intro @TR <| And.intro @zc9 <| And.intro @TU <| And.intro @za0 <| And.intro @zaZ <| And.intro @TQ <| @TS):=And.intro @TR <| And.intro @zc9 <| And.intro @TU <| And.intro @za0 <| And.intro @zaZ <| And.intro @TQ <| @TS
end Go.Ab
namespace Go.Ab
open Go Go.Sep Go.RowKit
variable [Facts]
def Holds (W:World):Prop:=∀ w:World,(∀ (k:Nat) (o:Obj),W.heap[k]? =some o→w.heap[k]? =some o)→Facts.p w
def frzW (W:World) (hF:Holds W):Frz:=⟨fun k=>W.heap[k]?,W.os,W.tape,W.output,fun w hw=>hF w hw.2.2.2⟩
theorem zgG (W:World) (hF:Holds W):At W [frzC (frzW W hF)]:=
  ⟨fun k=>(W.heap[k]?).isSome=true,fun k=>(W.heap[k]?).isSome=true,fun _=>False,fun k=>by simp,fun _ _ h=>h,⟨fun _=>Iff.rfl,rfl,rfl,rfl,fun _ _ h=>h⟩,fun _ h=>h⟩
theorem Vk {W w:World} {hF:Holds W} (h:(frzW W hF).on w):Below W.heap.size W w:=by
  obtain⟨h1,h2,h3,h4⟩:=h
  have hb: ∀ k,k<W.heap.size→w.heap[k]? =W.heap[k]? :=fun k hk=>by
    have:W.heap[k]? =some W.heap[k]:=by simp [hk]
    rw [h4 k _ this,this]
  refine⟨h1,h2,h3,?_,hb⟩
  rcases Nat.lt_or_ge w.heap.size W.heap.size with hlt|hge
  · have:=hb w.heap.size hlt
    simp at this
    omega
  · exact hge
theorem zgF {W:World} {hF:Holds W} {size:Nat} {v:Value} {n:Nat} {cs:List Value} (h:Rd W size v n cs):RdS (frzW W hF) size v n cs:=by
  intro w hw
  obtain⟨ao,cap,e,h1,h2,h4,h3,hc⟩:=h
  refine⟨ao,cap,e,h1,h2,h4,h3,fun j u hu=> ?_⟩
  obtain⟨hs,hcell⟩:=hc j u hu
  exact⟨hs,((Vk hw).cell (block_lt hcell)).trans hcell⟩
theorem Spc.law {Pr:Program} {f:Nat} {args:List D} {hp':List HO} {W:World} {hF:Holds W} {vs:List Value} (h:Spc Pr f args [] (.ret (.v (.one (.p (.bool true))))) hp') (ha:MDs (frzW W hF) [] args vs):
    Calls Pr f vs.toArray W fun e w'=>e=.returned (.bool true)∧Below W.heap.size W w':=by
  refine(h.2 (frzW W hF) [] [] W vs ⟨rfl,fun i o c h=>by simp at h⟩ ha (zgG W hF)).mono fun e w' he=> ?_
  obtain⟨S',K',hle,_,_,hat,ho⟩:=he
  refine⟨?_,Vk ((At.frz hat).mono hle)⟩
  cases e with
  |returned v=>cases ho;rfl
  |panicked ch=>exact ho.elim
  |outgrown=>exact ho.elim
theorem zgx {W:World} {hF:Holds W} {v:Value} {u:U} {R:Sep.Rel u.den} (hR: ∀ cs x,R W cs x→MPs (frzW W hF) (enc alg u x) cs) {xs:List u.den} (h:RSl u.size R W [v] xs):MD (frzW W hF) [] (.v (.one (.p (.list u xs)))) v:=by
  obtain⟨v',vs,e,hr,hx⟩:=h
  cases e
  have hlen:=hr.len
  obtain⟨ao,cap,rfl,_⟩:=id hr
  refine MP.list u xs ao cap vs hlen (zgF hr) fun i x j p v hi hj hv=> ?_
  have hm:=hR _ _ (hx i x hi)
  obtain⟨v',h1,h2⟩:=hm.get hj
  rw [List.getElem?_take] at h1
  split at h1
  · rw [List.getElem?_drop,hv] at h1
    cases h1;exact h2
  · cases h1
end Go.Ab
namespace Go.Proofs.YtknaogelmckimaaDoor
open Go Go.Ab
def lnS (l:Ln):HO:=.pack [.obj 106 [.row 1,.p (.bool l.cr),.p (.int .i64 l.code)],.row .byte 5 l.b]
def skO (m:Str) (n:Int) (bs:List Int):HO:=.pack [.obj 84 [.row 1,.row 2,.p (.int .i64 n)],.row .byte 5 m,.row .int 3 bs]
def fmS:Fm→List HO
  |⟨m,n,bs,p,none,f,pa,sk,co,out⟩=>[.obj 55 [.ptr 1 0,.p (.int .i64 p),.p (.val (.pointer none)),.row 2,.p (.int .i64 pa),.p (.int .i64 sk),.p (.int .i64 co),.row 3],skO m n bs,.row .fld 67 f,.row .evt 63 out]
  |⟨m,n,bs,p,some l,f,pa,sk,co,out⟩=>[.obj 55 [.ptr 1 0,.p (.int .i64 p),.ptr 2 0,.row 3,.p (.int .i64 pa),.p (.int .i64 sk),.p (.int .i64 co),.row 4],skO m n bs,lnS l,.row .fld 67 f,.row .evt 63 out]
def shapes:Gh→List HO
  |.fm f=>fmS f
  |_=>[]
def lnU:HO→Option Ln
  |.pack [.obj t [.row 1,.p (.bool cr),.p (.int .i64 co)],.row .byte e b]=>match Nat.beq t 106,Nat.beq e 5 with|true,true=>some ⟨b,cr,co⟩|_,_=>none
  |_=>none
theorem zhK {o:HO} {l:Ln} (h:lnU o=some l):o=lnS l:=by
  unfold lnU at h
  split at h
  · split at h
    · rename_i h1 h2;cases h;rw [Nat.eq_of_beq_eq_true h1,Nat.eq_of_beq_eq_true h2];rfl
    · cases h
  · cases h
def evU:HO→Option (List Evt)
  |.row .evt e l=>match Nat.beq e 63 with|true=>some l|false=>none
  |_=>none
theorem zfI {o:HO} {l:List Evt} (h:evU o=some l):o=.row .evt 63 l:=by
  unfold evU at h
  split at h
  · split at h
    · rename_i h1;cases h;rw [Nat.eq_of_beq_eq_true h1]
    · cases h
  · cases h
def flU:HO→Option (List Fld)
  |.row .fld e l=>match Nat.beq e 67 with|true=>some l|false=>none
  |_=>none
theorem zfG {o:HO} {l:List Fld} (h:flU o=some l):o=.row .fld 67 l:=by
  unfold flU at h
  split at h
  · split at h
    · rename_i h1;cases h;rw [Nat.eq_of_beq_eq_true h1]
    · cases h
  · cases h
def skU:HO→Option (Str × Int × List Int)
  |.pack [.obj t [.row 1,.row 2,.p (.int .i64 n)],.row .byte e m,.row .int e2 bs]=>match Nat.beq t 84,Nat.beq e 5,Nat.beq e2 3 with|true,true,true=>some (m,n,bs)|_,_,_=>none
  |_=>none
theorem zfo {o:HO} {x:Str × Int × List Int} (h:skU o=some x):o=skO x.1 x.2.1 x.2.2:=by
  unfold skU at h
  split at h
  · split at h
    · rename_i h1 h2 h3;cases h;rw [Nat.eq_of_beq_eq_true h1,Nat.eq_of_beq_eq_true h2,Nat.eq_of_beq_eq_true h3];rfl
    · cases h
  · cases h
def fmU:List HO→Option Fm
  | .obj t [.ptr 1 0,.p (.int .i64 p),.p (.val (.pointer none)),.row 2,.p (.int .i64 pa),.p (.int .i64 sk),.p (.int .i64 co),.row 3]::r=>(match Nat.beq t 55,r with
    |true,[a,b,c]=>(match skU a,flU b,evU c with|some x,some f,some out=>some ⟨x.1,x.2.1,x.2.2,p,none,f,pa,sk,co,out⟩|_,_,_=>none)
    |_,_=>none)
  | .obj t [.ptr 1 0,.p (.int .i64 p),.ptr 2 0,.row 3,.p (.int .i64 pa),.p (.int .i64 sk),.p (.int .i64 co),.row 4]::r=>(match Nat.beq t 55,r with
    |true,[a,l,b,c]=>(match skU a,lnU l,flU b,evU c with|some x,some ln,some f,some out=>some ⟨x.1,x.2.1,x.2.2,p,some ln,f,pa,sk,co,out⟩|_,_,_,_=>none)
    |_,_=>none)
  |_=>none
theorem zhX {l:List HO} {q:Fm} (h:fmU l=some q):l=fmS q:=by
  unfold fmU at h
  split at h
  · split at h
    · rename_i h1;split at h
      · rename_i h2 h3 h4;cases h;rw [Nat.eq_of_beq_eq_true h1,zfo h2,zfG h3,zfI h4];rfl
      · cases h
    · cases h
  · split at h
    · rename_i h1;split at h
      · rename_i h2 h5 h3 h4;cases h;rw [Nat.eq_of_beq_eq_true h1,zfo h2,zhK h5,zfG h3,zfI h4];rfl
      · cases h
    · cases h
  · cases h
def shapeOf (l:List HO):Option Gh:=match fmU l with|some f=>some (.fm f)|none=>none
theorem zbI (l:List HO) (g:Gh) (h:shapeOf l=some g):shapes g=l:=by
  unfold shapeOf at h
  split at h
  · rename_i q hq;cases h;exact(zhX hq).symm
  · cases h
end Go.Proofs.YtknaogelmckimaaDoor
namespace Go.Proofs.YtknaogelmckimaaDoor
open Go Go.Ab
instance facts:Facts:= { p:=fun w=>True,sh:=shapes,ab:=shapeOf,abok:=zbI}
def tabT:TT:=
 (.node (.node (.node (.node (.node (.node (.node (.node .nil 0 ⟨.other,1,0,none,none⟩
 .nil) 1 ⟨.other,1,8,(some [.val .nilFunc]),none⟩
 .nil) 2 ⟨.int .i64,1,8,(some [.int .i64 0]),none⟩
 (.node .nil 3 ⟨.int .i64,1,8,(some [.int .i64 0]),none⟩
 .nil)) 4 ⟨.bool,1,1,(some [.bool false]),none⟩
 (.node (.node .nil 5 ⟨.int .u8,1,1,(some [.int .u8 0]),none⟩
 .nil) 6 ⟨.int .u8,1,1,(some [.int .u8 0]),none⟩
 (.node .nil 9 ⟨.str,1,16,(some [.str []]),none⟩
 .nil))) 10 ⟨.str,1,16,(some [.str []]),none⟩
 (.node (.node (.node (.node .nil 11 ⟨.str,1,16,(some [.str []]),none⟩
 .nil) 12 ⟨.int .u64,1,8,(some [.int .u64 0]),none⟩
 .nil) 15 ⟨.ptr,1,8,(some [.val (.pointer none)]),none⟩
 (.node .nil 16 ⟨.ptr,1,8,(some [.val (.pointer none)]),none⟩
 .nil)) 17 ⟨.ptr,1,8,(some [.val (.pointer none)]),none⟩
 (.node (.node .nil 20 ⟨.iface,1,16,(some [.val .nilIface]),none⟩
 .nil) 21 ⟨.int .i32,1,4,(some [.int .i32 0]),none⟩
 (.node .nil 22 ⟨.slice 5,1,24,(some [.list .byte []]),(some .byte)⟩
 .nil)))) 23 ⟨.slice 3,1,24,(some [.list .int []]),(some .int)⟩
 (.node (.node (.node (.node (.node .nil 24 ⟨.other,1,8,(some [.val .nilFunc]),none⟩
 .nil) 25 ⟨.ptr,1,8,(some [.val (.pointer none)]),none⟩
 .nil) 26 ⟨.other,1,0,none,none⟩
 (.node .nil 27 ⟨.other,1,8,(some [.val .nilFunc]),none⟩
 .nil)) 28 ⟨.slice 63,1,24,(some [.list .evt []]),(some .evt)⟩
 (.node (.node .nil 29 ⟨.slice 22,1,24,(some [.list .bytes []]),(some .bytes)⟩
 .nil) 30 ⟨.other,1,8,(some [.val .nilFunc]),none⟩
 (.node .nil 31 ⟨.other,1,8,(some [.val .nilFunc]),none⟩
 .nil))) 32 ⟨.other,1,8,(some [.val .nilFunc]),none⟩
 (.node (.node (.node (.node .nil 33 ⟨.other,1,8,(some [.val .nilFunc]),none⟩
 .nil) 34 ⟨.other,1,8,(some [.val .nilFunc]),none⟩
 .nil) 35 ⟨.other,1,8,(some [.val .nilFunc]),none⟩
 (.node .nil 36 ⟨.slice 67,1,24,(some [.list .fld []]),(some .fld)⟩
 .nil)) 37 ⟨.other,1,8,(some [.val .nilFunc]),none⟩
 (.node (.node .nil 38 ⟨.struct [(0,9),(1,9),(2,9),(3,22)],4,72,(some [.str [],.str [],.str [],.list .byte []]),none⟩
 .nil) 39 ⟨.struct [(0,9),(1,9),(2,9),(3,22)],4,72,(some [.str [],.str [],.str [],.nl []]),none⟩
 (.node .nil 40 ⟨.other,1,0,none,none⟩
 .nil))))) 41 ⟨.other,1,8,(some [.val .nilFunc]),none⟩
 (.node (.node (.node (.node (.node (.node .nil 42 ⟨.other,1,8,(some [.val .nilFunc]),none⟩
 .nil) 43 ⟨.other,1,8,(some [.val .nilFunc]),none⟩
 .nil) 44 ⟨.other,1,8,(some [.val .nilFunc]),none⟩
 (.node .nil 45 ⟨.slice 9,1,24,(some [.list .str []]),(some .str)⟩
 .nil)) 46 ⟨.other,1,8,(some [.val .nilFunc]),none⟩
 (.node (.node .nil 47 ⟨.other,1,8,(some [.val .nilFunc]),none⟩
 .nil) 48 ⟨.slice 39,1,24,(some [.list .prt []]),(some .prt)⟩
 (.node .nil 49 ⟨.other,1,0,none,none⟩
 .nil))) 50 ⟨.other,1,8,(some [.val .nilFunc]),none⟩
 (.node (.node (.node (.node .nil 51 ⟨.ptr,1,8,(some [.val (.pointer none)]),none⟩
 .nil) 52 ⟨.other,1,8,(some [.val .nilFunc]),none⟩
 .nil) 53 ⟨.ptr,1,8,(some [.val (.pointer none)]),none⟩
 (.node .nil 54 ⟨.struct [(0,51),(1,3),(2,53),(3,36),(4,3),(5,3),(6,3),(7,28)],8,96,(some [.val (.pointer none),.int .i64 0,.val (.pointer none),.list .fld [],.int .i64 0,.int .i64 0,.int .i64 0,.list .evt []]),none⟩
 .nil)) 55 ⟨.struct [(0,51),(1,3),(2,53),(3,36),(4,3),(5,3),(6,3),(7,28)],8,96,(some [.val (.pointer none),.int .i64 0,.val (.pointer none),.list .fld [],.int .i64 0,.int .i64 0,.int .i64 0,.list .evt []]),none⟩
 (.node (.node .nil 56 ⟨.other,1,0,none,none⟩
 .nil) 57 ⟨.other,1,8,(some [.val .nilFunc]),none⟩
 (.node .nil 58 ⟨.int .u64,1,8,(some [.int .u64 0]),none⟩
 .nil)))) 59 ⟨.other,1,8,(some [.val .nilFunc]),none⟩
 (.node (.node (.node (.node (.node .nil 60 ⟨.struct [(0,9),(1,9),(2,3),(3,36),(4,3)],5,72,(some [.str [],.str [],.int .i64 0,.list .fld [],.int .i64 0]),none⟩
 .nil) 61 ⟨.struct [(0,9),(1,9),(2,3),(3,36),(4,3)],5,72,(some [.str [],.str [],.int .i64 0,.list .fld [],.int .i64 0]),none⟩
 .nil) 62 ⟨.struct [(0,3),(1,61),(6,22),(7,39),(11,3)],12,184,(some [.int .i64 0,.str [],.str [],.int .i64 0,.list .fld [],.int .i64 0,.list .byte [],.str [],.str [],.str [],.nl [],.int .i64 0]),none⟩
 (.node .nil 63 ⟨.struct [(0,3),(1,61),(6,22),(7,39),(11,3)],12,184,(some [.int .i64 0,.str [],.str [],.int .i64 0,.list .fld [],.int .i64 0,.list .byte [],.str [],.str [],.str [],.nl [],.int .i64 0]),none⟩
 .nil)) 64 ⟨.other,1,8,(some [.val .nilFunc]),none⟩
 (.node (.node .nil 65 ⟨.other,1,8,(some [.val .nilFunc]),none⟩
 .nil) 66 ⟨.struct [(0,9),(1,9)],2,32,(some [.str [],.str []]),none⟩
 (.node .nil 67 ⟨.struct [(0,9),(1,9)],2,32,(some [.str [],.str []]),none⟩
 .nil))) 68 ⟨.other,1,0,none,none⟩
 (.node (.node (.node (.node .nil 69 ⟨.other,1,8,(some [.val .nilFunc]),none⟩
 .nil) 70 ⟨.slice 98,1,24,(some [.list .fld []]),(some .fld)⟩
 .nil) 71 ⟨.struct [(0,9),(1,70)],2,40,(some [.str [],.list .fld []]),none⟩
 (.node .nil 72 ⟨.struct [(0,9),(1,70)],2,40,(some [.str [],.list .fld []]),none⟩
 .nil)) 73 ⟨.other,1,0,none,none⟩
 (.node (.node .nil 74 ⟨.other,1,8,(some [.val .nilFunc]),none⟩
 .nil) 75 ⟨.other,1,0,none,none⟩
 (.node .nil 76 ⟨.other,1,8,(some [.val .nilFunc]),none⟩
 .nil)))))) 77 ⟨.other,1,8,(some [.val .nilFunc]),none⟩
 (.node (.node (.node (.node (.node (.node (.node .nil 78 ⟨.other,1,8,(some [.val .nilFunc]),none⟩
 .nil) 79 ⟨.other,1,8,(some [.val .nilFunc]),none⟩
 .nil) 80 ⟨.other,1,8,(some [.val .nilFunc]),none⟩
 (.node .nil 81 ⟨.ptr,1,8,(some [.val (.pointer none)]),none⟩
 .nil)) 82 ⟨.other,1,8,(some [.val .nilFunc]),none⟩
 (.node (.node .nil 83 ⟨.struct [(0,22),(1,23),(2,3)],3,56,(some [.list .byte [],.list .int [],.int .i64 0]),none⟩
 .nil) 84 ⟨.struct [(0,22),(1,23),(2,3)],3,56,(some [.list .byte [],.list .int [],.int .i64 0]),none⟩
 (.node .nil 85 ⟨.other,1,8,(some [.val .nilFunc]),none⟩
 .nil))) 86 ⟨.other,1,8,(some [.val .nilFunc]),none⟩
 (.node (.node (.node (.node .nil 87 ⟨.other,1,0,none,none⟩
 .nil) 88 ⟨.other,1,8,(some [.val .nilFunc]),none⟩
 .nil) 89 ⟨.other,1,8,(some [.val .nilFunc]),none⟩
 (.node .nil 90 ⟨.other,1,8,(some [.val .nilFunc]),none⟩
 .nil)) 91 ⟨.int .i64,1,8,(some [.int .i64 0]),none⟩
 (.node (.node .nil 92 ⟨.other,1,0,none,none⟩
 .nil) 93 ⟨.ptr,1,8,(some [.val (.pointer none)]),none⟩
 (.node .nil 94 ⟨.struct [(0,9)],1,16,(some [.str []]),none⟩
 .nil)))) 95 ⟨.struct [(0,9)],1,16,(some [.str []]),none⟩
 (.node (.node (.node (.node (.node .nil 96 ⟨.other,1,8,(some [.val .nilFunc]),none⟩
 .nil) 97 ⟨.other,1,8,(some [.val .nilFunc]),none⟩
 .nil) 98 ⟨.struct [(0,9),(1,9)],2,32,(some [.str [],.str []]),none⟩
 (.node .nil 99 ⟨.other,1,8,(some [.val .nilFunc]),none⟩
 .nil)) 100 ⟨.other,1,8,(some [.val .nilFunc]),none⟩
 (.node (.node .nil 101 ⟨.other,1,8,(some [.val .nilFunc]),none⟩
 .nil) 102 ⟨.other,1,8,(some [.val .nilFunc]),none⟩
 (.node .nil 103 ⟨.other,1,8,(some [.val .nilFunc]),none⟩
 .nil))) 104 ⟨.other,1,8,(some [.val .nilFunc]),none⟩
 (.node (.node (.node (.node .nil 105 ⟨.struct [(0,22),(1,4),(2,3)],3,40,(some [.list .byte [],.bool false,.int .i64 0]),none⟩
 .nil) 106 ⟨.struct [(0,22),(1,4),(2,3)],3,40,(some [.list .byte [],.bool false,.int .i64 0]),none⟩
 .nil) 107 ⟨.other,1,8,(some [.val .nilFunc]),none⟩
 (.node .nil 108 ⟨.other,1,0,none,none⟩
 .nil)) 109 ⟨.other,1,8,(some [.val .nilFunc]),none⟩
 (.node (.node .nil 110 ⟨.other,1,8,(some [.val .nilFunc]),none⟩
 .nil) 111 ⟨.other,1,8,(some [.val .nilFunc]),none⟩
 (.node .nil 112 ⟨.other,1,8,(some [.val .nilFunc]),none⟩
 .nil))))) 113 ⟨.other,1,8,(some [.val .nilFunc]),none⟩
 (.node (.node (.node (.node (.node (.node .nil 114 ⟨.other,1,8,(some [.val .nilFunc]),none⟩
 .nil) 115 ⟨.array 256 4,256,256,none,none⟩
 .nil) 116 ⟨.array 256 4,256,256,none,none⟩
 (.node .nil 117 ⟨.other,1,0,none,none⟩
 .nil)) 118 ⟨.other,1,8,(some [.val .nilFunc]),none⟩
 (.node (.node .nil 119 ⟨.other,1,8,(some [.val .nilFunc]),none⟩
 .nil) 120 ⟨.ptr,1,8,(some [.val (.pointer none)]),none⟩
 (.node .nil 121 ⟨.other,1,0,none,none⟩
 .nil))) 122 ⟨.other,1,8,(some [.val .nilFunc]),none⟩
 (.node (.node (.node (.node .nil 123 ⟨.other,1,8,(some [.val .nilFunc]),none⟩
 .nil) 124 ⟨.other,1,0,none,none⟩
 .nil) 125 ⟨.other,1,8,(some [.val .nilFunc]),none⟩
 (.node .nil 126 ⟨.other,1,8,(some [.val .nilFunc]),none⟩
 .nil)) 127 ⟨.other,1,8,(some [.val .nilFunc]),none⟩
 (.node (.node .nil 128 ⟨.other,1,8,(some [.val .nilFunc]),none⟩
 .nil) 129 ⟨.other,1,8,(some [.val .nilFunc]),none⟩
 (.node .nil 130 ⟨.array 256 5,256,256,none,none⟩
 .nil)))) 131 ⟨.struct [(0,5),(1,5)],2,2,(some [.int .u8 0,.int .u8 0]),none⟩
 (.node (.node (.node (.node (.node .nil 132 ⟨.struct [(0,5),(1,5)],2,2,(some [.int .u8 0,.int .u8 0]),none⟩
 .nil) 133 ⟨.array 16 132,32,32,(some [.int .u8 0,.int .u8 0,.int .u8 0,.int .u8 0,.int .u8 0,.int .u8 0,.int .u8 0,.int .u8 0,.int .u8 0,.int .u8 0,.int .u8 0,.int .u8 0,.int .u8 0,.int .u8 0,.int .u8 0,.int .u8 0,.int .u8 0,.int .u8 0,.int .u8 0,.int .u8 0,.int .u8 0,.int .u8 0,.int .u8 0,.int .u8 0,.int .u8 0,.int .u8 0,.int .u8 0,.int .u8 0,.int .u8 0,.int .u8 0,.int .u8 0,.int .u8 0]),none⟩
 .nil) 134 ⟨.other,1,8,(some [.val .nilFunc]),none⟩
 (.node .nil 135 ⟨.other,1,8,(some [.val .nilFunc]),none⟩
 .nil)) 136 ⟨.int .u32,1,4,(some [.int .u32 0]),none⟩
 (.node (.node .nil 137 ⟨.other,1,0,none,none⟩
 .nil) 138 ⟨.other,1,8,(some [.val .nilFunc]),none⟩
 (.node .nil 141 ⟨.array 0 16,0,0,(some []),none⟩
 .nil))) 144 ⟨.int .u8,1,1,(some [.int .u8 0]),none⟩
 (.node (.node (.node (.node .nil 145 ⟨.int .u8,1,1,(some [.int .u8 0]),none⟩
 .nil) 146 ⟨.other,1,8,(some [.val .nilFunc]),none⟩
 .nil) 147 ⟨.ptr,1,8,(some [.val (.pointer none)]),none⟩
 (.node .nil 148 ⟨.int .i32,1,4,(some [.int .i32 0]),none⟩
 .nil)) 149 ⟨.int .i32,1,4,(some [.int .i32 0]),none⟩
 (.node (.node .nil 150 ⟨.struct [(0,12),(1,12),(2,136),(3,144),(4,5),(5,5),(6,145),(7,146),(8,147),(9,148),(10,149)],11,48,(some [.int .u64 0,.int .u64 0,.int .u32 0,.int .u8 0,.int .u8 0,.int .u8 0,.int .u8 0,.val .nilFunc,.val (.pointer none),.int .i32 0,.int .i32 0]),none⟩
 .nil) 151 ⟨.struct [(0,12),(1,12),(2,136),(3,144),(4,5),(5,5),(6,145),(7,146),(8,147),(9,148),(10,149)],11,48,(some [.int .u64 0,.int .u64 0,.int .u32 0,.int .u8 0,.int .u8 0,.int .u8 0,.int .u8 0,.val .nilFunc,.val (.pointer none),.int .i32 0,.int .i32 0]),none⟩
 (.node .nil 152 ⟨.other,1,8,none,none⟩
 .nil)))))))
def tab:Tab:=tabT.get
theorem zk:tab.fits Tryd.prog:=Tab.zgR (by kernel_rfl)
theorem mixed:Tryd.prog.follows .mixedOrders=true:=by kernel_rfl
end Go.Proofs.YtknaogelmckimaaDoor
namespace Go.Proofs.YtknaogelmckimaaDoor
open Go Go.Sep Go.Ab
def hd0:Hd:=⟨[],[],0,[],0⟩
def prt0:Prt:=⟨[],[],[],[]⟩
def evB (b:Str):Evt:=⟨2,hd0,b,prt0,0⟩
def evE:Evt:=⟨3,hd0,[],prt0,0⟩
def evF (c:Int):Evt:=⟨4,hd0,[],prt0,c⟩
def ZP (out:List Evt) (e:Evt):List Evt:=
  match out.getLast? with
  |some x=>if e.kind=2∧x.kind=2 then out.dropLast++[evB (x.bytes++e.bytes)] else out++[e]
  |none=>out++[e]
def yU (l:List Evt):List Evt:=l.foldl ZP []
theorem wO (z:List Evt) (x e:Evt):ZP (z++[x]) e=if e.kind=2∧x.kind=2 then z++[evB (x.bytes++e.bytes)] else z++[x]++[e]:=by
  unfold ZP
  simp
theorem tY (e:Evt):ZP [] e=[e]:=rfl
end Go.Proofs.YtknaogelmckimaaDoor
namespace Go.Ab
open Go Go.Sep
variable [Facts]
def wfI (n:Int):Prop:= -9223372036854775808≤n∧n≤9223372036854775807
def wfS {α:Type} (s:List α):Prop:=s.length≤140737488355328
def zem (f:Fld):Prop:=wfS f.name∧wfS f.value
def wfHd (h:Hd):Prop:=wfS h.method∧wfS h.target∧wfI h.minor∧(wfS h.fields∧∀ f ∈ h.fields,zem f)∧wfI h.length
def zhb (p:Prt):Prop:=wfS p.name∧wfS p.file∧wfS p.type∧wfS p.bytes
def wfZ:(u:U)→u.den→Prop
  |.byte,_=>True
  |.int,n=>wfI n
  |.str,(s:Str)=>wfS s
  |.fld,f=>zem f
  |.bytes,(b:Str)=>wfS b
  |.hd,h=>wfHd h
  |.prt,p=>zhb p
  |.evt,(e:Evt)=>wfI e.kind∧wfHd e.head∧wfS e.bytes∧zhb e.part∧wfI e.code
  |.upl,(x:Upl)=>wfI x.id∧wfI x.size∧wfS x.note∧wfS x.bytes∧wfI x.sent
  |.ent,(e:Ent)=>wfI e.kind∧wfI e.id∧wfI e.n∧wfS e.text
  |.stp,(e:Stp)=>wfI e.kind∧wfI e.conn∧wfI e.n∧wfS e.bytes
  |.ask,(a:Ask)=>wfHd a.h∧wfS a.body
  |.cal,(c:Cal)=>wfI c.conn∧wfS c.b
  |.lst,(e:Lst)=>wfI e.op∧wfI e.n∧wfS e.b
  |.sst,(e:Sst)=>wfI e.op∧wfI e.id∧wfI e.n∧wfS e.text
  |.rpl,(r:Rpl)=>wfI r.status∧(wfS r.fields∧∀ f ∈ r.fields,zem f)∧wfS r.body
  |.med,(m:Med)=>wfS m.word∧(wfS m.params∧∀ f ∈ m.params,zem f)
  |_,_=>True
abbrev Small {H:Type} (Pr:Program) (t:TypeId) (d:DataW H):Prop:=(d.weights Pr t).all (· ≤reachBytes)=true
section
variable {H:Type} {hsh:TypeId × Value→H} {Pr:Program} {w:World} {hF:Holds w} {base:Nat} {spare:Nat→Bool} {held:Bool}
def qo (hsh:TypeId × Value→H) (Pr:Program) (w:World) (hF:Holds w) (base:Nat) (spare:Nat→Bool) (held:Bool) (t:TypeId) (Q:List P→Prop):Prop:=
  ∀ fuel cs y,DataW.trod hsh Pr w base spare held fuel t cs=some y→Small Pr t y.1→∃ ps,MPs (frzW w hF) ps cs∧Q ps
theorem qo.mono {t:TypeId} {Q Q':List P→Prop} (h:qo hsh Pr w hF base spare held t Q) (hq: ∀ ps,Q ps→Q' ps):qo hsh Pr w hF base spare held t Q':=by
  intro fuel cs y hy hs
  obtain⟨ps,h1,h2⟩:=h fuel cs y hy hs
  exact⟨ps,h1,hq _ h2⟩
def QU (u:U) (ps:List P):Prop:=∃ x:u.den,ps=enc alg u x∧wfZ u x
def QL (u:U) (ps:List P):Prop:=∃ l:List u.den,ps=[.list u l]∧wfS l∧∀ x ∈ l,wfZ u x
theorem zax {n:Nat} (h:n≤reachBytes):n≤140737488355328:=Nat.le_trans h (by decide)
theorem op_str {t:TypeId} (ht:Pr.underlying t=some .string):qo hsh Pr w hF base spare held t (QU .str):=by
  intro fuel cs y h hs
  obtain⟨s,rfl,hy,hl⟩:=DataW.trod_string ht h
  have e:Sep.S s.data.toList=s:=by cases s;rfl
  refine⟨[.str s.data.toList],⟨by rw [← e];exact .str _ (by simpa using hl),trivial⟩,s.data.toList,rfl,?_⟩
  rw [hy] at hs
  simp only [Small,DataW.weights,List.all_cons,List.all_nil,Bool.and_true,decide_eq_true_eq] at hs
  exact zax hs
def elemsOf:DataW H→List (DataW H)
  |.slice es _=>es
  |_=>[]
theorem Qb {α:Type} {t e:TypeId} {size:Nat} {R:Sep.Rel α} (ht:Pr.underlying t=some (.slice e)) (hs:Pr.cellsOf e=size) {fuel:Nat} {cs:List Value} {y:DataW H × List MemPlace}
    (h:DataW.trod hsh Pr w base spare held fuel t cs=some y) (he: ∀ n ci z,z.1 ∈ elemsOf y.1→DataW.trod hsh Pr w base spare held n e ci=some z→∃ x,R w ci x):
    ∃ xs,RSl size R w cs xs∧xs.length=(elemsOf y.1).length:=by
  rcases DataW.trod_slice ht h with⟨rfl,rfl⟩|⟨a,len,cap,elems,rest,n,_,rfl,rfl,_,hl,hm,hlen,hel,_,_⟩
  · exact⟨[],⟨_,[],rfl,⟨none,0,rfl,Nat.le_refl _,Nat.zero_le _,fun _=>rfl,by simp,fun j u h=>by simp at h⟩,fun i x h=>by simp at h⟩,rfl⟩
  · subst hs
    have each: ∀ i,i<len→∃ ci:List Value,ci.length=Pr.cellsOf e∧(∀ j u,ci[j]? =some u→w.cell? ((a.add (i * Pr.cellsOf e)).add j)=some u)∧∃ x,R w ci x:=by
      intro i hi
      have h1:=hel i hi
      rw [List.getElem?_eq_getElem (by omega),Option.bind_eq_some_iff] at h1
      obtain⟨ci,hci,hy⟩:=h1
      obtain⟨h2,h3⟩:=cells?_get hci
      exact⟨ci,h2,h3,he n ci _ (List.mem_map_of_mem (List.getElem_mem _)) hy⟩
    have all: ∀ m,m≤len→∃ (vs:List Value) (xs:List α),xs.length=m∧vs.length=m * Pr.cellsOf e∧(∀ j u,vs[j]? =some u→w.cell? (a.add j)=some u)∧∀ i x,xs[i]? =some x→R w ((vs.drop (i * Pr.cellsOf e)).take (Pr.cellsOf e)) x:=by
      intro m
      induction m with
      |zero=>intro _;exact⟨[],[],rfl,by simp,fun j u h=>by simp at h,fun i x h=>by simp at h⟩
      | succ m ih=>
        intro hm'
        obtain⟨vs,xs,h1,h2,h3,h4⟩:=ih (by omega)
        obtain⟨ci,c1,c2,x,c3⟩:=each m (by omega)
        refine⟨vs++ci,xs++[x],by simp [h1],by simp [h2,c1,Nat.succ_mul],fun j u hj=> ?_,fun i z hi=> ?_⟩
        · rcases Nat.lt_or_ge j vs.length with hj1|hj1
          · rw [List.getElem?_append_left hj1] at hj;exact h3 j u hj
          · rw [List.getElem?_append_right hj1] at hj
            have h5:=c2 _ _ hj
            rw [Addr.add_add,h2,show m * Pr.cellsOf e+(j - m * Pr.cellsOf e)=j by omega] at h5
            exact h5
        · rcases Nat.lt_or_ge i xs.length with hi1|hi1
          · rw [List.getElem?_append_left hi1] at hi
            have h5:=h4 i z hi
            have h6:i * Pr.cellsOf e+Pr.cellsOf e≤vs.length:=by rw [h2,← Nat.succ_mul];exact Nat.mul_le_mul_right _ (by omega)
            rw [List.drop_append_of_le_length (by omega),List.take_append_of_le_length (by simp;omega)]
            exact h5
          · rw [List.getElem?_append_right hi1] at hi
            have hi2:i=m:=by
              have:=(List.getElem?_eq_some_iff.1 hi).1
              simp at this;omega
            subst hi2
            rw [h1,Nat.sub_self] at hi
            simp at hi
            subst hi
            rw [← h2,List.drop_left,List.take_of_length_le (by omega)]
            exact c3
    obtain⟨vs,xs,h1,h2,h3,h4⟩:=all len (Nat.le_refl _)
    refine⟨xs,⟨_,vs,rfl,⟨some a,cap,by rw [h1],by omega,hm,(fun h=>by cases h),by rw [h1];exact h2,fun j u hj=> ?_⟩,h4⟩,by simp [elemsOf,h1,hlen]⟩
    have hsp:a.spot=none:=by
      cases hv:vs with
      |nil=>rw [hv] at hj;simp at hj
      | cons u0 r=>
        have:=h3 0 u0 (by rw [hv];rfl)
        rw [show a.add 0=a by simp [Addr.add]] at this
        exact zfV this
    exact⟨⟨a,rfl,hsp⟩,by rw [← Ye hsp];exact h3 j u hj⟩
theorem weightsAll_mem {e:TypeId}: ∀ {es:List (DataW H)} {d:DataW H},d ∈ es→∀ n ∈ d.weights Pr e,n ∈ DataW.weightsAll Pr e es
  | x::es,d,hd,n,hn=>by
    simp only [DataW.weightsAll,List.mem_append]
    rcases List.mem_cons.1 hd with rfl|hd
    · exact .inl hn
    · exact .inr (weightsAll_mem hd n hn)
theorem zbH {t e:TypeId} (ht:Pr.underlying t=some (.slice e)) {d z:DataW H} (h:Small Pr t d) (hz:z ∈ elemsOf d):Small Pr e z:=by
  cases d<;>simp only [elemsOf,List.not_mem_nil] at hz
  refine List.all_eq_true.2 fun n hn=>List.all_eq_true.1 h n ?_
  simp only [DataW.weights,ht,List.mem_cons,List.mem_append]
  exact .inr (.inl (weightsAll_mem hz n hn))
theorem zcv {t e:TypeId} (ht:Pr.underlying t=some (.slice e)) (hb:Nat.blt 0 (Pr.bytesOf e)=true) {d:DataW H} (h:Small Pr t d):(elemsOf d).length≤140737488355328:=by
  cases d<;>simp only [elemsOf]<;>try exact Nat.zero_le _
  rename_i es ss
  have h1:=List.all_eq_true.1 h ((es.length+ss.length) * Pr.bytesOf e) (by simp [DataW.weights,ht])
  have hb:0<Pr.bytesOf e:=by simpa [Nat.blt_eq] using hb
  refine zax (Nat.le_trans (Nat.le_trans (Nat.le_add_right _ ss.length) (Nat.le_mul_of_pos_right _ hb)) (by simpa using h1))
theorem op_list {t e:TypeId} {u:U} (ht:Pr.underlying t=some (.slice e)) (hc:Pr.cellsOf e=u.size) (hb:Nat.blt 0 (Pr.bytesOf e)=true) (he:qo hsh Pr w hF base spare held e (QU u)):
    qo hsh Pr w hF base spare held t (QL u):=by
  intro fuel cs y h hs
  obtain⟨l,hl,hlen⟩:=Qb (R:=fun _ cs (x:u.den)=>MPs (frzW w hF) (enc alg u x) cs∧wfZ u x) ht hc h (fun n ci z hz ht'=>by
    obtain⟨ps,h1,x,rfl,hx⟩:=he n ci z ht' (zbH ht hs hz)
    exact⟨x,h1,hx⟩)
  have hl':=hl
  obtain⟨v,vs,rfl,_,hx⟩:=hl
  refine⟨[.list u l],⟨zgx (fun _ _ h=>h.1) hl',trivial⟩,l,rfl,by unfold wfS;rw [hlen];exact zcv ht hb hs,fun x hm=> ?_⟩
  obtain⟨i,hi⟩:=List.getElem?_of_mem hm
  exact(hx i x hi).2
def QAll:List (List P→Prop)→List P→Prop
  |[],ps=>ps=[]
  |Q::Qs,ps=>∃ a b,ps=a++b∧Q a∧QAll Qs b
def lays (Pr:Program):Nat→List Field→Nat→Bool
  |o,[],n=>Nat.beq o n
  |o,f::fs,n=>Nat.beq f.offset o&&lays Pr (o+Pr.cellsOf f.type) fs n
def RV (hsh:TypeId × Value→H) (Pr:Program) (w:World) (hF:Holds w) (base:Nat) (spare:Nat→Bool) (held:Bool):List Field→List (List P→Prop)→Prop
  |[],[]=>True
  |f::fs,Q::Qs=>qo hsh Pr w hF base spare held f.type Q∧RV hsh Pr w hF base spare held fs Qs
  |_,_=>False
theorem RV.nil:RV hsh Pr w hF base spare held [] []:=trivial
theorem RV.cons {f:Field} {fs:List Field} {Q:List P→Prop} {Qs:List (List P→Prop)} (h:qo hsh Pr w hF base spare held f.type Q) (k:RV hsh Pr w hF base spare held fs Qs):RV hsh Pr w hF base spare held (f::fs) (Q::Qs):=⟨h,k⟩
theorem MPs.append {S:Frz}: ∀ {a b:List P} {x y:List Value},MPs S a x→MPs S b y→MPs S (a++b) (x++y)
  |[],_,[],_,_,h=>h
  |_::_,_,_::_,_,h,k=>⟨h.1,MPs.append h.2 k⟩
theorem Tm {cs:List Value}: ∀ (fs:List Field) (Qs:List (List P→Prop)) (o:Nat),lays Pr o fs cs.length=true→RV hsh Pr w hF base spare held fs Qs→
    (∀ f ∈ fs,∃ n z,DataW.trod hsh Pr w base spare held n f.type ((cs.drop f.offset).take (Pr.cellsOf f.type))=some z∧Small Pr f.type z.1)→∃ ps,MPs (frzW w hF) ps (cs.drop o)∧QAll Qs ps
  | [],[],o,hl,_,_=>by
    have:=Nat.eq_of_beq_eq_true hl
    exact⟨[],by rw [List.drop_of_length_le (by omega)];trivial,rfl⟩
  | f::fs,Q::Qs,o,hl,hq,hz=>by
    simp only [lays,Bool.and_eq_true] at hl
    have ho:=Nat.eq_of_beq_eq_true hl.1
    obtain⟨n,z,h1,h2⟩:=hz f (by simp)
    rw [ho] at h1
    obtain⟨p1,m1,q1⟩:=hq.1 n _ z h1 h2
    obtain⟨p2,m2,q2⟩:=Tm fs Qs _ hl.2 hq.2 (fun g hg=>hz g (by simp [hg]))
    refine⟨p1++p2,?_,p1,p2,rfl,q1,q2⟩
    have:=m1.append m2
    rwa [← List.drop_drop,List.take_append_drop] at this
  |[],_::_,_,_,h,_=>h.elim
  |_::_,[],_,_,h,_=>h.elim
theorem op_struct {t:TypeId} {fs:Array Field} {Qs:List (List P→Prop)} (ht:Pr.underlying t=some (.struct fs)) (hl:lays Pr 0 fs.toList (Pr.cellsOf t)=true) (hq:RV hsh Pr w hF base spare held fs.toList Qs):
    qo hsh Pr w hF base spare held t (QAll Qs):=by
  intro fuel cs y h hs
  obtain⟨xs,n,_,rfl,hcl,hxl,hf⟩:=DataW.trod_struct ht h
  have:=Tm fs.toList Qs 0 (by rw [hcl];exact hl) hq (fun f hfm=>by
    obtain⟨i,hi⟩:=List.getElem?_of_mem hfm
    have hi':fs[i]? =some f:=by simpa using hi
    have hlt:i<xs.length:=by rw [hxl];exact(Array.getElem?_eq_some_iff.1 hi').1
    refine⟨n,xs[i],by rw [hf i f hi',List.getElem?_eq_getElem hlt],List.all_eq_true.2 fun k hk=>List.all_eq_true.1 hs k ?_⟩
    simp only [DataW.weights,ht]
    exact DataW.weights_mem_each (j:=i) (t:=f.type) (by simp [hi']) (by simp [hlt]) k hk)
  simpa using this
theorem q_fld (ps:List P) (h:QAll [QU .str,QU .str] ps):QU .fld ps:=by
  obtain⟨_,_,rfl,⟨a,rfl,ha⟩,_,_,rfl,⟨b,rfl,hb⟩,rfl⟩:=h
  exact⟨(⟨a,b⟩:Fld),rfl,ha,hb⟩
theorem z_one {t:TypeId} {v:Value} {d:DataW H} {ps:List MemPlace} {Q:List P→Prop} (hr:v.oneCell'=true) (h:DataW.Trod hsh Pr w base spare held t v d ps) (hs:Small Pr t d) (ho:qo hsh Pr w hF base spare held t Q): ∃ qs,MPs (frzW w hF) qs [v]∧Q qs:=by
  obtain⟨fuel,hf⟩:=h
  have hc:v.cells.toList=[v]:=by cases v<;>first|rfl|cases hr
  rw [hc] at hf
  exact ho fuel _ _ hf hs
theorem small_nth {ts:List TypeId} {ds:List (DataW H)} (h:(DataW.weightsEach Pr ts ds).all (· ≤reachBytes)=true) {j:Nat} {t:TypeId} {d:DataW H} (ht:ts[j]? =some t) (hd:ds[j]? =some d):Small Pr t d:=
  List.all_eq_true.2 fun n hn=>List.all_eq_true.1 h n (DataW.weights_mem_each ht hd n hn)
end
end Go.Ab
namespace Go.Proofs
open Go.Shelf
def Tryd.Qq:Go.Shelf.Ren:=⟨fun|161=>83|231=>74|227=>76|233=>77|235=>79|228=>87|197=>88|151=>89|260=>93|152=>94|137=>92|119=>98|224=>99|225=>100|217=>97|266=>102|n=>n,fun|9=>9|4=>4|3=>3|5=>5|117=>117|116=>116|0=>0|124=>120|105=>124|21=>21|119=>130|46=>58|139=>133|138=>132|n=>n,fun|3=>0|4=>1|n=>n⟩
theorem Tryd.lays161:Go.Proofs.Lays.n161 Tryd.prog Tryd.Qq:= {
  mixed:=by kernel_rfl
  f119:=Tryd.func98.trans (congrArg some (by kernel_rfl))
  f137:=Tryd.func92.trans (congrArg some (by kernel_rfl))
  f151:=Tryd.func89.trans (congrArg some (by kernel_rfl))
  f152:=Tryd.func94.trans (congrArg some (by kernel_rfl))
  f161:=Tryd.func83.trans (congrArg some (by kernel_rfl))
  f197:=Tryd.func88.trans (congrArg some (by kernel_rfl))
  f217:=Tryd.func97.trans (congrArg some (by kernel_rfl))
  f224:=Tryd.func99.trans (congrArg some (by kernel_rfl))
  f225:=Tryd.func100.trans (congrArg some (by kernel_rfl))
  f227:=Tryd.func76.trans (congrArg some (by kernel_rfl))
  f228:=Tryd.func87.trans (congrArg some (by kernel_rfl))
  f231:=Tryd.func74.trans (congrArg some (by kernel_rfl))
  f233:=Tryd.func77.trans (congrArg some (by kernel_rfl))
  f235:=Tryd.func79.trans (congrArg some (by kernel_rfl))
  f260:=Tryd.func93.trans (congrArg some (by kernel_rfl))
  f266:=Tryd.func102.trans (congrArg some (by kernel_rfl))
  t0:=Tryd.underlying0
  a0:=Tryd.isAgg0
  z0:=Tryd.sizeOf0
  v0:=Tryd.zeroValue0
  t3:=Tryd.underlying3
  a3:=Tryd.isAgg3
  z3:=Tryd.sizeOf3
  v3:=Tryd.zeroValue3
  t4:=Tryd.underlying4
  a4:=Tryd.isAgg4
  z4:=Tryd.sizeOf4
  v4:=Tryd.zeroValue4
  t5:=Tryd.underlying5
  a5:=Tryd.isAgg5
  z5:=Tryd.sizeOf5
  v5:=Tryd.zeroValue5
  t9:=Tryd.underlying9
  a9:=Tryd.isAgg9
  z9:=Tryd.sizeOf9
  v9:=Tryd.zeroValue9
  t21:=Tryd.underlying21
  a21:=Tryd.isAgg21
  z21:=Tryd.sizeOf21
  v21:=Tryd.zeroValue21
  t46:=Tryd.underlying58
  a46:=Tryd.isAgg58
  z46:=Tryd.sizeOf58
  v46:=Tryd.zeroValue58
  t105:=Tryd.underlying124
  a105:=Tryd.isAgg124
  z105:=Tryd.sizeOf124
  v105:=Tryd.zeroValue124
  t116:=Tryd.underlying116
  a116:=Tryd.isAgg116
  z116:=Tryd.sizeOf116
  t117:=Tryd.underlying117
  a117:=Tryd.isAgg117
  z117:=Tryd.sizeOf117
  v117:=Tryd.zeroValue117
  t119:=Tryd.underlying130
  a119:=Tryd.isAgg130
  z119:=Tryd.sizeOf130
  t124:=Tryd.underlying120
  a124:=Tryd.isAgg120
  z124:=Tryd.sizeOf120
  v124:=Tryd.zeroValue120
  t138:=Tryd.underlying132
  a138:=Tryd.isAgg132
  z138:=Tryd.sizeOf132
  v138:=Tryd.zeroValue132
  t139:=Tryd.underlying133
  a139:=Tryd.isAgg133
  z139:=Tryd.sizeOf133
  v139:=Tryd.zeroValue133
  g3:=by kernel_rfl
  g4:=by kernel_rfl}
def Tryd.Qr:Go.Shelf.Ren:=⟨fun|160=>59|232=>75|231=>74|227=>76|234=>78|233=>77|236=>80|235=>79|228=>87|271=>90|151=>89|197=>88|120=>95|152=>94|260=>93|137=>92|119=>98|224=>99|225=>100|217=>97|266=>102|n=>n,fun|9=>9|4=>4|3=>3|5=>5|117=>117|116=>116|0=>0|124=>120|21=>21|105=>124|46=>58|119=>130|139=>133|138=>132|n=>n,fun|3=>0|4=>1|n=>n⟩
theorem Tryd.lays160:Go.Proofs.Lays.n160 Tryd.prog Tryd.Qr:= {
  mixed:=by kernel_rfl
  f119:=Tryd.func98.trans (congrArg some (by kernel_rfl))
  f120:=Tryd.func95.trans (congrArg some (by kernel_rfl))
  f137:=Tryd.func92.trans (congrArg some (by kernel_rfl))
  f151:=Tryd.func89.trans (congrArg some (by kernel_rfl))
  f152:=Tryd.func94.trans (congrArg some (by kernel_rfl))
  f160:=Tryd.func59.trans (congrArg some (by kernel_rfl))
  f197:=Tryd.func88.trans (congrArg some (by kernel_rfl))
  f217:=Tryd.func97.trans (congrArg some (by kernel_rfl))
  f224:=Tryd.func99.trans (congrArg some (by kernel_rfl))
  f225:=Tryd.func100.trans (congrArg some (by kernel_rfl))
  f227:=Tryd.func76.trans (congrArg some (by kernel_rfl))
  f228:=Tryd.func87.trans (congrArg some (by kernel_rfl))
  f231:=Tryd.func74.trans (congrArg some (by kernel_rfl))
  f232:=Tryd.func75.trans (congrArg some (by kernel_rfl))
  f233:=Tryd.func77.trans (congrArg some (by kernel_rfl))
  f234:=Tryd.func78.trans (congrArg some (by kernel_rfl))
  f235:=Tryd.func79.trans (congrArg some (by kernel_rfl))
  f236:=Tryd.func80.trans (congrArg some (by kernel_rfl))
  f260:=Tryd.func93.trans (congrArg some (by kernel_rfl))
  f266:=Tryd.func102.trans (congrArg some (by kernel_rfl))
  f271:=Tryd.func90.trans (congrArg some (by kernel_rfl))
  t0:=Tryd.underlying0
  a0:=Tryd.isAgg0
  z0:=Tryd.sizeOf0
  v0:=Tryd.zeroValue0
  t3:=Tryd.underlying3
  a3:=Tryd.isAgg3
  z3:=Tryd.sizeOf3
  v3:=Tryd.zeroValue3
  t4:=Tryd.underlying4
  a4:=Tryd.isAgg4
  z4:=Tryd.sizeOf4
  v4:=Tryd.zeroValue4
  t5:=Tryd.underlying5
  a5:=Tryd.isAgg5
  z5:=Tryd.sizeOf5
  v5:=Tryd.zeroValue5
  t9:=Tryd.underlying9
  a9:=Tryd.isAgg9
  z9:=Tryd.sizeOf9
  v9:=Tryd.zeroValue9
  t21:=Tryd.underlying21
  a21:=Tryd.isAgg21
  z21:=Tryd.sizeOf21
  v21:=Tryd.zeroValue21
  t46:=Tryd.underlying58
  a46:=Tryd.isAgg58
  z46:=Tryd.sizeOf58
  v46:=Tryd.zeroValue58
  t105:=Tryd.underlying124
  a105:=Tryd.isAgg124
  z105:=Tryd.sizeOf124
  v105:=Tryd.zeroValue124
  t116:=Tryd.underlying116
  a116:=Tryd.isAgg116
  z116:=Tryd.sizeOf116
  t117:=Tryd.underlying117
  a117:=Tryd.isAgg117
  z117:=Tryd.sizeOf117
  v117:=Tryd.zeroValue117
  t119:=Tryd.underlying130
  a119:=Tryd.isAgg130
  z119:=Tryd.sizeOf130
  t124:=Tryd.underlying120
  a124:=Tryd.isAgg120
  z124:=Tryd.sizeOf120
  v124:=Tryd.zeroValue120
  t138:=Tryd.underlying132
  a138:=Tryd.isAgg132
  z138:=Tryd.sizeOf132
  v138:=Tryd.zeroValue132
  t139:=Tryd.underlying133
  a139:=Tryd.isAgg133
  z139:=Tryd.sizeOf133
  v139:=Tryd.zeroValue133
  g3:=by kernel_rfl
  g4:=by kernel_rfl}
def Tryd.Qu:Go.Shelf.Ren:=⟨fun|137=>92|217=>97|266=>102|n=>n,fun|9=>9|5=>5|3=>3|n=>n,fun|n=>n⟩
theorem Tryd.lays137:Go.Proofs.Lays.n137 Tryd.prog Tryd.Qu:= {
  mixed:=by kernel_rfl
  f137:=Tryd.func92.trans (congrArg some (by kernel_rfl))
  f217:=Tryd.func97.trans (congrArg some (by kernel_rfl))
  f266:=Tryd.func102.trans (congrArg some (by kernel_rfl))
  t3:=Tryd.underlying3
  a3:=Tryd.isAgg3
  z3:=Tryd.sizeOf3
  v3:=Tryd.zeroValue3
  t5:=Tryd.underlying5
  a5:=Tryd.isAgg5
  z5:=Tryd.sizeOf5
  v5:=Tryd.zeroValue5
  t9:=Tryd.underlying9
  a9:=Tryd.isAgg9
  z9:=Tryd.sizeOf9
  v9:=Tryd.zeroValue9}
def Tryd.Qp:Go.Shelf.Ren:=⟨fun|219=>96|217=>97|225=>100|224=>99|267=>101|266=>102|314=>103|n=>n,fun|9=>9|3=>3|4=>4|5=>5|46=>58|146=>137|51=>136|n=>n,fun|1=>2|n=>n⟩
theorem Tryd.lays219:Go.Proofs.Lays.n219 Tryd.prog Tryd.Qp:= {
  mixed:=by kernel_rfl
  f217:=Tryd.func97.trans (congrArg some (by kernel_rfl))
  f219:=Tryd.func96.trans (congrArg some (by kernel_rfl))
  f224:=Tryd.func99.trans (congrArg some (by kernel_rfl))
  f225:=Tryd.func100.trans (congrArg some (by kernel_rfl))
  f266:=Tryd.func102.trans (congrArg some (by kernel_rfl))
  f267:=Tryd.func101.trans (congrArg some (by kernel_rfl))
  f314:=Tryd.func103.trans (congrArg some (by kernel_rfl))
  t3:=Tryd.underlying3
  a3:=Tryd.isAgg3
  z3:=Tryd.sizeOf3
  v3:=Tryd.zeroValue3
  t4:=Tryd.underlying4
  a4:=Tryd.isAgg4
  z4:=Tryd.sizeOf4
  v4:=Tryd.zeroValue4
  t5:=Tryd.underlying5
  a5:=Tryd.isAgg5
  z5:=Tryd.sizeOf5
  v5:=Tryd.zeroValue5
  t9:=Tryd.underlying9
  a9:=Tryd.isAgg9
  z9:=Tryd.sizeOf9
  v9:=Tryd.zeroValue9
  t46:=Tryd.underlying58
  a46:=Tryd.isAgg58
  z46:=Tryd.sizeOf58
  v46:=Tryd.zeroValue58
  t51:=Tryd.underlying136
  a51:=Tryd.isAgg136
  z51:=Tryd.sizeOf136
  v51:=Tryd.zeroValue136
  t146:=Tryd.underlying137
  a146:=Tryd.isAgg137
  z146:=Tryd.sizeOf137
  v146:=Tryd.zeroValue137
  g1:=by kernel_rfl}
open Go.RowKit in
theorem Tryd.strings_IndexByte (s:ByteArray) (c:Int) (w:World):
    Calls Tryd.prog 92 #[.string s,.int .u8 c] w fun e w'=>e=.returned (.int .i64 (Lib.indexByte s.data.toList c.toNat.toUInt8))∧w'=w:=Any.strings_IndexByte Tryd.lays137 s c w
open Go.RowKit Go.Lib in
theorem Tryd.stringslite_Index_one (s:ByteArray) (c:UInt8) (w:World):
    Calls Tryd.prog 96 #[.string s,.string ⟨#[c]⟩] w fun e w'=>e=.returned (.int .i64 (Lib.indexByte s.data.toList c))∧w'=w:=Any.stringslite_Index_one Tryd.lays219 s c w
theorem Tryd.strings_Trim_laid (s cutset:ByteArray) (w:World) (hs:s.size≤9223372036854775807) (hcs:cutset.size<4294967281) (hascii: ∀ (j:Nat) b,cutset.data.toList[j]? =some b→b.toNat<128):
    Calls Tryd.prog 59 #[.string s,.string cutset] w fun e w'=>e=.returned (.string ⟨(Lib.trimS s.data.toList cutset.data.toList).toArray⟩)∧Go.RowKit.Below w.heap.size w w':=Any.strings_Trim_laid Tryd.lays160 (by kernel_rfl) s cutset w hs hcs hascii
theorem Tryd.strings_TrimLeft_laid (s cutset:ByteArray) (w:World) (hcs:cutset.size<4294967281) (hascii: ∀ (j:Nat) b,cutset.data.toList[j]? =some b→b.toNat<128):
    Calls Tryd.prog 83 #[.string s,.string cutset] w fun e w'=>e=.returned (.string ⟨(Lib.trimLeftS s.data.toList cutset.data.toList).toArray⟩)∧Go.RowKit.Below w.heap.size w w':=Any.strings_TrimLeft_laid Tryd.lays161 (by kernel_rfl) s cutset w hcs hascii
end Go.Proofs
namespace Go.Ab
open Go Go.Sep
variable [Facts]
theorem Q8 {w w':World} (h:RowKit.Below w.heap.size w w'):Keeps (fun k=>k<w.heap.size) w w':=⟨h.1,h.2,h.3,h.4,h.5⟩
theorem Spc.of_below {Pr:Program} {f:Nat} {args:List D} {hp:List HO} {d:D} (hf: ∃ fn,Pr.funcs[f]? =some fn∧(fn.name == "runtime.NumGoroutine")=false∧fn.body.isNone=false)
    (h: ∀ (S:Frz) (bs:List Value) (w:World) (vs:List Value),Facts.p w→MDs S bs args vs→∃ v,MD S bs d v∧Calls Pr f vs.toArray w fun e w'=>e=.returned v∧RowKit.Below w.heap.size w w'):Spc Pr f args hp (.ret d) hp:=by
  refine⟨hf,fun S K fr w vs hH hM hA=> ?_⟩
  obtain⟨v,hv,hc⟩:=h S _ w vs (At.frz hA).facts hM
  refine hc.mono fun e w' he=> ?_
  obtain⟨he,hb⟩:=he
  subst he
  exact⟨S,K,Frz.le.refl S,Ext.refl _,hH,hA.keep (Q8 hb),hv⟩
end Go.Ab
namespace Go.Proofs.YtknaogelmckimaaDoor
open Go Go.Sep Go.Ab
set_option maxRecDepth 100000
theorem zan (s cs:Str):(Lib.trimS s cs).length≤s.length:=by
  unfold Lib.trimS Lib.trimLeftS Lib.trimRightS
  refine Nat.le_trans (List.dropWhile_sublist _).length_le ?_
  rw [List.length_reverse]
  exact Nat.le_trans (List.dropWhile_sublist _).length_le (by rw [List.length_reverse];exact Nat.le_refl _)
theorem Yo: ∀ (s:Str) (c:UInt8),-1≤Lib.indexByte s c∧Lib.indexByte s c<s.length
  |[],c=>by simp [Lib.indexByte]
  | b ::l,c=>by
    have:=Yo l c
    unfold Lib.indexByte
    rw [List.length_cons]
    split
    · omega
    · split
      · omega
      · omega
theorem zim (s:Str):Spc Tryd.prog 59 [.v (.one (.p (.str s))),.v (.one (.p (.str ([32,9]))))] [] (.ret (.v (.one (.p (.str (Lib.trimS s [32,9])))))) []:=by
  refine Spc.of_below ⟨_,Tryd.func59,by kernel_rfl,by kernel_rfl⟩ fun S bs w vs _ hM=> ?_
  obtain⟨v,r,rfl⟩: ∃ v r,vs=v::r:=by cases vs with|nil=>exact hM.elim|cons v r=>exact⟨v,r,rfl⟩
  obtain⟨h1,hM⟩:=hM
  obtain⟨v2,r2,rfl⟩: ∃ v r2,r=v::r2:=by cases r with|nil=>exact hM.elim|cons v r=>exact⟨v,r,rfl⟩
  obtain⟨h2,hM⟩:=hM
  obtain rfl:r2=[]:=by cases r2 with|nil=>rfl|cons v r=>exact hM.elim
  cases h1 with
  | str _ hl1=>
    cases h2 with
    | str _ hl2=>
      refine⟨.string (Sep.S (Lib.trimS s [32,9])),.str _ (Nat.le_trans (zan _ _) hl1),?_⟩
      exact Tryd.strings_Trim_laid (Sep.S s) (Sep.S [32,9]) w (by have:=hl1;unfold maxLen at this;exact this) (by decide) (fun j b hb=>by
        have:=List.mem_of_getElem? hb
        rcases(by simpa [Sep.S] using this:b=32∨b=9) with rfl|rfl<;>decide)
def VJ (I:Alg) (args:List D) (hp:List HO):Option CT:=match args,hp with
  |[.v (.one (.p (.str s))),.v (.one (.p (.str ([32,9]))))],[]=>(fun(s:Str)=>(some (.one ⟨I.hid (True),(.ret (.v (.one (.p (.str (I.hid (Lib.trimS s [32,9]))))))),[]⟩):Option CT)) s
  |_,_=>none
theorem zcr:zx Tryd.prog 59 (VJ alg):=by
  intro args hp r h
  unfold VJ at h
  split at h
  · cases h;exact fun hn=>zim _
  · cases h
def zfS:Know Tryd.prog:=⟨59,VJ,zcr⟩
def zfR:Know Tryd.prog:=⟨59,fun I=>zA I (VJ I),zf zcr⟩
theorem zb3 (s:Str) (k:Int):Spc Tryd.prog 92 [.v (.one (.p (.str s))),.v (.one (.p (.int .u8 k)))] [] (.ret (.v (.one (.p (.int .i64 (Lib.indexByte s k.toNat.toUInt8)))))) []:=by
  refine Spc.of_below ⟨_,Tryd.func92,by kernel_rfl,by kernel_rfl⟩ fun S bs w vs _ hM=> ?_
  obtain⟨v,r,rfl⟩: ∃ v r,vs=v::r:=by cases vs with|nil=>exact hM.elim|cons v r=>exact⟨v,r,rfl⟩
  obtain⟨h1,hM⟩:=hM
  obtain⟨v2,r2,rfl⟩: ∃ v r2,r=v::r2:=by cases r with|nil=>exact hM.elim|cons v r=>exact⟨v,r,rfl⟩
  obtain⟨h2,hM⟩:=hM
  obtain rfl:r2=[]:=by cases r2 with|nil=>rfl|cons v r=>exact hM.elim
  cases h1 with
  | str _ hl1=>
    cases h2 with
    | int _ _=>
      refine⟨.int .i64 (Lib.indexByte s k.toNat.toUInt8),.int _ _,?_⟩
      refine(Tryd.strings_IndexByte (Sep.S s) k w).mono fun e w' h=> ?_
      obtain⟨he,rfl⟩:=h
      exact⟨he,RowKit.Below.refl _ _⟩
def vK (I:Alg) (args:List D) (hp:List HO):Option CT:=match args,hp with
  |[.v (.one (.p (.str s))),.v (.one (.p (.int .u8 k)))],[]=>(fun(s:Str) (k:Int)=>(some (.one ⟨I.hid (True),(.ret (.v (.one (.p (.int .i64 (I.hid (Lib.indexByte s k.toNat.toUInt8))))))),[]⟩):Option CT)) s k
  |_,_=>none
theorem Yp:zx Tryd.prog 92 (vK alg):=by
  intro args hp r h
  unfold vK at h
  split at h
  · cases h;exact fun hn=>zb3 _ _
  · cases h
def Si:Know Tryd.prog:=⟨92,vK,Yp⟩
def TY:Know Tryd.prog:=⟨92,fun I=>zA I (vK I),zf Yp⟩
theorem zgw (s:Str) (c:UInt8):Spc Tryd.prog 96 [.v (.one (.p (.str s))),.v (.one (.p (.str ([c]))))] [] (.ret (.v (.one (.p (.int .i64 (Lib.indexByte s c)))))) []:=by
  refine Spc.of_below ⟨_,Tryd.func96,by kernel_rfl,by kernel_rfl⟩ fun S bs w vs _ hM=> ?_
  obtain⟨v,r,rfl⟩: ∃ v r,vs=v::r:=by cases vs with|nil=>exact hM.elim|cons v r=>exact⟨v,r,rfl⟩
  obtain⟨h1,hM⟩:=hM
  obtain⟨v2,r2,rfl⟩: ∃ v r2,r=v::r2:=by cases r with|nil=>exact hM.elim|cons v r=>exact⟨v,r,rfl⟩
  obtain⟨h2,hM⟩:=hM
  obtain rfl:r2=[]:=by cases r2 with|nil=>rfl|cons v r=>exact hM.elim
  cases h1 with
  | str _ hl1=>
    cases h2 with
    | str _ _=>
      refine⟨.int .i64 (Lib.indexByte s c),.int _ _,?_⟩
      refine(Tryd.stringslite_Index_one (Sep.S s) c w).mono fun e w' h=> ?_
      obtain⟨he,rfl⟩:=h
      exact⟨he,RowKit.Below.refl _ _⟩
def Zg (I:Alg) (args:List D) (hp:List HO):Option CT:=match args,hp with
  |[.v (.one (.p (.str s))),.v (.one (.p (.str ([c]))))],[]=>(fun(s:Str) (c:UInt8)=>(some (.one ⟨I.hid (True),(.ret (.v (.one (.p (.int .i64 (I.hid (Lib.indexByte s c))))))),[]⟩):Option CT)) s c
  |_,_=>none
theorem Sj:zx Tryd.prog 96 (Zg alg):=by
  intro args hp r h
  unfold Zg at h
  split at h
  · cases h;exact fun hn=>zgw _ _
  · cases h
def zdb:Know Tryd.prog:=⟨96,Zg,Sj⟩
def zda:Know Tryd.prog:=⟨96,fun I=>zA I (Zg I),zf Sj⟩
end Go.Proofs.YtknaogelmckimaaDoor
namespace Go.Proofs.YtknaogelmckimaaDoor
open Go Go.Sep Go.Ab
set_option maxRecDepth 100000
def lowK (k:Int):Int:=if 65≤k∧k≤90 then k+32 else k
def ql (k:Int):Bool:=decide (48≤k∧k≤57)
def vV (k:Int):Bool:=decide (97≤lowK k∧lowK k≤122)
def marks:Str:=[33,35,36,37,38,39,42,43,45,46,94,95,96,124,126]
def tokB (k:Int):Bool:=ql k||(vV k||decide (0≤Lib.indexByte marks k.toNat.toUInt8))
def wQ (k:Int):Bool:=decide (k=9∨32≤k∧k≠127)
def hexK (k:Int):Int:=if ql k then k - 48 else if vV k&&decide (lowK k≤102) then lowK k - 97+10 else -1
theorem zfP (n:Int) (h:0≤n∧n≤255):IntKind.u8.wrap n=n:=by
  unfold IntKind.wrap
  simp only [show IntKind.u8.signed=false by decide,show IntKind.u8.bits=8 by decide,Bool.false_and,Bool.false_eq_true,if_false]
  omega
theorem wrap64 (n:Int) (h: -9223372036854775808≤n∧n≤9223372036854775807):IntKind.i64.wrap n=n:=by
  unfold IntKind.wrap
  simp only [show IntKind.i64.signed=true by decide,show IntKind.i64.bits=64 by decide]
  split<;>simp_all<;>omega
theorem zc1 {k:Int} (h:0≤k∧k≤255):0≤lowK k∧lowK k≤255:=by unfold lowK;split<;>omega
theorem zia (k:Int):Spc Tryd.prog 70 [.v (.one (.p (.int .u8 k)))] [] (.ret (.v (.one (.p (.bool (ql k)))))) []:=by
  refine spcG zk mixed Tryd.func70 (by kernel_rfl) { keep:=some [0,2]} [] (by kernel_rfl) ?_
  intro I X hI hX
  refine zh (.br (I.ile 48 k) (.fin (.ret (.v (.one (.p (.bool (I.ile k 57)))))) []) (.fin (.ret (.v (.one (.p (.bool Bool.false))))) [])) (by kernel_rfl) ?_
  simp only [zq]
  subst hI
  simp only [nrmA,nrmB]
  unfold ql
  exact⟨fun h=>decide_eq_decide.2 (by omega),fun h=>(decide_eq_false (by omega)).symm⟩
def Xc (I:Alg) (args:List D) (hp:List HO):Option CT:=match args,hp with
  |[.v (.one (.p (.int .u8 k)))],[]=>(fun(k:Int)=>(some (.one ⟨I.hid (True),(.ret (.v (.one (.p (.bool (I.hid (ql k))))))),[]⟩):Option CT)) k
  |_,_=>none
theorem zbq:zx Tryd.prog 70 (Xc alg):=by
  intro args hp r h
  unfold Xc at h
  split at h
  · cases h;exact fun hn=>zia _
  · cases h
def zbp:Know Tryd.prog:=⟨70,Xc,zbq⟩
def zbo:Know Tryd.prog:=⟨70,fun I=>zA I (Xc I),zf zbq⟩
theorem zhI (k:Int) (hneed:0≤k∧k≤255):Spc Tryd.prog 72 [.v (.one (.p (.int .u8 k)))] [] (.ret (.v (.one (.p (.int .u8 (lowK k)))))) []:=by
  refine spcG zk mixed Tryd.func72 (by kernel_rfl) { keep:=some [0,2]} [] (by kernel_rfl) ?_
  intro I X hI hX
  refine zh (.br (I.ile 65 k) (.br (I.ile k 90) (.need (I.inr Go.IntKind.u8 (I.add k 32)) (.fin (.ret (.v (.one (.p (.int .u8 (I.add k 32)))))) [])) (.fin (.ret (.v (.one (.p (.int .u8 k))))) [])) (.fin (.ret (.v (.one (.p (.int .u8 k))))) [])) (by kernel_rfl) ?_
  simp only [zq]
  subst hI
  simp only [nrmA,nrmB]
  unfold lowK
  (repeat' (first|refine And.intro ?_ ?_|intro _))<;>first|omega|exact True.intro|exact False.elim ‹False›|skip
def YZ (I:Alg) (args:List D) (hp:List HO):Option CT:=match args,hp with
  |[.v (.one (.p (.int .u8 k)))],[]=>(fun(k:Int)=>(some (.one ⟨I.hid (0≤k∧k≤255),(.ret (.v (.one (.p (.int .u8 (I.hid (lowK k))))))),[]⟩):Option CT)) k
  |_,_=>none
theorem zaS:zx Tryd.prog 72 (YZ alg):=by
  intro args hp r h
  unfold YZ at h
  split at h
  · cases h;exact fun hn=>zhI _ hn
  · cases h
def YX:Know Tryd.prog:=⟨72,YZ,zaS⟩
def YW:Know Tryd.prog:=⟨72,fun I=>zA I (YZ I),zf zaS⟩
theorem zgt (k:Int) (hneed:0≤k∧k≤255):Spc Tryd.prog 71 [.v (.one (.p (.int .u8 k)))] [] (.ret (.v (.one (.p (.bool (vV k)))))) []:=by
  refine spcG zk mixed Tryd.func71 (by kernel_rfl) { keep:=some [0,2]} [YX,YW] (by kernel_rfl) ?_
  intro I X hI hX
  refine zh (let y0:=I.hid (α:=(Prop)) (And (LE.le (0:Int) k) (LE.le k (255:Int)));.need y0 (.br (I.ile 97 (I.hid (α:=Int) (lowK k))) (.need y0 (.fin (.ret (.v (.one (.p (.bool (I.ile (I.hid (α:=Int) (lowK k)) 122)))))) [])) (.fin (.ret (.v (.one (.p (.bool Bool.false))))) []))) (by kernel_rfl) ?_
  simp only [zq]
  subst hI
  simp only [nrmA,nrmB]
  unfold vV
  (repeat' (first|refine And.intro ?_ ?_|intro _))<;>first|omega|exact True.intro|exact False.elim ‹False›|skip
  all_goals first|exact decide_eq_decide.2 (by omega)|exact(decide_eq_false (by omega)).symm|exact(decide_eq_true (by omega)).symm|(rw [show(k == 127)=decide (k=127) from rfl,← decide_not];exact decide_eq_decide.2 (by omega))
def Ze (I:Alg) (args:List D) (hp:List HO):Option CT:=match args,hp with
  |[.v (.one (.p (.int .u8 k)))],[]=>(fun(k:Int)=>(some (.one ⟨I.hid (0≤k∧k≤255),(.ret (.v (.one (.p (.bool (I.hid (vV k))))))),[]⟩):Option CT)) k
  |_,_=>none
theorem TI:zx Tryd.prog 71 (Ze alg):=by
  intro args hp r h
  unfold Ze at h
  split at h
  · cases h;exact fun hn=>zgt _ hn
  · cases h
def TG:Know Tryd.prog:=⟨71,Ze,TI⟩
def TF:Know Tryd.prog:=⟨71,fun I=>zA I (Ze I),zf TI⟩
theorem zhc (k:Int) (hneed:0≤k∧k≤255):Spc Tryd.prog 84 [.v (.one (.p (.int .u8 k)))] [] (.ret (.v (.one (.p (.bool (tokB k)))))) []:=by
  refine spcG zk mixed Tryd.func84 (by kernel_rfl) { keep:=some [0,2]} [Si,TY,zbp,zbo,TG,TF] (by kernel_rfl) ?_
  intro I X hI hX
  refine zh (.need (I.hid (α:=(Prop)) True) (.br (I.hid (α:=Bool) (ql k)) (.fin (.ret (.v (.one (.p (.bool Bool.true))))) []) (.need (I.hid (α:=(Prop)) (And (LE.le (0:Int) k) (LE.le k (255:Int)))) (.br (I.hid (α:=Bool) (vV k)) (.fin (.ret (.v (.one (.p (.bool Bool.true))))) []) (.need (I.hid (α:=(Prop)) True) (.fin (.ret (.v (.one (.p (.bool (I.ile 0 (I.hid (α:=Int) (Go.Lib.indexByte ([33,35,36,37,38,39,42,43,45,46,94,95,96,124,126]:Str) (Nat.toUInt8 (Int.toNat k)))))))))) [])))))) (by kernel_rfl) ?_
  simp only [zq]
  subst hI
  simp only [nrmA,nrmB]
  unfold tokB marks
  (repeat' (first|refine And.intro ?_ ?_|intro _))<;>first|omega|exact True.intro|exact False.elim ‹False›|skip
  all_goals simp [*]
def YF (I:Alg) (args:List D) (hp:List HO):Option CT:=match args,hp with
  |[.v (.one (.p (.int .u8 k)))],[]=>(fun(k:Int)=>(some (.one ⟨I.hid (0≤k∧k≤255),(.ret (.v (.one (.p (.bool (I.hid (tokB k))))))),[]⟩):Option CT)) k
  |_,_=>none
theorem zao:zx Tryd.prog 84 (YF alg):=by
  intro args hp r h
  unfold YF at h
  split at h
  · cases h;exact fun hn=>zhc _ hn
  · cases h
def uw:Know Tryd.prog:=⟨84,YF,zao⟩
def qG:Know Tryd.prog:=⟨84,fun I=>zA I (YF I),zf zao⟩
theorem zen (k:Int):Spc Tryd.prog 37 [.v (.one (.p (.int .u8 k)))] [] (.ret (.v (.one (.p (.bool (wQ k)))))) []:=by
  refine spcG zk mixed Tryd.func37 (by kernel_rfl) { keep:=some [0,2]} [] (by kernel_rfl) ?_
  intro I X hI hX
  refine zh (.br (I.ieq k 9) (.fin (.ret (.v (.one (.p (.bool Bool.true))))) []) (.br (I.ile 32 k) (.fin (.ret (.v (.one (.p (.bool (I.bnot (I.ieq k 127))))))) []) (.fin (.ret (.v (.one (.p (.bool Bool.false))))) []))) (by kernel_rfl) ?_
  simp only [zq]
  subst hI
  simp only [nrmA,nrmB]
  unfold wQ
  (repeat' (first|refine And.intro ?_ ?_|intro _))<;>first|omega|exact True.intro|exact False.elim ‹False›|skip
  all_goals first|exact decide_eq_decide.2 (by omega)|exact(decide_eq_false (by omega)).symm|exact(decide_eq_true (by omega)).symm|(rw [show(k == 127)=decide (k=127) from rfl,← decide_not];exact decide_eq_decide.2 (by omega))
def sN (I:Alg) (args:List D) (hp:List HO):Option CT:=match args,hp with
  |[.v (.one (.p (.int .u8 k)))],[]=>(fun(k:Int)=>(some (.one ⟨I.hid (True),(.ret (.v (.one (.p (.bool (I.hid (wQ k))))))),[]⟩):Option CT)) k
  |_,_=>none
theorem WI:zx Tryd.prog 37 (sN alg):=by
  intro args hp r h
  unfold sN at h
  split at h
  · cases h;exact fun hn=>zen _
  · cases h
def wL:Know Tryd.prog:=⟨37,sN,WI⟩
def sK:Know Tryd.prog:=⟨37,fun I=>zA I (sN I),zf WI⟩
theorem zgu (k:Int):Spc Tryd.prog 38 [.v (.one (.p (.int .u8 k)))] [] (.ret (.v (.one (.p (.bool (wQ k)))))) []:=by
  refine spcG zk mixed Tryd.func38 (by kernel_rfl) { keep:=some [0,2]} [] (by kernel_rfl) ?_
  intro I X hI hX
  refine zh (.br (I.ieq k 9) (.fin (.ret (.v (.one (.p (.bool Bool.true))))) []) (.br (I.ilt 31 k) (.fin (.ret (.v (.one (.p (.bool (I.bnot (I.ieq k 127))))))) []) (.fin (.ret (.v (.one (.p (.bool Bool.false))))) []))) (by kernel_rfl) ?_
  simp only [zq]
  subst hI
  simp only [nrmA,nrmB]
  unfold wQ
  (repeat' (first|refine And.intro ?_ ?_|intro _))<;>first|omega|exact True.intro|exact False.elim ‹False›|skip
  all_goals first|exact decide_eq_decide.2 (by omega)|exact(decide_eq_false (by omega)).symm|exact(decide_eq_true (by omega)).symm|(rw [show(k == 127)=decide (k=127) from rfl,← decide_not];exact decide_eq_decide.2 (by omega))
def Zf (I:Alg) (args:List D) (hp:List HO):Option CT:=match args,hp with
  |[.v (.one (.p (.int .u8 k)))],[]=>(fun(k:Int)=>(some (.one ⟨I.hid (True),(.ret (.v (.one (.p (.bool (I.hid (wQ k))))))),[]⟩):Option CT)) k
  |_,_=>none
theorem TP:zx Tryd.prog 38 (Zf alg):=by
  intro args hp r h
  unfold Zf at h
  split at h
  · cases h;exact fun hn=>zgu _
  · cases h
def wX:Know Tryd.prog:=⟨38,Zf,TP⟩
def wW:Know Tryd.prog:=⟨38,fun I=>zA I (Zf I),zf TP⟩
theorem hex_ (k:Int) (hneed:0≤k∧k≤255):Spc Tryd.prog 55 [.v (.one (.p (.int .u8 k)))] [] (.ret (.v (.one (.p (.int .i64 (hexK k)))))) []:=by
  refine spcG zk mixed Tryd.func55 (by kernel_rfl) { keep:=some [0,2]} [zbp,zbo,YX,YW,TG,TF] (by kernel_rfl) ?_
  intro I X hI hX
  refine zh (let y0:=I.hid (α:=(Prop)) (And (LE.le (0:Int) k) (LE.le k (255:Int)));let y1:=I.add (I.wrap Go.IntKind.i64 (I.sub (I.hid (α:=Int) (lowK k)) 97)) 10;.need (I.hid (α:=(Prop)) True) (.br (I.hid (α:=Bool) (ql k)) (.need (I.inr Go.IntKind.u8 (I.sub k 48)) (.fin (.ret (.v (.one (.p (.int .i64 (I.wrap Go.IntKind.i64 (I.sub k 48))))))) [])) (.need y0 (.br (I.hid (α:=Bool) (vV k)) (.need y0 (.br (I.ile (I.hid (α:=Int) (lowK k)) 102) (.need y0 (.need (I.inr Go.IntKind.u8 (I.sub (I.hid (α:=Int) (lowK k)) 97)) (.need (I.inr Go.IntKind.i64 y1) (.fin (.ret (.v (.one (.p (.int .i64 y1))))) [])))) (.fin (.ret (.v (.one (.p (.int .i64 (Neg.neg (1:Int))))))) []))) (.fin (.ret (.v (.one (.p (.int .i64 (Neg.neg (1:Int))))))) []))))) (by kernel_rfl) ?_
  simp only [zq]
  subst hI
  simp only [nrmA,nrmB]
  (repeat' (first|refine And.intro ?_ ?_|intro _))<;>first|omega|exact True.intro|exact False.elim ‹False›|skip
  all_goals first
    |(have:=of_decide_eq_true ‹ql k=true›;omega)
    |(have:=of_decide_eq_true ‹ql k=true›;unfold hexK;rw [if_pos ‹ql k=true›,wrap64 _ (by omega)])
    |(have:=of_decide_eq_true ‹vV k=true›;omega)
    |(have:=of_decide_eq_true ‹vV k=true›;rw [wrap64 _ (by omega)];omega)
    |(have:=of_decide_eq_true ‹vV k=true›;rw [wrap64 _ (by omega)];unfold hexK;simp [*])
    |(unfold hexK;simp [*])
def za2 (I:Alg) (args:List D) (hp:List HO):Option CT:=match args,hp with
  |[.v (.one (.p (.int .u8 k)))],[]=>(fun(k:Int)=>(some (.one ⟨I.hid (0≤k∧k≤255),(.ret (.v (.one (.p (.int .i64 (I.hid (hexK k))))))),[]⟩):Option CT)) k
  |_,_=>none
theorem zfB:zx Tryd.prog 55 (za2 alg):=by
  intro args hp r h
  unfold za2 at h
  split at h
  · cases h;exact fun hn=>hex_ _ hn
  · cases h
def zfA:Know Tryd.prog:=⟨55,za2,zfB⟩
def zfz:Know Tryd.prog:=⟨55,fun I=>zA I (za2 I),zf zfB⟩
end Go.Proofs.YtknaogelmckimaaDoor
namespace Go.Proofs.YtknaogelmckimaaDoor
open Go Go.Sep Go.Ab
set_option maxRecDepth 100000
def tokA (s:Str):Bool:=s.all fun c=>tokB (c.toNat:Int)
def wF (s:Str):Bool:=s.all fun c=>wQ (c.toNat:Int)
theorem xM (c:UInt8):0≤(c.toNat:Int)∧(c.toNat:Int)≤255:=by have:=c.toNat_lt;omega
theorem UJ {p:UInt8→Bool} {s:Str} {i:Nat} (h:i<s.length):(s.drop i).all p=(p (s.getD i 0)&&(s.drop (i+1)).all p):=by
  rw [List.drop_eq_getElem_cons h,List.all_cons];simp [h]
theorem zg9 (s:Str) (hneed:s.length≤1000000):Spc Tryd.prog 58 [.v (.one (.p (.str s))),.v (.one (.fn 84 []))] [] (.ret (.v (.one (.p (.bool (tokA s)))))) []:=by
  generalize hr:tokA s=r
  refine spcG zk mixed Tryd.func58 (by kernel_rfl) { keep:=some [0,1,4,5,7,8]} [uw] (by kernel_rfl) ?_
  intro I X hI hX
  refine zh (.code 0 [1,0,1,0] ⟨[(8,(.v (.one (.p (.int .i64 0))))),(7,(.v (.one (.p (.int .i64 (I.len (α:=UInt8) s)))))),(4,(.v (.one (.p (.val (.bool .false)))))),(0,(.v (.one (.p (.str s))))),(1,(.v (.one (.fn 84 []))))],[],18,none⟩) (by kernel_rfl) ?_
  simp only [zq]
  refine zu hI zk mixed [uw] hX [0,1,7,8] (fun(i:Nat)=>i≤s.length∧tokA (s.drop i)=r) (fun(i:Nat)=>⟨[(0,.v (.one (.p (.str s)))),(1,.v (.one (.fn 84 []))),(7,.v (.one (.p (.int .i64 ((I.len (α:=UInt8) s)))))),(8,.v (.one (.p (.int .i64 i))))],[],18,none⟩) (fun(i:Nat)=>s.length - i) 0 (by kernel_rfl) (by kernel_rfl) ?_ ?_
  · exact⟨Nat.zero_le _,hr⟩
  rintro i ⟨h1,h2⟩ A hA
  refine zh (let y0:=I.b2i (I.get (α:=UInt8) s 0 (Nat.cast i));.br (I.ilt (Nat.cast i) (I.len (α:=UInt8) s)) (.need (I.inb (Nat.cast i) (I.len (α:=UInt8) s)) (.need (I.hid (α:=(Prop)) (And (LE.le (0:Int) y0) (LE.le y0 (255:Int)))) (.br (I.bnot (I.hid (α:=Bool) (tokB y0))) (.fin (.ret (.v (.one (.p (.bool Bool.false))))) []) (.need (I.inr Go.IntKind.i64 (I.add (Nat.cast i) 1)) (.need (A ⟨[(0,(.v (.one (.p (.str s))))),(1,(.v (.one (.fn 84 [])))),(7,(.v (.one (.p (.int .i64 (I.len (α:=UInt8) s)))))),(8,(.v (.one (.p (.int .i64 (I.add (Nat.cast i) 1))))))],[],18,none⟩) .qed))))) (.fin (.ret (.v (.one (.p (.bool Bool.true))))) [])) (by kernel_rfl) ?_
  simp only [zq]
  subst hI
  simp only [nrmA,nrmB]
  have hb:=xM (s.getD i 0)
  have hd:i<s.length→tokA (s.drop i)=(tokB (s.getD i 0).toNat&&tokA (s.drop (i+1))):=fun h=>UJ h
  generalize s.getD i 0=x at *
  (repeat' (first|refine And.intro ?_ ?_|intro _))<;>first|omega|exact True.intro|exact False.elim ‹False›|skip
  all_goals first
    |(rw [← h2,hd (by omega)];simp [*];done)
    |(refine hA (i+1) ⟨by omega,?_⟩ (by omega);rw [← h2,hd (by omega)];simp [*];done)
    |(rw [← h2,List.drop_of_length_le (by omega)];rfl)
def ZC (I:Alg) (args:List D) (hp:List HO):Option CT:=match args,hp with
  |[.v (.one (.p (.str s))),.v (.one (.fn 84 []))],[]=>(fun(s:Str)=>(some (.one ⟨I.hid (s.length≤1000000),(.ret (.v (.one (.p (.bool (I.hid (tokA s))))))),[]⟩):Option CT)) s
  |_,_=>none
theorem RS:zx Tryd.prog 58 (ZC alg):=by
  intro args hp r h
  unfold ZC at h
  split at h
  · cases h;exact fun hn=>zg9 _ hn
  · cases h
def ZB:Know Tryd.prog:=⟨58,ZC,RS⟩
def ZA:Know Tryd.prog:=⟨58,fun I=>zA I (ZC I),zf RS⟩
theorem zfi (s:Str) (hneed:s.length≤1000000):Spc Tryd.prog 58 [.v (.one (.p (.str s))),.v (.one (.fn 37 []))] [] (.ret (.v (.one (.p (.bool (wF s)))))) []:=by
  generalize hr:wF s=r
  refine spcG zk mixed Tryd.func58 (by kernel_rfl) { keep:=some [0,1,4,5,7,8]} [wL,ZB,ZA] (by kernel_rfl) ?_
  intro I X hI hX
  refine zh (.code 0 [1,0,1,0] ⟨[(8,(.v (.one (.p (.int .i64 0))))),(7,(.v (.one (.p (.int .i64 (I.len (α:=UInt8) s)))))),(4,(.v (.one (.p (.val (.bool .false)))))),(0,(.v (.one (.p (.str s))))),(1,(.v (.one (.fn 37 []))))],[],18,none⟩) (by kernel_rfl) ?_
  simp only [zq]
  refine zu hI zk mixed [wL,ZB,ZA] hX [0,1,7,8] (fun(i:Nat)=>i≤s.length∧wF (s.drop i)=r) (fun(i:Nat)=>⟨[(0,.v (.one (.p (.str s)))),(1,.v (.one (.fn 37 []))),(7,.v (.one (.p (.int .i64 ((I.len (α:=UInt8) s)))))),(8,.v (.one (.p (.int .i64 i))))],[],18,none⟩) (fun(i:Nat)=>s.length - i) 0 (by kernel_rfl) (by kernel_rfl) ?_ ?_
  · exact⟨Nat.zero_le _,hr⟩
  rintro i ⟨h1,h2⟩ A hA
  refine zh (.br (I.ilt (Nat.cast i) (I.len (α:=UInt8) s)) (.need (I.inb (Nat.cast i) (I.len (α:=UInt8) s)) (.need (I.hid (α:=(Prop)) True) (.br (I.bnot (I.hid (α:=Bool) (wQ (I.b2i (I.get (α:=UInt8) s 0 (Nat.cast i)))))) (.fin (.ret (.v (.one (.p (.bool Bool.false))))) []) (.need (I.inr Go.IntKind.i64 (I.add (Nat.cast i) 1)) (.need (A ⟨[(0,(.v (.one (.p (.str s))))),(1,(.v (.one (.fn 37 [])))),(7,(.v (.one (.p (.int .i64 (I.len (α:=UInt8) s)))))),(8,(.v (.one (.p (.int .i64 (I.add (Nat.cast i) 1))))))],[],18,none⟩) .qed))))) (.fin (.ret (.v (.one (.p (.bool Bool.true))))) [])) (by kernel_rfl) ?_
  simp only [zq]
  subst hI
  simp only [nrmA,nrmB]
  have hb:=xM (s.getD i 0)
  have hd:i<s.length→wF (s.drop i)=(wQ (s.getD i 0).toNat&&wF (s.drop (i+1))):=fun h=>UJ h
  generalize s.getD i 0=x at *
  (repeat' (first|refine And.intro ?_ ?_|intro _))<;>first|omega|exact True.intro|exact False.elim ‹False›|skip
  all_goals first
    |(rw [← h2,hd (by omega)];simp [*];done)
    |(refine hA (i+1) ⟨by omega,?_⟩ (by omega);rw [← h2,hd (by omega)];simp [*];done)
    |(rw [← h2,List.drop_of_length_le (by omega)];rfl)
def rV (I:Alg) (args:List D) (hp:List HO):Option CT:=match args,hp with
  |[.v (.one (.p (.str s))),.v (.one (.fn 37 []))],[]=>(fun(s:Str)=>(some (.one ⟨I.hid (s.length≤1000000),(.ret (.v (.one (.p (.bool (I.hid (wF s))))))),[]⟩):Option CT)) s
  |_,_=>none
theorem VH:zx Tryd.prog 58 (rV alg):=by
  intro args hp r h
  unfold rV at h
  split at h
  · cases h;exact fun hn=>zfi _ hn
  · cases h
def VG:Know Tryd.prog:=⟨58,rV,VH⟩
def VF:Know Tryd.prog:=⟨58,fun I=>zA I (rV I),zf VH⟩
def UW (s:Str):Bool:=decide (s≠[])&&tokA s
theorem zeM (s:Str) (hneed:s.length≤1000000):Spc Tryd.prog 82 [.v (.one (.p (.str s)))] [] (.ret (.v (.one (.p (.bool (UW s)))))) []:=by
  refine spcG zk mixed Tryd.func82 (by kernel_rfl) { keep:=some [0,2]} [uw,qG,ZB,ZA,VG,VF] (by kernel_rfl) ?_
  intro I X hI hX
  refine zh (.br (I.bnot (I.seq s ([]:Str))) (.need (I.hid (α:=(Prop)) (LE.le (List.length s) 1000000)) (.fin (.ret (.v (.one (.p (.bool (I.hid (α:=Bool) (tokA s))))))) [])) (.fin (.ret (.v (.one (.p (.bool Bool.false))))) [])) (by kernel_rfl) ?_
  simp only [zq]
  subst hI
  simp only [nrmA,nrmB]
  unfold UW
  (repeat' (first|refine And.intro ?_ ?_|intro _))<;>first|omega|exact True.intro|exact False.elim ‹False›|skip
  all_goals simp [*]
def rF (I:Alg) (args:List D) (hp:List HO):Option CT:=match args,hp with
  |[.v (.one (.p (.str s)))],[]=>(fun(s:Str)=>(some (.one ⟨I.hid (s.length≤1000000),(.ret (.v (.one (.p (.bool (I.hid (UW s))))))),[]⟩):Option CT)) s
  |_,_=>none
theorem Ve:zx Tryd.prog 82 (rF alg):=by
  intro args hp r h
  unfold rF at h
  split at h
  · cases h;exact fun hn=>zeM _ hn
  · cases h
def zb2:Know Tryd.prog:=⟨82,rF,Ve⟩
def zb1:Know Tryd.prog:=⟨82,fun I=>zA I (rF I),zf Ve⟩
theorem zb0 (s:Str) (hneed:s.length≤1000000):Spc Tryd.prog 39 [.v (.one (.p (.str s)))] [] (.ret (.v (.one (.p (.bool (wF s)))))) []:=by
  refine spcG zk mixed Tryd.func39 (by kernel_rfl) { keep:=some [0,2]} [wL,sK,ZB,ZA,VG,VF] (by kernel_rfl) ?_
  intro I X hI hX
  refine zh (.need (I.hid (α:=(Prop)) (LE.le (List.length s) 1000000)) (.fin (.ret (.v (.one (.p (.bool (I.hid (α:=Bool) (wF s))))))) [])) (by kernel_rfl) ?_
  simp only [zq]
  subst hI
  simp only [nrmA,nrmB]
  exact hneed
def vI (I:Alg) (args:List D) (hp:List HO):Option CT:=match args,hp with
  |[.v (.one (.p (.str s)))],[]=>(fun(s:Str)=>(some (.one ⟨I.hid (s.length≤1000000),(.ret (.v (.one (.p (.bool (I.hid (wF s))))))),[]⟩):Option CT)) s
  |_,_=>none
theorem Yn:zx Tryd.prog 39 (vI alg):=by
  intro args hp r h
  unfold vI at h
  split at h
  · cases h;exact fun hn=>zb0 _ hn
  · cases h
def su:Know Tryd.prog:=⟨39,vI,Yn⟩
def tZ:Know Tryd.prog:=⟨39,fun I=>zA I (vI I),zf Yn⟩
theorem one_ (k:Int) (s:Str) (hneed:s.length≤1000000∧0≤k∧k≤255):Spc Tryd.prog 86 [.v (.one (.p (.int .u8 k))),.v (.one (.p (.str s)))] [] (.ret (.v (.one (.p (.bool (s.contains (UInt8.ofNat k.toNat))))))) []:=by
  generalize hr:s.contains (UInt8.ofNat k.toNat)=r
  refine spcG zk mixed Tryd.func86 (by kernel_rfl) { keep:=some [0,1,4,5]} [] (by kernel_rfl) ?_
  intro I X hI hX
  refine zh (.code 0 [1,0,1,0] ⟨[(5,(.v (.one (.p (.int .i64 0))))),(4,(.v (.one (.p (.val (.bool .false)))))),(0,(.v (.one (.p (.int .u8 k))))),(1,(.v (.one (.p (.str s)))))],[],17,none⟩) (by kernel_rfl) ?_
  simp only [zq]
  refine zu hI zk mixed [] hX [0,1,5] (fun(i:Nat)=>i≤s.length∧(s.drop i).contains (UInt8.ofNat k.toNat)=r) (fun(i:Nat)=>⟨[(0,.v (.one (.p (.int .u8 k)))),(1,.v (.one (.p (.str s)))),(5,.v (.one (.p (.int .i64 i))))],[],17,none⟩) (fun(i:Nat)=>s.length - i) 0 (by kernel_rfl) (by kernel_rfl) ?_ ?_
  · exact⟨Nat.zero_le _,hr⟩
  rintro i ⟨h1,h2⟩ A hA
  refine zh (.br (I.ilt (Nat.cast i) (I.len (α:=UInt8) s)) (.need (I.inb (Nat.cast i) (I.len (α:=UInt8) s)) (.br (I.ieq (I.b2i (I.get (α:=UInt8) s 0 (Nat.cast i))) k) (.fin (.ret (.v (.one (.p (.bool Bool.true))))) []) (.need (I.inr Go.IntKind.i64 (I.add (Nat.cast i) 1)) (.need (A ⟨[(0,(.v (.one (.p (.int .u8 k))))),(1,(.v (.one (.p (.str s))))),(5,(.v (.one (.p (.int .i64 (I.add (Nat.cast i) 1))))))],[],17,none⟩) .qed)))) (.fin (.ret (.v (.one (.p (.bool Bool.false))))) [])) (by kernel_rfl) ?_
  simp only [zq]
  subst hI
  simp only [nrmA,nrmB]
  have hd:i<s.length→(s.drop i).contains (UInt8.ofNat k.toNat)=((UInt8.ofNat k.toNat == s.getD i 0)||(s.drop (i+1)).contains (UInt8.ofNat k.toNat)):=fun h=>by
    rw [List.drop_eq_getElem_cons h,List.contains_cons];simp [h]
  have hc:((s.getD i 0).toNat:Int)=k↔UInt8.ofNat k.toNat=s.getD i 0:=by
    rw [← UInt8.toNat_inj,UInt8.toNat_ofNat']
    omega
  rw [hc]
  generalize s.getD i 0=x at *
  (repeat' (first|refine And.intro ?_ ?_|intro _))<;>first|omega|exact True.intro|exact False.elim ‹False›|skip
  all_goals first
    |(rw [← h2,hd (by omega)];simp [*];done)
    |(refine hA (i+1) ⟨by omega,?_⟩ (by omega);rw [← h2,hd (by omega)];simp [*];done)
    |(rw [← h2,List.drop_of_length_le (by omega)];rfl)
def zaJ (I:Alg) (args:List D) (hp:List HO):Option CT:=match args,hp with
  |[.v (.one (.p (.int .u8 k))),.v (.one (.p (.str s)))],[]=>(fun(k:Int) (s:Str)=>(some (.one ⟨I.hid (s.length≤1000000∧0≤k∧k≤255),(.ret (.v (.one (.p (.bool (I.hid (s.contains (UInt8.ofNat k.toNat)))))))),[]⟩):Option CT)) k s
  |_,_=>none
theorem zfs:zx Tryd.prog 86 (zaJ alg):=by
  intro args hp r h
  unfold zaJ at h
  split at h
  · cases h;exact fun hn=>one_ _ _ hn
  · cases h
def zhD:Know Tryd.prog:=⟨86,zaJ,zfs⟩
def zhC:Know Tryd.prog:=⟨86,fun I=>zA I (zaJ I),zf zfs⟩
def tokR:Str:=[48,49,50,51,52,53,54,55,56,57,65,66,67,68,69,70,71,72,73,74,75,76,77,78,79,80,81,82,83,84,85,86,87,88,89,90,97,98,99,100,101,102,103,104,105,106,107,108,109,110,111,112,113,114,115,116,117,118,119,120,121,122,33,35,36,37,38,39,42,43,45,46,94,95,96,124,126]
theorem zg6 {p:Int→Prop} [∀ k,Decidable (p k)] (h: ∀ n:Fin 256,p (n.1:Int)) {k:Int} (hk:0≤k∧k≤255):p k:=by
  have:=h ⟨k.toNat,by omega⟩
  rwa [show((k.toNat:Nat):Int)=k by omega] at this
theorem zeo {k:Int} (hk:0≤k∧k≤255):tokR.contains (UInt8.ofNat k.toNat)=tokB k:=
  zg6 (p:=fun k=>tokR.contains (UInt8.ofNat k.toNat)=tokB k) (by decide+kernel) hk
theorem TN (k:Int) (hneed:0≤k∧k≤255):Spc Tryd.prog 73 [.v (.one (.p (.int .u8 k)))] [] (.ret (.v (.one (.p (.bool (tokB k)))))) []:=by
  rw [← zeo hneed]
  refine spcG zk mixed Tryd.func73 (by kernel_rfl) { keep:=some [0,2]} [zhD,zhC] (by kernel_rfl) ?_
  intro I X hI hX
  refine zh (let y0:=([99,100,101,102,103,104,105,106,107,108,109,110,111,112,113,114,115,116,117,118,119,120,121,122,33,35,36,37,38,39,42,43,45,46,94,95,96,124,126]:Str);let y1:=([48,49,50,51,52,53,54,55,56,57,65,66,67,68,69,70,71,72,73,74,75,76,77,78,79,80,81,82,83,84,85,86,87,88,89,90,97,98]:Str);.need (I.hid (α:=(Prop)) (And (LE.le (List.length (Array.toList (List.toArray (List.append y1 y0)))) 1000000) (And (LE.le (0:Int) k) (LE.le k (255:Int))))) (.fin (.ret (.v (.one (.p (.bool (I.hid (α:=Bool) (List.contains (Array.toList (List.toArray (List.append y1 y0))) (UInt8.ofNat (Int.toNat k))))))))) [])) (by kernel_rfl) ?_
  simp only [zq]
  subst hI
  simp only [nrmA,nrmB]
  trivial
def xY (I:Alg) (args:List D) (hp:List HO):Option CT:=match args,hp with
  |[.v (.one (.p (.int .u8 k)))],[]=>(fun(k:Int)=>(some (.one ⟨I.hid (0≤k∧k≤255),(.ret (.v (.one (.p (.bool (I.hid (tokB k))))))),[]⟩):Option CT)) k
  |_,_=>none
theorem qi:zx Tryd.prog 73 (xY alg):=by
  intro args hp r h
  unfold xY at h
  split at h
  · cases h;exact fun hn=>TN _ hn
  · cases h
def qh:Know Tryd.prog:=⟨73,xY,qi⟩
def qg:Know Tryd.prog:=⟨73,fun I=>zA I (xY I),zf qi⟩
theorem zcA (s:Str) (hneed:s.length≤1000000):Spc Tryd.prog 19 [.v (.one (.p (.str s)))] [] (.ret (.v (.one (.p (.bool (wF s)))))) []:=by
  generalize hr:wF s=r
  refine spcG zk mixed Tryd.func19 (by kernel_rfl) { keep:=some [0,2,3]} [wX,wW] (by kernel_rfl) ?_
  intro I X hI hX
  refine zh (.code 0 [1,0,1,0] ⟨[(3,(.v (.one (.p (.int .i64 0))))),(2,(.v (.one (.p (.val (.bool .false)))))),(0,(.v (.one (.p (.str s)))))],[],15,none⟩) (by kernel_rfl) ?_
  simp only [zq]
  refine zu hI zk mixed [wX,wW] hX [0,3] (fun(i:Nat)=>i≤s.length∧wF (s.drop i)=r) (fun(i:Nat)=>⟨[(0,.v (.one (.p (.str s)))),(3,.v (.one (.p (.int .i64 i))))],[],15,none⟩) (fun(i:Nat)=>s.length - i) 0 (by kernel_rfl) (by kernel_rfl) ?_ ?_
  · exact⟨Nat.zero_le _,hr⟩
  rintro i ⟨h1,h2⟩ A hA
  refine zh (.br (I.ilt (Nat.cast i) (I.len (α:=UInt8) s)) (.need (I.inb (Nat.cast i) (I.len (α:=UInt8) s)) (.need (I.hid (α:=(Prop)) True) (.br (I.bnot (I.hid (α:=Bool) (wQ (I.b2i (I.get (α:=UInt8) s 0 (Nat.cast i)))))) (.fin (.ret (.v (.one (.p (.bool Bool.false))))) []) (.need (I.inr Go.IntKind.i64 (I.add (Nat.cast i) 1)) (.need (A ⟨[(0,(.v (.one (.p (.str s))))),(3,(.v (.one (.p (.int .i64 (I.add (Nat.cast i) 1))))))],[],15,none⟩) .qed))))) (.fin (.ret (.v (.one (.p (.bool Bool.true))))) [])) (by kernel_rfl) ?_
  simp only [zq]
  subst hI
  simp only [nrmA,nrmB]
  have hb:=xM (s.getD i 0)
  have hd:i<s.length→wF (s.drop i)=(wQ (s.getD i 0).toNat&&wF (s.drop (i+1))):=fun h=>UJ h
  generalize s.getD i 0=x at *
  (repeat' (first|refine And.intro ?_ ?_|intro _))<;>first|omega|exact True.intro|exact False.elim ‹False›|skip
  all_goals first
    |(rw [← h2,hd (by omega)];simp [*];done)
    |(refine hA (i+1) ⟨by omega,?_⟩ (by omega);rw [← h2,hd (by omega)];simp [*];done)
    |(rw [← h2,List.drop_of_length_le (by omega)];rfl)
def uy (I:Alg) (args:List D) (hp:List HO):Option CT:=match args,hp with
  |[.v (.one (.p (.str s)))],[]=>(fun(s:Str)=>(some (.one ⟨I.hid (s.length≤1000000),(.ret (.v (.one (.p (.bool (I.hid (wF s))))))),[]⟩):Option CT)) s
  |_,_=>none
theorem Xp:zx Tryd.prog 19 (uy alg):=by
  intro args hp r h
  unfold uy at h
  split at h
  · cases h;exact fun hn=>zcA _ hn
  · cases h
def zV:Know Tryd.prog:=⟨19,uy,Xp⟩
def zU:Know Tryd.prog:=⟨19,fun I=>zA I (uy I),zf Xp⟩
end Go.Proofs.YtknaogelmckimaaDoor
namespace Go.Proofs.YtknaogelmckimaaDoor
open Go Go.Sep Go.Ab
set_option maxRecDepth 100000
def lowC (x:UInt8):UInt8:=if 65≤x.toNat∧x.toNat≤90 then x+32 else x
def lowS (s:Str):Str:=s.map lowC
theorem yI (s:Str):(lowS s).length=s.length:=by simp [lowS]
theorem zbW (x:UInt8):((lowC x).toNat:Int)=lowK x.toNat:=by
  unfold lowC lowK
  have:=x.toNat_lt
  split
  · rw [if_pos (by omega),UInt8.toNat_add]
    simp only [show(32:UInt8).toNat=32 from rfl]
    omega
  · rw [if_neg (by omega)]
theorem zgq (x:UInt8):UInt8.ofNat (lowK x.toNat).toNat=lowC x:=by
  rw [← zbW,Int.toNat_natCast,UInt8.ofNat_toNat]
theorem zih (s:Str):Spc Tryd.prog 40 [.v (.one (.p (.str s)))] [] (.ret (.v (.one (.p (.str (Lib.trimS s [32,9])))))) []:=by
  refine spcG zk mixed Tryd.func40 (by kernel_rfl) { keep:=some [0,2]} [zfS,zfR] (by kernel_rfl) ?_
  intro I X hI hX
  refine zh (.need (I.hid (α:=(Prop)) True) (.fin (.ret (.v (.one (.p (.str (I.hid (α:=Str) (Go.Lib.trimS s ([32,9]:Str)))))))) [])) (by kernel_rfl) ?_
  simp only [zq]
  subst hI
  simp only [nrmA,nrmB]
  try trivial
def Xf (I:Alg) (args:List D) (hp:List HO):Option CT:=match args,hp with
  |[.v (.one (.p (.str s)))],[]=>(fun(s:Str)=>(some (.one ⟨I.hid (True),(.ret (.v (.one (.p (.str (I.hid (Lib.trimS s [32,9]))))))),[]⟩):Option CT)) s
  |_,_=>none
theorem zbx:zx Tryd.prog 40 (Xf alg):=by
  intro args hp r h
  unfold Xf at h
  split at h
  · cases h;exact fun hn=>zih _
  · cases h
def zbw:Know Tryd.prog:=⟨40,Xf,zbx⟩
def zbv:Know Tryd.prog:=⟨40,fun I=>zA I (Xf I),zf zbx⟩
theorem zg5 (s:Str) (hneed:s.length≤1000000):Spc Tryd.prog 64 [.v (.one (.p (.str s)))] [] (.ret (.v (.one (.p (.str (lowS s)))))) []:=by
  refine spcG zk mixed Tryd.func64 (by kernel_rfl) { keep:=some [0,2,3,4,5,8,9,10]} [YX,YW] (by kernel_rfl) ?_
  intro I X hI hX
  refine zh (.code 0 [1,1,0,1,0] ⟨[(10,(.v (.one (.p (.int .i64 0))))),(9,(.v (.one (.p (.int .i64 (I.len (α:=UInt8) s)))))),(8,(.v (.one (.row 0)))),(3,(.v (.one (.row 0)))),(2,(.v (.one (.p (.str ([]:Str)))))),(0,(.v (.one (.p (.str s)))))],[(.row .byte 5 s)],23,none⟩) (by kernel_rfl) ?_
  simp only [zq]
  refine zu hI zk mixed [YX,YW] hX [0,3,8,9,10] (fun(g:Nat × Str)=>match g with|(i,b)=>i≤s.length∧b=lowS (s.take i)++s.drop i) (fun(g:Nat × Str)=>match g with|(i,b)=>⟨[(0,.v (.one (.p (.str s)))),(3,.v (.one (.row 0))),(8,.v (.one (.row 0))),(9,.v (.one (.p (.int .i64 ((I.len (α:=UInt8) s)))))),(10,.v (.one (.p (.int .i64 i))))],[.row .byte 5 b],23,none⟩) (fun(g:Nat × Str)=>match g with|(i,b)=>s.length - i) (0,s) (by kernel_rfl) (by kernel_rfl) ?_ ?_
  · exact⟨Nat.zero_le _,rfl⟩
  rintro⟨i,b⟩ ⟨h1,h2⟩ A hA
  simp only at hA
  refine zh (let y0:=I.b2i (I.get (α:=UInt8) b 0 (Nat.cast i));let y1:=I.inb (Nat.cast i) (I.len (α:=UInt8) b);.br (I.ilt (Nat.cast i) (I.len (α:=UInt8) s)) (.need y1 (.need y1 (.need (I.hid (α:=(Prop)) (And (LE.le (0:Int) y0) (LE.le y0 (255:Int)))) (.need y1 (.need (I.inr Go.IntKind.u8 (I.hid (α:=Int) (lowK y0))) (.need y1 (.need (I.inr Go.IntKind.i64 (I.add (Nat.cast i) 1)) (.need (A ⟨[(0,(.v (.one (.p (.str s))))),(3,(.v (.one (.row 0)))),(8,(.v (.one (.row 0)))),(9,(.v (.one (.p (.int .i64 (I.len (α:=UInt8) s)))))),(10,(.v (.one (.p (.int .i64 (I.add (Nat.cast i) 1))))))],[(.row .byte 5 (I.set (α:=UInt8) b (Nat.cast i) (I.i2b (I.hid (α:=Int) (lowK y0)))))],23,none⟩) .qed)))))))) (.fin (.ret (.v (.one (.p (.str b))))) [])) (by kernel_rfl) ?_
  simp only [zq]
  subst hI
  simp only [nrmA,nrmB]
  have hlen:b.length=s.length:=by rw [h2,List.length_append,yI,List.length_take,List.length_drop];omega
  have hx:i<s.length→b.getD i 0=s.getD i 0:=fun h=>by
    rw [h2,List.getD_eq_getElem?_getD,List.getD_eq_getElem?_getD,List.getElem?_append_right (by rw [yI,List.length_take];omega),yI,List.length_take,List.getElem?_drop]
    congr 2
    omega
  have hset:i<s.length→b.set i (lowC (s.getD i 0))=lowS (s.take (i+1))++s.drop (i+1):=fun h=>by
    have e:(lowS (s.take i)).length=i:=by rw [yI,List.length_take];omega
    rw [h2,List.set_append_right _ _ (by omega),e,Nat.sub_self,List.drop_eq_getElem_cons h,List.set_cons_zero,List.take_succ_eq_append_getElem h,show s.getD i 0=s[i] by simp [h]]
    unfold lowS
    rw [List.map_append,List.append_assoc]
    rfl
  have hby:=xM (s.getD i 0)
  have hlk:=zc1 hby
  refine⟨fun c=> ?_,fun c=> ?_⟩
  · rw [hx (by omega),zgq,hset (by omega)]
    exact⟨by omega,by omega,by omega,by omega,by omega,by omega,by omega,hA (i+1,_) ⟨by simp only;omega,rfl⟩ (by simp only;omega)⟩
  · rw [h2,List.drop_of_length_le (by omega),List.take_of_length_le (by omega),List.append_nil]
def Zz (I:Alg) (args:List D) (hp:List HO):Option CT:=match args,hp with
  |[.v (.one (.p (.str s)))],[]=>(fun(s:Str)=>(some (.one ⟨I.hid (s.length≤1000000),(.ret (.v (.one (.p (.str (I.hid (lowS s))))))),[]⟩):Option CT)) s
  |_,_=>none
theorem RD:zx Tryd.prog 64 (Zz alg):=by
  intro args hp r h
  unfold Zz at h
  split at h
  · cases h;exact fun hn=>zg5 _ hn
  · cases h
def xK:Know Tryd.prog:=⟨64,Zz,RD⟩
def xJ:Know Tryd.prog:=⟨64,fun I=>zA I (Zz I),zf RD⟩
theorem zhd (s:Str) (hneed:s.length≤1000000):Spc Tryd.prog 34 [.v (.one (.p (.str s)))] [] (.ret (.v (.one (.p (.str (lowS s)))))) []:=by
  refine spcG zk mixed Tryd.func34 (by kernel_rfl) { keep:=some [0,2,3,4,5,6]} [] (by kernel_rfl) ?_
  intro I X hI hX
  refine zh (.code 0 [1,1,0,1,0] ⟨[(4,(.v (.one (.p (.int .i64 0))))),(3,(.v (.one (.p (.str ([]:Str)))))),(2,(.v (.one (.p (.str ([]:Str)))))),(0,(.v (.one (.p (.str s)))))],[],36,none⟩) (by kernel_rfl) ?_
  simp only [zq]
  refine zu hI zk mixed [] hX [0,3,4] (fun(g:Nat × Str)=>match g with|(i,out)=>i≤s.length∧out=lowS (s.take i)) (fun(g:Nat × Str)=>match g with|(i,out)=>⟨[(0,.v (.one (.p (.str s)))),(3,.v (.one (.p (.str out)))),(4,.v (.one (.p (.int .i64 i))))],[],36,none⟩) (fun(g:Nat × Str)=>match g with|(i,out)=>s.length - i) (0,[]) (by kernel_rfl) (by kernel_rfl) ?_ ?_
  · exact⟨Nat.zero_le _,rfl⟩
  rintro⟨i,out⟩ ⟨h1,h2⟩ A hA
  simp only at hA
  refine zh (.br (I.ilt (Nat.cast i) (I.len (α:=UInt8) s)) (.need (I.inr Go.IntKind.i64 (I.add (Nat.cast i) 1)) (.need (I.cutb (Int.ofNat i) (I.add (Nat.cast i) 1) (I.len (α:=UInt8) s)) (.code 0 [1,0,0,1,0,1,0] ⟨[(6,(.v (.one (.p (.int .i64 0))))),(5,(.v (.one (.p (.str (I.cut (α:=UInt8) s (Int.ofNat i) (I.add (Nat.cast i) 1))))))),(0,(.v (.one (.p (.str s))))),(3,(.v (.one (.p (.str out))))),(4,(.v (.one (.p (.int .i64 (Nat.cast i))))))],[],36,none⟩))) (.fin (.ret (.v (.one (.p (.str out))))) [])) (by kernel_rfl) ?_
  simp only [zq]
  refine⟨fun c1=>⟨?_,?_,?_⟩,fun c1=> ?_⟩
  · subst hI
    simp only [nrmA,nrmB] at c1
    simp only [nrmA,nrmB]
    omega
  · subst hI
    simp only [nrmA,nrmB] at c1
    simp only [nrmA,nrmB]
    omega
  · have hi:i<s.length:=by
      subst hI
      simp only [nrmA,nrmB] at c1
      omega
    generalize hc0:I.cut (α:=UInt8) s (Int.ofNat i) (I.add (↑i) 1)=c0
    have hc1:c0=[s.getD i 0]:=by
      rw [← hc0,hI,xN,xW]
      simp only [Int.ofNat_eq_natCast,Int.toNat_natCast,show((i:Int)+1).toNat=i+1 by omega]
      rw [List.drop_eq_getElem_cons hi,Nat.add_sub_cancel_left,List.take_succ_cons,List.take_zero]
      simp [hi]
    generalize hx:s.getD i 0=x at *
    have hxb:=x.toNat_lt
    have hcap: ∀ k:Nat,k<26→((([65,66,67,68,69,70,71,72,73,74,75,76,77,78,79,80,81,82,83,84,85,86,87,88,89,90]:Str).getD k 0).toNat=65+k∧((([97,98,99,100,101,102,103,104,105,106,107,108,109,110,111,112,113,114,115,116,117,118,119,120,121,122]:Str).drop k).take 1)=[UInt8.ofNat (97+k)]):=by decide+kernel
    refine zu hI zk mixed [] hX [0,3,4,5,6] (fun(g:Nat × Str)=>match g with|(k,c)=>k≤26∧c=[if 65≤x.toNat∧x.toNat<65+k then x+32 else x]) (fun(g:Nat × Str)=>match g with|(k,c)=>⟨[(0,.v (.one (.p (.str s)))),(3,.v (.one (.p (.str out)))),(4,.v (.one (.p (.int .i64 i)))),(5,.v (.one (.p (.str c)))),(6,.v (.one (.p (.int .i64 k))))],[],36,none⟩) (fun(g:Nat × Str)=>match g with|(k,c)=>26 - k) (0,c0) (by kernel_rfl) (by kernel_rfl) ?_ ?_
    · refine⟨Nat.zero_le _,?_⟩
      rw [hc1,if_neg (by omega)]
    rintro⟨k,c⟩ ⟨k1,k2⟩ B hB
    simp only at hB
    refine zh (let y0:=([97,98,99,100,101,102,103,104,105,106,107,108,109,110,111,112,113,114,115,116,117,118,119,120,121,122]:Str);let y1:=([65,66,67,68,69,70,71,72,73,74,75,76,77,78,79,80,81,82,83,84,85,86,87,88,89,90]:Str);let y2:=I.inr Go.IntKind.i64 (I.add (Nat.cast k) 1);.br (I.ilt (Nat.cast k) 26) (.need (I.inb (Nat.cast k) (I.len (α:=UInt8) y1)) (.need (I.inb (Nat.cast i) (I.len (α:=UInt8) s)) (.br (I.ieq (I.b2i (I.get (α:=UInt8) y1 0 (Nat.cast k))) (I.b2i (I.get (α:=UInt8) s 0 (Nat.cast i)))) (.need y2 (.need (I.cutb (Int.ofNat k) (I.add (Nat.cast k) 1) (I.len (α:=UInt8) y0)) (.need y2 (.need (B ⟨[(0,(.v (.one (.p (.str s))))),(3,(.v (.one (.p (.str out))))),(4,(.v (.one (.p (.int .i64 (Nat.cast i)))))),(5,(.v (.one (.p (.str (I.cut (α:=UInt8) y0 (Int.ofNat k) (I.add (Nat.cast k) 1))))))),(6,(.v (.one (.p (.int .i64 (I.add (Nat.cast k) 1))))))],[],36,none⟩) .qed)))) (.need y2 (.need (B ⟨[(0,(.v (.one (.p (.str s))))),(3,(.v (.one (.p (.str out))))),(4,(.v (.one (.p (.int .i64 (Nat.cast i)))))),(5,(.v (.one (.p (.str c))))),(6,(.v (.one (.p (.int .i64 (I.add (Nat.cast k) 1))))))],[],36,none⟩) .qed))))) (.need (I.few (I.add (I.len (α:=UInt8) out) (I.len (α:=UInt8) c)) 1000000000) (.need (I.inr Go.IntKind.i64 (I.add (Nat.cast i) 1)) (.need (A ⟨[(0,(.v (.one (.p (.str s))))),(3,(.v (.one (.p (.str (I.app (α:=UInt8) out c)))))),(4,(.v (.one (.p (.int .i64 (I.add (Nat.cast i) 1))))))],[],36,none⟩) .qed)))) (by kernel_rfl) ?_
    simp only [zq]
    subst hI
    simp only [nrmA,nrmB]
    rw [hx]
    generalize hCAP:([65,66,67,68,69,70,71,72,73,74,75,76,77,78,79,80,81,82,83,84,85,86,87,88,89,90]:Str)=CAP at *
    generalize hLOW:([97,98,99,100,101,102,103,104,105,106,107,108,109,110,111,112,113,114,115,116,117,118,119,120,121,122]:Str)=LOW at *
    have hol:out.length≤1000000:=by rw [h2,yI,List.length_take];omega
    have hc1l:c.length=1:=by rw [k2];rfl
    have hcl:CAP.length=26:=by rw [← hCAP];rfl
    have hll:LOW.length=26:=by rw [← hLOW];rfl
    have hcond:k<26→(CAP.getD k 0=x↔x.toNat=65+k):=fun h=>by rw [← UInt8.toNat_inj,(hcap k h).1];omega
    have heq:k<26→CAP.getD k 0=x→(LOW.drop k).take (((k:Int)+1).toNat - k)=[if 65≤x.toNat∧x.toNat<65+(k+1) then x+32 else x]:=fun h e=>by
      have e:=(hcond h).1 e
      rw [show((k:Int)+1).toNat - k=1 by omega,(hcap k h).2,if_pos (by omega)]
      congr 1
      rw [← UInt8.toNat_inj,UInt8.toNat_ofNat',UInt8.toNat_add,e]
      simp only [show(32:UInt8).toNat=32 from rfl]
      omega
    have hne:k<26→¬ CAP.getD k 0=x→c=[if 65≤x.toNat∧x.toNat<65+(k+1) then x+32 else x]:=fun h e=>by
      have e: ¬ x.toNat=65+k:=fun h'=>e ((hcond h).2 h')
      rw [k2]
      congr 1
      by_cases h1:65≤x.toNat∧x.toNat<65+k
      · rw [if_pos h1,if_pos (by omega)]
      · rw [if_neg h1,if_neg (by omega)]
    have hend: ¬ k<26→out++c=lowS (s.take (i+1)):=fun h=>by
      have hk:k=26:=by omega
      subst hk
      rw [k2,h2,List.take_succ_eq_append_getElem hi]
      unfold lowS
      rw [List.map_append]
      congr 1
      rw [← hx,show s.getD i 0=s[i] by simp [hi]]
      show _=[lowC s[i]]
      unfold lowC
      congr 1
      by_cases h1:65≤s[i].toNat∧s[i].toNat<65+26
      · rw [if_pos h1,if_pos (by omega)]
      · rw [if_neg h1,if_neg (by omega)]
    (repeat' (first|refine And.intro ?_ ?_|intro _))<;>first|omega|exact True.intro|exact False.elim ‹False›|skip
    all_goals first
      |omega
      |exact hB (k+1,_) ⟨by simp only;omega,heq (by omega) ‹_›⟩ (by simp only;omega)
      |exact hB (k+1,_) ⟨by simp only;omega,hne (by omega) ‹_›⟩ (by simp only;omega)
      |(rw [hend (by omega)];exact hA (i+1,_) ⟨by simp only;omega,rfl⟩ (by simp only;omega))
  · subst hI
    simp only [nrmA,nrmB] at c1
    simp only [nrmA,nrmB]
    rw [h2,List.take_of_length_le (by omega)]
def YG (I:Alg) (args:List D) (hp:List HO):Option CT:=match args,hp with
  |[.v (.one (.p (.str s)))],[]=>(fun(s:Str)=>(some (.one ⟨I.hid (s.length≤1000000),(.ret (.v (.one (.p (.str (I.hid (lowS s))))))),[]⟩):Option CT)) s
  |_,_=>none
theorem zar:zx Tryd.prog 34 (YG alg):=by
  intro args hp r h
  unfold YG at h
  split at h
  · cases h;exact fun hn=>zhd _ hn
  · cases h
def yg:Know Tryd.prog:=⟨34,YG,zar⟩
def yc:Know Tryd.prog:=⟨34,fun I=>zA I (YG I),zf zar⟩
end Go.Proofs.YtknaogelmckimaaDoor
namespace Go.Proofs.YtknaogelmckimaaDoor
open Go Go.Sep Go.Ab
def ln0:Ln:=⟨[],false,0⟩
def zhf (c:UInt8):Bool:=wQ (c.toNat:Int)
def lnF (s:Ln) (c:UInt8):Ln × Str × Bool × Int:=
  if s.code≠0 then(s,[],false,s.code)
  else if s.cr then(if c=10 then(⟨[],false,0⟩,s.b,true,0) else(⟨s.b,s.cr,2⟩,[],false,2))
  else if c=10 then(⟨s.b,s.cr,2⟩,[],false,2)
  else if c=13 then(⟨s.b,true,s.code⟩,[],false,0)
  else if zhf c=false then(⟨s.b,s.cr,3⟩,[],false,3)
  else if s.b.length=200 then(⟨s.b,s.cr,4⟩,[],false,4)
  else(⟨s.b++[c],s.cr,s.code⟩,[],false,0)
theorem zc5 (s:Ln) (c:UInt8):(lnF s c).2.1.length≤s.b.length:=by
  unfold lnF
  repeat' split
  all_goals simp
theorem zhM (s:Ln) (c:UInt8):(lnF s c).1.b.length≤s.b.length+1:=by
  unfold lnF
  repeat' split
  all_goals simp
end Go.Proofs.YtknaogelmckimaaDoor
namespace Go.Proofs.YtknaogelmckimaaDoor
open Go Go.Sep Go.Ab
set_option maxRecDepth 100000
end Go.Proofs.YtknaogelmckimaaDoor
namespace Go.Proofs.YtknaogelmckimaaDoor
open Go Go.Sep Go.Ab
set_option maxRecDepth 100000
def cutB (s:Str) (c:UInt8):Str × Str × Bool:=
  if 0≤Lib.indexByte s c then(s.take (Lib.indexByte s c).toNat,s.drop ((Lib.indexByte s c).toNat+1),true) else(s,[],false)
def yX (s:Str):Fld × Int:=
  if(cutB s 58).2.2=false then(⟨[],[]⟩,5)
  else if UW (cutB s 58).1=false then(⟨[],[]⟩,6)
  else if 40<(cutB s 58).1.length then(⟨[],[]⟩,4)
  else if wF (cutB s 58).2.1=false then(⟨[],[]⟩,3)
  else(⟨(cutB s 58).1,Lib.trimS (cutB s 58).2.1 [32,9]⟩,0)
theorem zbr (s:Str) (c:UInt8):(cutB s c).1.length≤s.length∧(cutB s c).2.1.length≤s.length:=by
  unfold cutB
  split
  · simp only [List.length_take,List.length_drop];omega
  · simp
theorem zhe (s:Str) (c:UInt8) (hneed:s.length≤1000000):Spc Tryd.prog 91 [.v (.one (.p (.str s))),.v (.one (.p (.str ([c]))))] [] (.ret (.tup [(.one (.p (.str ((cutB s c).1)))),(.one (.p (.str ((cutB s c).2.1)))),(.one (.p (.bool ((cutB s c).2.2))))])) []:=by
  generalize hr:cutB s c=r
  obtain⟨a,b,d⟩:=r
  refine spcG zk mixed Tryd.func91 (by kernel_rfl) { keep:=some [0,1,4,5,6,7]} [zdb,zda] (by kernel_rfl) ?_
  intro I X hI hX
  refine zh (let y0:=I.hid (α:=Int) (Go.Lib.indexByte s c);let y1:=I.add y0 (I.len (α:=UInt8) ([c]:Str));.need (I.hid (α:=(Prop)) True) (.br (I.ile 0 y0) (.need (I.cutb 0 y0 (I.len (α:=UInt8) s)) (.need (I.inr Go.IntKind.i64 y1) (.need (I.cutb y1 (I.len (α:=UInt8) s) (I.len (α:=UInt8) s)) (.fin (.ret (.tup [(.one (.p (.str (I.cut (α:=UInt8) s 0 y0)))),(.one (.p (.str (I.cut (α:=UInt8) s y1 (I.len (α:=UInt8) s))))),(.one (.p (.bool Bool.true)))])) [])))) (.fin (.ret (.tup [(.one (.p (.str s))),(.one (.p (.str ([]:Str)))),(.one (.p (.bool Bool.false)))])) []))) (by kernel_rfl) ?_
  simp only [zq]
  subst hI
  simp only [nrmA,nrmB]
  have hx:=Yo s c
  simp only [List.length_cons,List.length_nil]
  refine⟨fun h=> ?_,fun h=> ?_⟩
  · rw [cutB,if_pos h] at hr
    simp only [Prod.mk.injEq] at hr
    obtain⟨rfl,rfl,rfl⟩:=hr
    refine⟨by omega,by omega,by omega,?_⟩
    rw [show(Lib.indexByte s c+((0+1:Nat):Int)).toNat=(Lib.indexByte s c).toNat+1 by omega]
    have e:List.take (s.length - ((Lib.indexByte s c).toNat+1)) (List.drop ((Lib.indexByte s c).toNat+1) s)=List.drop ((Lib.indexByte s c).toNat+1) s:=List.take_of_length_le (by rw [List.length_drop];exact Nat.le_refl _)
    rw [e]
  · rw [cutB,if_neg h] at hr
    simp only [Prod.mk.injEq] at hr
    obtain⟨rfl,rfl,rfl⟩:=hr
    rfl
def YI (I:Alg) (args:List D) (hp:List HO):Option CT:=match args,hp with
  |[.v (.one (.p (.str s))),.v (.one (.p (.str ([c]))))],[]=>(fun(s:Str) (c:UInt8)=>(some (.one ⟨I.hid (s.length≤1000000),(.ret (.tup [(.one (.p (.str (I.hid ((cutB s c).1))))),(.one (.p (.str (I.hid ((cutB s c).2.1))))),(.one (.p (.bool (I.hid ((cutB s c).2.2)))))])),[]⟩):Option CT)) s c
  |_,_=>none
theorem zas:zx Tryd.prog 91 (YI alg):=by
  intro args hp r h
  unfold YI at h
  split at h
  · cases h;exact fun hn=>zhe _ _ hn
  · cases h
def zes:Know Tryd.prog:=⟨91,YI,zas⟩
def zer:Know Tryd.prog:=⟨91,fun I=>zA I (YI I),zf zas⟩
theorem zir (s:Str) (c:UInt8) (hneed:s.length≤1000000):Spc Tryd.prog 81 [.v (.one (.p (.str s))),.v (.one (.p (.str ([c]))))] [] (.ret (.tup [(.one (.p (.str ((cutB s c).1)))),(.one (.p (.str ((cutB s c).2.1)))),(.one (.p (.bool ((cutB s c).2.2))))])) []:=by
  refine spcG zk mixed Tryd.func81 (by kernel_rfl) { keep:=some [0,1,4,5,6]} [zes,zer] (by kernel_rfl) ?_
  intro I X hI hX
  refine zh (.need (I.hid (α:=(Prop)) (LE.le (List.length s) 1000000)) (.fin (.ret (.tup [(.one (.p (.str (I.hid (α:=Str) (Prod.fst (cutB s c)))))),(.one (.p (.str (I.hid (α:=Str) (Prod.fst (Prod.snd (cutB s c))))))),(.one (.p (.bool (I.hid (α:=Bool) (Prod.snd (Prod.snd (cutB s c)))))))])) [])) (by kernel_rfl) ?_
  simp only [zq]
  subst hI
  simp only [nrmA,nrmB]
  exact hneed
def VP (I:Alg) (args:List D) (hp:List HO):Option CT:=match args,hp with
  |[.v (.one (.p (.str s))),.v (.one (.p (.str ([c]))))],[]=>(fun(s:Str) (c:UInt8)=>(some (.one ⟨I.hid (s.length≤1000000),(.ret (.tup [(.one (.p (.str (I.hid ((cutB s c).1))))),(.one (.p (.str (I.hid ((cutB s c).2.1))))),(.one (.p (.bool (I.hid ((cutB s c).2.2)))))])),[]⟩):Option CT)) s c
  |_,_=>none
theorem zcD:zx Tryd.prog 81 (VP alg):=by
  intro args hp r h
  unfold VP at h
  split at h
  · cases h;exact fun hn=>zir _ _ hn
  · cases h
def zf0:Know Tryd.prog:=⟨81,VP,zcD⟩
def zfZ:Know Tryd.prog:=⟨81,fun I=>zA I (VP I),zf zcD⟩
theorem zhn (s:Str) (hneed:s.length≤1000000):Spc Tryd.prog 63 [.v (.one (.p (.str s)))] [] (.ret (.tup [(.agg [(.p (.str ((yX s).1.name))),(.p (.str ((yX s).1.value)))]),(.one (.p (.int .i64 ((yX s).2))))])) []:=by
  generalize hr:yX s=r
  obtain⟨⟨a,b⟩,d⟩:=r
  refine spcG zk mixed Tryd.func63 (by kernel_rfl) { keep:=some [0,2,3,4,5,6]} [zb2,zb1,su,tZ,zbw,zbv,zf0,zfZ] (by kernel_rfl) ?_
  intro I X hI hX
  refine zh (let y0:=I.hid (α:=Str) (Prod.fst (cutB s (58:UInt8)));let y1:=I.hid (α:=Str) (Prod.fst (Prod.snd (cutB s (58:UInt8))));.need (I.hid (α:=(Prop)) (LE.le (List.length s) 1000000)) (.br (I.bnot (I.hid (α:=Bool) (Prod.snd (Prod.snd (cutB s (58:UInt8)))))) (.fin (.ret (.tup [(.agg [(.p (.str ([]:Str))),(.p (.str ([]:Str)))]),(.one (.p (.int .i64 5)))])) []) (.need (I.hid (α:=(Prop)) (LE.le (List.length y0) 1000000)) (.br (I.bnot (I.hid (α:=Bool) (UW y0))) (.fin (.ret (.tup [(.agg [(.p (.str ([]:Str))),(.p (.str ([]:Str)))]),(.one (.p (.int .i64 6)))])) []) (.br (I.ilt 40 (I.len (α:=UInt8) y0)) (.fin (.ret (.tup [(.agg [(.p (.str ([]:Str))),(.p (.str ([]:Str)))]),(.one (.p (.int .i64 4)))])) []) (.need (I.hid (α:=(Prop)) (LE.le (List.length y1) 1000000)) (.br (I.bnot (I.hid (α:=Bool) (wF y1))) (.fin (.ret (.tup [(.agg [(.p (.str ([]:Str))),(.p (.str ([]:Str)))]),(.one (.p (.int .i64 3)))])) []) (.need (I.hid (α:=(Prop)) True) (.fin (.ret (.tup [(.agg [(.p (.str y0)),(.p (.str (I.hid (α:=Str) (Go.Lib.trimS y1 ([32,9]:Str)))))]),(.one (.p (.int .i64 0)))])) []))))))))) (by kernel_rfl) ?_
  simp only [zq]
  subst hI
  simp only [nrmA,nrmB]
  have hl:=zbr s 58
  unfold yX at hr
  (repeat' (first|refine And.intro ?_ ?_|intro _))<;>first|omega|exact True.intro|exact False.elim ‹False›|skip
  all_goals first
    |(rw [if_pos (by assumption)] at hr;cases hr;rfl)
    |(rw [if_neg (by simp [*]),if_pos (by assumption)] at hr;cases hr;rfl)
    |(rw [if_neg (by simp [*]),if_neg (by simp [*]),if_pos (by omega)] at hr;cases hr;rfl)
    |(rw [if_neg (by simp [*]),if_neg (by simp [*]),if_neg (by omega),if_pos (by assumption)] at hr;cases hr;rfl)
    |(rw [if_neg (by simp [*]),if_neg (by simp [*]),if_neg (by omega),if_neg (by simp [*])] at hr;cases hr;rfl)
def YR (I:Alg) (args:List D) (hp:List HO):Option CT:=match args,hp with
  |[.v (.one (.p (.str s)))],[]=>(fun(s:Str)=>(some (.one ⟨I.hid (s.length≤1000000),(.ret (.tup [(.agg [(.p (.str (I.hid ((yX s).1.name)))),(.p (.str (I.hid ((yX s).1.value))))]),(.one (.p (.int .i64 (I.hid ((yX s).2)))))])),[]⟩):Option CT)) s
  |_,_=>none
theorem zaE:zx Tryd.prog 63 (YR alg):=by
  intro args hp r h
  unfold YR at h
  split at h
  · cases h;exact fun hn=>zhn _ hn
  · cases h
def zaD:Know Tryd.prog:=⟨63,YR,zaE⟩
def zaC:Know Tryd.prog:=⟨63,fun I=>zA I (YR I),zf zaE⟩
end Go.Proofs.YtknaogelmckimaaDoor
namespace Go.Proofs.YtknaogelmckimaaDoor
open Go Go.Sep Go.Ab
set_option maxRecDepth 100000
def Yq (l:List Fld):Bool:=decide (100<l.length)||l.any fun f=>decide (1000<f.name.length+f.value.length)
theorem zhW (l:List Fld) (hneed: ∀ f ∈ l,f.name.length≤140737488355328∧f.value.length≤140737488355328):Spc Tryd.prog 13 [.v (.one (.p (.list .fld l)))] [] (.ret (.v (.one (.p (.bool (Yq l)))))) []:=by
  generalize hr:Yq l=r
  refine spcG zk mixed Tryd.func13 (by kernel_rfl) { keep:=some [0,2,3]} [] (by kernel_rfl) ?_
  intro I X hI hX
  refine zh (.br (I.ilt 100 (I.len (α:=Fld) l)) (.fin (.ret (.v (.one (.p (.bool Bool.true))))) []) (.code 0 [1,1,0,1,0] ⟨[(3,(.v (.one (.p (.int .i64 0))))),(2,(.v (.one (.p (.val (.bool .false)))))),(0,(.v (.one (.p (.list .fld l)))))],[],27,none⟩)) (by kernel_rfl) ?_
  simp only [zq]
  refine⟨fun c1=> ?_,fun c1=> ?_⟩
  · subst hI
    simp only [nrmA,nrmB] at c1
    simp only [nrmA,nrmB]
    rw [← hr,Yq,decide_eq_true (by omega),Bool.true_or]
  have hl:l.length≤100:=by
    subst hI
    simp only [nrmA,nrmB] at c1
    omega
  have hr2:(l.any fun f=>decide (1000<f.name.length+f.value.length))=r:=by rw [← hr,Yq,decide_eq_false (by omega),Bool.false_or]
  refine zu hI zk mixed [] hX [0,3] (fun(i:Nat)=>i≤l.length∧((l.drop i).any fun f=>decide (1000<f.name.length+f.value.length))=r) (fun(i:Nat)=>⟨[(0,.v (.one (.p (.list .fld l)))),(3,.v (.one (.p (.int .i64 i))))],[],27,none⟩) (fun(i:Nat)=>l.length - i) 0 (by kernel_rfl) (by kernel_rfl) ?_ ?_
  · exact⟨Nat.zero_le _,hr2⟩
  rintro i ⟨h1,h2⟩ A hA
  refine zh (let y0:=I.add (I.len (α:=UInt8) (Fld.name (I.get (α:=Fld) l (Fld.mk ([]:Str) ([]:Str)) (Nat.cast i)))) (I.len (α:=UInt8) (Fld.value (I.get (α:=Fld) l (Fld.mk ([]:Str) ([]:Str)) (Nat.cast i))));let y1:=I.inb (Nat.cast i) (I.len (α:=Fld) l);.br (I.ilt (Nat.cast i) (I.len (α:=Fld) l)) (.need y1 (.need y1 (.need y1 (.need y1 (.need (I.inr Go.IntKind.i64 y0) (.br (I.ilt 1000 y0) (.fin (.ret (.v (.one (.p (.bool Bool.true))))) []) (.need (I.inr Go.IntKind.i64 (I.add (Nat.cast i) 1)) (.need (A ⟨[(0,(.v (.one (.p (.list .fld l))))),(3,(.v (.one (.p (.int .i64 (I.add (Nat.cast i) 1))))))],[],27,none⟩) .qed)))))))) (.fin (.ret (.v (.one (.p (.bool Bool.false))))) [])) (by kernel_rfl) ?_
  simp only [zq]
  subst hI
  simp only [nrmA,nrmB]
  have hd:i<l.length→((l.drop i).any fun f=>decide (1000<f.name.length+f.value.length))=(decide (1000<(l.getD i ⟨[],[]⟩).name.length+(l.getD i ⟨[],[]⟩).value.length)||((l.drop (i+1)).any fun f=>decide (1000<f.name.length+f.value.length))):=fun h=>by
    rw [List.drop_eq_getElem_cons h,List.any_cons];simp [h]
  have hxl:i<l.length→(l.getD i ⟨[],[]⟩).name.length≤140737488355328∧(l.getD i ⟨[],[]⟩).value.length≤140737488355328:=fun h=>hneed _ (by
    rw [show l.getD i ⟨[],[]⟩=l[i] by simp [h]]
    exact List.getElem_mem h)
  generalize l.getD i ⟨[],[]⟩=x at *
  (repeat' (first|refine And.intro ?_ ?_|intro _))<;>first|omega|exact True.intro|exact False.elim ‹False›|skip
  all_goals first
    |(have:=hxl (by omega);omega)
    |(rw [← h2,hd (by omega),decide_eq_true (by omega),Bool.true_or])
    |(refine hA (i+1) ⟨by omega,?_⟩ (by omega);rw [← h2,hd (by omega),decide_eq_false (by omega),Bool.false_or])
    |(rw [← h2,List.drop_of_length_le (by omega)];rfl)
def Y4 (I:Alg) (args:List D) (hp:List HO):Option CT:=match args,hp with
  |[.v (.one (.p (.list .fld l)))],[]=>(fun(l:List Fld)=>(some (.one ⟨I.hid (∀ f ∈ l,f.name.length≤140737488355328∧f.value.length≤140737488355328),(.ret (.v (.one (.p (.bool (I.hid (Yq l))))))),[]⟩):Option CT)) l
  |_,_=>none
theorem za4:zx Tryd.prog 13 (Y4 alg):=by
  intro args hp r h
  unfold Y4 at h
  split at h
  · cases h;exact fun hn=>zhW _ hn
  · cases h
def zeQ:Know Tryd.prog:=⟨13,Y4,za4⟩
def zeP:Know Tryd.prog:=⟨13,fun I=>zA I (Y4 I),zf za4⟩
end Go.Proofs.YtknaogelmckimaaDoor
namespace Go.Proofs.YtknaogelmckimaaDoor
open Go Go.Sep Go.Ab
set_option maxRecDepth 100000
end Go.Proofs.YtknaogelmckimaaDoor
namespace Go.Proofs.YtknaogelmckimaaDoor
open Go Go.Sep Go.Ab
set_option maxRecDepth 100000
def valsF (l:List Fld) (n:Str):List Str:=(l.filter fun f=>decide (lowS f.name=lowS n)).map (·.value)
theorem ziC (l:List Fld) (n:Str) (hneed:l.length≤1000∧n.length≤1000000∧∀ f ∈ l,f.name.length≤1000000∧f.value.length≤1000000):Spc Tryd.prog 49 [.v (.one (.p (.list .fld l))),.v (.one (.p (.str n)))] [] (.ret (.v (.one (.row 0)))) [.row .str 9 ((valsF l n))]:=by
  refine spcG zk mixed Tryd.func49 (by kernel_rfl) { nr:=[5],keep:=some [0,1,4,5,7,8,9,10]} [xK,xJ] (by kernel_rfl) ?_
  intro I X hI hX
  refine zh (.code 0 [1,1,0,1,0] ⟨[(10,(.v (.one (.p (.int .i64 0))))),(9,(.v (.one (.p (.int .i64 (I.len (α:=Fld) l)))))),(8,(.v (.one (.p (.list .fld l))))),(5,(.v (.one (.row 0)))),(4,(.v (.one .nilS))),(0,(.v (.one (.p (.list .fld l))))),(1,(.v (.one (.p (.str n)))))],[(.row .str 9 ([]:List (Str)))],27,none⟩) (by kernel_rfl) ?_
  simp only [zq]
  refine zu hI zk mixed [xK,xJ] hX [0,1,5,8,9,10] (fun(g:Nat × List Str)=>match g with|(i,o)=>i≤l.length∧o=valsF (l.take i) n) (fun(g:Nat × List Str)=>match g with|(i,o)=>⟨[(0,.v (.one (.p (.list .fld l)))),(1,.v (.one (.p (.str n)))),(5,.v (.one (.row 0))),(8,.v (.one (.p (.list .fld l)))),(9,.v (.one (.p (.int .i64 ((I.len (α:=Fld) l)))))),(10,.v (.one (.p (.int .i64 i))))],[.row .str 9 o],27,none⟩) (fun(g:Nat × List Str)=>match g with|(i,o)=>l.length - i) (0,[]) (by kernel_rfl) (by kernel_rfl) ?_ ?_
  · exact⟨Nat.zero_le _,rfl⟩
  rintro⟨i,o⟩ ⟨h1,h2⟩ A hA
  simp only at hA
  refine zh (let y0:=I.get (α:=Fld) l (Fld.mk ([]:Str) ([]:Str)) (Nat.cast i);let y1:=I.inr Go.IntKind.i64 (I.add (Nat.cast i) 1);let y2:=I.inb (Nat.cast i) (I.len (α:=Fld) l);.br (I.ilt (Nat.cast i) (I.len (α:=Fld) l)) (.need y2 (.need y2 (.need (I.hid (α:=(Prop)) (LE.le (List.length (Fld.name y0)) 1000000)) (.need (I.hid (α:=(Prop)) (LE.le (List.length n) 1000000)) (.br (I.seq (I.hid (α:=Str) (lowS (Fld.name y0))) (I.hid (α:=Str) (lowS n))) (.need (I.few (I.add (I.len (α:=Str) o) (I.len (α:=Str) ([(Fld.value y0)]:List (Str)))) 100000000) (.need y1 (.need (A ⟨[(0,(.v (.one (.p (.list .fld l))))),(1,(.v (.one (.p (.str n))))),(5,(.v (.one (.row 0)))),(8,(.v (.one (.p (.list .fld l))))),(9,(.v (.one (.p (.int .i64 (I.len (α:=Fld) l)))))),(10,(.v (.one (.p (.int .i64 (I.add (Nat.cast i) 1))))))],[(.row .str 9 (I.app (α:=Str) o ([(Fld.value y0)]:List (Str))))],27,none⟩) .qed))) (.need y1 (.need (A ⟨[(0,(.v (.one (.p (.list .fld l))))),(1,(.v (.one (.p (.str n))))),(5,(.v (.one (.row 0)))),(8,(.v (.one (.p (.list .fld l))))),(9,(.v (.one (.p (.int .i64 (I.len (α:=Fld) l)))))),(10,(.v (.one (.p (.int .i64 (I.add (Nat.cast i) 1))))))],[(.row .str 9 o)],27,none⟩) .qed))))))) (.fin (.ret (.v (.one (.row 0)))) [(.row .str 9 o)])) (by kernel_rfl) ?_
  simp only [zq]
  subst hI
  simp only [nrmA,nrmB]
  have hx:i<l.length→(l.getD i ⟨[],[]⟩) ∈ l:=fun h=>by rw [show l.getD i ⟨[],[]⟩=l[i] by simp [h]];exact List.getElem_mem h
  have hs:i<l.length→valsF (l.take (i+1)) n=if lowS (l.getD i ⟨[],[]⟩).name=lowS n then o++[(l.getD i ⟨[],[]⟩).value] else o:=fun h=>by
    rw [show l.getD i ⟨[],[]⟩=l[i] by simp [h],List.take_succ_eq_append_getElem h,h2]
    unfold valsF
    rw [List.filter_append,List.map_append]
    by_cases hc:lowS l[i].name=lowS n<;>simp [hc]
  have hol:o.length≤i:=by
    rw [h2]
    unfold valsF
    rw [List.length_map]
    exact Nat.le_trans (List.length_filter_le _ _) (by rw [List.length_take];omega)
  have hn:=fun h=>hneed.2.2 _ (hx h)
  generalize l.getD i ⟨[],[]⟩=x at *
  simp only [List.length_cons,List.length_nil]
  (repeat' (first|refine And.intro ?_ ?_|intro _))<;>first|omega|exact True.intro|exact False.elim ‹False›|skip
  all_goals first
    |(have:=hn (by omega);omega)
    |exact hA (i+1,_) ⟨by simp only;omega,by simp only;rw [hs (by omega),if_pos (by assumption)]⟩ (by simp only;omega)
    |exact hA (i+1,_) ⟨by simp only;omega,by simp only;rw [hs (by omega),if_neg (by assumption)]⟩ (by simp only;omega)
    |(rw [h2,List.take_of_length_le (by omega)])
def Uu (I:Alg) (args:List D) (hp:List HO):Option CT:=match args,hp with
  |[.v (.one (.p (.list .fld l))),.v (.one (.p (.str n)))],[]=>(fun(l:List Fld) (n:Str)=>(some (.one ⟨I.hid (l.length≤1000∧n.length≤1000000∧∀ f ∈ l,f.name.length≤1000000∧f.value.length≤1000000),(.ret (.v (.one (.row 0)))),[.row .str 9 (I.hid ((valsF l n)))]⟩):Option CT)) l n
  |_,_=>none
theorem zdK:zx Tryd.prog 49 (Uu alg):=by
  intro args hp r h
  unfold Uu at h
  split at h
  · cases h;exact fun hn=>ziC _ _ hn
  · cases h
def zgZ:Know Tryd.prog:=⟨49,Uu,zdK⟩
def zgY:Know Tryd.prog:=⟨49,fun I=>zA I (Uu I),zf zdK⟩
theorem zcq (l:List Fld) (n:Str) (hneed:l.length≤1000∧n.length≤1000000∧∀ f ∈ l,f.name.length≤1000000∧f.value.length≤1000000):Spc Tryd.prog 36 [.v (.one (.p (.list .fld l))),.v (.one (.p (.str n)))] [] (.ret (.v (.one (.row 0)))) [.row .str 9 ((valsF l n))]:=by
  refine spcG zk mixed Tryd.func36 (by kernel_rfl) { nr:=[5],keep:=some [0,1,4,5,6]} [yg,yc] (by kernel_rfl) ?_
  intro I X hI hX
  refine zh (.code 0 [1,1,0,1,0] ⟨[(6,(.v (.one (.p (.int .i64 0))))),(5,(.v (.one (.row 0)))),(4,(.v (.one .nilS))),(0,(.v (.one (.p (.list .fld l))))),(1,(.v (.one (.p (.str n)))))],[(.row .str 9 ([]:List (Str)))],31,none⟩) (by kernel_rfl) ?_
  simp only [zq]
  refine zu hI zk mixed [yg,yc] hX [0,1,5,6] (fun(g:Nat × List Str)=>match g with|(i,o)=>i≤l.length∧o=valsF (l.take i) n) (fun(g:Nat × List Str)=>match g with|(i,o)=>⟨[(0,.v (.one (.p (.list .fld l)))),(1,.v (.one (.p (.str n)))),(5,.v (.one (.row 0))),(6,.v (.one (.p (.int .i64 i))))],[.row .str 9 o],31,none⟩) (fun(g:Nat × List Str)=>match g with|(i,o)=>l.length - i) (0,[]) (by kernel_rfl) (by kernel_rfl) ?_ ?_
  · exact⟨Nat.zero_le _,rfl⟩
  rintro⟨i,o⟩ ⟨h1,h2⟩ A hA
  simp only at hA
  refine zh (let y0:=I.get (α:=Fld) l (Fld.mk ([]:Str) ([]:Str)) (Nat.cast i);let y1:=I.inb (Nat.cast i) (I.len (α:=Fld) l);let y2:=I.inr Go.IntKind.i64 (I.add (Nat.cast i) 1);.br (I.ilt (Nat.cast i) (I.len (α:=Fld) l)) (.need y1 (.need y1 (.need (I.hid (α:=(Prop)) (LE.le (List.length (Fld.name y0)) 1000000)) (.need (I.hid (α:=(Prop)) (LE.le (List.length n) 1000000)) (.br (I.seq (I.hid (α:=Str) (lowS (Fld.name y0))) (I.hid (α:=Str) (lowS n))) (.need y1 (.need y1 (.need (I.few (I.add (I.len (α:=Str) o) (I.len (α:=Str) ([(Fld.value y0)]:List (Str)))) 100000000) (.need y2 (.need (A ⟨[(0,(.v (.one (.p (.list .fld l))))),(1,(.v (.one (.p (.str n))))),(5,(.v (.one (.row 0)))),(6,(.v (.one (.p (.int .i64 (I.add (Nat.cast i) 1))))))],[(.row .str 9 (I.app (α:=Str) o ([(Fld.value y0)]:List (Str))))],31,none⟩) .qed))))) (.need y2 (.need (A ⟨[(0,(.v (.one (.p (.list .fld l))))),(1,(.v (.one (.p (.str n))))),(5,(.v (.one (.row 0)))),(6,(.v (.one (.p (.int .i64 (I.add (Nat.cast i) 1))))))],[(.row .str 9 o)],31,none⟩) .qed))))))) (.fin (.ret (.v (.one (.row 0)))) [(.row .str 9 o)])) (by kernel_rfl) ?_
  simp only [zq]
  subst hI
  simp only [nrmA,nrmB]
  have hx:i<l.length→(l.getD i ⟨[],[]⟩) ∈ l:=fun h=>by rw [show l.getD i ⟨[],[]⟩=l[i] by simp [h]];exact List.getElem_mem h
  have hs:i<l.length→valsF (l.take (i+1)) n=if lowS (l.getD i ⟨[],[]⟩).name=lowS n then o++[(l.getD i ⟨[],[]⟩).value] else o:=fun h=>by
    rw [show l.getD i ⟨[],[]⟩=l[i] by simp [h],List.take_succ_eq_append_getElem h,h2]
    unfold valsF
    rw [List.filter_append,List.map_append]
    by_cases hc:lowS l[i].name=lowS n<;>simp [hc]
  have hol:o.length≤i:=by
    rw [h2]
    unfold valsF
    rw [List.length_map]
    exact Nat.le_trans (List.length_filter_le _ _) (by rw [List.length_take];omega)
  have hn:=fun h=>hneed.2.2 _ (hx h)
  generalize l.getD i ⟨[],[]⟩=x at *
  simp only [List.length_cons,List.length_nil]
  (repeat' (first|refine And.intro ?_ ?_|intro _))<;>first|omega|exact True.intro|exact False.elim ‹False›|skip
  all_goals first
    |(have:=hn (by omega);omega)
    |exact hA (i+1,_) ⟨by simp only;omega,by simp only;rw [hs (by omega),if_pos (by assumption)]⟩ (by simp only;omega)
    |exact hA (i+1,_) ⟨by simp only;omega,by simp only;rw [hs (by omega),if_neg (by assumption)]⟩ (by simp only;omega)
    |(rw [h2,List.take_of_length_le (by omega)])
def uo (I:Alg) (args:List D) (hp:List HO):Option CT:=match args,hp with
  |[.v (.one (.p (.list .fld l))),.v (.one (.p (.str n)))],[]=>(fun(l:List Fld) (n:Str)=>(some (.one ⟨I.hid (l.length≤1000∧n.length≤1000000∧∀ f ∈ l,f.name.length≤1000000∧f.value.length≤1000000),(.ret (.v (.one (.row 0)))),[.row .str 9 (I.hid ((valsF l n)))]⟩):Option CT)) l n
  |_,_=>none
theorem Xh:zx Tryd.prog 36 (uo alg):=by
  intro args hp r h
  unfold uo at h
  split at h
  · cases h;exact fun hn=>zcq _ _ hn
  · cases h
def um:Know Tryd.prog:=⟨36,uo,Xh⟩
def ul:Know Tryd.prog:=⟨36,fun I=>zA I (uo I),zf Xh⟩
end Go.Proofs.YtknaogelmckimaaDoor
namespace Go.Proofs.YtknaogelmckimaaDoor
open Go Go.Sep Go.Ab
set_option maxRecDepth 100000
def oneF (l:List Str):Str × Int:=if l.length=0 then([],10) else if l.length=1 then(l.getD 0 [],0) else([],9)
theorem ziz (l:List Fld) (n:Str) (hneed:l.length≤1000∧n.length≤1000000∧∀ f ∈ l,f.name.length≤1000000∧f.value.length≤1000000):Spc Tryd.prog 27 [.v (.one (.p (.list .fld l))),.v (.one (.p (.str n)))] [] (.ret (.tup [(.one (.p (.str ((oneF (valsF l n)).1)))),(.one (.p (.int .i64 ((oneF (valsF l n)).2))))])) []:=by
  generalize hr:oneF (valsF l n)=r
  obtain⟨a,d⟩:=r
  refine spcG zk mixed Tryd.func27 (by kernel_rfl) { keep:=some [0,1,4,5,6,11]} [zgZ,zgY] (by kernel_rfl) ?_
  intro I X hI hX
  refine zh (let y0:=I.len (α:=Str) (I.hid (α:=(List (Str))) (valsF l n));.need (I.hid (α:=(Prop)) (And (LE.le (List.length l) 1000) (And (LE.le (List.length n) 1000000) (∀ (f:Fld),f ∈ l→List.length f.name≤1000000∧List.length f.value≤1000000)))) (.br (I.ieq y0 0) (.fin (.ret (.tup [(.one (.p (.str ([]:Str)))),(.one (.p (.int .i64 10)))])) []) (.br (I.ieq y0 1) (.need (I.inb 0 y0) (.need (I.inb 0 y0) (.fin (.ret (.tup [(.one (.p (.str (I.get (α:=Str) (I.hid (α:=(List (Str))) (valsF l n)) ([]:Str) 0)))),(.one (.p (.int .i64 0)))])) []))) (.fin (.ret (.tup [(.one (.p (.str ([]:Str)))),(.one (.p (.int .i64 9)))])) [])))) (by kernel_rfl) ?_
  simp only [zq]
  subst hI
  simp only [nrmA,nrmB]
  unfold oneF at hr
  (repeat' (first|refine And.intro ?_ ?_|intro _))<;>first|omega|exact True.intro|exact False.elim ‹False›|skip
  all_goals first
    |assumption
    |exact(hneed.2.2 _ (by assumption)).1
    |exact(hneed.2.2 _ (by assumption)).2
    |(rw [if_pos (by omega)] at hr;cases hr;rfl)
    |(rw [if_neg (by omega),if_pos (by omega)] at hr;cases hr;rfl)
    |(rw [if_neg (by omega),if_neg (by omega)] at hr;cases hr;rfl)
def Un (I:Alg) (args:List D) (hp:List HO):Option CT:=match args,hp with
  |[.v (.one (.p (.list .fld l))),.v (.one (.p (.str n)))],[]=>(fun(l:List Fld) (n:Str)=>(some (.one ⟨I.hid (l.length≤1000∧n.length≤1000000∧∀ f ∈ l,f.name.length≤1000000∧f.value.length≤1000000),(.ret (.tup [(.one (.p (.str (I.hid ((oneF (valsF l n)).1))))),(.one (.p (.int .i64 (I.hid ((oneF (valsF l n)).2)))))])),[]⟩):Option CT)) l n
  |_,_=>none
theorem zdF:zx Tryd.prog 27 (Un alg):=by
  intro args hp r h
  unfold Un at h
  split at h
  · cases h;exact fun hn=>ziz _ _ hn
  · cases h
def zgV:Know Tryd.prog:=⟨27,Un,zdF⟩
def zgU:Know Tryd.prog:=⟨27,fun I=>zA I (Un I),zf zdF⟩
theorem zhE (l:List Fld) (n:Str) (hneed:l.length≤1000∧n.length≤1000000∧∀ f ∈ l,f.name.length≤1000000∧f.value.length≤1000000):Spc Tryd.prog 31 [.v (.one (.p (.list .fld l))),.v (.one (.p (.str n)))] [] (.ret (.tup [(.one (.p (.str ((oneF (valsF l n)).1)))),(.one (.p (.int .i64 ((oneF (valsF l n)).2))))])) []:=by
  generalize hr:oneF (valsF l n)=r
  obtain⟨a,d⟩:=r
  refine spcG zk mixed Tryd.func31 (by kernel_rfl) { keep:=some [0,1,4,5,6]} [um,ul] (by kernel_rfl) ?_
  intro I X hI hX
  refine zh (let y0:=I.len (α:=Str) (I.hid (α:=(List (Str))) (valsF l n));.need (I.hid (α:=(Prop)) (And (LE.le (List.length l) 1000) (And (LE.le (List.length n) 1000000) (∀ (f:Fld),f ∈ l→List.length f.name≤1000000∧List.length f.value≤1000000)))) (.br (I.ieq y0 0) (.fin (.ret (.tup [(.one (.p (.str ([]:Str)))),(.one (.p (.int .i64 10)))])) []) (.br (I.ilt 1 y0) (.fin (.ret (.tup [(.one (.p (.str ([]:Str)))),(.one (.p (.int .i64 9)))])) []) (.need (I.inb 0 y0) (.need (I.inb 0 y0) (.fin (.ret (.tup [(.one (.p (.str (I.get (α:=Str) (I.hid (α:=(List (Str))) (valsF l n)) ([]:Str) 0)))),(.one (.p (.int .i64 0)))])) [])))))) (by kernel_rfl) ?_
  simp only [zq]
  subst hI
  simp only [nrmA,nrmB]
  unfold oneF at hr
  (repeat' (first|refine And.intro ?_ ?_|intro _))<;>first|omega|exact True.intro|exact False.elim ‹False›|skip
  all_goals first
    |assumption
    |exact(hneed.2.2 _ (by assumption)).1
    |exact(hneed.2.2 _ (by assumption)).2
    |(rw [if_pos (by omega)] at hr;cases hr;rfl)
    |(rw [if_neg (by omega),if_pos (by omega)] at hr;cases hr;rfl)
    |(rw [if_neg (by omega),if_neg (by omega)] at hr;cases hr;rfl)
def YV (I:Alg) (args:List D) (hp:List HO):Option CT:=match args,hp with
  |[.v (.one (.p (.list .fld l))),.v (.one (.p (.str n)))],[]=>(fun(l:List Fld) (n:Str)=>(some (.one ⟨I.hid (l.length≤1000∧n.length≤1000000∧∀ f ∈ l,f.name.length≤1000000∧f.value.length≤1000000),(.ret (.tup [(.one (.p (.str (I.hid ((oneF (valsF l n)).1))))),(.one (.p (.int .i64 (I.hid ((oneF (valsF l n)).2)))))])),[]⟩):Option CT)) l n
  |_,_=>none
theorem zaK:zx Tryd.prog 31 (YV alg):=by
  intro args hp r h
  unfold YV at h
  split at h
  · cases h;exact fun hn=>zhE _ _ hn
  · cases h
def V8:Know Tryd.prog:=⟨31,YV,zaK⟩
def V7:Know Tryd.prog:=⟨31,fun I=>zA I (YV I),zf zaK⟩
end Go.Proofs.YtknaogelmckimaaDoor
namespace Go.Proofs.YtknaogelmckimaaDoor
open Go Go.Sep Go.Ab
set_option maxRecDepth 100000
theorem VI {p:UInt8→Bool} {s:Str} {i:Nat} (h:i≤(s.takeWhile p).length):(i<s.length∧p (s.getD i 0)=true)↔i<(s.takeWhile p).length:=by
  induction s generalizing i with
  |nil=>simp
  | cons c r ih=>
    by_cases hc:p c=true
    · simp only [List.takeWhile_cons,hc,if_true,List.length_cons] at h ⊢
      cases i with
      |zero=>simp [hc]
      | succ i=>
        have:=ih (i:=i) (by omega)
        simp only [List.getD_cons_succ]
        constructor
        · rintro⟨h1,h2⟩;have:=this.1 ⟨by omega,h2⟩;omega
        · intro h1;have:=this.2 (by omega);exact⟨by omega,this.2⟩
    · simp only [List.takeWhile_cons,hc,Bool.false_eq_true,if_false,List.length_nil] at h ⊢
      have:i=0:=by omega
      subst this
      simp [hc]
theorem Xk (p:UInt8→Bool) (s:Str):s.take (s.takeWhile p).length=s.takeWhile p:=by
  induction s with
  |nil=>simp
  |cons c r ih=>by_cases hc:p c=true<;>simp [List.takeWhile_cons,hc,ih]
theorem drop_tw (p:UInt8→Bool) (s:Str):s.drop (s.takeWhile p).length=s.dropWhile p:=by
  induction s with
  |nil=>simp
  |cons c r ih=>by_cases hc:p c=true<;>simp [List.takeWhile_cons,List.dropWhile_cons,hc,ih]
theorem zfn (p:UInt8→Bool) (s:Str):(s.takeWhile p).length≤s.length:=(List.takeWhile_sublist p).length_le
theorem zh9 (p:UInt8→Bool) (s:Str):(s.dropWhile p).length≤s.length:=(List.dropWhile_sublist p).length_le
def isTk (c:UInt8):Bool:=tokB (c.toNat:Int)
def tokS (s:Str):Str:=s.takeWhile isTk
def tokE (s:Str):Str:=s.dropWhile isTk
theorem yF (s:Str):(tokS s).length≤s.length:=zfn _ _
theorem xu (s:Str):(tokE s).length≤s.length:=zh9 _ _
theorem zfT (s:Str):(tokS s).length+(tokE s).length=s.length:=by
  have:=congrArg List.length (List.takeWhile_append_dropWhile (p:=isTk) (l:=s))
  rw [List.length_append] at this;exact this
def skS (s:Str):Str:=Lib.trimLeftS s [32,9]
theorem yT (s:Str):(skS s).length≤s.length:=by
  unfold skS Lib.trimLeftS
  exact(List.dropWhile_sublist _).length_le
def zC (s:Str) (c:UInt8):Bool:=s.head? == some c
theorem Vg {s:Str} {c:UInt8} (h:zC s c=true):0<s.length:=by
  cases s with
  |nil=>simp [zC] at h
  |cons a r=>simp
theorem ZR {s:Str} {c:UInt8}:zC s c=true↔0<s.length∧s.getD 0 0=c:=by
  cases s with
  |nil=>simp [zC]
  |cons a r=>simp [zC]
theorem drop1 (s:Str):List.take (s.length - Int.toNat 1) (List.drop (Int.toNat 1) s)=s.drop 1:=by
  show List.take (s.length - 1) (List.drop 1 s)=s.drop 1
  exact List.take_of_length_le (by simp)
def quoF:Str→Option (Str × Str)
  |[]=>none
  |[x]=>if x=34 then some ([],[]) else none
  |x::y::r=>if x=34 then some ([],y::r) else if x=92 then(quoF r).map (fun p=>(y::p.1,p.2)) else(quoF (y::r)).map (fun p=>(x::p.1,p.2))
def quoV (s:Str):Str:=match quoF s with|some p=>p.1|none=>[]
def quoR (s:Str):Str:=match quoF s with|some p=>p.2|none=>[]
theorem YQ: ∀ (s:Str) (p:Str × Str),quoF s=some p→p.1.length+p.2.length<s.length
  |[],p,h=>by simp [quoF] at h
  | [x],p,h=>by
    simp only [quoF] at h
    split at h
    · cases h;simp
    · cases h
  | x ::y::r,p,h=>by
    simp only [quoF] at h
    split at h
    · cases h;simp
    · split at h
      · rw [Option.map_eq_some_iff] at h
        obtain⟨q,hq,rfl⟩:=h
        have:=YQ r q hq
        simp only [List.length_cons];omega
      · rw [Option.map_eq_some_iff] at h
        obtain⟨q,hq,rfl⟩:=h
        have:=YQ (y::r) q hq
        simp only [List.length_cons] at this ⊢;omega
theorem zeE (s:Str):(quoR s).length≤s.length:=by
  unfold quoR
  split
  · rename_i p h;have:=YQ _ _ h;omega
  · simp
theorem zeD (s:Str):(quoV s).length≤s.length:=by
  unfold quoV
  split
  · rename_i p h;have:=YQ _ _ h;omega
  · simp
def parM (s:Str):Int × Fld × Str:=
  if tokS s=[] then(5,⟨[],[]⟩,tokE s)
  else if zC (tokE s) 61=false then(5,⟨[],[]⟩,tokE s)
  else if zC ((tokE s).drop 1) 34=true then
    if(quoF ((tokE s).drop 2)).isSome=true then(0,⟨lowS (tokS s),quoV ((tokE s).drop 2)⟩,quoR ((tokE s).drop 2)) else(14,⟨[],[]⟩,[])
  else if tokS ((tokE s).drop 1)=[] then(5,⟨[],[]⟩,tokE ((tokE s).drop 1))
  else(0,⟨lowS (tokS s),tokS ((tokE s).drop 1)⟩,tokE ((tokE s).drop 1))
theorem VT (s:Str):(parM s).2.2.length≤s.length∧(parM s).2.1.name.length≤s.length∧(parM s).2.1.value.length≤s.length:=by
  have h1:=xu s
  have h2:=xu ((tokE s).drop 1)
  have h3:=zeE ((tokE s).drop 2)
  have h4:=zeD ((tokE s).drop 2)
  have h5:=yF s
  have h6:=yF ((tokE s).drop 1)
  simp only [List.length_drop] at h2 h3 h4 h6
  unfold parM
  repeat' split
  all_goals simp only [List.length_nil,yI];omega
def getP (l:List Fld) (n:Str):Str × Bool:=match l.find? (fun f=>f.name == n) with|some f=>(f.value,true)|none=>([],false)
def medL:Nat→Str→List Fld→Int × List Fld × Str
  |0,s,ps=>(5,ps,s)
  | n +1,s,ps=>
    if zC s 59=true then
      if(parM (skS (s.drop 1))).1≠0 then((parM (skS (s.drop 1))).1,ps,(parM (skS (s.drop 1))).2.2)
      else if(getP ps (parM (skS (s.drop 1))).2.1.name).2=true then(9,ps,(parM (skS (s.drop 1))).2.2)
      else if ps.length=8 then(8,ps,(parM (skS (s.drop 1))).2.2)
      else medL n (skS (parM (skS (s.drop 1))).2.2) (ps++[(parM (skS (s.drop 1))).2.1])
    else if s=[] then(0,ps,s) else(5,ps,s)
def medB (w:Str) (s:Str):Int × Med × Str:=((medL ((skS s).length+1) (skS s) []).1,⟨w,(medL ((skS s).length+1) (skS s) []).2.1⟩,(medL ((skS s).length+1) (skS s) []).2.2)
def medA (s:Str):Int × Med × Str:=
  if tokS s=[] then(5,⟨[],[]⟩,tokE s)
  else if zC (tokE s) 47=true then
    if tokS ((tokE s).drop 1)=[] then(5,⟨[],[]⟩,tokE ((tokE s).drop 1))
    else medB (lowS (tokS s)++([47]++lowS (tokS ((tokE s).drop 1)))) (tokE ((tokE s).drop 1))
  else medB (lowS (tokS s)) (tokE s)
def zY (s:Str):Int × Med × Str:=medA (skS s)
def zN (s:Str):Med × Int:=if wF s=false then(⟨[],[]⟩,3) else if(zY s).1=0 then((zY s).2.1,0) else(⟨[],[]⟩,(zY s).1)
theorem Tf (s:Str):(parM s).1=0∨(parM s).1=5∨(parM s).1=14:=by
  unfold parM
  repeat' split
  all_goals simp
end Go.Proofs.YtknaogelmckimaaDoor
namespace Go.Proofs.YtknaogelmckimaaDoor
open Go Go.Sep Go.Ab
set_option maxRecDepth 100000
theorem zie (l:Str) (hneed:l.length≤100000000):Spc Tryd.prog 41 [.v (.one (.p (.list .byte l)))] [] (.ret (.v (.one (.row 0)))) [.row .byte 5 l]:=by
  refine spcG zk mixed Tryd.func41 (by kernel_rfl) { keep:=some [0,2]} [] (by kernel_rfl) ?_
  intro I X hI hX
  refine zh (let y0:=I.few (I.add (I.len (α:=UInt8) ([]:Str)) (I.len (α:=UInt8) l)) 140737488355328;let y1:HO:=.row .byte 5 (I.app (α:=UInt8) ([]:Str) l);.br (I.ieq (I.len (α:=UInt8) l) 0) (.both (.fin (.ret (.v (.one (.row 0)))) [(.row .byte 5 ([]:Str))]) (.need y0 (.fin (.ret (.v (.one (.row 0)))) [y1]))) (.need y0 (.fin (.ret (.v (.one (.row 0)))) [y1]))) (by kernel_rfl) ?_
  simp only [zq]
  subst hI
  dsimp only [alg]
  have h2:((([]:Str).length:Nat):Int)+((l.length:Nat):Int)≤140737488355328:=by simp;omega
  refine⟨fun h=>⟨⟨trivial,?_⟩,h2,trivial,rfl⟩,fun h=>⟨h2,trivial,rfl⟩⟩
  have:l=[]:=List.eq_nil_of_length_eq_zero (by have:=eq_of_beq h;omega)
  subst this;rfl
def Xe (I:Alg) (args:List D) (hp:List HO):Option CT:=match args,hp with
  |[.v (.one (.p (.list .byte l)))],[]=>(fun(l:Str)=>(some (.one ⟨I.hid (l.length≤100000000),(.ret (.v (.one (.row 0)))),[.row .byte 5 l]⟩):Option CT)) l
  |_,_=>none
theorem zbs:zx Tryd.prog 41 (Xe alg):=by
  intro args hp r h
  unfold Xe at h
  split at h
  · cases h;exact fun hn=>zie _ hn
  · cases h
def UA:Know Tryd.prog:=⟨41,Xe,zbs⟩
def Xd:Know Tryd.prog:=⟨41,fun I=>zA I (Xe I),zf zbs⟩
theorem zbK (x y:Str):Spc Tryd.prog 25 [.v (.one (.p (.list .byte x))),.v (.one (.p (.list .byte y)))] [] (.ret (.v (.one (.p (.bool (x == y)))))) []:=by
  refine spcG zk mixed Tryd.func25 (by kernel_rfl) { keep:=some [0,1,4]} [] (by kernel_rfl) ?_
  intro I X hI hX
  refine zh (.fin (.ret (.v (.one (.p (.bool (I.seq x y)))))) []) (by kernel_rfl) ?_
  simp only [zq]
  subst hI
  exact⟨rfl,trivial⟩
def vC (I:Alg) (args:List D) (hp:List HO):Option CT:=match args,hp with
  |[.v (.one (.p (.list .byte x))),.v (.one (.p (.list .byte y)))],[]=>(fun(x y:Str)=>(some (.one ⟨I.hid (True),(.ret (.v (.one (.p (.bool (I.hid (x == y))))))),[]⟩):Option CT)) x y
  |_,_=>none
theorem Yg:zx Tryd.prog 25 (vC alg):=by
  intro args hp r h
  unfold vC at h
  split at h
  · cases h;exact fun hn=>zbK _ _
  · cases h
def U2:Know Tryd.prog:=⟨25,vC,Yg⟩
def U1:Know Tryd.prog:=⟨25,fun I=>zA I (vC I),zf Yg⟩
end Go.Proofs.YtknaogelmckimaaDoor
namespace Go.Sep.P
theorem uZ {a b s:List UInt8} (ha:a<:+s) (hb:b<:+s) (h:a.length≤b.length):a<:+b:=List.suffix_of_suffix_length_le ha hb h
structure Top (m s:List UInt8) (b n:Nat):Prop where
  le:n≤b
  suf:m.take n<:+s
  top: ∀ k,k≤b→m.take k<:+s→k≤n
theorem Top.eq {m s:List UInt8} {b n n':Nat} (h:Top m s b n) (h':Top m s b n'):n=n':=
  Nat.le_antisymm (h'.top n h.le h.suf) (h.top n' h'.le h'.suf)
def wK (m s:List UInt8):Nat→Nat
  |0=>0
  |k+1=>if m.take (k+1)<:+s then k+1 else wK m s k
theorem xh (m s:List UInt8): ∀ b,Top m s b (wK m s b)
  |0=>⟨Nat.le_refl _,by simp [wK],fun k hk _=>hk⟩
  | b + 1=>by
    unfold wK
    split
    · rename_i h;exact⟨Nat.le_refl _,h,fun k hk _=>hk⟩
    · rename_i h
      have ih:=xh m s b
      refine⟨Nat.le_succ_of_le ih.le,ih.suf,fun k hk hs=> ?_⟩
      rcases Nat.lt_or_ge k (b+1) with h1|h1
      · exact ih.top k (by omega) hs
      · have:k=b+1:=by omega
        subst this;exact(h hs).elim
def held (m s:List UInt8):Nat:=wK m s (m.length - 1)
def zJ (m:List UInt8) (i:Nat):Nat:=wK m (m.take i) (i - 1)
theorem vk {m:List UInt8} {i:Nat} (h:0<i):zJ m i<i:=by
  have:=(xh m (m.take i) (i - 1)).le
  unfold zJ;omega
def fall (m:List UInt8) (c:UInt8):Nat→Nat→Nat
  |0,n=>n
  |f+1,n=>if n=0 then 0 else if m[n]? =some c then n else fall m c f (zJ m n)
theorem Zq (m:List UInt8) (c:UInt8) (f:Nat):fall m c f 0=0:=by cases f<;>simp [fall]
theorem Rw (m:List UInt8) (c:UInt8): ∀ (f n:Nat),n≤f→∀ g,n≤g→fall m c f n=fall m c g n
  | 0,n,h,g,_=>by
    have:n=0:=by omega
    subst this;rw [Zq,Zq]
  | f + 1,n,h,g,hg=>by
    cases g with
    | zero=>
      have:n=0:=by omega
      subst this;rw [Zq,Zq]
    | succ g=>
      simp only [fall]
      split
      · rfl
      · split
        · rfl
        · rename_i h0 _
          have hb:=vk (m:=m) (i:=n) (by omega)
          exact Rw m c f _ (by omega) g (by omega)
structure zil (m:List UInt8) (c:UInt8) (n j:Nat):Prop where
  le:j≤n
  suf:m.take j<:+m.take n
  top: ∀ k,k≤n→m.take k<:+m.take n→m[k]? =some c→k≤j
  fits:j=0∨m[j]? =some c
theorem QH (m:List UInt8) (c:UInt8) (hm: ∀ k,k≤m.length→(m.take k).length=k): ∀ (f n:Nat),n≤f→n≤m.length→zil m c n (fall m c f n)
  | 0,n,h,hn=>by
    have:n=0:=by omega
    subst this
    exact⟨Nat.le_refl _,List.suffix_refl _,fun k hk _ _=>hk,.inl rfl⟩
  | f + 1,n,h,hn=>by
    simp only [fall]
    split
    · rename_i h0;subst h0;exact⟨Nat.le_refl _,List.suffix_refl _,fun k hk _ _=>hk,.inl rfl⟩
    · split
      · rename_i h0 h1;exact⟨Nat.le_refl _,List.suffix_refl _,fun k hk _ _=>hk,.inr h1⟩
      · rename_i h0 h1
        have hb:=vk (m:=m) (i:=n) (by omega)
        have ht:Top m (m.take n) (n - 1) (zJ m n):=xh m (m.take n) (n - 1)
        have ih:=QH m c hm f (zJ m n) (by omega) (by omega)
        refine⟨by have:=ih.le;omega,ih.suf.trans ht.suf,fun k hk hs hc=> ?_,ih.fits⟩
        have hne:k≠n:=by rintro rfl;exact h1 hc
        have hkb:k≤zJ m n:=ht.top k (by omega) hs
        refine ih.top k hkb (uZ hs ht.suf ?_) hc
        rw [hm k (by omega),hm _ (by omega)]
        exact hkb
theorem take_len {m:List UInt8}: ∀ k,k≤m.length→(m.take k).length=k:=fun k hk=>by simp;omega
theorem uY {m s:List UInt8} {k:Nat} {c:UInt8} (hk:k<m.length):m.take (k+1)<:+s++[c]↔m.take k<:+s∧m[k]? =some c:=by
  rw [List.take_succ_eq_append_getElem hk,List.getElem?_eq_getElem hk]
  constructor
  · rintro⟨t,ht⟩
    rw [← List.append_assoc] at ht
    have:=List.append_inj' ht rfl
    exact⟨⟨t,this.1⟩,by simpa using this.2⟩
  · rintro⟨⟨t,ht⟩,hc⟩
    have hc':m[k]=c:=by simpa using hc
    exact⟨t,by rw [← List.append_assoc,ht,hc']⟩
theorem Top.step {m s:List UInt8} {b n:Nat} {c:UInt8} (h:Top m s b n) (hb:b<m.length):
    (m[fall m c n n]? =some c→Top m (s++[c]) (b+1) (fall m c n n+1))∧(m[fall m c n n]? ≠some c→Top m (s++[c]) (b+1) 0∧fall m c n n=0):=by
  have hn:n≤m.length:=by have:=h.le;omega
  have hf:=QH m c take_len n n (Nat.le_refl _) hn
  generalize fall m c n n=j at hf
  have hjl:j<m.length:=by have:=hf.le;have:=h.le;omega
  have key: ∀ k,k+1≤b+1→m.take (k+1)<:+s++[c]→k≤j∧m[k]? =some c:=by
    intro k hk hs
    obtain⟨h1,h2⟩:=(uY (by omega)).1 hs
    have h3:=h.top k (by omega) h1
    have h4:m.take k<:+m.take n:=uZ h1 h.suf (by rw [take_len k (by omega),take_len n hn];exact h3)
    exact⟨hf.top k h3 h4 h2,h2⟩
  constructor
  · intro hc
    refine⟨by have:=hf.le;have:=h.le;omega,(uY hjl).2 ⟨hf.suf.trans h.suf,hc⟩,fun k hk hs=> ?_⟩
    cases k with
    |zero=>omega
    |succ k=>have:=(key k hk hs).1;omega
  · intro hc
    have hj0:j=0:=hf.fits.resolve_right hc
    subst hj0
    refine⟨⟨Nat.zero_le _,by simp,fun k hk hs=> ?_⟩,rfl⟩
    cases k with
    |zero=>omega
    | succ k=>
      obtain⟨h1,h2⟩:=key k hk hs
      have:k=0:=by omega
      subst this;exact(hc h2).elim
theorem Q5 {m:List UInt8} {i:Nat} (hi:i<m.length) (h0:0<i):
    zJ m (i+1)=(if m[fall m m[i] (zJ m i) (zJ m i)]? =some m[i] then fall m m[i] (zJ m i) (zJ m i)+1 else 0):=by
  have ht:=xh m (m.take i) (i - 1)
  have hs:=ht.step (c:=m[i]) (by omega)
  have e:m.take i++[m[i]]=m.take (i+1):=(List.take_succ_eq_append_getElem hi).symm
  rw [e,show i - 1+1=i by omega] at hs
  have hnew:=xh m (m.take (i+1)) (i+1 - 1)
  change Top m (m.take (i+1)) i (zJ m (i+1)) at hnew
  change(m[fall m m[i] (zJ m i) (zJ m i)]? =some m[i]→_)∧_ at hs
  split
  · rename_i hc;exact hnew.eq (hs.1 hc)
  · rename_i hc;exact hnew.eq (hs.2 hc).1
theorem zdE {m:List UInt8} {n k j:Nat} (hj:0<j) (hk:k+j=n) (hn:n≤m.length) (h:m.take k++m.take j=m.take n):
    m.take k++m.take (j - zJ m j)=m.take (k+(j - zJ m j))∧m.take (k+(j - zJ m j))++m.take (zJ m j)=m.take n:=by
  have hb:=vk (m:=m) hj
  have ht:Top m (m.take j) (j - 1) (zJ m j):=xh m (m.take j) (j - 1)
  generalize zJ m j=b at hb ht
  obtain⟨t,e⟩:=ht.suf
  have hl:=congrArg List.length e
  rw [List.length_append,take_len b (by omega),take_len j (by omega)] at hl
  have e2:t=m.take (j - b):=by
    have h1:(m.take j).take t.length=t:=by rw [← e];simp
    rw [List.take_take,show min t.length j=j - b by omega] at h1
    exact h1.symm
  subst e2
  have e3:m.take n=(m.take k++m.take (j - b))++m.take b:=by rw [List.append_assoc,e,h]
  have e4:m.take (k+(j - b))=m.take k++m.take (j - b):=by
    have h1:(m.take n).take (k+(j - b))=m.take (k+(j - b)):=by rw [List.take_take,show min (k+(j - b)) n=k+(j - b) by omega]
    rw [← h1,e3]
    exact List.take_left' (by rw [List.length_append,take_len k (by omega),take_len _ (by omega)])
  exact⟨e4.symm,by rw [e4,e3]⟩
theorem Ru {m:List UInt8} {c:UInt8} {j:Nat} (h0:0<j) (h:m[j]? ≠some c):fall m c j j=fall m c (zJ m j) (zJ m j):=by
  have hb:=vk (m:=m) h0
  cases j with
  |zero=>omega
  | succ i=>
    rw [fall,if_neg (by omega),if_neg h]
    exact Rw m c _ _ (by omega) _ (Nat.le_refl _)
theorem sH {m:List UInt8} {c:UInt8} {j:Nat} (h:j=0∨m[j]? =some c):fall m c j j=j:=by
  cases j with
  |zero=>rfl
  |succ i=>rw [fall,if_neg (by omega),if_pos (h.resolve_left (by omega))]
def feed (m:List UInt8) (n:Nat) (c:UInt8):List UInt8 × Nat × Bool:=
  let j:=fall m c n n
  let out:=m.take (n - j)
  if m[j]? =some c then(if j+1<m.length then(out,j+1,false) else(out,0,true)) else(out++[c],0,false)
end Go.Sep.P
namespace Go.Proofs.YtknaogelmckimaaDoor
open Go Go.Sep Go.Ab
set_option maxRecDepth 100000
set_option linter.unusedSimpArgs false
set_option linter.unusedVariables false
def cfgS:Cfg:= { sl:=[⟨84,0,.byte,some 5⟩,⟨84,1,.int,some 3⟩],nr:=[6]}
def wE (m:Str):List Int:=(List.range (m.length+1)).map fun i=>((P.zJ m i:Nat):Int)
theorem zd1 (m:Str) (i:Int) (h0:0≤i) (h:i≤m.length):(wE m).getD i.toNat 0=(P.zJ m i.toNat:Nat):=by
  unfold wE
  rw [List.getD_eq_getElem?_getD,List.getElem?_map,List.getElem?_range (by omega)];rfl
theorem zd0 (m:Str):(wE m).length=m.length+1:=by simp [wE]
def yh (m:Str) (n:Nat) (c:UInt8):Str × Nat × Bool:=if m=[] then([c],n,false) else P.feed m n c
theorem ziy (m:Str) (n:Int) (bs:List Int) (k:Int) (hneed:bs=wE m∧m.length≤1000000∧0≤n∧(m=[]∨n<m.length)∧0≤k∧k≤255):Spc Tryd.prog 23 [.v (.one (.ptr 0 0)),.v (.one (.p (.int .u8 k)))] [.pack [.obj 84 [(.row 1),(.row 2),(.p (.int .i64 n))],.row .byte 5 m,.row .int 3 bs]] (.ret (.tup [(.one (.row 1)),(.one (.p (.bool ((yh m n.toNat (UInt8.ofNat k.toNat)).2.2))))])) [.pack [.obj 84 [(.row 1),(.row 2),(.p (.int .i64 (((yh m n.toNat (UInt8.ofNat k.toNat)).2.1:Int))))],.row .byte 5 m,.row .int 3 bs],.row .byte 5 ((yh m n.toNat (UInt8.ofNat k.toNat)).1)]:=by
  obtain⟨hbs,hl,hn0,hn,hk0,hk1⟩:=hneed
  generalize hr:yh m n.toNat (UInt8.ofNat k.toNat)=r
  obtain⟨out,n',fd⟩:=r
  refine spcG zk mixed Tryd.func23 (by kernel_rfl) { cfgS with keep:=some [0,1,4,5,6,7]} [] (by kernel_rfl) ?_
  intro I X hI hX
  refine zh (let y0:HO:=.obj 84 [(.row 1),(.row 2),(.p (.int .i64 n))];.br (I.ieq (I.len (α:=UInt8) m) 0) (.need (I.inr Go.IntKind.u8 k) (.fin (.ret (.tup [(.one (.row 1)),(.one (.p (.bool Bool.false)))])) [(.pack [y0,(.row .byte 5 m),(.row .int 3 bs)]),(.row .byte 5 ([(I.i2b k)]:Str))])) (.code 0 [1,1,1,0,0] ⟨[(6,(.v (.one (.row 3)))),(5,(.v (.one (.p (.val (.bool .false)))))),(4,(.v (.one .nilS))),(0,(.v (.one (.ptr 0 0)))),(1,(.v (.one (.p (.int .u8 k)))))],[y0,(.row .byte 5 m),(.row .int 3 bs),(.row .byte 5 ([]:Str))],100,none⟩)) (by kernel_rfl) ?_
  simp only [zq]
  refine⟨fun h=> ?_,fun h=> ?_⟩
  · subst hI
    simp only [nrmA,nrmB] at h
    have:m=[]:=List.eq_nil_of_length_eq_zero (by omega)
    subst this
    simp only [yh,if_true,Prod.mk.injEq] at hr
    obtain⟨rfl,rfl,rfl⟩:=hr
    simp only [nrmA,nrmB]
    refine⟨⟨hk0,hk1⟩,?_⟩
    rw [Int.toNat_of_nonneg hn0]
  have hm:m≠[]:=by
    subst hI
    simp only [nrmA,nrmB] at h
    rintro rfl;simp at h
  have hm0:0<m.length:=by cases m<;>simp_all
  have hn:n<m.length:=hn.resolve_left hm
  simp only [yh,if_neg hm] at hr
  refine zu hI zk mixed [Xd] hX [0,1,6] (fun(p:Nat × Str)=>p.1≤n.toNat∧p.2.length+p.1=n.toNat∧P.fall m (UInt8.ofNat k.toNat) p.1 p.1=P.fall m (UInt8.ofNat k.toNat) n.toNat n.toNat∧p.2++m.take p.1=m.take n.toNat∧p.2=m.take p.2.length)
    (fun p=>⟨[(0,.v (.one (.ptr 0 0))),(1,.v (.one (.p (.int .u8 k)))),(6,.v (.one (.row 1)))],[.pack [.obj 84 [.row 1,.row 2,.p (.int .i64 p.1)],.row .byte 5 m,.row .int 3 bs],.row .byte 5 p.2],100,none⟩) (fun p=>p.1) (n.toNat,[])
    (by kernel_rfl) ?_ ⟨Nat.le_refl _,by simp,rfl,by simp,by simp⟩ ?_
  · simp only [Int.toNat_of_nonneg hn0];kernel_rfl
  rintro⟨j,o⟩ ⟨hjn,hoj,hfall,hcat,hpre⟩ A hA
  simp only at hjn hoj hfall hcat hpre
  refine zh (let y0:=I.inb (Nat.cast j) (I.len (α:=UInt8) m);let y1:=I.sub (Nat.cast j) (I.get (α:=Int) bs 0 (Nat.cast j));let y2:=I.bnot (I.ieq (I.b2i (I.get (α:=UInt8) m 0 (Nat.cast j))) k);let y3:HO:=.pack [(.obj 84 [(.row 1),(.row 2),(.p (.int .i64 (I.add (Nat.cast j) 1)))]),(.row .byte 5 m),(.row .int 3 bs)];let y4:HO:=.pack [(.obj 84 [(.row 1),(.row 2),(.p (.int .i64 (Nat.cast j)))]),(.row .byte 5 m),(.row .int 3 bs)];let y5:=I.few (I.add (I.len (α:=UInt8) o) (I.len (α:=UInt8) ([(I.i2b k)]:Str))) 140737488355328;let y6:HO:=.pack [(.obj 84 [(.row 1),(.row 2),(.p (.int .i64 0))]),(.row .byte 5 m),(.row .int 3 bs)];let y7:HO:=.row .byte 5 (I.app (α:=UInt8) o ([(I.i2b k)]:Str));let y8:=I.ilt (I.add (Nat.cast j) 1) (I.len (α:=UInt8) m);let y9:=I.inr Go.IntKind.i64 (I.add (Nat.cast j) 1);let y10:=I.inb (Nat.cast j) (I.len (α:=Int) bs);.br (I.ilt 0 (Nat.cast j)) (.need y0 (.need y0 (.br y2 (.need y10 (.need y10 (.need (I.inr Go.IntKind.i64 y1) (.need (I.cutb 0 y1 (I.len (α:=UInt8) m)) (.need (I.few (I.add (I.len (α:=UInt8) o) (I.len (α:=UInt8) (I.cut (α:=UInt8) m 0 y1))) 140737488355328) (.need (A ⟨[(0,(.v (.one (.ptr 0 0)))),(1,(.v (.one (.p (.int .u8 k))))),(6,(.v (.one (.row 1))))],[(.pack [(.obj 84 [(.row 1),(.row 2),(.p (.int .i64 (I.get (α:=Int) bs 0 (Nat.cast j))))]),(.row .byte 5 m),(.row .int 3 bs)]),(.row .byte 5 (I.app (α:=UInt8) o (I.cut (α:=UInt8) m 0 y1)))],100,none⟩) .qed)))))) (.need y0 (.need y0 (.br y2 (.need (I.inr Go.IntKind.u8 k) (.need y5 (.fin (.ret (.tup [(.one (.row 1)),(.one (.p (.bool Bool.false)))])) [y4,y7]))) (.need y9 (.br y8 (.fin (.ret (.tup [(.one (.row 1)),(.one (.p (.bool Bool.false)))])) [y3,(.row .byte 5 o)]) (.fin (.ret (.tup [(.one (.row 1)),(.one (.p (.bool Bool.true)))])) [y6,(.row .byte 5 o)]))))))))) (.need y0 (.need y0 (.br y2 (.need (I.inr Go.IntKind.u8 k) (.need y5 (.fin (.ret (.tup [(.one (.row 1)),(.one (.p (.bool Bool.false)))])) [y4,y7]))) (.need y9 (.br y8 (.fin (.ret (.tup [(.one (.row 1)),(.one (.p (.bool Bool.false)))])) [y3,(.row .byte 5 o)]) (.fin (.ret (.tup [(.one (.row 1)),(.one (.p (.bool Bool.true)))])) [y6,(.row .byte 5 o)]))))))) (by kernel_rfl) ?_
  simp only [zq]
  subst hI hbs
  simp only [nrmA,nrmB]
  have hb:=zd1 m j (by omega) (by omega)
  simp only [Int.toNat_natCast] at hb
  have hbl:0<j→P.zJ m j<j:=P.vk
  have hj:j<m.length:=by omega
  have hge:m.getD j 0=m[j]:=by simp [hj]
  rw [hb,zd0,hge]
  have hcc:(m[j].toNat:Int)=k↔m[j]? =some (UInt8.ofNat k.toNat):=by
    rw [List.getElem?_eq_getElem hj,Option.some.injEq,← UInt8.toNat_inj,UInt8.toNat_ofNat']
    omega
  simp only [hcc]
  have hfeed:=hr
  simp only [P.feed] at hfeed
  rw [← hfall] at hfeed
  refine⟨fun h0=>⟨by omega,by omega,fun hne=>⟨by omega,by omega,by omega,by omega,by simp only [List.length_take];omega,?_⟩,fun heq=>⟨by omega,by omega,fun hne=>(hne heq).elim,fun _=>⟨by omega,fun hlt=> ?_,fun hlt=> ?_⟩⟩⟩,fun h0=>⟨by omega,by omega,fun hne=> ?_,fun heq=>⟨by omega,fun hlt=> ?_,fun hlt=> ?_⟩⟩⟩
  · obtain⟨h1,h2⟩:=P.zdE (m:=m) (n:=n.toNat) (k:=o.length) (j:=j) (by omega) (by omega) (by omega) (by rw [← hpre];exact hcat)
    have hx:(↑j - ↑(P.zJ m j):Int).toNat=j - P.zJ m j:=by omega
    have hbj:=hbl (by omega)
    rw [hx]
    refine hA (P.zJ m j,o++m.take (j - P.zJ m j)) ⟨by simp only;omega,?_,?_,?_,?_⟩ hbj
    · simp only [List.length_append,List.length_take];omega
    · rw [← hfall];exact(P.Ru (by omega) hne).symm
    · simp only;rw [← h2,← h1,← hpre]
    · have:(o++m.take (j - P.zJ m j)).length=o.length+(j - P.zJ m j):=by simp only [List.length_append,List.length_take];omega
      simp only;rw [this,← h1,← hpre]
  · have hstop:=P.sH (c:=UInt8.ofNat k.toNat) (.inr heq)
    rw [hstop,if_pos heq,if_pos (by omega)] at hfeed
    simp only [Prod.mk.injEq] at hfeed
    obtain⟨rfl,rfl,rfl⟩:=hfeed
    rw [show n.toNat - j=o.length by omega,← hpre]
    exact⟨rfl,rfl⟩
  · have hstop:=P.sH (c:=UInt8.ofNat k.toNat) (.inr heq)
    rw [hstop,if_pos heq,if_neg (by omega)] at hfeed
    simp only [Prod.mk.injEq] at hfeed
    obtain⟨rfl,rfl,rfl⟩:=hfeed
    rw [show n.toNat - j=o.length by omega,← hpre]
    exact⟨rfl,rfl⟩
  all_goals
    have hj0:j=0:=by omega
    subst hj0
    have hstop:=P.sH (m:=m) (c:=UInt8.ofNat k.toNat) (j:=0) (.inl rfl)
    rw [hstop] at hfeed
    rw [show n.toNat=o.length by omega,Nat.sub_zero,← hpre] at hfeed
  · rw [if_neg hne] at hfeed
    simp only [Prod.mk.injEq] at hfeed
    obtain⟨rfl,rfl,rfl⟩:=hfeed
    exact⟨⟨hk0,hk1⟩,by simp only [List.length_cons,List.length_nil];omega,rfl,rfl⟩
  · rw [if_pos heq,if_pos (by omega)] at hfeed
    simp only [Prod.mk.injEq] at hfeed
    obtain⟨rfl,rfl,rfl⟩:=hfeed
    exact⟨rfl,rfl⟩
  · rw [if_pos heq,if_neg (by omega)] at hfeed
    simp only [Prod.mk.injEq] at hfeed
    obtain⟨rfl,rfl,rfl⟩:=hfeed
    exact⟨rfl,rfl⟩
def Ui (I:Alg) (args:List D) (hp:List HO):Option CT:=match args,hp with
  |[.v (.one (.ptr 0 0)),.v (.one (.p (.int .u8 k)))],[.pack [.obj 84 [(.row 1),(.row 2),(.p (.int .i64 n))],.row .byte 5 m,.row .int 3 bs]]=>(fun(m:Str) (n:Int) (bs:List Int) (k:Int)=>(some (.one ⟨I.hid (bs=wE m∧m.length≤1000000∧0≤n∧(m=[]∨n<m.length)∧0≤k∧k≤255),(.ret (.tup [(.one (.row 1)),(.one (.p (.bool (I.hid ((yh m n.toNat (UInt8.ofNat k.toNat)).2.2)))))])),[.pack [.obj 84 [(.row 1),(.row 2),(.p (.int .i64 (I.hid (((yh m n.toNat (UInt8.ofNat k.toNat)).2.1:Int)))))],.row .byte 5 m,.row .int 3 bs],.row .byte 5 (I.hid ((yh m n.toNat (UInt8.ofNat k.toNat)).1))]⟩):Option CT)) m n bs k
  |_,_=>none
theorem zdD:zx Tryd.prog 23 (Ui alg):=by
  intro args hp r h
  unfold Ui at h
  split at h
  · cases h;exact fun hn=>ziy _ _ _ _ hn
  · cases h
def Z5:Know Tryd.prog:=⟨23,Ui,zdD⟩
def Z4:Know Tryd.prog:=⟨23,fun I=>zA I (Ui I),zf zdD⟩
def yO (m:Str) (i:Nat):List Int:=(List.range (m.length+1)).map fun q=>if q<i then((P.zJ m q:Nat):Int) else 0
theorem QZ (m:Str) (i:Nat) (h:m.length<i):yO m i=wE m:=by
  unfold yO wE
  refine List.map_congr_left fun q hq=> ?_
  rw [if_pos (by have:=List.mem_range.1 hq;omega)]
theorem QV (m:Str):yO m 2=List.replicate (m.length+1) 0:=by
  unfold yO
  refine List.ext_getElem (by simp) fun q h1 h2=> ?_
  simp only [List.getElem_map,List.getElem_range,List.getElem_replicate]
  split
  · have:q=0∨q=1:=by omega
    rcases this with rfl|rfl
    · simp [P.zJ,P.wK]
    · simp [P.zJ,P.wK]
  · rfl
theorem QX (m:Str) (i:Nat):(yO m i).length=m.length+1:=by simp [yO]
theorem QY (m:Str) (i q:Nat) (h:q<i) (hm:q≤m.length):(yO m i).getD q 0=(P.zJ m q:Nat):=by
  unfold yO
  rw [List.getD_eq_getElem?_getD,List.getElem?_map,List.getElem?_range (by omega)]
  simp [h]
theorem QW (m:Str) (i:Nat):(yO m i).set i ((P.zJ m i:Nat):Int)=yO m (i+1):=by
  unfold yO
  refine List.ext_getElem (by simp) fun q h1 h2=> ?_
  simp only [List.getElem_set,List.getElem_map,List.getElem_range]
  by_cases h:i=q
  · subst h;simp
  · rw [if_neg h]
    by_cases hq:q<i
    · rw [if_pos hq,if_pos (by omega)]
    · rw [if_neg hq,if_neg (by omega)]
theorem new_ (m:Str) (hneed:m.length≤999999):Spc Tryd.prog 22 [.v (.one (.p (.list .byte m)))] [] (.ret (.v (.one (.ptr 0 0)))) [.pack [.obj 84 [(.row 1),(.row 2),(.p (.int .i64 0))],.row .byte 5 m,.row .int 3 ((wE m))]]:=by
  refine spcG zk mixed Tryd.func22 (by kernel_rfl) { cfgS with seam:=[2],keep:=some [0,2,3,4,5]} [UA,Xd] (by kernel_rfl) ?_
  intro I X hI hX
  refine zh (let y0:=I.same (α:=Int) (I.add (I.len (α:=UInt8) m) 1) (I.add (I.len (α:=UInt8) m) 1);let y1:HO:=.row .int 3 (I.rep (α:=Int) (I.add (I.len (α:=UInt8) m) 1) 0);let y2:=I.hid (α:=(Prop)) (LE.le (List.length m) 100000000);let y3:=I.few (I.add (I.len (α:=UInt8) m) 1) 1000000;let y4:=I.nng (I.add (I.len (α:=UInt8) m) 1);.need (I.inr Go.IntKind.i64 (I.add (I.len (α:=UInt8) m) 1)) (.both (.need y2 (.need y0 (.need y4 (.need y3 (.code 0 [1,1,0] ⟨[(3,(.v (.one (.ptr 2 0)))),(2,(.v (.one (.p (.val (.pointer .none)))))),(0,(.v (.one (.p (.list .byte m)))))],[(.row .byte 5 m),y1,(.obj 84 [(.row 0),(.row 1),(.p (.int .i64 0))])],60,none⟩))))) (.need y0 (.need y4 (.need y3 (.need y2 (.code 0 [1,1,0] ⟨[(3,(.v (.one (.ptr 2 0)))),(2,(.v (.one (.p (.val (.pointer .none)))))),(0,(.v (.one (.p (.list .byte m)))))],[y1,(.row .byte 5 m),(.obj 84 [(.row 1),(.row 0),(.p (.int .i64 0))])],60,none⟩))))))) (by kernel_rfl) ?_
  simp only [zq]
  refine⟨?n1,⟨?n2,?n3,?n4,?n5,seam hI zk mixed [] hX [0,3] ⟨[(0,.v (.one (.p (.list .byte m)))),(3,.v (.one (.ptr 0 0)))],[.pack [.obj 84 [(.row 1),(.row 2),(.p (.int .i64 0))],.row .byte 5 m,.row .int 3 ((I.rep (α:=Int) (I.add (I.len (α:=UInt8) m) 1) (0:Int)))]],60,none⟩ (by kernel_rfl) ?on⟩,?n3,?n4,?n5,?n2,seam hI zk mixed [] hX [0,3] _ (by kernel_rfl) ?on⟩
  case on=>
    have hrep:(I.rep (α:=Int) (I.add (I.len (α:=UInt8) m) 1) (0:Int))=yO m 2:=by
      subst hI
      simp only [nrmA,nrmB]
      rw [QV];rfl
    rw [hrep]
    generalize hb2:yO m 2=b2
    refine zh (.code 0 [1,1,1,0,1,0] ⟨[(5,(.v (.one (.p (.int .i64 1))))),(4,(.v (.one (.p (.int .i64 0))))),(0,(.v (.one (.p (.list .byte m))))),(3,(.v (.one (.ptr 0 0))))],[(.pack [(.obj 84 [(.row 1),(.row 2),(.p (.int .i64 0))]),(.row .byte 5 m),(.row .int 3 b2)])],60,none⟩) (by kernel_rfl) ?_
    simp only [zq]
    refine zu hI zk mixed [UA,Xd] hX [0,3,5,4] (fun(g:Nat × Nat × List Int)=>match g with|(i,k,bs)=>1≤i∧(i≤m.length∨i=1)∧k=P.zJ m i∧bs=yO m (i+1)) (fun(g:Nat × Nat × List Int)=>match g with|(i,k,bs)=>⟨[(0,.v (.one (.p (.list .byte m)))),(3,.v (.one (.ptr 0 0))),(5,.v (.one (.p (.int .i64 i)))),(4,.v (.one (.p (.int .i64 k))))],[.pack [.obj 84 [(.row 1),(.row 2),(.p (.int .i64 0))],.row .byte 5 m,.row .int 3 bs]],60,none⟩) (fun(g:Nat × Nat × List Int)=>match g with|(i,k,bs)=>m.length - i) (1,0,b2) (by kernel_rfl) (by kernel_rfl) ?_ ?_
    · exact⟨Nat.le_refl _,.inr rfl,by simp [P.zJ,P.wK],hb2.symm⟩
    rintro⟨i,k,bs⟩ ⟨hi,him,rfl,hbs⟩ A hA
    simp only at hA
    generalize hk:P.zJ m i=k at hA
    refine zh (let y0:HO:=.pack [(.obj 84 [(.row 1),(.row 2),(.p (.int .i64 0))]),(.row .byte 5 m),(.row .int 3 bs)];.br (I.ilt (Nat.cast i) (I.len (α:=UInt8) m)) (.code 0 [1,0,0,0,0] ⟨[(0,(.v (.one (.p (.list .byte m))))),(3,(.v (.one (.ptr 0 0)))),(5,(.v (.one (.p (.int .i64 (Nat.cast i)))))),(4,(.v (.one (.p (.int .i64 (Nat.cast k))))))],[y0],60,none⟩) (.fin (.ret (.v (.one (.ptr 0 0)))) [y0])) (by kernel_rfl) ?_
    simp only [zq]
    refine⟨fun hlt=> ?_,fun hlt=> ?_⟩
    · refine zu hI zk mixed [UA,Xd] hX [0,3,5,4] (fun(q:Nat)=>q≤k∧P.fall m (m.getD i 0) q q=P.fall m (m.getD i 0) k k) (fun(q:Nat)=>⟨[(0,.v (.one (.p (.list .byte m)))),(3,.v (.one (.ptr 0 0))),(5,.v (.one (.p (.int .i64 i)))),(4,.v (.one (.p (.int .i64 q))))],[.pack [.obj 84 [(.row 1),(.row 2),(.p (.int .i64 0))],.row .byte 5 m,.row .int 3 bs]],60,none⟩) (fun(q:Nat)=>q) k (by kernel_rfl) (by kernel_rfl) ?_ ?_
      · exact⟨Nat.le_refl _,rfl⟩
      rintro q ⟨hq,hfall⟩ B hB
      refine zh (let y0:=I.inb (I.add (Nat.cast i) 1) (I.len (α:=Int) bs);let y1:=I.inr Go.IntKind.i64 (I.add (Nat.cast i) 1);let y2:=I.inb (Nat.cast i) (I.len (α:=UInt8) m);let y3:=I.inb (Nat.cast q) (I.len (α:=UInt8) m);let y4:=I.ieq (I.b2i (I.get (α:=UInt8) m 0 (Nat.cast i))) (I.b2i (I.get (α:=UInt8) m 0 (Nat.cast q)));let y5:HO:=.obj 84 [(.row 1),(.row 2),(.p (.int .i64 0))];let y6:HO:=.pack [y5,(.row .byte 5 m),(.row .int 3 (I.set (α:=Int) bs (I.add (Nat.cast i) 1) (I.add (Nat.cast q) 1)))];let y7:HO:=.pack [y5,(.row .byte 5 m),(.row .int 3 (I.set (α:=Int) bs (I.add (Nat.cast i) 1) (Nat.cast q)))];let y8:=I.inr Go.IntKind.i64 (I.add (Nat.cast q) 1);let y9:=I.inb (Nat.cast q) (I.len (α:=Int) bs);.br (I.ilt 0 (Nat.cast q)) (.need y2 (.need y2 (.need y3 (.need y3 (.br (I.bnot y4) (.need y9 (.need y9 (.need (B ⟨[(0,(.v (.one (.p (.list .byte m))))),(3,(.v (.one (.ptr 0 0)))),(5,(.v (.one (.p (.int .i64 (Nat.cast i)))))),(4,(.v (.one (.p (.int .i64 (I.get (α:=Int) bs 0 (Nat.cast q)))))))],[(.pack [y5,(.row .byte 5 m),(.row .int 3 bs)])],60,none⟩) .qed))) (.need y2 (.need y2 (.need y3 (.need y3 (.br y4 (.need y8 (.need y1 (.need y0 (.need y0 (.need y1 (.need (A ⟨[(0,(.v (.one (.p (.list .byte m))))),(3,(.v (.one (.ptr 0 0)))),(5,(.v (.one (.p (.int .i64 (I.add (Nat.cast i) 1)))))),(4,(.v (.one (.p (.int .i64 (I.add (Nat.cast q) 1))))))],[y6],60,none⟩) .qed)))))) (.need y1 (.need y0 (.need y0 (.need y1 (.need (A ⟨[(0,(.v (.one (.p (.list .byte m))))),(3,(.v (.one (.ptr 0 0)))),(5,(.v (.one (.p (.int .i64 (I.add (Nat.cast i) 1)))))),(4,(.v (.one (.p (.int .i64 (Nat.cast q))))))],[y7],60,none⟩) .qed))))))))))))))) (.need y2 (.need y2 (.need y3 (.need y3 (.br y4 (.need y8 (.need y1 (.need y0 (.need y0 (.need y1 (.need (A ⟨[(0,(.v (.one (.p (.list .byte m))))),(3,(.v (.one (.ptr 0 0)))),(5,(.v (.one (.p (.int .i64 (I.add (Nat.cast i) 1)))))),(4,(.v (.one (.p (.int .i64 (I.add (Nat.cast q) 1))))))],[y6],60,none⟩) .qed)))))) (.need y1 (.need y0 (.need y0 (.need y1 (.need (A ⟨[(0,(.v (.one (.p (.list .byte m))))),(3,(.v (.one (.ptr 0 0)))),(5,(.v (.one (.p (.int .i64 (I.add (Nat.cast i) 1)))))),(4,(.v (.one (.p (.int .i64 (Nat.cast q))))))],[y7],60,none⟩) .qed))))))))))) (by kernel_rfl) ?_
      simp only [zq]
      subst hI hbs
      simp only [nrmA,nrmB] at hlt
      have hil:i<m.length:=by omega
      have hkl:k<i:=by rw [← hk];exact P.vk (by omega)
      have hql:q<m.length:=by omega
      have hst:=P.Q5 hil (by omega)
      have hgi:m.getD i 0=m[i]:=by simp [hil]
      have hgq:m.getD q 0=m[q]:=by simp [hql]
      have hg0:=QY m (i+1) q (by omega) (by omega)
      have hbl:0<q→P.zJ m q<q:=P.vk
      rw [hk] at hst
      rw [hgi] at hfall
      rw [← hfall] at hst
      simp only [nrmA,nrmB]
      rw [hgi,hgq,QX,hg0,show((i:Int)+1).toNat=i+1 by omega]
      have hset:=QW m (i+1)
      have hcc:m[i]=m[q]↔m[q]? =some m[i]:=by rw [List.getElem?_eq_getElem hql];simp [eq_comm]
      have hA1:(q=0∨m[i]=m[q])→m[i]=m[q]→A ⟨[(0,.v (.one (.p (.list .byte m)))),(3,.v (.one (.ptr 0 0))),(5,.v (.one (.p (.int .i64 ((i:Int)+1))))),(4,.v (.one (.p (.int .i64 ((q:Int)+1)))))],[.pack [.obj 84 [(.row 1),(.row 2),(.p (.int .i64 0))],.row .byte 5 m,.row .int 3 (((yO m (i+1)).set (i+1) ((q:Int)+1)))]],60,none⟩:=by
        intro h1 h2
        rw [P.sH (by rw [← hcc];exact h1),if_pos (hcc.1 h2)] at hst
        have:=hA (i+1,q+1,yO m (i+2)) ⟨by omega,by omega,hst.symm,rfl⟩ (by simp only;omega)
        rw [hst] at hset
        rw [← hset] at this
        exact this
      have hA2:(q=0∨m[i]=m[q])→¬m[i]=m[q]→A ⟨[(0,.v (.one (.p (.list .byte m)))),(3,.v (.one (.ptr 0 0))),(5,.v (.one (.p (.int .i64 ((i:Int)+1))))),(4,.v (.one (.p (.int .i64 q))))],[.pack [.obj 84 [(.row 1),(.row 2),(.p (.int .i64 0))],.row .byte 5 m,.row .int 3 (((yO m (i+1)).set (i+1) (q:Int)))]],60,none⟩:=by
        intro h1 h2
        obtain rfl:q=0:=h1.resolve_right h2
        rw [P.sH (.inl rfl),if_neg (fun h=>h2 (hcc.2 h))] at hst
        have:=hA (i+1,0,yO m (i+2)) ⟨by omega,by omega,hst.symm,rfl⟩ (by simp only;omega)
        rw [hst] at hset
        rw [← hset] at this
        exact this
      (repeat' (first|refine And.intro ?_ ?_|intro _))<;>first|omega|exact True.intro|exact False.elim ‹False›|skip
      · refine hB (P.zJ m q) ⟨by have:=hbl (by omega);omega,?_⟩ (hbl (by omega))
        rw [hgi,← P.Ru (by omega) (fun h=>‹¬m[i]=m[q]› (hcc.2 h)),hfall]
      · exact hA1 (.inr ‹_›) ‹_›
      · exact hA2 (.inr ‹_›) ‹_›
      · exact hA1 (.inl (by omega)) ‹_›
      · exact hA2 (.inl (by omega)) ‹_›
    · subst hI hbs
      simp only [nrmA,nrmB] at hlt
      rw [QZ m _ (by omega)]
      exact⟨trivial,rfl⟩
  all_goals subst hI;simp only [nrmA,nrmB];try omega
def zaN (I:Alg) (args:List D) (hp:List HO):Option CT:=match args,hp with
  |[.v (.one (.p (.list .byte m)))],[]=>(fun(m:Str)=>(some (.one ⟨I.hid (m.length≤999999),(.ret (.v (.one (.ptr 0 0)))),[.pack [.obj 84 [(.row 1),(.row 2),(.p (.int .i64 0))],.row .byte 5 m,.row .int 3 (I.hid ((wE m)))]]⟩):Option CT)) m
  |_,_=>none
theorem zfx:zx Tryd.prog 22 (zaN alg):=by
  intro args hp r h
  unfold zaN at h
  split at h
  · cases h;exact fun hn=>new_ _ hn
  · cases h
def zfw:Know Tryd.prog:=⟨22,zaN,zfx⟩
def zfv:Know Tryd.prog:=⟨22,fun I=>zA I (zaN I),zf zfx⟩
end Go.Proofs.YtknaogelmckimaaDoor
namespace Go.Proofs.YtknaogelmckimaaDoor
open Go Go.Sep Go.Ab
def vU (s:Str):Bool:= !decide (70<s.length)&&(wF s&&(decide (Lib.trimS s [32,9]=s)&&decide (s≠[])))
def xq (b:Str) (c:UInt8):Str:=
  if c=47∨c=92 then []
  else if c=9∨wQ (c.toNat:Int)=false∨c=34∨c=58 then b++[95]
  else if c=46∧b=[] then b
  else b++[c]
def xZ (s:Str):Str:=if(s.foldl xq []).take 40=[] then [102,105,108,101] else(s.foldl xq []).take 40
def pctM:Str→Option Str
  |[]=>some []
  | c ::r=>
    if c≠37 then(pctM r).map (c:: ·)
    else match r with
      |a::b::r'=>if hexK (a.toNat:Int)<0∨hexK (b.toNat:Int)<0 then none else(pctM r').map (UInt8.ofNat (16 * hexK (a.toNat:Int)+hexK (b.toNat:Int)).toNat:: ·)
      |_=>none
def utfS:Str:=[117,116,102,45,56,39,39]
def extM (s:Str):Option Str:=if s.length<7∨lowS (s.take 7)≠utfS then none else pctM (s.drop 7)
def yR:Str:=[99,111,110,116,101,110,116,45,100,105,115,112,111,115,105,116,105,111,110]
def Zx:Str:=[99,111,110,116,101,110,116,45,116,121,112,101]
def Rn:Str:=[102,111,114,109,45,100,97,116,97]
def zcX:Str:=[110,97,109,101]
def QF:Str:=[102,105,108,101,110,97,109,101]
def Yx:Str:=[102,105,108,101,110,97,109,101,42]
def extV (s:Str):Str:=(extM s).getD []
def extB (s:Str):Bool:=(extM s).isSome
def zge (f x:Str × Bool):Str:=if x.2=true then xZ (extV x.1) else if f.2=true then xZ f.1 else []
def partT (t:Str × Int):Str:=if t.2=0 then t.1 else []
def zeH (a:Str × Int) (m:Med × Int) (n f x:Str × Bool) (t:Str × Int):Prt × Int:=
  if a.2≠0 then(prt0,a.2)
  else if m.2≠0 then(prt0,m.2)
  else if m.1.word≠Rn then(prt0,11)
  else if n.2=false then(prt0,6)
  else if x.2=true∧extB x.1=false then(prt0,5)
  else if t.2=9 then(prt0,9)
  else(⟨n.1,zge f x,partT t,[]⟩,0)
def yw (l:List Fld):Prt × Int:=
  zeH (oneF (valsF l yR)) (zN (oneF (valsF l yR)).1) (getP (zN (oneF (valsF l yR)).1).1.params zcX) (getP (zN (oneF (valsF l yR)).1).1.params QF) (getP (zN (oneF (valsF l yR)).1).1.params Yx) (oneF (valsF l Zx))
def evP (p:Prt):Evt:=⟨5,hd0,[],p,0⟩
def evO:Evt:=⟨6,hd0,[],prt0,0⟩
def zH (f:Fm) (c:Int):Fm:= { f with pos:=8,code:=c,out:=f.out++[evF c]}
def fmSk (f:Fm) (c:UInt8):Fm:= { f with held:=((yh f.mark f.held.toNat c).2.1:Int)}
def yN (f:Fm):Fm:=
  if(yw f.fields).2≠0 then zH f (yw f.fields).2
  else if f.parts=12 then zH f 8
  else fmSk (fmSk { f with parts:=f.parts+1,pos:=6,out:=f.out++[evP (yw f.fields).1],skip:=2} 13) 10
def xO (f:Fm) (s:Str):Fm:=
  if s=[] then yN f
  else if f.fields.length=16 then zH f 8
  else if(yX s).2≠0 then zH f (yX s).2
  else { f with fields:=f.fields++[(yX s).1]}
def yx (f:Fm) (c:UInt8):Fm:=
  if f.pos=1∧c=45 then { f with pos:=2}
  else if f.pos=2∧c=45 then { f with pos:=7,out:=f.out++[evE]}
  else if f.pos≠2∧(c=32∨c=9) then { f with pos:=3}
  else if f.pos≠2∧c=13 then { f with pos:=4}
  else zH f 5
def vz (f:Fm) (c:UInt8):Str:=(yh f.mark f.held.toNat c).1.drop (min f.skip ((yh f.mark f.held.toNat c).1.length:Int)).toNat
def yZ (f:Fm) (c:UInt8):Fm:=
  if(yh f.mark f.held.toNat c).2.2=false then
    { fmSk f c with skip:=f.skip - min f.skip ((yh f.mark f.held.toNat c).1.length:Int),out:=if f.pos=6∧vz f c≠[] then f.out++[evB (vz f c)] else f.out}
  else { fmSk f c with pos:=1,skip:=0,out:=if f.pos=6 then(if vz f c≠[] then f.out++[evB (vz f c),evO] else f.out++[evO]) else f.out}
def lnOf (f:Fm):Ln:=match f.ln with|some l=>l|none=>ln0
def fmF (f:Fm) (c:UInt8):Fm:=
  if f.pos=0∨f.pos=6 then yZ f c
  else if f.pos=1∨f.pos=2∨f.pos=3 then yx f c
  else if f.pos=4 then(if c≠10 then zH f 2 else { f with pos:=5,ln:=some ln0,fields:=[]})
  else if f.pos=5 then
    if(lnF (lnOf f) c).2.2.2≠0 then zH { f with ln:=some (lnF (lnOf f) c).1} (lnF (lnOf f) c).2.2.2
    else if(lnF (lnOf f) c).2.2.1=true then xO { f with ln:=some (lnF (lnOf f) c).1} (lnF (lnOf f) c).2.1
    else { f with ln:=some (lnF (lnOf f) c).1}
  else f
def XW (b:Str):Str:=[13,10,45,45]++b
def fm0 (b:Str):Fm:=fmSk (fmSk ⟨XW b,0,wE (XW b),0,none,[],0,0,0,[]⟩ 13) 10
def ZU (f:Fm) (b:Str):Fm:=b.foldl fmF f
def yD (f:Fm) (b:Str):Fm:=ZU { f with out:=[]} b
def xH (f:Fm):Int:=if f.pos=8 then f.code else if f.pos=7 then 0 else 14
def prtS (l:List Prt) (e:Evt):List Prt:=
  if e.kind=5 then l++[e.part]
  else if e.kind=2 then(match l.getLast? with|some p=>l.dropLast++[{ p with bytes:=p.bytes++e.bytes}]|none=>l)
  else l
def rY (b x:Str):List Prt × Int:=
  if vU b=false then([],5)
  else if xH (yD (fm0 b) x)≠0 then([],xH (yD (fm0 b) x))
  else((yU (yD (fm0 b) x).out).foldl prtS [],0)
end Go.Proofs.YtknaogelmckimaaDoor
namespace Go.Proofs.YtknaogelmckimaaDoor
open Go Go.Sep Go.Ab
set_option maxRecDepth 100000
theorem ZQ {k:Int} (hk:0≤k∧k≤255): -1≤hexK k∧hexK k≤15:=zg6 (p:=fun k=> -1≤hexK k∧hexK k≤15) (by decide+kernel) hk
theorem zeO {k:Int} (hk:0≤k∧k≤255):(∀ j:Fin 16,lowC (UInt8.ofNat k.toNat)=([48,49,50,51,52,53,54,55,56,57,97,98,99,100,101,102]:Str).getD j.1 0→hexK k=(j.1:Int))∧((∀ j:Fin 16,¬ lowC (UInt8.ofNat k.toNat)=([48,49,50,51,52,53,54,55,56,57,97,98,99,100,101,102]:Str).getD j.1 0)→hexK k= -1):=
  zg6 (p:=fun k=>(∀ j:Fin 16,lowC (UInt8.ofNat k.toNat)=([48,49,50,51,52,53,54,55,56,57,97,98,99,100,101,102]:Str).getD j.1 0→hexK k=(j.1:Int))∧((∀ j:Fin 16,¬ lowC (UInt8.ofNat k.toNat)=([48,49,50,51,52,53,54,55,56,57,97,98,99,100,101,102]:Str).getD j.1 0)→hexK k= -1)) (by decide+kernel) hk
theorem zhU (k:Int) (hneed:0≤k∧k≤255):Spc Tryd.prog 35 [.v (.one (.p (.int .u8 k)))] [] (.ret (.v (.one (.p (.int .i64 (hexK k)))))) []:=by
  generalize hr:hexK k=r
  obtain⟨f1,f2⟩:=zeO hneed
  rw [hr] at f1 f2
  refine spcG zk mixed Tryd.func35 (by kernel_rfl) { keep:=some [0,2,3,4,5]} [yg,yc] (by kernel_rfl) ?_
  intro I X hI hX
  refine zh (.need (I.inr Go.IntKind.u8 k) (.need (I.hid (α:=(Prop)) (LE.le (List.length ([(I.i2b k)]:Str)) 1000000)) (.code 0 [1,1,1,0,1,0] ⟨[(5,(.v (.one (.p (.int .i64 0))))),(4,(.v (.one (.p (.str (I.hid (α:=Str) (lowS ([(I.i2b k)]:Str)))))))),(3,(.v (.one (.p (.str ([48,49,50,51,52,53,54,55,56,57,97,98,99,100,101,102]:Str)))))),(2,(.v (.one (.p (.int .i64 0))))),(0,(.v (.one (.p (.int .u8 k)))))],[(.row .byte 5 ([(I.i2b k)]:Str))],22,none⟩))) (by kernel_rfl) ?_
  simp only [zq]
  refine⟨(by rw [hI];simp only [nrmA,nrmB];omega),(by rw [hI,zah];simp),?_⟩
  generalize hu:I.hid (lowS [I.i2b k])=u
  have hu1:u=[lowC (UInt8.ofNat k.toNat)]:=by rw [← hu,hI];rfl
  generalize lowC (UInt8.ofNat k.toNat)=x at *
  refine zu hI zk mixed [yg,yc] hX [0,3,4,5] (fun(j:Nat)=>j≤16∧∀ j':Fin 16,j'.1<j→¬ x=([48,49,50,51,52,53,54,55,56,57,97,98,99,100,101,102]:Str).getD j'.1 0) (fun(j:Nat)=>⟨[(0,.v (.one (.p (.int .u8 k)))),(3,.v (.one (.p (.str ([48,49,50,51,52,53,54,55,56,57,97,98,99,100,101,102]))))),(4,.v (.one (.p (.str u)))),(5,.v (.one (.p (.int .i64 j))))],[],22,none⟩) (fun(j:Nat)=>16 - j) 0 (by kernel_rfl) (by kernel_rfl) ?_ ?_
  · exact⟨Nat.zero_le _,fun _ h=>absurd h (Nat.not_lt_zero _)⟩
  rintro j ⟨h1,h2⟩ A hA
  refine zh (let y0:=([48,49,50,51,52,53,54,55,56,57,97,98,99,100,101,102]:Str);let y1:=I.inr Go.IntKind.i64 (I.add (Nat.cast j) 1);.br (I.ilt (Nat.cast j) 16) (.need y1 (.need (I.cutb (Int.ofNat j) (I.add (Nat.cast j) 1) (I.len (α:=UInt8) y0)) (.br (I.seq u (I.cut (α:=UInt8) y0 (Int.ofNat j) (I.add (Nat.cast j) 1))) (.fin (.ret (.v (.one (.p (.int .i64 (Nat.cast j)))))) []) (.need y1 (.need (A ⟨[(0,(.v (.one (.p (.int .u8 k))))),(3,(.v (.one (.p (.str y0))))),(4,(.v (.one (.p (.str u))))),(5,(.v (.one (.p (.int .i64 (I.add (Nat.cast j) 1))))))],[],22,none⟩) .qed))))) (.fin (.ret (.v (.one (.p (.int .i64 (Neg.neg (1:Int))))))) [])) (by kernel_rfl) ?_
  simp only [zq]
  subst hI
  simp only [nrmA,nrmB]
  generalize hH:([48,49,50,51,52,53,54,55,56,57,97,98,99,100,101,102]:Str)=H at *
  have hHl:H.length=16:=by rw [← hH];rfl
  have hcut:j<16→(H.drop j).take (((j:Int)+1).toNat - j)=[H.getD j 0]:=fun h=>by
    rw [show((j:Int)+1).toNat - j=1 by omega,List.drop_eq_getElem_cons (by omega),List.take_succ_cons,List.take_zero]
    simp [hHl,h]
  have hq:j<16→(u=(H.drop j).take (((j:Int)+1).toNat - j)↔x=H.getD j 0):=fun h=>by
    rw [hcut h,hu1];simp
  (repeat' (first|refine And.intro ?_ ?_|intro _))<;>first|omega|exact True.intro|exact False.elim ‹False›|skip
  all_goals first
    |omega
    |exact(f1 ⟨j,by omega⟩ ((hq (by omega)).1 ‹_›)).symm
    | (refine hA (j+1) ⟨by omega,fun j' hj'=> ?_⟩ (by omega)
       rcases Nat.lt_or_ge j'.1 j with hlt|hge
       · exact h2 j' hlt
       · rw [show j'.1=j by omega];exact fun e=>‹¬ u=_› ((hq (by omega)).2 e))
    |exact(f2 fun j'=>h2 j' (by have:=j'.2;omega)).symm
def Y2 (I:Alg) (args:List D) (hp:List HO):Option CT:=match args,hp with
  |[.v (.one (.p (.int .u8 k)))],[]=>(fun(k:Int)=>(some (.one ⟨I.hid (0≤k∧k≤255),(.ret (.v (.one (.p (.int .i64 (I.hid (hexK k))))))),[]⟩):Option CT)) k
  |_,_=>none
theorem za3:zx Tryd.prog 35 (Y2 alg):=by
  intro args hp r h
  unfold Y2 at h
  split at h
  · cases h;exact fun hn=>zhU _ hn
  · cases h
def Uf:Know Tryd.prog:=⟨35,Y2,za3⟩
def Ue:Know Tryd.prog:=⟨35,fun I=>zA I (Y2 I),zf za3⟩
end Go.Proofs.YtknaogelmckimaaDoor
namespace Go.Proofs.YtknaogelmckimaaDoor
open Go Go.Sep Go.Ab
set_option maxRecDepth 100000
def qE (s p:Str):Str × Bool:=if s.length<p.length∨lowS (s.take p.length)≠p then([],false) else(s.drop p.length,true)
theorem ziB (s p:Str) (hneed:s.length≤1000000∧p.length≤100):Spc Tryd.prog 54 [.v (.one (.p (.str s))),.v (.one (.p (.str p)))] [] (.ret (.tup [(.one (.p (.str ((qE s p).1)))),(.one (.p (.bool ((qE s p).2))))])) []:=by
  obtain⟨h1,h2⟩:=hneed
  generalize hr:qE s p=r
  obtain⟨a,k⟩:=r
  refine spcG zk mixed Tryd.func54 (by kernel_rfl) { keep:=some [0,1,4,5]} [xK,xJ] (by kernel_rfl) ?_
  intro I X hI hX
  refine zh (let y0:=I.cut (α:=UInt8) s 0 (I.len (α:=UInt8) p);.br (I.ilt (I.len (α:=UInt8) s) (I.len (α:=UInt8) p)) (.fin (.ret (.tup [(.one (.p (.str ([]:Str)))),(.one (.p (.bool Bool.false)))])) []) (.need (I.cutb 0 (I.len (α:=UInt8) p) (I.len (α:=UInt8) s)) (.need (I.hid (α:=(Prop)) (LE.le (List.length y0) 1000000)) (.br (I.bnot (I.seq (I.hid (α:=Str) (lowS y0)) p)) (.fin (.ret (.tup [(.one (.p (.str ([]:Str)))),(.one (.p (.bool Bool.false)))])) []) (.need (I.cutb (I.len (α:=UInt8) p) (I.len (α:=UInt8) s) (I.len (α:=UInt8) s)) (.fin (.ret (.tup [(.one (.p (.str (I.cut (α:=UInt8) s (I.len (α:=UInt8) p) (I.len (α:=UInt8) s))))),(.one (.p (.bool Bool.true)))])) [])))))) (by kernel_rfl) ?_
  simp only [zq]
  subst hI
  unfold qE at hr
  simp only [nrmA,nrmB,nrlB,reduceCtorEq]
  (repeat' (first|refine And.intro ?_ ?_|intro _))<;>first|omega|exact True.intro|exact False.elim ‹False›|skip
  all_goals first
    |omega
    |(simp only [List.length_take];omega)
    |(rw [if_pos (Or.inl (by omega))] at hr;cases hr;rfl)
    |(rw [if_pos (Or.inr ‹_›)] at hr;cases hr;rfl)
    |(rw [if_neg (fun h=>h.elim (fun h=>by omega) (fun h=>h ‹_›))] at hr;cases hr;first|rfl|exact List.take_of_length_le (by simp))
def Ut (I:Alg) (args:List D) (hp:List HO):Option CT:=match args,hp with
  |[.v (.one (.p (.str s))),.v (.one (.p (.str p)))],[]=>(fun(s p:Str)=>(some (.one ⟨I.hid (s.length≤1000000∧p.length≤100),(.ret (.tup [(.one (.p (.str (I.hid ((qE s p).1))))),(.one (.p (.bool (I.hid ((qE s p).2)))))])),[]⟩):Option CT)) s p
  |_,_=>none
theorem zdJ:zx Tryd.prog 54 (Ut alg):=by
  intro args hp r h
  unfold Ut at h
  split at h
  · cases h;exact fun hn=>ziB _ _ hn
  · cases h
def zdI:Know Tryd.prog:=⟨54,Ut,zdJ⟩
def zdH:Know Tryd.prog:=⟨54,fun I=>zA I (Ut I),zf zdJ⟩
theorem zgb {r:Str} {i:Nat} (h:i<r.length) (k: ¬ r.getD i 0=37):pctM (r.drop i)=(pctM (r.drop (i+1))).map (r.getD i 0:: ·):=by
  have e:r.getD i 0=r[i]:=by simp [h]
  rw [e] at k
  rw [List.drop_eq_getElem_cons h,pctM.eq_def]
  simp only
  rw [if_pos k,e]
theorem zga {r:Str} {i:Nat} (h:i<r.length) (k:r.getD i 0=37) (h2:r.length≤i+2):pctM (r.drop i)=none:=by
  have e:r.getD i 0=r[i]:=by simp [h]
  rw [e] at k
  rw [List.drop_eq_getElem_cons h,pctM.eq_def]
  simp only [k,ne_eq,not_true_eq_false,if_false]
  have hl:(r.drop (i+1)).length≤1:=by rw [List.length_drop];omega
  match hd:r.drop (i+1),hl with
  |[],_=>rfl
  |[_],_=>rfl
  |_::_::_,h=>simp at h
theorem zgc {r:Str} {i:Nat} (h:i+2<r.length) (k:r.getD i 0=37):pctM (r.drop i)=if hexK ((r.getD (i+1) 0).toNat:Int)<0∨hexK ((r.getD (i+2) 0).toNat:Int)<0 then none else(pctM (r.drop (i+3))).map (UInt8.ofNat (16 * hexK ((r.getD (i+1) 0).toNat:Int)+hexK ((r.getD (i+2) 0).toNat:Int)).toNat:: ·):=by
  have h0:i<r.length:=by omega
  have h1:i+1<r.length:=by omega
  have e0:r.getD i 0=r[i]:=by simp [h0]
  have e1:r.getD (i+1) 0=r[i+1]:=by simp [h1]
  have e2:r.getD (i+2) 0=r[i+2]:=by simp [h]
  rw [e0] at k
  rw [List.drop_eq_getElem_cons h0,List.drop_eq_getElem_cons h1,List.drop_eq_getElem_cons h,pctM,if_neg (by simp [k]),e1,e2]
theorem ziA (s:Str) (hneed:s.length≤1000000):Spc Tryd.prog 30 [.v (.one (.p (.str s)))] [] (.ret (.tup [(.one (.p (.str ((extV s))))),(.one (.p (.bool ((extB s)))))])) []:=by
  unfold extV extB
  generalize hr:extM s=r
  refine spcG zk mixed Tryd.func30 (by kernel_rfl) { nr:=[6],keep:=some [0,2,3,4,5,6,7]} [zfA,zfz,zdI,zdH] (by kernel_rfl) ?_
  intro I X hI hX
  refine zh (let y0:=([117,116,102,45,56,39,39]:Str);let y1:=I.hid (α:=Bool) (Prod.snd (qE s y0));.need (I.hid (α:=(Prop)) (And (LE.le (List.length s) 1000000) (LE.le (List.length y0) 100))) (.br (I.bnot y1) (.fin (.ret (.tup [(.one (.p (.str ([]:Str)))),(.one (.p (.bool Bool.false)))])) []) (.code 0 [1,1,1,1,0,1,0] ⟨[(7,(.v (.one (.p (.int .i64 0))))),(6,(.v (.one (.row 0)))),(5,(.v (.one (.p (.bool y1))))),(4,(.v (.one (.p (.str (I.hid (α:=Str) (Prod.fst (qE s y0)))))))),(3,(.v (.one (.p (.val (.bool .false)))))),(2,(.v (.one (.p (.str ([]:Str)))))),(0,(.v (.one (.p (.str s)))))],[(.row .byte 5 ([]:Str))],72,none⟩))) (by kernel_rfl) ?_
  simp only [zq]
  rw [show([117,116,102,45,56,39,39]:Str)=utfS from rfl]
  have hc:extM s=if(qE s utfS).2=false then none else pctM (qE s utfS).1:=by
    unfold extM qE
    by_cases h:s.length<7∨lowS (s.take 7)≠utfS
    · rw [if_pos h,if_pos (show s.length<utfS.length∨lowS (s.take utfS.length)≠utfS from h)];rfl
    · rw [if_neg h,if_neg (show ¬ (s.length<utfS.length∨lowS (s.take utfS.length)≠utfS) from h)];rfl
  have hl:(qE s utfS).1.length≤1000000:=by
    unfold qE
    split
    · simp
    · simp only [List.length_drop];omega
  rw [hc] at hr
  generalize(qE s utfS).2=k at *
  generalize(qE s utfS).1=R at *
  have h7:utfS.length≤100:=by decide
  (repeat' (first|refine And.intro ?_ ?_|intro _))
  all_goals try(subst hI;(simp only [nrmA,nrmB,nrlB,reduceCtorEq] at *);first|done|trivial|omega|exact⟨hneed,h7⟩|(rw [if_pos ‹_›] at hr;rw [← hr];exact⟨rfl,rfl⟩))
  have hk:k=true:=by
    subst hI
    simp only [nrmA,nrmB,nrlB,reduceCtorEq] at *
    simpa using ‹_›
  rw [hk] at hr
  simp only [Bool.true_eq_false,if_false] at hr
  rw [show I.hid R=R by subst hI;rfl]
  refine zu hI zk mixed [zfA,zfz,zdI,zdH] hX [4,6,7] (fun(g:Nat × Str)=>match g with|(i,b)=>i≤R.length∧b.length≤i∧r=(pctM (R.drop i)).map (b++ ·)) (fun(g:Nat × Str)=>match g with|(i,b)=>⟨[(4,.v (.one (.p (.str R)))),(6,.v (.one (.row 0))),(7,.v (.one (.p (.int .i64 i))))],[.row .byte 5 b],72,none⟩) (fun(g:Nat × Str)=>match g with|(i,b)=>R.length - i) (0,[]) (by kernel_rfl) (by kernel_rfl) ?_ ?_
  · refine⟨Nat.zero_le _,Nat.le_refl _,?_⟩
    rw [List.drop_zero,hr]
    cases r<;>rfl
  rintro⟨i,b⟩ ⟨h1,h2,h3⟩ A hA
  simp only at hA h1 h2 h3
  refine zh (let y1:=I.b2i (I.get (α:=UInt8) R 0 (I.add (Nat.cast i) 1));let y2:=I.b2i (I.get (α:=UInt8) R 0 (I.add (Nat.cast i) 2));let y0:=I.add (I.mul 16 (I.hid (α:=Int) (hexK y1))) (I.hid (α:=Int) (hexK y2));let y3:=I.b2i (I.get (α:=UInt8) R 0 (Nat.cast i));let y4:=I.inr Go.IntKind.i64 (I.add (Nat.cast i) 2);let y5:=I.inr Go.IntKind.i64 (I.add (Nat.cast i) 1);let y6:=I.hid (α:=(Prop)) (And (LE.le (0:Int) y1) (LE.le y1 (255:Int)));let y7:=I.hid (α:=(Prop)) (And (LE.le (0:Int) y2) (LE.le y2 (255:Int)));let y8:=I.inb (I.add (Nat.cast i) 1) (I.len (α:=UInt8) R);let y9:=I.inb (I.add (Nat.cast i) 2) (I.len (α:=UInt8) R);let y10:=I.inb (Nat.cast i) (I.len (α:=UInt8) R);.br (I.ilt (Nat.cast i) (I.len (α:=UInt8) R)) (.need y10 (.br (I.bnot (I.ieq y3 37)) (.need y10 (.need (I.inr Go.IntKind.u8 y3) (.need (I.few (I.add (I.len (α:=UInt8) b) (I.len (α:=UInt8) ([(I.i2b y3)]:Str))) 140737488355328) (.need y5 (.need (A ⟨[(4,(.v (.one (.p (.str R))))),(6,(.v (.one (.row 0)))),(7,(.v (.one (.p (.int .i64 (I.add (Nat.cast i) 1))))))],[(.row .byte 5 (I.app (α:=UInt8) b ([(I.i2b y3)]:Str)))],72,none⟩) .qed))))) (.need y4 (.br (I.ile (I.len (α:=UInt8) R) (I.add (Nat.cast i) 2)) (.fin (.ret (.tup [(.one (.p (.str ([]:Str)))),(.one (.p (.bool Bool.false)))])) []) (.need y5 (.need y8 (.need y6 (.br (I.ilt (I.hid (α:=Int) (hexK y1)) 0) (.fin (.ret (.tup [(.one (.p (.str ([]:Str)))),(.one (.p (.bool Bool.false)))])) []) (.need y4 (.need y9 (.need y7 (.br (I.ilt (I.hid (α:=Int) (hexK y2)) 0) (.fin (.ret (.tup [(.one (.p (.str ([]:Str)))),(.one (.p (.bool Bool.false)))])) []) (.need y5 (.need y8 (.need y4 (.need y9 (.need y6 (.need (I.inr Go.IntKind.i64 (I.mul 16 (I.hid (α:=Int) (hexK y1)))) (.need y7 (.need (I.inr Go.IntKind.i64 y0) (.need (I.inr Go.IntKind.u8 (I.wrap Go.IntKind.u8 y0)) (.need (I.few (I.add (I.len (α:=UInt8) b) (I.len (α:=UInt8) ([(I.i2b (I.wrap Go.IntKind.u8 y0))]:Str))) 140737488355328) (.need y4 (.need (I.inr Go.IntKind.i64 (I.add (I.add (Nat.cast i) 2) 1)) (.need (A ⟨[(4,(.v (.one (.p (.str R))))),(6,(.v (.one (.row 0)))),(7,(.v (.one (.p (.int .i64 (I.add (I.add (Nat.cast i) 2) 1))))))],[(.row .byte 5 (I.app (α:=UInt8) b ([(I.i2b (I.wrap Go.IntKind.u8 y0))]:Str)))],72,none⟩) .qed))))))))))))))))))))))))) (.fin (.ret (.tup [(.one (.p (.str b))),(.one (.p (.bool Bool.true)))])) [])) (by kernel_rfl) ?_
  simp only [zq]
  subst hI
  simp only [nrmA,nrmB,nrlB,reduceCtorEq]
  have e1:((i:Int)+1).toNat=i+1:=by omega
  have e2:((i:Int)+2).toNat=i+2:=by omega
  rw [e1,e2]
  have b37:(R.getD i 0).toNat=37↔R.getD i 0=37:=⟨fun h=>UInt8.toNat_inj.1 h,fun h=>by rw [h];rfl⟩
  have g0:i<R.length→¬ R.getD i 0=37→_:=fun h k=>zgb h k
  have g1:i<R.length→R.getD i 0=37→R.length≤i+2→_:=fun h k=>zga h k
  have g2:i+2<R.length→R.getD i 0=37→_:=fun h k=>zgc h k
  have l0:=(R.getD i 0).toNat_lt
  have l1:=(R.getD (i+1) 0).toNat_lt
  have l2:=(R.getD (i+2) 0).toNat_lt
  have m1:=ZQ (k:=((R.getD (i+1) 0).toNat:Int)) ⟨by omega,by omega⟩
  have m2:=ZQ (k:=((R.getD (i+2) 0).toNat:Int)) ⟨by omega,by omega⟩
  have hend: ¬ i<R.length→r=some b:=fun h=>by rw [h3,List.drop_of_length_le (by omega)];simp [pctM]
  have hA2:=fun(c:UInt8) (j:Nat) (h:i<j) (hj:j≤R.length) (e:pctM (R.drop i)=(pctM (R.drop j)).map (c:: ·))=>hA (j,b++[c]) ⟨hj,by rw [List.length_append,List.length_singleton];omega,by rw [h3,e,Option.map_map];congr 1;funext x;simp⟩ (by simp only;omega)
  generalize R.getD i 0=x0 at *
  generalize R.getD (i+1) 0=x1 at *
  generalize R.getD (i+2) 0=x2 at *
  refine⟨fun c=>⟨by omega,fun c2=>⟨by omega,by omega,by simp only [List.length_singleton];omega,by omega,?_⟩,fun c2=> ?_⟩,fun c=> ?_⟩
  · have:=hA2 x0 (i+1) (by omega) (by omega) (g0 (by omega) (fun h=>c2 (by have:=b37.2 h;omega)))
    simp only [Int.natCast_add,Int.natCast_one] at this
    exact this
  · have hx:x0=37:=b37.1 (by omega)
    subst hx
    have gs:R.length≤i+2→r=none:=fun h=>by rw [h3,g1 (by omega) rfl h];rfl
    have gm:=fun h=>g2 h rfl
    have gn:i+2<R.length→(hexK (x1.toNat:Int)<0∨hexK (x2.toNat:Int)<0)→r=none:=fun h k=>by rw [h3,gm h,if_pos k];rfl
    have gy:i+2<R.length→¬ hexK (x1.toNat:Int)<0→¬ hexK (x2.toNat:Int)<0→_:=fun h k k2=>hA2 (UInt8.ofNat (16 * hexK (x1.toNat:Int)+hexK (x2.toNat:Int)).toNat) (i+3) (by omega) (by omega) (by rw [gm h,if_neg (fun q=>q.elim k k2)])
    have wr: ¬ hexK (x1.toNat:Int)<0→¬ hexK (x2.toNat:Int)<0→IntKind.u8.wrap (16 * hexK (x1.toNat:Int)+hexK (x2.toNat:Int))=16 * hexK (x1.toNat:Int)+hexK (x2.toNat:Int):=fun k k2=>zfP _ ⟨by omega,by omega⟩
    (repeat' (first|refine And.intro ?_ ?_|intro _))<;>first|omega|exact True.intro|exact False.elim ‹False›|skip
    all_goals first
      |omega
      |(rw [gs (by omega)];done)
      |(rw [gs (by omega)];rfl)
      |(rw [gn (by omega) (Or.inl ‹_›)];rfl)
      |(rw [gn (by omega) (Or.inr ‹_›)];rfl)
      |(rw [wr ‹_› ‹_›];omega)
      |(simp only [List.length_singleton];omega)
      |(rw [wr ‹_› ‹_›,show(i:Int)+2+1=((i+3:Nat):Int) by omega];exact gy (by omega) ‹_› ‹_›)
  · rw [hend (by omega)]
    exact⟨rfl,rfl⟩
def Us (I:Alg) (args:List D) (hp:List HO):Option CT:=match args,hp with
  |[.v (.one (.p (.str s)))],[]=>(fun(s:Str)=>(some (.one ⟨I.hid (s.length≤1000000),(.ret (.tup [(.one (.p (.str (I.hid ((extV s)))))),(.one (.p (.bool (I.hid ((extB s))))))])),[]⟩):Option CT)) s
  |_,_=>none
theorem zdG:zx Tryd.prog 30 (Us alg):=by
  intro args hp r h
  unfold Us at h
  split at h
  · cases h;exact fun hn=>ziA _ hn
  · cases h
def zgX:Know Tryd.prog:=⟨30,Us,zdG⟩
def zgW:Know Tryd.prog:=⟨30,fun I=>zA I (Us I),zf zdG⟩
theorem U3 (s:Str) (i:Nat) (h:i<s.length):(s.take (i+1)).foldl xq []=xq ((s.take i).foldl xq []) (s.getD i 0):=by
  rw [List.take_succ_eq_append_getElem h,List.foldl_append]
  simp [h]
theorem zeu (s:Str): ∀ b:Str,(s.foldl xq b).length≤b.length+s.length:=by
  induction s with
  |nil=>intro b;simp
  | cons c r ih=>
    intro b
    have h:=ih (xq b c)
    have h2:(xq b c).length≤b.length+1:=by
      unfold xq
      repeat' split
      all_goals simp
    rw [List.foldl_cons,List.length_cons];omega
theorem Yz (c:UInt8) (k:Nat) (h:k<256):(c.toNat:Int)=(k:Int)↔c=UInt8.ofNat k:=by
  constructor
  · intro e
    rw [← UInt8.toNat_inj,UInt8.toNat_ofNat',Nat.mod_eq_of_lt h];omega
  · intro e
    rw [e,UInt8.toNat_ofNat',Nat.mod_eq_of_lt h]
theorem zew (b:Str) (c:UInt8):xq b c=if(c.toNat:Int)=47 then [] else if(c.toNat:Int)=92 then [] else if(c.toNat:Int)=9 then b++[95] else if wQ (c.toNat:Int)=false then b++[95] else if(c.toNat:Int)=34 then b++[95] else if(c.toNat:Int)=58 then b++[95] else if(c.toNat:Int)=46 then(if(b.length:Int)=0 then b else b++[c]) else b++[c]:=by
  have h0:(b.length:Int)=0↔b=[]:=by rw [← List.length_eq_zero_iff];omega
  have e1:(c.toNat:Int)=47↔c=47:=Yz c 47 (by decide)
  have e2:(c.toNat:Int)=92↔c=92:=Yz c 92 (by decide)
  have e3:(c.toNat:Int)=9↔c=9:=Yz c 9 (by decide)
  have e4:(c.toNat:Int)=34↔c=34:=Yz c 34 (by decide)
  have e5:(c.toNat:Int)=58↔c=58:=Yz c 58 (by decide)
  have e6:(c.toNat:Int)=46↔c=46:=Yz c 46 (by decide)
  simp only [e1,e2,e3,e4,e5,e6,h0]
  unfold xq
  generalize wQ (c.toNat:Int)=k
  clear e1 e2 e3 e4 e5 e6 h0
  repeat' split
  all_goals simp_all
theorem zh3 (s:Str) (hneed:s.length≤1000000):Spc Tryd.prog 17 [.v (.one (.p (.str s)))] [] (.ret (.v (.one (.p (.str ((xZ s))))))) []:=by
  refine spcG zk mixed Tryd.func17 (by kernel_rfl) { nr:=[3],keep:=some [0,2,3,4,5,7,8]} [wL,sK] (by kernel_rfl) ?_
  intro I X hI hX
  refine zh (.code 0 [1,1,0,1,0] ⟨[(8,(.v (.one (.p (.int .i64 0))))),(7,(.v (.one (.p (.int .i64 (I.len (α:=UInt8) s)))))),(3,(.v (.one (.row 0)))),(2,(.v (.one (.p (.str ([]:Str)))))),(0,(.v (.one (.p (.str s)))))],[(.row .byte 5 ([]:Str))],63,none⟩) (by kernel_rfl) ?_
  simp only [zq]
  refine zu hI zk mixed [wL,sK] hX [0,3,7,8] (fun(g:Nat × Str)=>match g with|(i,b)=>i≤s.length∧b=(s.take i).foldl xq []) (fun(g:Nat × Str)=>match g with|(i,b)=>⟨[(0,.v (.one (.p (.str s)))),(3,.v (.one (.row 0))),(7,.v (.one (.p (.int .i64 ((I.len (α:=UInt8) s)))))),(8,.v (.one (.p (.int .i64 i))))],[.row .byte 5 b],63,none⟩) (fun(g:Nat × Str)=>match g with|(i,b)=>s.length - i) (0,[]) (by kernel_rfl) (by kernel_rfl) ?_ ?_
  · exact⟨Nat.zero_le _,rfl⟩
  rintro⟨i,b⟩ ⟨h1,h2⟩ A hA
  simp only at hA h1 h2
  refine zh (let y0:=I.b2i (I.get (α:=UInt8) s 0 (Nat.cast i));let y1:=I.inr Go.IntKind.i64 (I.add (Nat.cast i) 1);let y2:=I.few (I.add (I.len (α:=UInt8) b) (I.len (α:=UInt8) ([(I.i2b 95)]:Str))) 140737488355328;let y3:HO:=.row .byte 5 (I.app (α:=UInt8) b ([(I.i2b 95)]:Str));let y4:=I.few (I.add (I.len (α:=UInt8) b) (I.len (α:=UInt8) ([(I.i2b y0)]:Str))) 140737488355328;let y5:HO:=.row .byte 5 (I.app (α:=UInt8) b ([(I.i2b y0)]:Str));.br (I.ilt (Nat.cast i) (I.len (α:=UInt8) s)) (.need (I.inb (Nat.cast i) (I.len (α:=UInt8) s)) (.br (I.ieq y0 47) (.need y1 (.need (A ⟨[(0,(.v (.one (.p (.str s))))),(3,(.v (.one (.row 0)))),(7,(.v (.one (.p (.int .i64 (I.len (α:=UInt8) s)))))),(8,(.v (.one (.p (.int .i64 (I.add (Nat.cast i) 1))))))],[(.row .byte 5 ([]:Str))],63,none⟩) .qed)) (.br (I.ieq y0 92) (.need y1 (.need (A ⟨[(0,(.v (.one (.p (.str s))))),(3,(.v (.one (.row 0)))),(7,(.v (.one (.p (.int .i64 (I.len (α:=UInt8) s)))))),(8,(.v (.one (.p (.int .i64 (I.add (Nat.cast i) 1))))))],[(.row .byte 5 ([]:Str))],63,none⟩) .qed)) (.br (I.ieq y0 9) (.need (I.inr Go.IntKind.u8 95) (.need y2 (.need y1 (.need (A ⟨[(0,(.v (.one (.p (.str s))))),(3,(.v (.one (.row 0)))),(7,(.v (.one (.p (.int .i64 (I.len (α:=UInt8) s)))))),(8,(.v (.one (.p (.int .i64 (I.add (Nat.cast i) 1))))))],[y3],63,none⟩) .qed)))) (.need (I.hid (α:=(Prop)) True) (.br (I.bnot (I.hid (α:=Bool) (wQ y0))) (.need (I.inr Go.IntKind.u8 95) (.need y2 (.need y1 (.need (A ⟨[(0,(.v (.one (.p (.str s))))),(3,(.v (.one (.row 0)))),(7,(.v (.one (.p (.int .i64 (I.len (α:=UInt8) s)))))),(8,(.v (.one (.p (.int .i64 (I.add (Nat.cast i) 1))))))],[y3],63,none⟩) .qed)))) (.br (I.ieq y0 34) (.need (I.inr Go.IntKind.u8 95) (.need y2 (.need y1 (.need (A ⟨[(0,(.v (.one (.p (.str s))))),(3,(.v (.one (.row 0)))),(7,(.v (.one (.p (.int .i64 (I.len (α:=UInt8) s)))))),(8,(.v (.one (.p (.int .i64 (I.add (Nat.cast i) 1))))))],[y3],63,none⟩) .qed)))) (.br (I.ieq y0 58) (.need (I.inr Go.IntKind.u8 95) (.need y2 (.need y1 (.need (A ⟨[(0,(.v (.one (.p (.str s))))),(3,(.v (.one (.row 0)))),(7,(.v (.one (.p (.int .i64 (I.len (α:=UInt8) s)))))),(8,(.v (.one (.p (.int .i64 (I.add (Nat.cast i) 1))))))],[y3],63,none⟩) .qed)))) (.br (I.ieq y0 46) (.br (I.ieq (I.len (α:=UInt8) b) 0) (.need y1 (.need (A ⟨[(0,(.v (.one (.p (.str s))))),(3,(.v (.one (.row 0)))),(7,(.v (.one (.p (.int .i64 (I.len (α:=UInt8) s)))))),(8,(.v (.one (.p (.int .i64 (I.add (Nat.cast i) 1))))))],[(.row .byte 5 b)],63,none⟩) .qed)) (.need (I.inr Go.IntKind.u8 y0) (.need y4 (.need y1 (.need (A ⟨[(0,(.v (.one (.p (.str s))))),(3,(.v (.one (.row 0)))),(7,(.v (.one (.p (.int .i64 (I.len (α:=UInt8) s)))))),(8,(.v (.one (.p (.int .i64 (I.add (Nat.cast i) 1))))))],[y5],63,none⟩) .qed))))) (.need (I.inr Go.IntKind.u8 y0) (.need y4 (.need y1 (.need (A ⟨[(0,(.v (.one (.p (.str s))))),(3,(.v (.one (.row 0)))),(7,(.v (.one (.p (.int .i64 (I.len (α:=UInt8) s)))))),(8,(.v (.one (.p (.int .i64 (I.add (Nat.cast i) 1))))))],[y5],63,none⟩) .qed))))))))))))) (.br (I.ilt 40 (I.len (α:=UInt8) b)) (.need (I.cutb 0 40 (I.len (α:=UInt8) b)) (.br (I.ieq (I.sub 40 0) 0) (.fin (.ret (.v (.one (.p (.str ([102,105,108,101]:Str)))))) []) (.fin (.ret (.v (.one (.p (.str (I.cut (α:=UInt8) b 0 40)))))) []))) (.br (I.ieq (I.len (α:=UInt8) b) 0) (.fin (.ret (.v (.one (.p (.str ([102,105,108,101]:Str)))))) []) (.fin (.ret (.v (.one (.p (.str b))))) [])))) (by kernel_rfl) ?_
  simp only [zq]
  subst hI
  simp only [nrmA,nrmB,nrlB,reduceCtorEq]
  have hs:=U3 s i
  have hbl:=zeu (s.take i) []
  rw [← h2] at hs hbl
  rw [List.length_take,List.length_nil] at hbl
  have hA2:i<s.length→_:=fun h=>hA (i+1,xq b (s.getD i 0)) ⟨by simp only;omega,(hs h).symm⟩ (by simp only;omega)
  have l0:=(s.getD i 0).toNat_lt
  rw [zew] at hA2
  have hend: ¬ i<s.length→s.foldl xq []=b:=fun h=>by rw [h2,List.take_of_length_le (by omega)]
  have hm: ¬ i<s.length→xZ s=if b.take 40=[] then [102,105,108,101] else b.take 40:=fun h=>by unfold xZ;rw [hend h]
  have hn:0<b.length→¬ b.take 40=[]:=fun h k=>by have:=congrArg List.length k;rw [List.length_take,List.length_nil] at this;omega
  generalize s.getD i 0=c at *
  (repeat' (first|refine And.intro ?_ ?_|intro _))<;>first|omega|exact True.intro|exact False.elim ‹False›|skip
  all_goals first
    |omega
    |exact⟨by omega,by omega⟩
    |(simp only [List.length_singleton];omega)
    |(rw [hm (by omega),if_neg (hn (by omega))];first|rfl|exact(List.take_of_length_le (by omega)).symm)
    |(rw [hm (by omega),if_pos (by rw [List.eq_nil_of_length_eq_zero (show b.length=0 by omega)];rfl)])
    |(have h:=hA2 (by omega);(repeat(first|rw [if_pos (by first|omega|assumption)] at h|rw [if_neg (by first|omega|assumption|simpa using ‹_=true›)] at h));simp only [Int.natCast_add,Int.natCast_one] at h;exact h)
def Y8 (I:Alg) (args:List D) (hp:List HO):Option CT:=match args,hp with
  |[.v (.one (.p (.str s)))],[]=>(fun(s:Str)=>(some (.one ⟨I.hid (s.length≤1000000),(.ret (.v (.one (.p (.str (I.hid ((xZ s)))))))),[]⟩):Option CT)) s
  |_,_=>none
theorem zbh:zx Tryd.prog 17 (Y8 alg):=by
  intro args hp r h
  unfold Y8 at h
  split at h
  · cases h;exact fun hn=>zh3 _ hn
  · cases h
def Uk:Know Tryd.prog:=⟨17,Y8,zbh⟩
def Uj:Know Tryd.prog:=⟨17,fun I=>zA I (Y8 I),zf zbh⟩
theorem zh7 (s:Str) (hneed:s.length≤140737488355328):Spc Tryd.prog 21 [.v (.one (.p (.str s)))] [] (.ret (.v (.one (.p (.bool ((vU s))))))) []:=by
  refine spcG zk mixed Tryd.func21 (by kernel_rfl) { keep:=some [0,2]} [su,tZ,zbw,zbv] (by kernel_rfl) ?_
  intro I X hI hX
  refine zh (.br (I.ilt 70 (I.len (α:=UInt8) s)) (.fin (.ret (.v (.one (.p (.bool Bool.false))))) []) (.need (I.hid (α:=(Prop)) (LE.le (List.length s) 1000000)) (.br (I.bnot (I.hid (α:=Bool) (wF s))) (.fin (.ret (.v (.one (.p (.bool Bool.false))))) []) (.need (I.hid (α:=(Prop)) True) (.br (I.bnot (I.seq (I.hid (α:=Str) (Go.Lib.trimS s ([32,9]:Str))) s)) (.fin (.ret (.v (.one (.p (.bool Bool.false))))) []) (.fin (.ret (.v (.one (.p (.bool (I.bnot (I.seq s ([]:Str)))))))) [])))))) (by kernel_rfl) ?_
  simp only [zq]
  subst hI
  simp only [nrmA,nrmB,nrlB,reduceCtorEq]
  unfold vU
  have h70:(70<s.length)↔((70:Int)<(s.length:Int)):=by omega
  simp only [h70]
  (repeat' (first|refine And.intro ?_ ?_|intro _))<;>first|omega|exact True.intro|exact False.elim ‹False›|skip
  all_goals first
    |omega
    |(rw [decide_eq_false (by omega),‹wF s=true›,decide_eq_true ‹Lib.trimS s _=s›];cases s<;>simp)
    |(simp_all;done)
def Xb (I:Alg) (args:List D) (hp:List HO):Option CT:=match args,hp with
  |[.v (.one (.p (.str s)))],[]=>(fun(s:Str)=>(some (.one ⟨I.hid (s.length≤140737488355328),(.ret (.v (.one (.p (.bool (I.hid ((vU s)))))))),[]⟩):Option CT)) s
  |_,_=>none
theorem zbk:zx Tryd.prog 21 (Xb alg):=by
  intro args hp r h
  unfold Xb at h
  split at h
  · cases h;exact fun hn=>zh7 _ hn
  · cases h
def Ur:Know Tryd.prog:=⟨21,Xb,zbk⟩
def Uo:Know Tryd.prog:=⟨21,fun I=>zA I (Xb I),zf zbk⟩
end Go.Proofs.YtknaogelmckimaaDoor
namespace Go.Proofs.YtknaogelmckimaaDoor
open Go Go.Sep Go.Ab
set_option maxRecDepth 100000
theorem zcs (s:Str):Spc Tryd.prog 83 [.v (.one (.p (.str s))),.v (.one (.p (.str ([32,9]))))] [] (.ret (.v (.one (.p (.str ((skS s))))))) []:=by
  refine Spc.of_below ⟨_,Tryd.func83,by kernel_rfl,by kernel_rfl⟩ fun S bs w vs _ hM=> ?_
  obtain⟨v,r,rfl⟩: ∃ v r,vs=v::r:=by cases vs with|nil=>exact hM.elim|cons v r=>exact⟨v,r,rfl⟩
  obtain⟨h1,hM⟩:=hM
  obtain⟨v2,r2,rfl⟩: ∃ v r2,r=v::r2:=by cases r with|nil=>exact hM.elim|cons v r=>exact⟨v,r,rfl⟩
  obtain⟨h2,hM⟩:=hM
  obtain rfl:r2=[]:=by cases r2 with|nil=>rfl|cons v r=>exact hM.elim
  cases h1 with
  | str _ hl1=>
    cases h2 with
    | str _ hl2=>
      refine⟨.string (Sep.S (skS s)),.str _ (Nat.le_trans (yT _) hl1),?_⟩
      exact Tryd.strings_TrimLeft_laid (Sep.S s) (Sep.S [32,9]) w (by decide) (fun j b hb=>by
        have:=List.mem_of_getElem? hb
        rcases(by simpa [Sep.S] using this:b=32∨b=9) with rfl|rfl<;>decide)
def uq (I:Alg) (args:List D) (hp:List HO):Option CT:=match args,hp with
  |[.v (.one (.p (.str s))),.v (.one (.p (.str ([32,9]))))],[]=>(fun(s:Str)=>(some (.one ⟨I.hid (True),(.ret (.v (.one (.p (.str (I.hid ((skS s)))))))),[]⟩):Option CT)) s
  |_,_=>none
theorem Xi:zx Tryd.prog 83 (uq alg):=by
  intro args hp r h
  unfold uq at h
  split at h
  · cases h;exact fun hn=>zcs _
  · cases h
def RY:Know Tryd.prog:=⟨83,uq,Xi⟩
def RX:Know Tryd.prog:=⟨83,fun I=>zA I (uq I),zf Xi⟩
theorem zgj (b:Bool) (c:Int) (hneed:b=false):Spc Tryd.prog 69 [.v (.one (.p (.bool b))),.v (.one (.p (.int .i64 c)))] [] (.ret (.tup [])) []:=by
  refine spcG zk mixed Tryd.func69 (by kernel_rfl) { keep:=some [0,1]} [] (by kernel_rfl) ?_
  intro I X hI hX
  refine zh (.br b (.fin (.pan (.ifc 91 .false [(.int .i64 c)])) []) (.fin (.ret (.tup [])) [])) (by kernel_rfl) ?_
  simp only [zq]
  subst hI
  simp only [nrmA,nrmB]
  (repeat' (first|refine And.intro ?_ ?_|intro _))<;>first|omega|exact True.intro|exact False.elim ‹False›|skip
  all_goals simp_all
theorem zgi (b:Bool) (c:Int) (hneed:b=true):Spc Tryd.prog 69 [.v (.one (.p (.bool b))),.v (.one (.p (.int .i64 c)))] [] (.pan (.ifc 91 false [(.int .i64 c)])) []:=by
  refine spcG zk mixed Tryd.func69 (by kernel_rfl) { keep:=some [0,1]} [] (by kernel_rfl) ?_
  intro I X hI hX
  refine zh (.br b (.fin (.pan (.ifc 91 .false [(.int .i64 c)])) []) (.fin (.ret (.tup [])) [])) (by kernel_rfl) ?_
  simp only [zq]
  subst hI
  simp only [nrmA,nrmB]
  (repeat' (first|refine And.intro ?_ ?_|intro _))<;>first|omega|exact True.intro|exact False.elim ‹False›|skip
  all_goals simp_all
def YU (I:Alg) (args:List D) (hp:List HO):Option CT:=match args,hp with
  |[.v (.one (.p (.bool b))),.v (.one (.p (.int .i64 c)))],[]=>(fun(b:Bool) (c:Int)=>(some (.br (I.hid (b)) (.one ⟨I.hid (b=true),(.pan (.ifc 91 false [(.int .i64 c)])),[]⟩) (.one ⟨I.hid (b=false),(.ret (.tup [])),[]⟩)):Option CT)) b c
  |_,_=>none
theorem zaI:zx Tryd.prog 69 (YU alg):=by
  intro args hp r h
  unfold YU at h
  split at h
  · cases h;exact⟨fun _ hn=>zgi _ _ hn,fun _ hn=>zgj _ _ hn⟩
  · cases h
def yQ:Know Tryd.prog:=⟨69,YU,zaI⟩
def yP:Know Tryd.prog:=⟨69,fun I=>zA I (YU I),zf zaI⟩
theorem zeJ (s:Str):Spc Tryd.prog 65 [.v (.one (.ptr 0 0))] [.pack [.obj 95 [(.p (.str s))]]] (.ret (.tup [])) [.pack [.obj 95 [(.p (.str ((skS s))))]]]:=by
  refine spcG zk mixed Tryd.func65 (by kernel_rfl) { keep:=some [0]} [RY,RX] (by kernel_rfl) ?_
  intro I X hI hX
  refine zh (.need (I.hid (α:=(Prop)) True) (.fin (.ret (.tup [])) [(.pack [(.obj 95 [(.p (.str (I.hid (α:=Str) (skS s))))])])])) (by kernel_rfl) ?_
  simp only [zq]
  subst hI
  simp only [nrmA,nrmB,nrlB,reduceCtorEq,HO.pack.injEq,HO.obj.injEq]
  try trivial
def rf (I:Alg) (args:List D) (hp:List HO):Option CT:=match args,hp with
  |[.v (.one (.ptr 0 0))],[.pack [.obj 95 [(.p (.str s))]]]=>(fun(s:Str)=>(some (.one ⟨I.hid (True),(.ret (.tup [])),[.pack [.obj 95 [(.p (.str (I.hid ((skS s)))))]]]⟩):Option CT)) s
  |_,_=>none
theorem WV:zx Tryd.prog 65 (rf alg):=by
  intro args hp r h
  unfold rf at h
  split at h
  · cases h;exact fun hn=>zeJ _
  · cases h
def sZ:Know Tryd.prog:=⟨65,rf,WV⟩
def sW:Know Tryd.prog:=⟨65,fun I=>zA I (rf I),zf WV⟩
theorem zhu (s:Str) (k:Int) (hneed:0≤k∧k≤255):Spc Tryd.prog 67 [.v (.one (.ptr 0 0)),.v (.one (.p (.int .u8 k)))] [.pack [.obj 95 [(.p (.str s))]]] (.ret (.v (.one (.p (.bool ((zC s (UInt8.ofNat k.toNat)))))))) [.pack [.obj 95 [(.p (.str ((if zC s (UInt8.ofNat k.toNat)=true then s.drop 1 else s))))]]]:=by
  generalize hr:zC s (UInt8.ofNat k.toNat)=r
  refine spcG zk mixed Tryd.func67 (by kernel_rfl) { keep:=some [0,1,4,5]} [] (by kernel_rfl) ?_
  intro I X hI hX
  refine zh (let y0:=I.ieq (I.b2i (I.get (α:=UInt8) s 0 0)) k;let y1:HO:=.pack [(.obj 95 [(.p (.str s))])];.br (I.bnot (I.seq s ([]:Str))) (.need (I.inb 0 (I.len (α:=UInt8) s)) (.br y0 (.need (I.cutb 1 (I.len (α:=UInt8) s) (I.len (α:=UInt8) s)) (.fin (.ret (.v (.one (.p (.bool y0))))) [(.pack [(.obj 95 [(.p (.str (I.cut (α:=UInt8) s 1 (I.len (α:=UInt8) s))))])])])) (.fin (.ret (.v (.one (.p (.bool y0))))) [y1]))) (.fin (.ret (.v (.one (.p (.bool Bool.false))))) [y1])) (by kernel_rfl) ?_
  simp only [zq]
  subst hI
  simp only [nrmA,nrmB,nrlB,reduceCtorEq,HO.pack.injEq,HO.obj.injEq]
  have hk:((UInt8.ofNat k.toNat).toNat:Int)=k:=by rw [UInt8.toNat_ofNat',Nat.mod_eq_of_lt (by omega)];omega
  have hk2: ∀ c:UInt8,(c.toNat:Int)=k↔c=UInt8.ofNat k.toNat:=fun c=>⟨fun h=>by rw [← h];simp,fun h=>by rw [h];exact hk⟩
  rw [drop1]
  have hs:s=[]↔s.length=0:=List.length_eq_zero_iff.symm
  rw [hs]
  cases r with
  | true=>
    obtain⟨h1,h2⟩:=ZR.1 hr
    have hkk:=(hk2 _).2 h2
    rw [hkk]
    (repeat' (first|refine And.intro ?_ ?_|intro _))<;>first|omega|exact True.intro|exact False.elim ‹False›|skip
    all_goals first|omega|(simp;done)|(simp_all;done)
  | false=>
    have h1:0<s.length→¬ ((s.getD 0 0).toNat:Int)=k:=fun h q=>by rw [ZR.2 ⟨h,(hk2 _).1 q⟩] at hr;cases hr
    (repeat' (first|refine And.intro ?_ ?_|intro _))<;>first|omega|exact True.intro|exact False.elim ‹False›|skip
    all_goals first|omega|(simp;done)|(exfalso;exact h1 (by omega) ‹_›)|(have:=h1 (by omega);simp_all;done)|trace_state
def YS (I:Alg) (args:List D) (hp:List HO):Option CT:=match args,hp with
  |[.v (.one (.ptr 0 0)),.v (.one (.p (.int .u8 k)))],[.pack [.obj 95 [(.p (.str s))]]]=>(fun(s:Str) (k:Int)=>(some (.one ⟨I.hid (0≤k∧k≤255),(.ret (.v (.one (.p (.bool (I.hid ((zC s (UInt8.ofNat k.toNat))))))))),[.pack [.obj 95 [(.p (.str (I.hid ((if zC s (UInt8.ofNat k.toNat)=true then s.drop 1 else s)))))]]]⟩):Option CT)) s k
  |_,_=>none
theorem zaF:zx Tryd.prog 67 (YS alg):=by
  intro args hp r h
  unfold YS at h
  split at h
  · cases h;exact fun hn=>zhu _ _ hn
  · cases h
def sV:Know Tryd.prog:=⟨67,YS,zaF⟩
def sU:Know Tryd.prog:=⟨67,fun I=>zA I (YS I),zf zaF⟩
theorem zhp (s:Str) (hneed:s.length≤1000000∧¬ tokS s=[]):Spc Tryd.prog 66 [.v (.one (.ptr 0 0))] [.pack [.obj 95 [(.p (.str s))]]] (.ret (.v (.one (.p (.str ((tokS s))))))) [.pack [.obj 95 [(.p (.str ((tokE s))))]]]:=by
  obtain⟨hl,hne⟩:=hneed
  refine spcG zk mixed Tryd.func66 (by kernel_rfl) { keep:=some [0,2,3,4]} [uw,qG,yQ,yP] (by kernel_rfl) ?_
  intro I X hI hX
  refine zh (.code 0 [1,1,0,0] ⟨[(3,(.v (.one (.p (.int .i64 0))))),(2,(.v (.one (.p (.str ([]:Str)))))),(0,(.v (.one (.ptr 0 0))))],[(.pack [(.obj 95 [(.p (.str s))])])],42,none⟩) (by kernel_rfl) ?_
  simp only [zq]
  refine zu hI zk mixed [uw,qG,yQ,yP] hX [0,3] (fun(i:Nat)=>i≤(tokS s).length) (fun(i:Nat)=>⟨[(0,.v (.one (.ptr 0 0))),(3,.v (.one (.p (.int .i64 i))))],[.pack [.obj 95 [(.p (.str s))]]],42,none⟩) (fun(i:Nat)=>s.length - i) 0 (by kernel_rfl) (by kernel_rfl) ?_ ?_
  · exact Nat.zero_le _
  rintro i h1 A hA
  refine zh (let y7:=I.cut (α:=UInt8) s 0 (Int.ofNat i);let y0:=I.seq y7 ([]:Str);let y1:HO:=.pack [(.obj 95 [(.p (.str (I.cut (α:=UInt8) s (Int.ofNat i) (I.len (α:=UInt8) s))))])];let y2:=I.b2i (I.get (α:=UInt8) s 0 (Nat.cast i));let y3:=I.cutb (Int.ofNat i) (I.len (α:=UInt8) s) (I.len (α:=UInt8) s);let y4:=I.cutb 0 (Int.ofNat i) (I.len (α:=UInt8) s);let y5:=I.hid (α:=(Prop)) (Eq y0 Bool.false);let y6:=I.hid (α:=(Prop)) (Eq y0 Bool.true);.br (I.ilt (Nat.cast i) (I.len (α:=UInt8) s)) (.need (I.inb (Nat.cast i) (I.len (α:=UInt8) s)) (.need (I.hid (α:=(Prop)) (And (LE.le (0:Int) y2) (LE.le y2 (255:Int)))) (.br (I.hid (α:=Bool) (tokB y2)) (.need (I.inr Go.IntKind.i64 (I.add (Nat.cast i) 1)) (.need (A ⟨[(0,(.v (.one (.ptr 0 0)))),(3,(.v (.one (.p (.int .i64 (I.add (Nat.cast i) 1))))))],[(.pack [(.obj 95 [(.p (.str s))])])],42,none⟩) .qed)) (.need y4 (.need y3 (.br (I.hid (α:=Bool) y0) (.need y6 (.fin (.pan (.ifc 91 .false [(.int .i64 5)])) [y1])) (.need y5 (.fin (.ret (.v (.one (.p (.str y7))))) [y1])))))))) (.need y4 (.need y3 (.br (I.hid (α:=Bool) y0) (.need y6 (.fin (.pan (.ifc 91 .false [(.int .i64 5)])) [y1])) (.need y5 (.fin (.ret (.v (.one (.p (.str y7))))) [y1])))))) (by kernel_rfl) ?_
  simp only [zq]
  subst hI
  simp only [nrmA,nrmB,nrlB,reduceCtorEq,HO.pack.injEq,HO.obj.injEq]
  have hb:=xM (s.getD i 0)
  have hs:=VI (p:=isTk) (s:=s) h1
  have hle:=yF s
  have ht:=Xk isTk s
  have hd:=drop_tw isTk s
  unfold isTk at hs
  change _↔i<(tokS s).length at hs
  change s.take (tokS s).length=tokS s at ht
  change s.drop (tokS s).length=tokE s at hd
  have hlen:=zfT s
  have hend: ¬ i<(tokS s).length→i=(tokS s).length:=fun h=>by omega
  generalize s.getD i 0=x at *
  have hgo:i<(tokS s).length→A ⟨[(0,.v (.one (.ptr 0 0))),(3,.v (.one (.p (.int .i64 (((i:Int)+1))))))],[.pack [.obj 95 [(.p (.str s))]]],42,none⟩:=fun h=>hA (i+1) (by omega) (by omega)
  by_cases hi:i<(tokS s).length
  · have hi2:=hs.2 hi
    clear hs hend ht hd hA
    (repeat' (first|refine And.intro ?_ ?_|intro _))<;>first|omega|exact True.intro|exact False.elim ‹False›|skip
    all_goals first
      |omega
      |exact hgo hi
      |(exfalso;simp_all;done)
  · have hx:i<s.length→tokB (x.toNat:Int)=true→False:=fun a b=>hi (hs.1 ⟨a,b⟩)
    have hi2:=hend hi
    clear hs hend hA hgo
    subst hi2
    rw [ht]
    have hcut:List.take (s.length - (tokS s).length) (List.drop (tokS s).length s)=tokE s:=by rw [hd];exact List.take_of_length_le (by omega)
    rw [hcut]
    (repeat' (first|refine And.intro ?_ ?_|intro _))<;>first|omega|exact True.intro|exact False.elim ‹False›|skip
    all_goals first
      |omega
      |(exfalso;exact hx (by omega) ‹_›)
      |(exfalso;exact hne ‹_›)
      |(simp [hne];done)
theorem zho (s:Str) (hneed:s.length≤1000000∧tokS s=[]):Spc Tryd.prog 66 [.v (.one (.ptr 0 0))] [.pack [.obj 95 [(.p (.str s))]]] (.pan (.ifc 91 false [(.int .i64 5)])) [.pack [.obj 95 [(.p (.str ((tokE s))))]]]:=by
  obtain⟨hl,hne⟩:=hneed
  refine spcG zk mixed Tryd.func66 (by kernel_rfl) { keep:=some [0,2,3,4]} [uw,qG,yQ,yP] (by kernel_rfl) ?_
  intro I X hI hX
  refine zh (.code 0 [1,1,0,0] ⟨[(3,(.v (.one (.p (.int .i64 0))))),(2,(.v (.one (.p (.str ([]:Str)))))),(0,(.v (.one (.ptr 0 0))))],[(.pack [(.obj 95 [(.p (.str s))])])],42,none⟩) (by kernel_rfl) ?_
  simp only [zq]
  refine zu hI zk mixed [uw,qG,yQ,yP] hX [0,3] (fun(i:Nat)=>i≤(tokS s).length) (fun(i:Nat)=>⟨[(0,.v (.one (.ptr 0 0))),(3,.v (.one (.p (.int .i64 i))))],[.pack [.obj 95 [(.p (.str s))]]],42,none⟩) (fun(i:Nat)=>s.length - i) 0 (by kernel_rfl) (by kernel_rfl) ?_ ?_
  · exact Nat.zero_le _
  rintro i h1 A hA
  refine zh (let y7:=I.cut (α:=UInt8) s 0 (Int.ofNat i);let y0:=I.seq y7 ([]:Str);let y1:HO:=.pack [(.obj 95 [(.p (.str (I.cut (α:=UInt8) s (Int.ofNat i) (I.len (α:=UInt8) s))))])];let y2:=I.b2i (I.get (α:=UInt8) s 0 (Nat.cast i));let y3:=I.cutb (Int.ofNat i) (I.len (α:=UInt8) s) (I.len (α:=UInt8) s);let y4:=I.cutb 0 (Int.ofNat i) (I.len (α:=UInt8) s);let y5:=I.hid (α:=(Prop)) (Eq y0 Bool.false);let y6:=I.hid (α:=(Prop)) (Eq y0 Bool.true);.br (I.ilt (Nat.cast i) (I.len (α:=UInt8) s)) (.need (I.inb (Nat.cast i) (I.len (α:=UInt8) s)) (.need (I.hid (α:=(Prop)) (And (LE.le (0:Int) y2) (LE.le y2 (255:Int)))) (.br (I.hid (α:=Bool) (tokB y2)) (.need (I.inr Go.IntKind.i64 (I.add (Nat.cast i) 1)) (.need (A ⟨[(0,(.v (.one (.ptr 0 0)))),(3,(.v (.one (.p (.int .i64 (I.add (Nat.cast i) 1))))))],[(.pack [(.obj 95 [(.p (.str s))])])],42,none⟩) .qed)) (.need y4 (.need y3 (.br (I.hid (α:=Bool) y0) (.need y6 (.fin (.pan (.ifc 91 .false [(.int .i64 5)])) [y1])) (.need y5 (.fin (.ret (.v (.one (.p (.str y7))))) [y1])))))))) (.need y4 (.need y3 (.br (I.hid (α:=Bool) y0) (.need y6 (.fin (.pan (.ifc 91 .false [(.int .i64 5)])) [y1])) (.need y5 (.fin (.ret (.v (.one (.p (.str y7))))) [y1])))))) (by kernel_rfl) ?_
  simp only [zq]
  subst hI
  simp only [nrmA,nrmB,nrlB,reduceCtorEq,HO.pack.injEq,HO.obj.injEq]
  have hb:=xM (s.getD i 0)
  have hs:=VI (p:=isTk) (s:=s) h1
  have hd:=drop_tw isTk s
  unfold isTk at hs
  change _↔i<(tokS s).length at hs
  change s.drop (tokS s).length=tokE s at hd
  rw [hne] at h1 hs hd
  simp only [List.length_nil] at h1 hs hd
  have h0:i=0:=by omega
  subst h0
  generalize s.getD 0 0=x at *
  have hx:0<s.length→tokB (x.toNat:Int)=true→False:=fun a b=>absurd (hs.1 ⟨a,b⟩) (by omega)
  have hcut:List.take (s.length - 0) (List.drop 0 s)=tokE s:=by rw [hd];exact List.take_of_length_le (by have:=xu s;omega)
  clear hs hA
  simp only [Int.toNat_natCast,List.take_zero,hcut] at *
  (repeat' (first|refine And.intro ?_ ?_|intro _))<;>first|omega|exact True.intro|exact False.elim ‹False›|skip
  all_goals first
    |omega
    |(exfalso;exact hx (by omega) ‹_›)
    |(exfalso;rename_i hq;exact hq rfl)
    |(simp;done)
def VU (I:Alg) (args:List D) (hp:List HO):Option CT:=match args,hp with
  |[.v (.one (.ptr 0 0))],[.pack [.obj 95 [(.p (.str s))]]]=>(fun(s:Str)=>(some (.br (I.hid (decide (tokS s=[]))) (.one ⟨I.hid (s.length≤1000000∧tokS s=[]),(.pan (.ifc 91 false [(.int .i64 5)])),[.pack [.obj 95 [(.p (.str (I.hid ((tokE s)))))]]]⟩) (.one ⟨I.hid (s.length≤1000000∧¬ tokS s=[]),(.ret (.v (.one (.p (.str (I.hid ((tokS s)))))))),[.pack [.obj 95 [(.p (.str (I.hid ((tokE s)))))]]]⟩)):Option CT)) s
  |_,_=>none
theorem zcJ:zx Tryd.prog 66 (VU alg):=by
  intro args hp r h
  unfold VU at h
  split at h
  · cases h;exact⟨fun _ hn=>zho _ hn,fun _ hn=>zhp _ hn⟩
  · cases h
def ZN:Know Tryd.prog:=⟨66,VU,zcJ⟩
def ZM:Know Tryd.prog:=⟨66,fun I=>zA I (VU I),zf zcJ⟩
theorem zhr (s:Str) (hneed:s.length≤1000000∧(quoF s).isSome=true):Spc Tryd.prog 85 [.v (.one (.ptr 0 0))] [.pack [.obj 95 [(.p (.str s))]]] (.ret (.v (.one (.p (.str ((quoV s))))))) [.pack [.obj 95 [(.p (.str ((quoR s))))]]]:=by
  obtain⟨hl,hne⟩:=hneed
  refine spcG zk mixed Tryd.func85 (by kernel_rfl) { nr:=[3],keep:=some [0,2,3,4]} [yQ,yP] (by kernel_rfl) ?_
  intro I X hI hX
  refine zh (.code 0 [1,1,0] ⟨[(3,(.v (.one (.row 1)))),(2,(.v (.one (.p (.str ([]:Str)))))),(0,(.v (.one (.ptr 0 0))))],[(.pack [(.obj 95 [(.p (.str s))])]),(.row .byte 5 ([]:Str))],53,none⟩) (by kernel_rfl) ?_
  simp only [zq]
  refine zu hI zk mixed [yQ,yP] hX [0,3] (fun(g:Str × Str)=>match g with|(b,t)=>b.length+t.length≤s.length∧quoF s=(quoF t).map (fun p=>(b++p.1,p.2))) (fun(g:Str × Str)=>match g with|(b,t)=>⟨[(0,.v (.one (.ptr 0 0))),(3,.v (.one (.row 1)))],[.pack [.obj 95 [(.p (.str t))]],.row .byte 5 b],53,none⟩) (fun(g:Str × Str)=>match g with|(b,t)=>t.length) ([],s) (by kernel_rfl) (by kernel_rfl) ?_ ?_
  · exact⟨by simp,by simp⟩
  rintro⟨b,t⟩ ⟨h1,h2⟩ A hA
  refine zh (let y0:=I.cut (α:=UInt8) t 1 (I.len (α:=UInt8) t);let y1:=I.b2i (I.get (α:=UInt8) t 0 0);let y2:=I.b2i (I.get (α:=UInt8) y0 0 0);let y3:HO:=.pack [(.obj 95 [(.p (.str y0))])];.br (I.hid (α:=Bool) (I.seq t ([]:Str))) (.need (I.hid (α:=(Prop)) (Eq (I.seq t ([]:Str)) Bool.true)) (.fin (.pan (.ifc 91 .false [(.int .i64 14)])) [(.pack [(.obj 95 [(.p (.str t))])])])) (.need (I.hid (α:=(Prop)) (Eq (I.seq t ([]:Str)) Bool.false)) (.need (I.inb 0 (I.len (α:=UInt8) t)) (.need (I.cutb 1 (I.len (α:=UInt8) t) (I.len (α:=UInt8) t)) (.br (I.ieq y1 34) (.fin (.ret (.v (.one (.p (.str b))))) [y3]) (.br (I.ieq y1 92) (.br (I.hid (α:=Bool) (I.seq y0 ([]:Str))) (.need (I.hid (α:=(Prop)) (Eq (I.seq y0 ([]:Str)) Bool.true)) (.fin (.pan (.ifc 91 .false [(.int .i64 14)])) [y3])) (.need (I.hid (α:=(Prop)) (Eq (I.seq y0 ([]:Str)) Bool.false)) (.need (I.inb 0 (I.len (α:=UInt8) y0)) (.need (I.cutb 1 (I.len (α:=UInt8) y0) (I.len (α:=UInt8) y0)) (.need (I.inr Go.IntKind.u8 y2) (.need (I.few (I.add (I.len (α:=UInt8) b) (I.len (α:=UInt8) ([(I.i2b y2)]:Str))) 140737488355328) (.need (A ⟨[(0,(.v (.one (.ptr 0 0)))),(3,(.v (.one (.row 1))))],[(.pack [(.obj 95 [(.p (.str (I.cut (α:=UInt8) y0 1 (I.len (α:=UInt8) y0))))])]),(.row .byte 5 (I.app (α:=UInt8) b ([(I.i2b y2)]:Str)))],53,none⟩) .qed))))))) (.need (I.inr Go.IntKind.u8 y1) (.need (I.few (I.add (I.len (α:=UInt8) b) (I.len (α:=UInt8) ([(I.i2b y1)]:Str))) 140737488355328) (.need (A ⟨[(0,(.v (.one (.ptr 0 0)))),(3,(.v (.one (.row 1))))],[y3,(.row .byte 5 (I.app (α:=UInt8) b ([(I.i2b y1)]:Str)))],53,none⟩) .qed))))))))) (by kernel_rfl) ?_
  simp only [zq]
  subst hI
  simp only [nrmA,nrmB,nrlB,reduceCtorEq,HO.pack.injEq,HO.obj.injEq]
  have hb:=xM (t.getD 0 0)
  rw [drop1]
  have hq: ∀ r:Str × Str,quoF s=some r→True:=fun _ _=>trivial
  cases t with
  | nil=>
    simp only [quoF,Option.map_none] at h2
    (repeat' (first|refine And.intro ?_ ?_|intro _))<;>first|omega|exact True.intro|exact False.elim ‹False›|skip
    all_goals first
      |omega
      |(simp_all;done)
  |cons x t=>
  cases t with
  | nil=>
    simp only [quoF] at h2
    have h34:((x.toNat:Int)=34)↔x=34:=xg x 34
    have h92:((x.toNat:Int)=92)↔x=92:=xg x 92
    simp only [List.getD_cons_zero,h34,h92,List.drop_succ_cons,List.drop_zero,List.length_cons,List.length_nil] at *
    have hgo: ¬ x=34→A ⟨[(0,.v (.one (.ptr 0 0))),(3,.v (.one (.row 1)))],[.pack [.obj 95 [(.p (.str ([])))]],.row .byte 5 ((b++[x]))],53,none⟩:=fun h=>hA (b++[x],[]) ⟨by simp;omega,by rw [h2,if_neg h];rfl⟩ (by simp)
    have hv:x=34→quoV s=b∧quoR s=[]:=fun h=>by unfold quoV quoR;rw [h2,if_pos h];simp
    clear hA
    (repeat' (first|refine And.intro ?_ ?_|intro _))<;>first|omega|exact True.intro|exact False.elim ‹False›|skip
    all_goals first
      |omega
      |exact(hv ‹_›).1.symm
      |exact(hv ‹_›).2.symm
      |exact hgo ‹_›
      |(simp_all;done)
  | cons y t=>
    simp only [quoF] at h2
    have h34:((x.toNat:Int)=34)↔x=34:=xg x 34
    have h92:((x.toNat:Int)=92)↔x=92:=xg x 92
    have hy:=xM y
    have hyt:List.take (t.length+1 - Int.toNat 1) (List.drop (Int.toNat 1) (y::t))=t:=by simpa using drop1 (y::t)
    simp only [List.getD_cons_zero,h34,h92,List.drop_succ_cons,List.drop_zero,List.length_cons] at *
    have hgoY: ¬ x=34→x=92→A ⟨[(0,.v (.one (.ptr 0 0))),(3,.v (.one (.row 1)))],[.pack [.obj 95 [(.p (.str t))]],.row .byte 5 ((b++[y]))],53,none⟩:=fun h k=>hA (b++[y],t) ⟨by simp;omega,by rw [h2,if_neg h,if_pos k,Option.map_map];congr 1;funext p;simp⟩ (by simp;omega)
    have hgoX: ¬ x=34→¬ x=92→A ⟨[(0,.v (.one (.ptr 0 0))),(3,.v (.one (.row 1)))],[.pack [.obj 95 [(.p (.str ((y::t))))]],.row .byte 5 ((b++[x]))],53,none⟩:=fun h k=>hA (b++[x],y::t) ⟨by simp;omega,by rw [h2,if_neg h,if_neg k,Option.map_map];congr 1;funext p;simp⟩ (by simp)
    have hv:x=34→quoV s=b∧quoR s=y::t:=fun h=>by unfold quoV quoR;rw [h2,if_pos h];simp
    clear hA
    simp only [List.length_nil,Nat.zero_add]
    first|rw [hyt]|skip
    (repeat' (first|refine And.intro ?_ ?_|intro _))<;>first|omega|exact True.intro|exact False.elim ‹False›|skip
    all_goals first
      |omega
      |exact(hv ‹_›).1.symm
      |exact(hv ‹_›).2.symm
      |exact hgoX ‹_› ‹_›
      |exact hgoY ‹_› ‹_›
      |(simp_all;done)
theorem zhq (s:Str) (hneed:s.length≤1000000∧(quoF s).isSome=false):Spc Tryd.prog 85 [.v (.one (.ptr 0 0))] [.pack [.obj 95 [(.p (.str s))]]] (.pan (.ifc 91 false [(.int .i64 14)])) [.pack [.obj 95 [(.p (.str ([])))]]]:=by
  obtain⟨hl,hne⟩:=hneed
  refine spcG zk mixed Tryd.func85 (by kernel_rfl) { nr:=[3],keep:=some [0,2,3,4]} [yQ,yP] (by kernel_rfl) ?_
  intro I X hI hX
  refine zh (.code 0 [1,1,0] ⟨[(3,(.v (.one (.row 1)))),(2,(.v (.one (.p (.str ([]:Str)))))),(0,(.v (.one (.ptr 0 0))))],[(.pack [(.obj 95 [(.p (.str s))])]),(.row .byte 5 ([]:Str))],53,none⟩) (by kernel_rfl) ?_
  simp only [zq]
  refine zu hI zk mixed [yQ,yP] hX [0,3] (fun(g:Str × Str)=>match g with|(b,t)=>b.length+t.length≤s.length∧quoF s=(quoF t).map (fun p=>(b++p.1,p.2))) (fun(g:Str × Str)=>match g with|(b,t)=>⟨[(0,.v (.one (.ptr 0 0))),(3,.v (.one (.row 1)))],[.pack [.obj 95 [(.p (.str t))]],.row .byte 5 b],53,none⟩) (fun(g:Str × Str)=>match g with|(b,t)=>t.length) ([],s) (by kernel_rfl) (by kernel_rfl) ?_ ?_
  · exact⟨by simp,by simp⟩
  rintro⟨b,t⟩ ⟨h1,h2⟩ A hA
  refine zh (let y0:=I.cut (α:=UInt8) t 1 (I.len (α:=UInt8) t);let y1:=I.b2i (I.get (α:=UInt8) t 0 0);let y2:=I.b2i (I.get (α:=UInt8) y0 0 0);let y3:HO:=.pack [(.obj 95 [(.p (.str y0))])];.br (I.hid (α:=Bool) (I.seq t ([]:Str))) (.need (I.hid (α:=(Prop)) (Eq (I.seq t ([]:Str)) Bool.true)) (.fin (.pan (.ifc 91 .false [(.int .i64 14)])) [(.pack [(.obj 95 [(.p (.str t))])])])) (.need (I.hid (α:=(Prop)) (Eq (I.seq t ([]:Str)) Bool.false)) (.need (I.inb 0 (I.len (α:=UInt8) t)) (.need (I.cutb 1 (I.len (α:=UInt8) t) (I.len (α:=UInt8) t)) (.br (I.ieq y1 34) (.fin (.ret (.v (.one (.p (.str b))))) [y3]) (.br (I.ieq y1 92) (.br (I.hid (α:=Bool) (I.seq y0 ([]:Str))) (.need (I.hid (α:=(Prop)) (Eq (I.seq y0 ([]:Str)) Bool.true)) (.fin (.pan (.ifc 91 .false [(.int .i64 14)])) [y3])) (.need (I.hid (α:=(Prop)) (Eq (I.seq y0 ([]:Str)) Bool.false)) (.need (I.inb 0 (I.len (α:=UInt8) y0)) (.need (I.cutb 1 (I.len (α:=UInt8) y0) (I.len (α:=UInt8) y0)) (.need (I.inr Go.IntKind.u8 y2) (.need (I.few (I.add (I.len (α:=UInt8) b) (I.len (α:=UInt8) ([(I.i2b y2)]:Str))) 140737488355328) (.need (A ⟨[(0,(.v (.one (.ptr 0 0)))),(3,(.v (.one (.row 1))))],[(.pack [(.obj 95 [(.p (.str (I.cut (α:=UInt8) y0 1 (I.len (α:=UInt8) y0))))])]),(.row .byte 5 (I.app (α:=UInt8) b ([(I.i2b y2)]:Str)))],53,none⟩) .qed))))))) (.need (I.inr Go.IntKind.u8 y1) (.need (I.few (I.add (I.len (α:=UInt8) b) (I.len (α:=UInt8) ([(I.i2b y1)]:Str))) 140737488355328) (.need (A ⟨[(0,(.v (.one (.ptr 0 0)))),(3,(.v (.one (.row 1))))],[y3,(.row .byte 5 (I.app (α:=UInt8) b ([(I.i2b y1)]:Str)))],53,none⟩) .qed))))))))) (by kernel_rfl) ?_
  simp only [zq]
  subst hI
  simp only [nrmA,nrmB,nrlB,reduceCtorEq,HO.pack.injEq,HO.obj.injEq]
  have hb:=xM (t.getD 0 0)
  rw [drop1]
  have hq: ∀ r:Str × Str,quoF s=some r→True:=fun _ _=>trivial
  cases t with
  | nil=>
    simp only [quoF,Option.map_none] at h2
    (repeat' (first|refine And.intro ?_ ?_|intro _))<;>first|omega|exact True.intro|exact False.elim ‹False›|skip
    all_goals first
      |omega
      |(simp_all;done)
  |cons x t=>
  cases t with
  | nil=>
    simp only [quoF] at h2
    have h34:((x.toNat:Int)=34)↔x=34:=xg x 34
    have h92:((x.toNat:Int)=92)↔x=92:=xg x 92
    simp only [List.getD_cons_zero,h34,h92,List.drop_succ_cons,List.drop_zero,List.length_cons,List.length_nil] at *
    have hgo: ¬ x=34→A ⟨[(0,.v (.one (.ptr 0 0))),(3,.v (.one (.row 1)))],[.pack [.obj 95 [(.p (.str ([])))]],.row .byte 5 ((b++[x]))],53,none⟩:=fun h=>hA (b++[x],[]) ⟨by simp;omega,by rw [h2,if_neg h];rfl⟩ (by simp)
    have hv:x=34→quoV s=b∧quoR s=[]:=fun h=>by unfold quoV quoR;rw [h2,if_pos h];simp
    clear hA
    (repeat' (first|refine And.intro ?_ ?_|intro _))<;>first|omega|exact True.intro|exact False.elim ‹False›|skip
    all_goals first
      |omega
      |exact(hv ‹_›).1.symm
      |exact(hv ‹_›).2.symm
      |exact hgo ‹_›
      |(simp_all;done)
  | cons y t=>
    simp only [quoF] at h2
    have h34:((x.toNat:Int)=34)↔x=34:=xg x 34
    have h92:((x.toNat:Int)=92)↔x=92:=xg x 92
    have hy:=xM y
    have hyt:List.take (t.length+1 - Int.toNat 1) (List.drop (Int.toNat 1) (y::t))=t:=by simpa using drop1 (y::t)
    simp only [List.getD_cons_zero,h34,h92,List.drop_succ_cons,List.drop_zero,List.length_cons] at *
    have hgoY: ¬ x=34→x=92→A ⟨[(0,.v (.one (.ptr 0 0))),(3,.v (.one (.row 1)))],[.pack [.obj 95 [(.p (.str t))]],.row .byte 5 ((b++[y]))],53,none⟩:=fun h k=>hA (b++[y],t) ⟨by simp;omega,by rw [h2,if_neg h,if_pos k,Option.map_map];congr 1;funext p;simp⟩ (by simp;omega)
    have hgoX: ¬ x=34→¬ x=92→A ⟨[(0,.v (.one (.ptr 0 0))),(3,.v (.one (.row 1)))],[.pack [.obj 95 [(.p (.str ((y::t))))]],.row .byte 5 ((b++[x]))],53,none⟩:=fun h k=>hA (b++[x],y::t) ⟨by simp;omega,by rw [h2,if_neg h,if_neg k,Option.map_map];congr 1;funext p;simp⟩ (by simp)
    have hv:x=34→quoV s=b∧quoR s=y::t:=fun h=>by unfold quoV quoR;rw [h2,if_pos h];simp
    clear hA
    simp only [List.length_nil,Nat.zero_add]
    first|rw [hyt]|skip
    (repeat' (first|refine And.intro ?_ ?_|intro _))<;>first|omega|exact True.intro|exact False.elim ‹False›|skip
    all_goals first
      |omega
      |exact(hv ‹_›).1.symm
      |exact(hv ‹_›).2.symm
      |exact hgoX ‹_› ‹_›
      |exact hgoY ‹_› ‹_›
      |(simp_all;done)
def VW (I:Alg) (args:List D) (hp:List HO):Option CT:=match args,hp with
  |[.v (.one (.ptr 0 0))],[.pack [.obj 95 [(.p (.str s))]]]=>(fun(s:Str)=>(some (.br (I.hid ((quoF s).isSome)) (.one ⟨I.hid (s.length≤1000000∧(quoF s).isSome=true),(.ret (.v (.one (.p (.str (I.hid ((quoV s)))))))),[.pack [.obj 95 [(.p (.str (I.hid ((quoR s)))))]]]⟩) (.one ⟨I.hid (s.length≤1000000∧(quoF s).isSome=false),(.pan (.ifc 91 false [(.int .i64 14)])),[.pack [.obj 95 [(.p (.str (I.hid ([]))))]]]⟩)):Option CT)) s
  |_,_=>none
theorem zcM:zx Tryd.prog 85 (VW alg):=by
  intro args hp r h
  unfold VW at h
  split at h
  · cases h;exact⟨fun _ hn=>zhr _ hn,fun _ hn=>zhq _ hn⟩
  · cases h
def zcL:Know Tryd.prog:=⟨85,VW,zcM⟩
def zcK:Know Tryd.prog:=⟨85,fun I=>zA I (VW I),zf zcM⟩
theorem zht (s:Str) (hneed:s.length≤1000000∧(parM s).1=0):Spc Tryd.prog 68 [.v (.one (.ptr 0 0))] [.pack [.obj 95 [(.p (.str s))]]] (.ret (.v (.agg [(.p (.str ((parM s).2.1.name))),(.p (.str ((parM s).2.1.value)))]))) [.pack [.obj 95 [(.p (.str ((parM s).2.2)))]]]:=by
  obtain⟨hl,hc⟩:=hneed
  generalize hr:parM s=r at hc
  obtain⟨c,⟨n,v⟩,z⟩:=r
  simp only at hc
  subst hc
  refine spcG zk mixed Tryd.func68 (by kernel_rfl) { keep:=some [0,2,3]} [xK,xJ,yQ,yP,sV,sU,ZN,ZM,zcL,zcK] (by kernel_rfl) ?_
  intro I X hI hX
  refine zh (let y2:=I.hid (α:=Str) (ite (Eq (zC (I.hid (α:=Str) (tokE s)) (UInt8.ofNat (Int.toNat (61:Int)))) Bool.true) (List.drop 1 (I.hid (α:=Str) (tokE s))) (I.hid (α:=Str) (tokE s)));let y0:=I.hid (α:=Str) (ite (Eq (zC y2 (UInt8.ofNat (Int.toNat (34:Int)))) Bool.true) (List.drop 1 y2) y2);let y1:=I.bnot (I.hid (α:=Bool) (zC (I.hid (α:=Str) (tokE s)) (UInt8.ofNat (Int.toNat (61:Int)))));let y3:HO:=.pack [(.obj 95 [(.p (.str (I.hid (α:=Str) (tokE y0))))])];let y4:=I.hid (α:=Str) (lowS (I.hid (α:=Str) (tokS s)));.br (I.hid (α:=Bool) (Decidable.decide (Eq (tokS s) ([]:Str)))) (.need (I.hid (α:=(Prop)) (And (LE.le (List.length s) 1000000) (Eq (tokS s) ([]:Str)))) (.fin (.pan (.ifc 91 .false [(.int .i64 5)])) [(.pack [(.obj 95 [(.p (.str (I.hid (α:=Str) (tokE s))))])])])) (.need (I.hid (α:=(Prop)) (And (LE.le (List.length s) 1000000) (Not (Eq (tokS s) ([]:Str))))) (.need (I.hid (α:=(Prop)) (LE.le (List.length (I.hid (α:=Str) (tokS s))) 1000000)) (.need (I.hid (α:=(Prop)) (And (LE.le (0:Int) (61:Int)) (LE.le (61:Int) (255:Int)))) (.br (I.hid (α:=Bool) y1) (.need (I.hid (α:=(Prop)) (Eq y1 Bool.true)) (.fin (.pan (.ifc 91 .false [(.int .i64 5)])) [(.pack [(.obj 95 [(.p (.str y2))])])])) (.need (I.hid (α:=(Prop)) (Eq y1 Bool.false)) (.need (I.hid (α:=(Prop)) (And (LE.le (0:Int) (34:Int)) (LE.le (34:Int) (255:Int)))) (.br (I.hid (α:=Bool) (zC y2 (UInt8.ofNat (Int.toNat (34:Int))))) (.br (I.hid (α:=Bool) (Option.isSome (quoF y0))) (.need (I.hid (α:=(Prop)) (And (LE.le (List.length y0) 1000000) (Eq (Option.isSome (quoF y0)) Bool.true))) (.fin (.ret (.v (.agg [(.p (.str y4)),(.p (.str (I.hid (α:=Str) (quoV y0))))]))) [(.pack [(.obj 95 [(.p (.str (I.hid (α:=Str) (quoR y0))))])])])) (.need (I.hid (α:=(Prop)) (And (LE.le (List.length y0) 1000000) (Eq (Option.isSome (quoF y0)) Bool.false))) (.fin (.pan (.ifc 91 .false [(.int .i64 14)])) [(.pack [(.obj 95 [(.p (.str (I.hid (α:=Str) ([]:Str))))])])]))) (.br (I.hid (α:=Bool) (Decidable.decide (Eq (tokS y0) ([]:Str)))) (.need (I.hid (α:=(Prop)) (And (LE.le (List.length y0) 1000000) (Eq (tokS y0) ([]:Str)))) (.fin (.pan (.ifc 91 .false [(.int .i64 5)])) [y3])) (.need (I.hid (α:=(Prop)) (And (LE.le (List.length y0) 1000000) (Not (Eq (tokS y0) ([]:Str))))) (.fin (.ret (.v (.agg [(.p (.str y4)),(.p (.str (I.hid (α:=Str) (tokS y0))))]))) [y3]))))))))))) (by kernel_rfl) ?_
  simp only [zq]
  subst hI
  simp only [nrmA,nrmB,nrlB,reduceCtorEq,HO.pack.injEq,HO.obj.injEq]
  unfold parM at hr
  have hl1:=yF s
  have hl2:=xu s
  simp only [show UInt8.ofNat (Int.toNat 61)=61 from rfl,show UInt8.ofNat (Int.toNat 34)=34 from rfl] at *
  (repeat' (first|refine And.intro ?_ ?_|intro _))<;>first|omega|exact True.intro|exact False.elim ‹False›|skip
  all_goals first
    |omega
    |(simp_all;done)
    |(simp_all;omega)
theorem zhs (s:Str) (hneed:s.length≤1000000∧¬ (parM s).1=0):Spc Tryd.prog 68 [.v (.one (.ptr 0 0))] [.pack [.obj 95 [(.p (.str s))]]] (.pan (.ifc 91 false [(.int .i64 ((parM s).1))])) [.pack [.obj 95 [(.p (.str ((parM s).2.2)))]]]:=by
  obtain⟨hl,hc⟩:=hneed
  generalize hr:parM s=r at hc
  obtain⟨c,⟨n,v⟩,z⟩:=r
  simp only at hc
  refine spcG zk mixed Tryd.func68 (by kernel_rfl) { keep:=some [0,2,3]} [xK,xJ,yQ,yP,sV,sU,ZN,ZM,zcL,zcK] (by kernel_rfl) ?_
  intro I X hI hX
  refine zh (let y2:=I.hid (α:=Str) (ite (Eq (zC (I.hid (α:=Str) (tokE s)) (UInt8.ofNat (Int.toNat (61:Int)))) Bool.true) (List.drop 1 (I.hid (α:=Str) (tokE s))) (I.hid (α:=Str) (tokE s)));let y0:=I.hid (α:=Str) (ite (Eq (zC y2 (UInt8.ofNat (Int.toNat (34:Int)))) Bool.true) (List.drop 1 y2) y2);let y1:=I.bnot (I.hid (α:=Bool) (zC (I.hid (α:=Str) (tokE s)) (UInt8.ofNat (Int.toNat (61:Int)))));let y3:HO:=.pack [(.obj 95 [(.p (.str (I.hid (α:=Str) (tokE y0))))])];let y4:=I.hid (α:=Str) (lowS (I.hid (α:=Str) (tokS s)));.br (I.hid (α:=Bool) (Decidable.decide (Eq (tokS s) ([]:Str)))) (.need (I.hid (α:=(Prop)) (And (LE.le (List.length s) 1000000) (Eq (tokS s) ([]:Str)))) (.fin (.pan (.ifc 91 .false [(.int .i64 5)])) [(.pack [(.obj 95 [(.p (.str (I.hid (α:=Str) (tokE s))))])])])) (.need (I.hid (α:=(Prop)) (And (LE.le (List.length s) 1000000) (Not (Eq (tokS s) ([]:Str))))) (.need (I.hid (α:=(Prop)) (LE.le (List.length (I.hid (α:=Str) (tokS s))) 1000000)) (.need (I.hid (α:=(Prop)) (And (LE.le (0:Int) (61:Int)) (LE.le (61:Int) (255:Int)))) (.br (I.hid (α:=Bool) y1) (.need (I.hid (α:=(Prop)) (Eq y1 Bool.true)) (.fin (.pan (.ifc 91 .false [(.int .i64 5)])) [(.pack [(.obj 95 [(.p (.str y2))])])])) (.need (I.hid (α:=(Prop)) (Eq y1 Bool.false)) (.need (I.hid (α:=(Prop)) (And (LE.le (0:Int) (34:Int)) (LE.le (34:Int) (255:Int)))) (.br (I.hid (α:=Bool) (zC y2 (UInt8.ofNat (Int.toNat (34:Int))))) (.br (I.hid (α:=Bool) (Option.isSome (quoF y0))) (.need (I.hid (α:=(Prop)) (And (LE.le (List.length y0) 1000000) (Eq (Option.isSome (quoF y0)) Bool.true))) (.fin (.ret (.v (.agg [(.p (.str y4)),(.p (.str (I.hid (α:=Str) (quoV y0))))]))) [(.pack [(.obj 95 [(.p (.str (I.hid (α:=Str) (quoR y0))))])])])) (.need (I.hid (α:=(Prop)) (And (LE.le (List.length y0) 1000000) (Eq (Option.isSome (quoF y0)) Bool.false))) (.fin (.pan (.ifc 91 .false [(.int .i64 14)])) [(.pack [(.obj 95 [(.p (.str (I.hid (α:=Str) ([]:Str))))])])]))) (.br (I.hid (α:=Bool) (Decidable.decide (Eq (tokS y0) ([]:Str)))) (.need (I.hid (α:=(Prop)) (And (LE.le (List.length y0) 1000000) (Eq (tokS y0) ([]:Str)))) (.fin (.pan (.ifc 91 .false [(.int .i64 5)])) [y3])) (.need (I.hid (α:=(Prop)) (And (LE.le (List.length y0) 1000000) (Not (Eq (tokS y0) ([]:Str))))) (.fin (.ret (.v (.agg [(.p (.str y4)),(.p (.str (I.hid (α:=Str) (tokS y0))))]))) [y3]))))))))))) (by kernel_rfl) ?_
  simp only [zq]
  subst hI
  simp only [nrmA,nrmB,nrlB,reduceCtorEq,HO.pack.injEq,HO.obj.injEq]
  unfold parM at hr
  have hl1:=yF s
  have hl2:=xu s
  simp only [show UInt8.ofNat (Int.toNat 61)=61 from rfl,show UInt8.ofNat (Int.toNat 34)=34 from rfl] at *
  (repeat' (first|refine And.intro ?_ ?_|intro _))<;>first|omega|exact True.intro|exact False.elim ‹False›|skip
  all_goals first
    |omega
    |(simp_all;done)
    |(simp_all;omega)
    |(by_cases hq:tokS (List.drop 1 (tokE s))=[]<;>simp_all;done)
def VZ (I:Alg) (args:List D) (hp:List HO):Option CT:=match args,hp with
  |[.v (.one (.ptr 0 0))],[.pack [.obj 95 [(.p (.str s))]]]=>(fun(s:Str)=>(some (.br (I.hid (decide ((parM s).1=0))) (.one ⟨I.hid (s.length≤1000000∧(parM s).1=0),(.ret (.v (.agg [(.p (.str (I.hid ((parM s).2.1.name)))),(.p (.str (I.hid ((parM s).2.1.value))))]))),[.pack [.obj 95 [(.p (.str (I.hid ((parM s).2.2))))]]]⟩) (.one ⟨I.hid (s.length≤1000000∧¬ (parM s).1=0),(.pan (.ifc 91 false [(.int .i64 (I.hid ((parM s).1)))])),[.pack [.obj 95 [(.p (.str (I.hid ((parM s).2.2))))]]]⟩)):Option CT)) s
  |_,_=>none
theorem zcP:zx Tryd.prog 68 (VZ alg):=by
  intro args hp r h
  unfold VZ at h
  split at h
  · cases h;exact⟨fun _ hn=>zht _ hn,fun _ hn=>zhs _ hn⟩
  · cases h
def VY:Know Tryd.prog:=⟨68,VZ,zcP⟩
def VX:Know Tryd.prog:=⟨68,fun I=>zA I (VZ I),zf zcP⟩
end Go.Proofs.YtknaogelmckimaaDoor
