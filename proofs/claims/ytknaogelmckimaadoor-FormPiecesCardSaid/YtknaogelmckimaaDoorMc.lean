/- Texts of this proof, one behind the other: AbP AbO ShpE Tab Evt InZ Shelf Lib ChrA ChrB ChrC LnL Fnd FldA FldB FldG FldD FldE ParL Base SeekL SeekM FrmL ChrD FrmA ParA ParC ParD FrmB. -/
import Derived.Deep.LoopGhost
import Derived.Recover
import Derived.KernelRfl
import Derived.Test.YtknaogelmckimaaDoorProg
import Derived.WalkKit
import Derived.WideShapes
import Derived.ChangeArms
import Derived.SizedLaws
import Derived.Shelf.Strings.SlTrimAscii
import Derived.Shelf.Strings.Trim
import Derived.Shelf.Small.Utf8
import Derived.Shelf.Small.Strs
import Derived.Shelf.Strings.Search1
import Derived.Shelf.Strings.Search2
import Derived.Shelf.Strings.Cut
import Derived.Shelf.LaysM
import Derived.Shelf.Strings.Shaped
import Derived.Shelf.Strings.Runes
import Derived.Shelf.Strings.AsciiSet
import Derived.Shelf.Unicode.DecodeSlow
import Derived.Below
import Derived.Test.YtknaogelmckimaaDoorMb
set_option linter.all false
namespace Go.Ab
open Go Go.Sep
variable [Facts]
theorem zdT {α:Type} (x:α):alg.hid x=x:=rfl
theorem zdQ (k:IntKind) (x y:Int):alg.shl k x y=k.wrap (x * 2 ^ (min y.toNat k.bits)):=rfl
theorem zdP (x y:Int):alg.shr x y=x.fdiv (2 ^ (min y.toNat 64)):=rfl
theorem za3 (op:BinOp) (k:IntKind) (x y:Int):alg.bits op k x y=k.wrap (match op with
    |.and=>(BitVec.ofInt k.bits x&&& BitVec.ofInt k.bits y).toNat
    |.or=>(BitVec.ofInt k.bits x|||BitVec.ofInt k.bits y).toNat
    |_=>(BitVec.ofInt k.bits x ^^^ BitVec.ofInt k.bits y).toNat:Nat):=rfl
theorem zcK:IntKind.i64.min= -9223372036854775808:=by decide
theorem zcL:IntKind.i64.max=9223372036854775807:=by decide
theorem zeY:IntKind.u8.min=0:=by decide
theorem zeZ:IntKind.u8.max=255:=by decide
theorem UD (c:UInt8):UInt8.ofNat ((c.toNat:Int)).toNat=c:=by simp
theorem vO (c d:UInt8):((c.toNat:Int)=(d.toNat:Int))↔c=d:=by
  constructor
  · intro h;exact UInt8.toNat_inj.1 (by omega)
  · intro h;rw [h]
structure CR where
  need:Prop
  out:AOut
  hp:List HO
inductive CT where
  |one (r:CR)
  |br (b:Bool) (t f:CT)
def CT.Good (Pr:Program) (f:Nat) (args:List D) (hp:List HO):CT→Prop
  |.one r=>r.need→Spc Pr f args hp r.out r.hp
  |.br b t e=>(b=true→t.Good Pr f args hp)∧(b=false→e.Good Pr f args hp)
def CT.map (g:CR→CR):CT→CT
  |.one r=>.one (g r)
  |.br b t e=>.br b (t.map g) (e.map g)
def CT.mapO (g:CR→Option CR):CT→Option CT
  |.one r=>match g r with|some r=>some (.one r)|none=>none
  |.br b t e=>match t.mapO g,e.mapO g with|some t,some e=>some (.br b t e)|_,_=>none
def CT.tree (k:CR→Tree):CT→Tree
  |.one r=>k r
  |.br b t e=>.br b (t.tree k) (e.tree k)
theorem CT.Good.map {Pr:Program} {f f':Nat} {args args':List D} {hp hp':List HO} {g:CR→CR} (h: ∀ r:CR,(r.need→Spc Pr f args hp r.out r.hp)→(g r).need→Spc Pr f' args' hp' (g r).out (g r).hp): ∀ {c:CT},c.Good Pr f args hp→(c.map g).Good Pr f' args' hp'
  |.one r,hc=>h r hc
  |.br _ _ _,hc=>⟨fun e=>CT.Good.map h (hc.1 e),fun e=>CT.Good.map h (hc.2 e)⟩
theorem CT.Good.mapO {Pr:Program} {f f':Nat} {args args':List D} {hp hp':List HO} {g:CR→Option CR} (h: ∀ r r':CR,g r=some r'→(r.need→Spc Pr f args hp r.out r.hp)→r'.need→Spc Pr f' args' hp' r'.out r'.hp): ∀ {c c':CT},c.mapO g=some c'→c.Good Pr f args hp→c'.Good Pr f' args' hp'
  | .one r,c',e,hc=>by
    simp only [CT.mapO] at e
    split at e
    · rename_i r' hr;cases e;exact h r r' hr hc
    · cases e
  | .br b t f,c',e,hc=>by
    simp only [CT.mapO] at e
    split at e
    · rename_i t' f' ht hf;cases e;exact⟨fun e=>CT.Good.mapO h ht (hc.1 e),fun e=>CT.Good.mapO h hf (hc.2 e)⟩
    · cases e
structure Know (Pr:Program) where
  f:Nat
  c:Alg→List D→List HO→Option CT
  ok: ∀ args hp r,c alg args hp=some r→r.Good Pr f args hp
def ze2:List D→List Nat
  |[]=>[]
  |d::ds=>zec d++ze2 ds
def Vl (hp:List HO) (args:List D):List Nat:=gather hp 60 (ze2 args) []
def frameC (c:List D→List HO→Option CT) (args:List D) (hp:List HO):Option CT:=
  match wH (Vl hp args) hp with
  |none=>none
  | some (os,hpr)=>match c (args.map (D.ren fun q=>idx q (Vl hp args) 0)) (os.map (HO.ren fun q=>idx q (Vl hp args) 0)) with
    |none=>none
    |some r=>some (r.map fun r=>⟨r.need,r.out.ren (ZT (Vl hp args) hp.length),uh (ZT (Vl hp args) hp.length) (Vl hp args) r.hp hpr⟩)
def Xk (I:Alg) (c:List D→List HO→Option CT):Nat→List D→List HO→Option CT
  |0,args,hp=>frameC c args hp
  | n + 1,args,hp=>match nth hp n with
    | some (.row u E l)=>(match Xk I c n (args.map (D.frz I n u l)) (setN (hp.map (HO.frz I n u l)) n .gone) with
      | some r=>r.mapO fun r=>(match noLA r.out,UE r.hp with
        |true,true=>some ⟨r.need,r.out,setN r.hp n (.row u E l)⟩
        |_,_=>none)
      |none=>none)
    |_=>Xk I c n args hp
def zB (I:Alg) (c:List D→List HO→Option CT) (args:List D) (hp:List HO):Option CT:=Xk I c hp.length args hp
def ask {Pr:Program} (I:Alg):List (Know Pr)→Nat→List D→List HO→Option CT
  |[],_,_,_=>none
  | k::r,f,args,hp=>match Nat.beq k.f f with
    |true=>(match frameC (k.c I) args hp with|some x=>some x|none=>ask I r f args hp)
    |false=>ask I r f args hp
def drive (q:Nat→List D→List HO→Option CT):Tree→Tree
  |.need p t=>.need p (drive q t)
  |.br b t f=>.br b (drive q t) (drive q f)
  | .call f args hp k=>WO hp fun hp=>match q f args hp with
    |some r=>r.tree fun r=>.need r.need (WO r.hp fun h=>drive q (k r.out h))
    |none=>.call f args hp fun o h=>drive q (k o h)
  |.code c st k=>.code c st k
  |.fin o hp=>.fin o hp
  |.both t f=>.both (drive q t) (drive q f)
  |.qed=>.qed
  |.stop n=>.stop n
def zA (Pr:Program) (f:Nat) (c:List D→List HO→Option CT):Prop:=∀ args hp r,c args hp=some r→r.Good Pr f args hp
section
variable {Pr:Program} {T:Tab} {X:Ctx} {G:AOut→List HO→Prop} {a:Act} {w:World}
theorem Xr {f:Nat} {c:List D→List HO→Option CT} (h:zA Pr f c):zA Pr f (frameC c):=by
  intro args hp r hr
  unfold frameC at hr
  split at hr
  · cases hr
  · rename_i os hpr ht
    split at hr
    · cases hr
    · rename_i r0 hc
      cases hr
      exact CT.Good.map (g:=fun r=>⟨r.need,r.out.ren (ZT (Vl hp args) hp.length),uh (ZT (Vl hp args) hp.length) (Vl hp args) r.hp hpr⟩) (fun r hs hn=>(hs hn).frame _ ht rfl rfl) (h _ _ _ hc)
theorem tC {f:Nat} {c:List D→List HO→Option CT} (h:zA Pr f c): ∀ n,zA Pr f (Xk alg c n)
  |0=>Xr h
  | n + 1 =>by
    intro args hp r hr
    unfold Xk at hr
    split at hr
    · rename_i u E l ho
      rw [zM] at ho
      split at hr
      · rename_i r0 hc
        refine CT.Good.mapO (fun r r' hrr hs hn=> ?_) hr (tC h n _ _ _ hc)
        split at hrr
        · rename_i h1 h2
          cases hrr
          exact Spc.zhk (hs hn) ho rfl rfl h1 h2
        · cases hrr
      · cases hr
    · exact tC h n _ _ _ hr
theorem zf {f:Nat} {c:List D→List HO→Option CT} (h:zA Pr f c):zA Pr f (zB alg c):=fun args hp=>tC h hp.length args hp
theorem uG: ∀ {kn:List (Know Pr)} {f:Nat},zA Pr f (ask alg kn f)
  |[],f=>fun args hp r hr=>by cases hr
  | k ::r,f=>fun args hp x hr=>by
    unfold ask at hr
    split at hr
    · rename_i hb
      obtain rfl:=Nat.eq_of_beq_eq_true hb
      split at hr
      · rename_i y hy;cases hr;exact Xr k.ok args hp _ hy
      · exact uG args hp x hr
    · exact uG args hp x hr
theorem CT.yQ {f:Nat} {args:List D} {hp:List HO} {k:AOut→List HO→Tree} {k':AOut→List HO→Tree} (ih: ∀ o h,(k' o h).ok Pr X G→(k o h).ok Pr X G): ∀ {c:CT},c.Good Pr f args hp→(c.tree fun r=>.need r.need (k' r.out r.hp)).ok Pr X G→∃ out hp',Spc Pr f args hp out hp'∧(k out hp').ok Pr X G
  |.one r,hc,h=>⟨r.out,r.hp,hc h.1,ih _ _ h.2⟩
  | .br b t e,hc,h=>by
    cases b with
    |true=>exact CT.yQ ih (hc.1 rfl) (h.1 rfl)
    |false=>exact CT.yQ ih (hc.2 rfl) (h.2 rfl)
theorem Zp {q:Nat→List D→List HO→Option CT} (hq: ∀ f,zA Pr f (q f)): ∀ {t:Tree},(drive q t).ok Pr X G→t.ok Pr X G:=by
  intro t
  induction t with
  |need p t ih=>exact fun h=>⟨h.1,ih h.2⟩
  |br b t f ih1 ih2=>exact fun h=>⟨fun e=>ih1 (h.1 e),fun e=>ih2 (h.2 e)⟩
  | call f args hp k ih=>
    intro h
    simp only [drive,Xu] at h
    split at h
    · rename_i r hr;exact CT.yQ (k':=fun o h=>drive q (k o h)) (fun o h=>ih o h) (hq f args hp r hr) h
    · obtain⟨o,hp',h1,h2⟩:=h;exact⟨o,hp',h1,ih _ _ h2⟩
  |code c st k ih=>exact fun h=>h
  |fin o hp=>exact fun h=>h
  |both t f ih1 ih2=>exact fun h=>⟨ih1 h.1,ih2 h.2⟩
  |qed=>exact fun h=>h
  |stop n=>exact fun h=>h
structure Rt where
  B:Code
  K:AEx→St→Tree
def uS (fn:Func):Code:=match fn.body with|some c=>c|none=>.skip
def loopBody:Code→Code
  |.loop b=>b
  |c=>c
def cAt:List Nat→Code→Code
  |[],c=>c
  | n::p,c=>match c with
    |.seq a b=>(match n with|0=>cAt p a|_=>cAt p b)
    |.cond _ t e=>(match n with|0=>cAt p t|_=>cAt p e)
    |.block _ b=>cAt p b
    |c=>c
def kAt (I:Alg) (T:Tab) (cfg:Cfg):List Nat→Code→(AEx→St→Tree)→AEx→St→Tree
  |[],_,K=>K
  | n ::p,c,K=>match c with
    |.seq a b=>(match n with|0=>kAt I T cfg p a (fun e st=>match e with|.normal=>vc I T cfg b K st|e=>K e st)|_=>kAt I T cfg p b K)
    |.cond _ t e=>(match n with|0=>kAt I T cfg p t K|_=>kAt I T cfg p e K)
    | .block id b=>kAt I T cfg p b (fun e st=>match e with
      |.exit j=>(match Nat.beq j id with|true=>K .normal st|false=>K (.exit j) st)
      |e=>K e st)
    |_=>K
def rtAt:Nat→List Rt→Rt
  |_,[]=>⟨.skip,fun _ _=>.stop 50⟩
  |0,r::_=>r
  |n+1,_::l=>rtAt n l
def leaf (I:Alg) (T:Tab) (cfg:Cfg) (R:List Rt) (i:Nat) (p:List Nat) (st:St):Tree:=
  .code (cAt p (rtAt i R).B) st (kAt I T cfg p (rtAt i R).B (rtAt i R).K)
def zhr (I:Alg) (T:Tab) (cfg:Cfg) (c:Code) (K:AEx→St→Tree) (st:St):Tree:=
  match c with
  |.region _ ops draw=>regT I T cfg ops draw K (st.tidy cfg.keep)
  |c=>vc I T cfg c K st
def go (I:Alg) (T:Tab) (cfg:Cfg) (kn:List (Know Pr)) (R:List Rt) (i:Nat) (p:List Nat) (st:St):Tree:=
  drive (ask I kn) (zhr I T cfg (cAt p (rtAt i R).B) (kAt I T cfg p (rtAt i R).B (rtAt i R).K) st)
def cutM (cfg:Cfg) (k0:Nat) (dom:List Nat) (st:St):Option St:=St.cut cfg.fsl k0 dom (ql cfg.mv st)
def zgS (cfg:Cfg) (k0:Nat) (dom:List Nat) (A:St→Prop) (k:AEx→St→Tree):AEx→St→Tree:=fun e st=>
  match e with
  |.normal=>(match cutM cfg k0 dom st with|some s=>.need (A s) .qed|none=>.stop 19)
  |e=>k e st
def round (I:Alg) (T:Tab) (cfg:Cfg) (k0:Nat) (dom:List Nat) (A:St→Prop) (R:List Rt) (i:Nat) (p:List Nat):Rt:=
  ⟨loopBody (cAt p (rtAt i R).B),zgS cfg k0 dom A (kAt I T cfg p (rtAt i R).B (rtAt i R).K)⟩
inductive PT where
  |need (p:Prop) (t:PT)
  |br (b:Bool) (t f:PT)
  |code (i:Nat) (p:List Nat) (st:St)
  |fin (o:AOut) (hp:List HO)
  |both (t f:PT)
  |qed
  |stop (n:Nat)
def PT.inst (I:Alg) (T:Tab) (cfg:Cfg) (R:List Rt):PT→Tree
  |.need p t=>.need p (t.inst I T cfg R)
  |.br b t f=>.br b (t.inst I T cfg R) (f.inst I T cfg R)
  |.code i p st=>leaf I T cfg R i p st
  |.fin o hp=>.fin o hp
  |.both t f=>.both (t.inst I T cfg R) (f.inst I T cfg R)
  |.qed=>.qed
  |.stop n=>.stop n
theorem zi {I:Alg} {cfg:Cfg} {kn:List (Know Pr)} {R:List Rt} {i:Nat} {p:List Nat} {st:St} (pt:PT) (h:go I T cfg kn R i p st=pt.inst I T cfg R) (k:Ok Pr X G (pt.inst I T cfg R)):Ok Pr X G (go I T cfg kn R i p st):=h▸k
theorem UW {I:Alg} {cfg:Cfg} {R:List Rt} {p:Prop} {t:PT}:Ok Pr X G (PT.inst I T cfg R (.need p t))↔p∧Ok Pr X G (t.inst I T cfg R):=zfR
theorem zcG {I:Alg} {cfg:Cfg} {R:List Rt} {b:Bool} {t f:PT}:Ok Pr X G (PT.inst I T cfg R (.br b t f))↔(b=true→Ok Pr X G (t.inst I T cfg R))∧(b=false→Ok Pr X G (f.inst I T cfg R)):=zhZ
theorem UY {I:Alg} {cfg:Cfg} {R:List Rt} {t f:PT}:Ok Pr X G (PT.inst I T cfg R (.both t f))↔Ok Pr X G (t.inst I T cfg R)∧Ok Pr X G (f.inst I T cfg R):=zfS
theorem zak {I:Alg} {cfg:Cfg} {R:List Rt} {o:AOut} {hp:List HO}:Ok Pr X G (PT.inst I T cfg R (.fin o hp))↔G o hp:=zhd
theorem zaj {I:Alg} {cfg:Cfg} {R:List Rt}:Ok Pr X G (PT.inst I T cfg R .qed)↔True:=zhc
theorem UU {I:Alg} {cfg:Cfg} {R:List Rt} {n:Nat}:Ok Pr X G (PT.inst I T cfg R (.stop n))↔False:=zfQ
theorem UX {I:Alg} {cfg:Cfg} {R:List Rt} {i:Nat} {p:List Nat} {st:St}:Ok Pr X G (PT.inst I T cfg R (.code i p st))↔Ok Pr X G (leaf I T cfg R i p st):=Iff.rfl
def Zc (cfg:Cfg):Code→Bool
  |.region id _ _=>memN id cfg.seam
  |_=>false
theorem spcG {P:Program} {T:Tab} (hT:T.fits P) (hm:P.follows .mixedOrders=true) {f:Nat} {fn:Func} (hf:P.funcs[f]? =some fn) (hn:(fn.name == "runtime.NumGoroutine")=false) (cfg:Cfg) (kn:List (Know P)) {args:List D} {hp:List HO} {out:AOut} {hp':List HO}
    (hb:(fn.body.isSome&& !Zc cfg (uS fn)&&Nat.ble args.length fn.ntmps)=true)
    (h: ∀ (I:Alg) (X:Ctx),I=alg→X.bs0.length=hp.length→Ok P X (fun o h=>o=out∧h=hp') (go I T cfg kn [⟨uS fn,finK I T cfg hp.length fn⟩] 0 [] { env:=XY 0 args,hp:=hp,n:=fn.ntmps})):Spc P f args hp out hp':=by
  simp only [Bool.and_eq_true,Bool.not_eq_true'] at hb
  refine za8 hT hm hf hn (cfg:=cfg) hb.1.1 hb.2 fun I X hI hX=> ?_
  subst hI
  have h1:=(h alg X rfl hX).out
  have h2:=Zp (fun f=>uG) h1
  have hs:=hb.1.2
  unfold funT
  unfold uS at h2 hs
  cases hbd:fn.body with
  |none=>rw [hbd] at hb;cases hb.1.1
  | some c=>
    rw [hbd] at h2 hs
    simp only [rtAt,cAt,kAt] at h2
    simp only at hs ⊢
    cases c<;>first|exact h2|skip
    simp only [Zc] at hs
    simp only [vc,hs]
    exact h2
theorem ul (hT:T.fits Pr) (hm:Pr.follows .mixedOrders=true) {cfg:Cfg} {c:Code} {K:AEx→St→Tree} {st:St} (h:(zhr alg T cfg c K st).ok Pr X G) (hn:Now X st a w):c.wp Pr (Post X fun e st'=>(K e st').ok Pr X G) a w:=by
  cases c with
  |region id ops draw=>exact X8 hT hm h (hn.tidy cfg.keep)
  |_=>exact Qz hT hm (cfg:=cfg) h hn
theorem ZQ {cfg:Cfg} {k0:Nat} (hk:X.bs0.length=k0) {dom:List Nat} {st s:St} (hc:cutM cfg k0 dom st=some s) (hn:Now X st a w):Now X s a w:=by
  obtain⟨S,K,hH,hE⟩:=hn
  obtain⟨K',h1,h2⟩:=uj cfg.mv hH hE
  exact zdy hk hc ⟨S,K',h1,h2⟩
theorem zL {I:Alg} (hI:I=alg) (hT:T.fits Pr) (hm:Pr.follows .mixedOrders=true) {cfg:Cfg} (kn:List (Know Pr)) {R:List Rt} {i:Nat} {p:List Nat} {st:St} {k0:Nat} (hk:X.bs0.length=k0) (dom:List Nat) {ι:Type} (Inv:ι→Prop) (Iv:ι→St) (μ:ι→Nat) (g0:ι)
    (hc:(match cAt p (rtAt i R).B with|.loop b=> !Zc cfg b|_=>false)=true) (h0:cutM cfg k0 dom st=some (Iv g0)) (hg0:Inv g0)
    (hr: ∀ (g:ι),Inv g→∀ (A:St→Prop),(∀ g',Inv g'→μ g'<μ g→A (Iv g'))→Ok Pr X G (go I T cfg kn (round I T cfg k0 dom A R i p::R) 0 [] (Iv g))):Ok Pr X G (leaf I T cfg R i p st):=by
  subst hI
  constructor
  unfold leaf
  intro S K a w hH hE
  obtain⟨b,hb⟩: ∃ b,cAt p (rtAt i R).B=.loop b:=by
    cases h:cAt p (rtAt i R).B<;>rw [h] at hc<;>first|exact⟨_,rfl⟩|cases hc
  rw [hb]
  refine wp_loop_ghost (fun n a w=>∃ g,Inv g∧μ g=n∧Now X (Iv g) a w) (μ g0) ⟨g0,hg0,rfl,ZQ hk h0 ⟨S,K,hH,hE⟩⟩ ?_
  rintro n a w ⟨g,hg,rfl,hn⟩
  have h1:=(hr g hg (fun s=>∃ g',Inv g'∧μ g'<μ g∧s=Iv g') (fun g' hi hl=>⟨g',hi,hl,rfl⟩)).out
  have h2:=Zp (fun f=>uG) h1
  simp only [rtAt,cAt,kAt,round,hb,loopBody] at h2
  refine wp_mono (ul hT hm h2 hn) fun e a' w' hq=> ?_
  obtain⟨e',st',h1,S',K',hH',hE',hem⟩:=hq
  generalize kAt alg T cfg p (rtAt i R).B (rtAt i R).K=k at h1
  have keep: ∀ {e:Exit} {e':AEx},(∀ (h:e'=.normal),False)→EM S' (K'.map CO.base) e e'→(k e' st').ok Pr X G→Post X (fun e st'=>(k e st').ok Pr X G) e a' w':=fun {e e'} _ hem h=>⟨e',st',h,S',K',hH',hE',hem⟩
  cases e' with
  | normal=>
    cases e with
    | normal=>
      have h1:((match cutM cfg k0 dom st' with|some s=>Tree.need (∃ g',Inv g'∧μ g'<μ g∧s=Iv g') .qed|none=>.stop 19):Tree).ok Pr X G:=h1
      split at h1
      · rename_i s hs
        obtain⟨⟨g',hi,hlt,rfl⟩,_⟩:=h1
        exact⟨μ g',hlt,g',hi,rfl,ZQ hk hs ⟨S',K',hH',hE'⟩⟩
      · exact h1.elim
    |exit i=>exact hem.elim
    |goto l=>exact hem.elim
    |ret=>exact hem.elim
    |panic ch=>exact hem.elim
    |outgrown=>exact hem.elim
  | exit j=>cases e with
    |exit i=>exact keep (fun h=>by cases h) hem h1
    |normal=>exact hem.elim
    |goto l=>exact hem.elim
    |ret=>exact hem.elim
    |panic ch=>exact hem.elim
    |outgrown=>exact hem.elim
  | ret=>cases e with
    |ret=>exact keep (fun h=>by cases h) hem h1
    |normal=>exact hem.elim
    |goto l=>exact hem.elim
    |exit j=>exact hem.elim
    |panic ch=>exact hem.elim
    |outgrown=>exact hem.elim
  | pan c=>cases e with
    |panic ch=>exact keep (fun h=>by cases h) hem h1
    |normal=>exact hem.elim
    |goto l=>exact hem.elim
    |exit j=>exact hem.elim
    |ret=>exact hem.elim
    |outgrown=>exact hem.elim
theorem seam {I:Alg} (hI:I=alg) (hT:T.fits Pr) (hm:Pr.follows .mixedOrders=true) {cfg:Cfg} (kn:List (Know Pr)) {R:List Rt} {i:Nat} {p:List Nat} {st:St} {k0:Nat} (hk:X.bs0.length=k0) (dom:List Nat) (st1:St)
    (h0:cutM cfg k0 dom st=some st1) (hr:Ok Pr X G (go I T cfg kn R i p st1)):Ok Pr X G (leaf I T cfg R i p st):=by
  subst hI
  constructor
  intro S K a w hH hE
  exact ul hT hm (Zp (fun f=>uG) hr.out) (ZQ hk h0 ⟨S,K,hH,hE⟩)
end
inductive AM where
  |ret
  |pan (c:C)
def MAM (S:Frz) (bs:List Value):AM→FrameMode→Prop
  |.ret,u=>u=.returning
  |.pan c,u=>∃ v,u=.panicking [{ v:=v,recovered:=false}]∧MC S bs c v
def SpcD (Pr:Program) (g:Nat) (caps:List Cap) (m:AM) (hp:List HO) (m':AM) (hp':List HO):Prop:=
  (∃ fn,Pr.funcs[g]? =some fn∧(fn.name == "runtime.NumGoroutine")=false∧fn.body.isNone=false)∧
  ∀ (S:Frz) (K:List CO) (fr:List Chunk) (w:World) (vs:List Value) (u:FrameMode),HR S (K.map CO.base) hp K→uT S (K.map CO.base) caps vs→At w (frzC S::(CO.zk K++fr))→MAM S (K.map CO.base) m u→
    CallsD Pr g vs.toArray u w fun e u' w'=>(∃ v,e=.returned v)∧∃ S' K',S.le S'∧Ext (K.map CO.base) (K'.map CO.base)∧HR S' (K'.map CO.base) hp' K'∧At w' (frzC S'::(CO.zk K'++fr))∧MAM S' (K'.map CO.base) m' (settle u')
structure Door (Pr:Program) where
  g:Nat
  c:Alg→AM→List Cap→List HO→Option (Prop × AM × List HO)
  ok: ∀ m caps hp p m' hp',c alg m caps hp=some (p,m',hp')→p→SpcD Pr g caps m hp m' hp'
def AM.out:AM→AEx
  |.ret=>.ret
  |.pan c=>.pan c
def zhe:AEx→Option AM
  |.normal=>some .ret
  |.ret=>some .ret
  |.pan c=>some (.pan c)
  |.exit _=>none
def zhx {Pr:Program} (I:Alg) (T:Tab) (cfg:Cfg) (k0:Nat) (fn:Func) (dk:Door Pr) (e:AEx) (st:St):Tree:=
  match st.df with
  |none=>zeG I T cfg k0 fn e st
  | some (g,caps)=>match Nat.beq g dk.g,zhe e with
    | true,some m=>(match dk.c I m caps st.hp with
      |some (p,m',hp')=>.need p (zeG I T cfg k0 fn m'.out { st with hp:=hp',df:=none})
      |none=>.stop 91)
    |_,_=>.stop 92
section
variable {Pr:Program} {T:Tab} {a:Act} {w:World}
theorem zbQ {g:Nat} {fn:Func} (hfn:Pr.funcs[g]? =some fn) (hname:(fn.name == "runtime.NumGoroutine")=false) (hbody:fn.body.isNone=false) (args:Array Value):(callFunc g args).run Pr w=.ok (.enter g args) w:=by
  have hname': ¬ fn.name= "runtime.NumGoroutine" :=by simpa using hname
  have hbody': ¬ fn.body=none:=by cases hb:fn.body with|none=>rw [hb] at hbody;cases hbody|some c=>simp
  simp [callFunc,program,hfn,Sem.run]
  rw [if_neg hname',if_neg hbody']
theorem zhS {P:Program} {T:Tab} (hT:T.fits P) (hm:P.follows .mixedOrders=true) {f:Nat} {fn:Func} (hf:P.funcs[f]? =some fn) (hn:(fn.name == "runtime.NumGoroutine")=false) (cfg:Cfg) (kn:List (Know P)) (dk:Door P) {args:List D} {hp:List HO} {out:AOut} {hp':List HO}
    (hb:(fn.body.isSome&& !Zc cfg (uS fn)&&Nat.ble args.length fn.ntmps)=true)
    (h: ∀ (I:Alg) (X:Ctx),I=alg→X.bs0.length=hp.length→Ok P X (fun o h=>o=out∧h=hp') (go I T cfg kn [⟨uS fn,zhx I T cfg hp.length fn dk⟩] 0 [] { env:=XY 0 args,hp:=hp,n:=fn.ntmps})):Spc P f args hp out hp':=by
  simp only [Bool.and_eq_true,Bool.not_eq_true'] at hb
  obtain⟨⟨hb1,hb2⟩,hb3⟩:=hb
  obtain⟨c,hc⟩:=Option.isSome_iff_exists.1 hb1
  have hbo:uS fn=c:=by unfold uS;rw [hc]
  refine⟨⟨fn,hf,hn,by rw [hc];rfl⟩,fun S K fr w vs hHR hargs hat=> ?_⟩
  have h1:=(h alg ⟨S,K.map CO.base,fr⟩ rfl (by simp [hHR.1])).out
  have h2:=Zp (fun f=>uG) h1
  simp only [rtAt,cAt,kAt,hbo] at h2
  have hal:=hargs.length
  have hle:=Nat.le_of_ble_eq_true hb3
  have hnow:Now ⟨S,K.map CO.base,fr⟩ { env:=XY 0 args,hp:=hp,n:=fn.ntmps} { tmps:=vs.toArray++Array.replicate (fn.ntmps - vs.toArray.size) undef,defers:=[]} w:=by
    refine⟨S,K,⟨Frz.le.refl S,Ext.refl _,hHR,hat⟩,⟨?_,rfl,fun t d hd=> ?_⟩⟩
    · simp [hal];omega
    · obtain⟨_,v,h1,h2⟩:=sW hargs hd
      simp only [Nat.sub_zero] at h1
      have hlt:=(List.getElem?_eq_some_iff.1 h1).1
      have e:(vs.toArray++Array.replicate (fn.ntmps - vs.toArray.size) undef).getD t undef=v:=by
        rw [Array.getD_eq_getD_getElem?,Array.getElem?_append_left (by simpa using hlt)]
        simp [h1]
      rw [e];exact h2
  refine calls_of_wp_defers hf hc (wp_mono (ul hT hm h2 hnow) fun e a w' hq=> ?_)
  obtain⟨e',st',hk,S',K',hH,hE,hem⟩:=hq
  have hlen:(K.map CO.base).length=hp.length:=by simp [hHR.1]
  unfold zhx at hk
  split at hk
  · rename_i hdf
    have hd:a.defers=[]:=by have:=hE.defers;rw [hdf] at this;exact this
    have hfin:=TN (X:=⟨S,K.map CO.base,fr⟩) hT hlen hk hH hE hem
    cases e with
    |normal=>show Leaves P fn a.tmps _ a.defers .returning w';rw [hd];exact hfin
    |ret=>show Leaves P fn a.tmps _ a.defers .returning w';rw [hd];exact hfin
    |panic ch=>show Leaves P fn a.tmps _ a.defers (.panicking ch) w';rw [hd];exact hfin
    |exit i=>exact hfin.elim
    |goto l=>exact hfin.elim
    |outgrown=>exact hfin.elim
  · rename_i g caps hdf
    split at hk
    · rename_i m hg hmo
      have hg:=Nat.eq_of_beq_eq_true hg
      split at hk
      · rename_i p m' hp2 hc2
        obtain⟨hpn,hk⟩:=hk
        have hds:=hE.defers
        rw [hdf] at hds
        obtain⟨us,hcap,hds⟩:=hds
        have hspec:=dk.ok _ _ _ _ _ _ hc2 hpn
        rw [← hg] at hspec
        obtain⟨⟨gn,hgn,hgname,hgbody⟩,hspec⟩:=hspec
        have key: ∀ u,MAM S' (K'.map CO.base) m u→u≠ .run→Leaves P fn a.tmps (fun e w'=>∃ S' K',S.le S'∧Ext (K.map CO.base) (K'.map CO.base)∧HR S' (K'.map CO.base) hp' K'∧At w' (frzC S'::(CO.zk K'++fr))∧EOut S' (K'.map CO.base) out e) a.defers u w':=by
          intro u hu hrun
          rw [hds]
          refine⟨hrun,_,_,g,us.toArray,rfl,?_,CallsD.mono (hspec S' K' fr w' us u hH.2.2.1 hcap hH.2.2.2 hu) ?_⟩
          · simp only [invoke,Array.empty_append]
            exact zbQ hgn hgname hgbody _
          · rintro e2 u' w2 ⟨⟨v,rfl⟩,S2,K2,hle2,hex2,hHR2,hat2,hm2⟩
            simp only
            have hH2:Heap ⟨S,K.map CO.base,fr⟩ hp2 S2 K2 w2:=⟨hH.1.trans hle2,hH.2.1.trans hex2,hHR2,hat2⟩
            have hE2:Env S2 (K2.map CO.base) { st' with hp:=hp2,df:=none} { a with defers:=[]}:=⟨hE.size,rfl,fun t d hd=>(hE.slots t d hd).mono hle2 hex2⟩
            cases m' with
            | ret=>
              have:settle u'=.returning:=hm2
              rw [this]
              exact TN (X:=⟨S,K.map CO.base,fr⟩) (e:=.ret) hT hlen hk hH2 hE2 trivial
            | pan c=>
              obtain⟨v2,h5,h6⟩:=hm2
              rw [h5]
              exact TN (X:=⟨S,K.map CO.base,fr⟩) (e:=.panic _) hT hlen hk hH2 hE2 ⟨v2,rfl,h6⟩
        cases e with
        |normal=>cases e'<;>first|exact hem.elim|(cases hmo;exact key .returning rfl (by simp))
        |ret=>cases e'<;>first|exact hem.elim|(cases hmo;exact key .returning rfl (by simp))
        |panic ch=>cases e'<;>first|exact hem.elim|(cases hmo;exact key (.panicking ch) (by obtain⟨v,h1,h2⟩:=hem;exact⟨v,by rw [h1],h2⟩) (by simp))
        |exit i=>cases e'<;>first|exact hem.elim|(cases hmo;done)
        |goto l=>cases e'<;>exact hem.elim
        |outgrown=>cases e'<;>exact hem.elim
      · exact hk.elim
    · exact hk.elim
def recC:AM→C
  |.ret=>.p (.val .nilIface)
  |.pan c=>c
theorem X5 {P:Program} {T:Tab} (hT:T.fits P) (hm:P.follows .mixedOrders=true) {f:Nat} {fn:Func} (hf:P.funcs[f]? =some fn) (hn:(fn.name == "runtime.NumGoroutine")=false) (cfg:Cfg) (kn:List (Know P))
    {id t t2 ty0 ty1:Nat} {pos0 pos1:String} {af0 af1:Array Edge} {rest:Code}
    (hb:fn.body=some (.seq (.region id #[⟨some t,.call ⟨.builtin .recover,#[],#[]⟩,ty0,pos0,af0,none⟩,⟨some t2,.assign (.tmp t),ty1,pos1,af1,none⟩] false) rest))
    {m:AM} {caps:List Cap} {hp hp':List HO}
    (hbb:(Nat.blt t fn.ntmps&&Nat.blt t2 fn.ntmps&& !Nat.beq t t2&&Nat.ble caps.length fn.ntmps&& !Zc cfg rest)=true)
    (h: ∀ (I:Alg) (X:Ctx),I=alg→X.bs0.length=hp.length→Ok P X (fun o h=>o=.ret (.tup [])∧h=hp') (go I T cfg kn [⟨uS fn,finK I T cfg hp.length fn⟩] 0 [1] (({ env:=XY 0 (caps.map dP),hp:=hp,n:=fn.ntmps}:St).put (some t) (.v (.one (recC m))) |>.put (some t2) (.v (.one (recC m)))))):SpcD P f caps m hp .ret hp':=by
  simp only [Bool.and_eq_true,Bool.not_eq_true'] at hbb
  obtain⟨⟨⟨⟨ht,ht2⟩,hne⟩,hle⟩,hseam⟩:=hbb
  have ht:t<fn.ntmps:=by simpa using ht
  have ht2:t2<fn.ntmps:=by simpa using ht2
  have hne:t≠t2:=Nat.ne_of_beq_eq_false hne
  have hle:=Nat.le_of_ble_eq_true hle
  refine⟨⟨fn,hf,hn,by rw [hb];rfl⟩,fun S K fr w vs u hHR hcap hat hmode=> ?_⟩
  have h1:=(h alg ⟨S,K.map CO.base,fr⟩ rfl (by simp [hHR.1])).out
  have h2:=Zp (fun f=>uG) h1
  have hbo:uS fn=.seq (.region id #[⟨some t,.call ⟨.builtin .recover,#[],#[]⟩,ty0,pos0,af0,none⟩,⟨some t2,.assign (.tmp t),ty1,pos1,af1,none⟩] false) rest:=by unfold uS;rw [hb]
  simp only [rtAt,hbo,cAt,kAt] at h2
  have hal:=hcap.mds.length
  rw [List.length_map] at hal
  have hlen:(K.map CO.base).length=hp.length:=by simp [hHR.1]
  refine callsD_of_wpS hf hb fun c₀ cs hu=> ?_
  obtain⟨x,u1,hrec,hx,hset⟩: ∃ x u1,(match recoverD (c₀::cs) with|some (v,cs')=>(v,cs')|none=>(.nilIface,c₀::cs))=(x,{ c₀ with mode:=u1}::cs)∧MC S (K.map CO.base) (recC m) x∧settle u1=.returning:=by
    cases m with
    | ret=>
      have hmode:u=.returning:=hmode
      subst hmode
      refine⟨.nilIface,.returning,?_,.val _ rfl,rfl⟩
      simp only [recoverD,hu]
      cases c₀;simp at hu;subst hu;rfl
    | pan c=>
      obtain⟨v,rfl,hv⟩:=hmode
      refine⟨v,.panicking [{ v:=v,recovered:=true}],?_,hv,rfl⟩
      simp [recoverD,hu]
  have hnow:Now ⟨S,K.map CO.base,fr⟩ (({ env:=XY 0 (caps.map dP),hp:=hp,n:=fn.ntmps}:St).put (some t) (.v (.one (recC m))) |>.put (some t2) (.v (.one (recC m)))) (({ tmps:=vs.toArray++Array.replicate (fn.ntmps - vs.toArray.size) undef,defers:=[]}:Act).put (some t) x |>.put (some t2) x) w:=by
    have hE0:Env S (K.map CO.base) { env:=XY 0 (caps.map dP),hp:=hp,n:=fn.ntmps} { tmps:=vs.toArray++Array.replicate (fn.ntmps - vs.toArray.size) undef,defers:=[]}:=by
      refine⟨?_,rfl,fun t d hd=> ?_⟩
      · simp [hal];omega
      · obtain⟨_,v,h1,h2⟩:=sW hcap.mds hd
        simp only [Nat.sub_zero] at h1
        have hlt:=(List.getElem?_eq_some_iff.1 h1).1
        have e:(vs.toArray++Array.replicate (fn.ntmps - vs.toArray.size) undef).getD t undef=v:=by
          rw [Array.getD_eq_getD_getElem?,Array.getElem?_append_left (by simpa using hlt)]
          simp [h1]
        rw [e];exact h2
    exact⟨S,K,by rw [xY,xY];exact⟨Frz.le.refl S,Ext.refl _,hHR,hat⟩,(hE0.put (some t) (d:=.v (.one (recC m))) hx).put (some t2) (d:=.v (.one (recC m))) hx⟩
  have hw:=ul hT hm h2 hnow
  refine wpS_seq (wpS_region ?_)
  have hsz:t<(vs.toArray++Array.replicate (fn.ntmps - vs.toArray.size) undef).size:=by simp [hal];omega
  have hev:({ tmps:=(vs.toArray++Array.replicate (fn.ntmps - vs.toArray.size) undef).setIfInBounds t x,defers:=[]}:Act).eval (.tmp t)=x:=by
    simp only [Act.eval]
    rw [Array.getD_eq_getD_getElem?,Array.getElem?_setIfInBounds_self_of_lt hsz];rfl
  have hgoal:rest.wpS P (bodyPostS P fn c₀ cs fun e u' w'=>(∃ v,e=.returned v)∧∃ S' K',S.le S'∧Ext (K.map CO.base) (K'.map CO.base)∧HR S' (K'.map CO.base) hp' K'∧At w' (frzC S'::(CO.zk K'++fr))∧MAM S' (K'.map CO.base) .ret (settle u'))
      (({ tmps:=vs.toArray++Array.replicate (fn.ntmps - vs.toArray.size) undef,defers:=[]}:Act).put (some t) x |>.put (some t2) x) ({ c₀ with mode:=u1}::cs) w:=by
    refine wpS_of_wp (wp_mono hw fun e a' w' hq=> ?_)
    obtain⟨e',st',hk,S',K',hH,hE,hem⟩:=hq
    unfold finK at hk
    split at hk
    case h_2=>exact hk.elim
    rename_i hdf
    have hd:a'.defers=[]:=by have:=hE.defers;rw [hdf] at this;exact this
    have hfin:=TN (X:=⟨S,K.map CO.base,fr⟩) hT hlen hk hH hE hem
    cases e with
    |normal=>obtain⟨v,hv,S2,K2,h5,h6,h7,h8,_⟩:=hfin;exact⟨hd,u1,rfl,v,hv,⟨v,rfl⟩,S2,K2,h5,h6,h7,h8,hset⟩
    |ret=>obtain⟨v,hv,S2,K2,h5,h6,h7,h8,_⟩:=hfin;exact⟨hd,u1,rfl,v,hv,⟨v,rfl⟩,S2,K2,h5,h6,h7,h8,hset⟩
    |panic ch=>obtain⟨S2,K2,h5,h6,h7,h8,h9⟩:=hfin;exact h9.elim
    |exit i=>exact hfin.elim
    |goto l=>exact hfin.elim
    |outgrown=>exact hfin.elim
  clear hnow hw
  generalize vs.toArray++Array.replicate (fn.ntmps - vs.toArray.size) undef=tm at hev hgoal hsz ⊢
  have hr0: ∀ (a:Act),(execOp a.eval ⟨some t,.call ⟨.builtin .recover,#[],#[]⟩,ty0,pos0,af0,none⟩).run P w=.ok .recover w:=by
    intro a;simp [execOp,Go.resolve,invoke,builtin]
  simp only [List.size_toArray,List.length_cons,List.length_nil,Nat.zero_add,Nat.reduceAdd,List.range_succ_eq_map,List.range_zero,List.map_cons,List.map_nil]
  simp only [wpOpsS,List.getElem?_toArray,List.getElem?_cons_zero,List.getElem?_cons_succ,Region.wanted,if_true,hr0]
  cases hq:recoverD (c₀::cs) with
  | none=>
    rw [hq] at hrec
    simp only [Prod.mk.injEq] at hrec
    obtain⟨rfl,hcs⟩:=hrec
    simp only [Act.put,execOp,Sem.run_pure,hev,Oper.upon,Exit.thenS]
    rw [hcs]
    exact hgoal
  | some y=>
    obtain⟨y,cs'⟩:=y
    rw [hq] at hrec
    simp only [Prod.mk.injEq] at hrec
    obtain⟨rfl,rfl⟩:=hrec
    simp only [Act.put,execOp,Sem.run_pure,hev,Oper.upon,Exit.thenS]
    exact hgoal
end
theorem nrmA:type_of% (And.intro @Qx <| And.intro @zdS <| And.intro @xX <| And.intro @uH <| And.intro @Qu <| And.intro @Qr <| And.intro @zdR <| And.intro @za2 <| And.intro @V9 <| And.intro @Ua <| And.intro @Ub <| And.intro @Uc <| And.intro @ZV <| And.intro @uM <| And.intro @XP <| And.intro @Qw <| And.intro @XM <| And.intro @zN <| And.intro @ZW <| And.intro @xW <| And.intro @Ud <| And.intro @Qq <| And.intro @XO <| And.intro @Qv <| And.intro @uJ <| And.intro @ZA <| And.intro @uI <| And.intro @uK <| And.intro @V8 <| And.intro @ZU <| And.intro @zdT <| And.intro @zdQ <| And.intro @zdP <| @za3):=And.intro @Qx <| And.intro @zdS <| And.intro @xX <| And.intro @uH <| And.intro @Qu <| And.intro @Qr <| And.intro @zdR <| And.intro @za2 <| And.intro @V9 <| And.intro @Ua <| And.intro @Ub <| And.intro @Uc <| And.intro @ZV <| And.intro @uM <| And.intro @XP <| And.intro @Qw <| And.intro @XM <| And.intro @zN <| And.intro @ZW <| And.intro @xW <| And.intro @Ud <| And.intro @Qq <| And.intro @XO <| And.intro @Qv <| And.intro @uJ <| And.intro @ZA <| And.intro @uI <| And.intro @uK <| And.intro @V8 <| And.intro @ZU <| And.intro @zdT <| And.intro @zdQ <| And.intro @zdP <| @za3
theorem nrmB:type_of% (And.intro @decide_eq_true_eq <| And.intro @decide_eq_false_iff_not <| And.intro @beq_iff_eq.{0} <| And.intro @beq_eq_false_iff_ne.{0} <| And.intro @Bool.not_eq_true' <| And.intro @Bool.not_eq_false' <| And.intro @Bool.and_eq_true <| And.intro @Bool.and_true <| And.intro @Bool.true_and <| And.intro @and_true <| And.intro @true_and <| And.intro @ne_eq.{1} <| And.intro @Int.toNat_zero <| And.intro @Nat.sub_zero <| And.intro @List.drop_zero.{0} <| And.intro @zcK <| And.intro @zcL <| And.intro @zeY <| And.intro @zeZ <| And.intro @UD <| And.intro @vO <| And.intro @Int.toNat_natCast <| And.intro @Int.ofNat_eq_natCast <| And.intro @UInt8.ofNat_toNat <| And.intro @AOut.ret.injEq <| And.intro @AOut.pan.injEq <| And.intro @C.ifc.injEq <| And.intro @D.v.injEq <| And.intro @D.tup.injEq <| And.intro @V0.one.injEq <| And.intro @C.p.injEq <| And.intro @P.bool.injEq <| And.intro @P.int.injEq <| And.intro @P.str.injEq <| And.intro @Bool.false_eq_true <| And.intro @Bool.true_eq_false <| And.intro @imp_false <| And.intro @Decidable.not_not <| And.intro @not_true_eq_false <| @not_false_eq_true):=And.intro @decide_eq_true_eq <| And.intro @decide_eq_false_iff_not <| And.intro @beq_iff_eq.{0} <| And.intro @beq_eq_false_iff_ne.{0} <| And.intro @Bool.not_eq_true' <| And.intro @Bool.not_eq_false' <| And.intro @Bool.and_eq_true <| And.intro @Bool.and_true <| And.intro @Bool.true_and <| And.intro @and_true <| And.intro @true_and <| And.intro @ne_eq.{1} <| And.intro @Int.toNat_zero <| And.intro @Nat.sub_zero <| And.intro @List.drop_zero.{0} <| And.intro @zcK <| And.intro @zcL <| And.intro @zeY <| And.intro @zeZ <| And.intro @UD <| And.intro @vO <| And.intro @Int.toNat_natCast <| And.intro @Int.ofNat_eq_natCast <| And.intro @UInt8.ofNat_toNat <| And.intro @AOut.ret.injEq <| And.intro @AOut.pan.injEq <| And.intro @C.ifc.injEq <| And.intro @D.v.injEq <| And.intro @D.tup.injEq <| And.intro @V0.one.injEq <| And.intro @C.p.injEq <| And.intro @P.bool.injEq <| And.intro @P.int.injEq <| And.intro @P.str.injEq <| And.intro @Bool.false_eq_true <| And.intro @Bool.true_eq_false <| And.intro @imp_false <| And.intro @Decidable.not_not <| And.intro @not_true_eq_false <| @not_false_eq_true
theorem nrlB:type_of% (And.intro @List.cons.injEq.{0} <| And.intro @P.list.injEq <| And.intro @HO.row.injEq <| And.intro @heq_eq_eq.{1} <| And.intro @false_and <| @and_false):=And.intro @List.cons.injEq.{0} <| And.intro @P.list.injEq <| And.intro @HO.row.injEq <| And.intro @heq_eq_eq.{1} <| And.intro @false_and <| @and_false
theorem zu:type_of% (And.intro @UW <| And.intro @zcG <| And.intro @UY <| And.intro @zak <| And.intro @zaj <| And.intro @UU <| @UX):=And.intro @UW <| And.intro @zcG <| And.intro @UY <| And.intro @zak <| And.intro @zaj <| And.intro @UU <| @UX
end Go.Ab
namespace Go.Ab
open Go Go.Sep Go.RowKit
variable [Facts]
def Holds (W:World):Prop:=∀ w:World,(∀ (k:Nat) (o:Obj),W.heap[k]? =some o→w.heap[k]? =some o)→Facts.p w
def frzW (W:World) (hF:Holds W):Frz:=⟨fun k=>W.heap[k]?,W.os,W.tape,W.output,fun w hw=>hF w hw.2.2.2⟩
theorem zgd (W:World) (hF:Holds W):At W [frzC (frzW W hF)]:=
  ⟨fun k=>(W.heap[k]?).isSome=true,fun k=>(W.heap[k]?).isSome=true,fun _=>False,fun k=>by simp,fun _ _ h=>h,⟨fun _=>Iff.rfl,rfl,rfl,rfl,fun _ _ h=>h⟩,fun _ h=>h⟩
theorem WL {W w:World} {hF:Holds W} (h:(frzW W hF).on w):Below W.heap.size W w:=by
  obtain⟨h1,h2,h3,h4⟩:=h
  have hb: ∀ k,k<W.heap.size→w.heap[k]? =W.heap[k]? :=fun k hk=>by
    have:W.heap[k]? =some W.heap[k]:=by simp [hk]
    rw [h4 k _ this,this]
  refine⟨h1,h2,h3,?_,hb⟩
  rcases Nat.lt_or_ge w.heap.size W.heap.size with hlt|hge
  · have:=hb w.heap.size hlt
    simp at this
    omega
  · exact hge
theorem zgc {W:World} {hF:Holds W} {size:Nat} {v:Value} {n:Nat} {cs:List Value} (h:Rd W size v n cs):RdS (frzW W hF) size v n cs:=by
  intro w hw
  obtain⟨ao,cap,e,h1,h2,h4,h3,hc⟩:=h
  refine⟨ao,cap,e,h1,h2,h4,h3,fun j u hu=> ?_⟩
  obtain⟨hs,hcell⟩:=hc j u hu
  exact⟨hs,((WL hw).cell (block_lt hcell)).trans hcell⟩
theorem Spc.law {Pr:Program} {f:Nat} {args:List D} {hp':List HO} {W:World} {hF:Holds W} {vs:List Value} (h:Spc Pr f args [] (.ret (.v (.one (.p (.bool true))))) hp') (ha:MDs (frzW W hF) [] args vs):
    Calls Pr f vs.toArray W fun e w'=>e=.returned (.bool true)∧Below W.heap.size W w':=by
  refine(h.2 (frzW W hF) [] [] W vs ⟨rfl,fun i o c h=>by simp at h⟩ ha (zgd W hF)).mono fun e w' he=> ?_
  obtain⟨S',K',hle,_,_,hat,ho⟩:=he
  refine⟨?_,WL ((At.frz hat).mono hle)⟩
  cases e with
  |returned v=>cases ho;rfl
  |panicked ch=>exact ho.elim
  |outgrown=>exact ho.elim
theorem zf3 {W:World} {hF:Holds W} {v:Value} {u:U} {R:Sep.Rel u.den} (hR: ∀ cs x,R W cs x→MPs (frzW W hF) (enc alg u x) cs) {xs:List u.den} (h:RSl u.size R W [v] xs):MD (frzW W hF) [] (.v (.one (.p (.list u xs)))) v:=by
  obtain⟨v',vs,e,hr,hx⟩:=h
  cases e
  have hlen:=hr.len
  obtain⟨ao,cap,rfl,_⟩:=id hr
  refine MP.list u xs ao cap vs hlen (zgc hr) fun i x j p v hi hj hv=> ?_
  have hm:=hR _ _ (hx i x hi)
  obtain⟨v',h1,h2⟩:=hm.get hj
  rw [List.getElem?_take] at h1
  split at h1
  · rw [List.getElem?_drop,hv] at h1
    cases h1;exact h2
  · cases h1
theorem zf4 {W:World} {hF:Holds W} {cs:List Value} {x:UInt8} (h:zeW W cs x):MPs (frzW W hF) (enc alg .byte x) cs:=by
  rw [show cs=[bv x] from h];exact⟨.int _ _,trivial⟩
end Go.Ab
namespace Go.Proofs.YtknaogelmckimaaDoor
open Go Go.Ab
def lnS (l:Ln):HO:=.pack [.obj 106 [.row 1,.p (.bool l.cr),.p (.int .i64 l.code)],.row .byte 5 l.b]
def skO (m:Str) (n:Int) (bs:List Int):HO:=.pack [.obj 84 [.row 1,.row 2,.p (.int .i64 n)],.row .byte 5 m,.row .int 3 bs]
def fmS:Fm→List HO
  |⟨m,n,bs,p,none,f,pa,sk,co,out⟩=>[.obj 55 [.ptr 1 0,.p (.int .i64 p),.p (.val (.pointer none)),.row 2,.p (.int .i64 pa),.p (.int .i64 sk),.p (.int .i64 co),.row 3],skO m n bs,.row .fld 67 f,.row .evt 63 out]
  |⟨m,n,bs,p,some l,f,pa,sk,co,out⟩=>[.obj 55 [.ptr 1 0,.p (.int .i64 p),.ptr 2 0,.row 3,.p (.int .i64 pa),.p (.int .i64 sk),.p (.int .i64 co),.row 4],skO m n bs,lnS l,.row .fld 67 f,.row .evt 63 out]
def shapes:Gh→List HO
  |.fm f=>fmS f
  |_=>[]
def lnU:HO→Option Ln
  |.pack [.obj t [.row 1,.p (.bool cr),.p (.int .i64 co)],.row .byte e b]=>match Nat.beq t 106,Nat.beq e 5 with|true,true=>some ⟨b,cr,co⟩|_,_=>none
  |_=>none
theorem zhh {o:HO} {l:Ln} (h:lnU o=some l):o=lnS l:=by
  unfold lnU at h
  split at h
  · split at h
    · rename_i h1 h2;cases h;rw [Nat.eq_of_beq_eq_true h1,Nat.eq_of_beq_eq_true h2];rfl
    · cases h
  · cases h
def evU:HO→Option (List Evt)
  |.row .evt e l=>match Nat.beq e 63 with|true=>some l|false=>none
  |_=>none
theorem zfj {o:HO} {l:List Evt} (h:evU o=some l):o=.row .evt 63 l:=by
  unfold evU at h
  split at h
  · split at h
    · rename_i h1;cases h;rw [Nat.eq_of_beq_eq_true h1]
    · cases h
  · cases h
def flU:HO→Option (List Fld)
  |.row .fld e l=>match Nat.beq e 67 with|true=>some l|false=>none
  |_=>none
theorem zfg {o:HO} {l:List Fld} (h:flU o=some l):o=.row .fld 67 l:=by
  unfold flU at h
  split at h
  · split at h
    · rename_i h1;cases h;rw [Nat.eq_of_beq_eq_true h1]
    · cases h
  · cases h
def skU:HO→Option (Str × Int × List Int)
  |.pack [.obj t [.row 1,.row 2,.p (.int .i64 n)],.row .byte e m,.row .int e2 bs]=>match Nat.beq t 84,Nat.beq e 5,Nat.beq e2 3 with|true,true,true=>some (m,n,bs)|_,_,_=>none
  |_=>none
theorem ze0 {o:HO} {x:Str × Int × List Int} (h:skU o=some x):o=skO x.1 x.2.1 x.2.2:=by
  unfold skU at h
  split at h
  · split at h
    · rename_i h1 h2 h3;cases h;rw [Nat.eq_of_beq_eq_true h1,Nat.eq_of_beq_eq_true h2,Nat.eq_of_beq_eq_true h3];rfl
    · cases h
  · cases h
def fmU:List HO→Option Fm
  | .obj t [.ptr 1 0,.p (.int .i64 p),.p (.val (.pointer none)),.row 2,.p (.int .i64 pa),.p (.int .i64 sk),.p (.int .i64 co),.row 3]::r=>(match Nat.beq t 55,r with
    |true,[a,b,c]=>(match skU a,flU b,evU c with|some x,some f,some out=>some ⟨x.1,x.2.1,x.2.2,p,none,f,pa,sk,co,out⟩|_,_,_=>none)
    |_,_=>none)
  | .obj t [.ptr 1 0,.p (.int .i64 p),.ptr 2 0,.row 3,.p (.int .i64 pa),.p (.int .i64 sk),.p (.int .i64 co),.row 4]::r=>(match Nat.beq t 55,r with
    |true,[a,l,b,c]=>(match skU a,lnU l,flU b,evU c with|some x,some ln,some f,some out=>some ⟨x.1,x.2.1,x.2.2,p,some ln,f,pa,sk,co,out⟩|_,_,_,_=>none)
    |_,_=>none)
  |_=>none
theorem zhs {l:List HO} {q:Fm} (h:fmU l=some q):l=fmS q:=by
  unfold fmU at h
  split at h
  · split at h
    · rename_i h1;split at h
      · rename_i h2 h3 h4;cases h;rw [Nat.eq_of_beq_eq_true h1,ze0 h2,zfg h3,zfj h4];rfl
      · cases h
    · cases h
  · split at h
    · rename_i h1;split at h
      · rename_i h2 h5 h3 h4;cases h;rw [Nat.eq_of_beq_eq_true h1,ze0 h2,zhh h5,zfg h3,zfj h4];rfl
      · cases h
    · cases h
  · cases h
def shapeOf (l:List HO):Option Gh:=match fmU l with|some f=>some (.fm f)|none=>none
theorem zba (l:List HO) (g:Gh) (h:shapeOf l=some g):shapes g=l:=by
  unfold shapeOf at h
  split at h
  · rename_i q hq;cases h;exact(zhs hq).symm
  · cases h
end Go.Proofs.YtknaogelmckimaaDoor
namespace Go.Proofs.YtknaogelmckimaaDoor
open Go Go.Ab
instance facts:Facts:= { p:=fun w=>True,sh:=shapes,ab:=shapeOf,abok:=zba}
def tabT:TT:=
 (.node (.node (.node (.node (.node (.node (.node (.node .nil 0 ⟨.other,1,0,none,none⟩
 .nil) 1 ⟨.other,1,8,(some [.val .nilFunc]),none⟩
 .nil) 2 ⟨.int .i64,1,8,(some [.int .i64 0]),none⟩
 (.node .nil 3 ⟨.int .i64,1,8,(some [.int .i64 0]),none⟩
 .nil)) 4 ⟨.bool,1,1,(some [.bool false]),none⟩
 (.node (.node .nil 5 ⟨.int .u8,1,1,(some [.int .u8 0]),none⟩
 .nil) 6 ⟨.int .u8,1,1,(some [.int .u8 0]),none⟩
 (.node .nil 9 ⟨.str,1,16,(some [.str []]),none⟩
 .nil))) 10 ⟨.str,1,16,(some [.str []]),none⟩
 (.node (.node (.node (.node .nil 11 ⟨.str,1,16,(some [.str []]),none⟩
 .nil) 12 ⟨.int .u64,1,8,(some [.int .u64 0]),none⟩
 .nil) 15 ⟨.ptr,1,8,(some [.val (.pointer none)]),none⟩
 (.node .nil 16 ⟨.ptr,1,8,(some [.val (.pointer none)]),none⟩
 .nil)) 17 ⟨.ptr,1,8,(some [.val (.pointer none)]),none⟩
 (.node (.node .nil 20 ⟨.iface,1,16,(some [.val .nilIface]),none⟩
 .nil) 21 ⟨.int .i32,1,4,(some [.int .i32 0]),none⟩
 (.node .nil 22 ⟨.slice 5,1,24,(some [.list .byte []]),(some .byte)⟩
 .nil)))) 23 ⟨.slice 3,1,24,(some [.list .int []]),(some .int)⟩
 (.node (.node (.node (.node (.node .nil 24 ⟨.other,1,8,(some [.val .nilFunc]),none⟩
 .nil) 25 ⟨.ptr,1,8,(some [.val (.pointer none)]),none⟩
 .nil) 26 ⟨.other,1,0,none,none⟩
 (.node .nil 27 ⟨.other,1,8,(some [.val .nilFunc]),none⟩
 .nil)) 28 ⟨.slice 63,1,24,(some [.list .evt []]),(some .evt)⟩
 (.node (.node .nil 29 ⟨.slice 22,1,24,(some [.list .bytes []]),(some .bytes)⟩
 .nil) 30 ⟨.other,1,8,(some [.val .nilFunc]),none⟩
 (.node .nil 31 ⟨.other,1,8,(some [.val .nilFunc]),none⟩
 .nil))) 32 ⟨.other,1,8,(some [.val .nilFunc]),none⟩
 (.node (.node (.node (.node .nil 33 ⟨.other,1,8,(some [.val .nilFunc]),none⟩
 .nil) 34 ⟨.other,1,8,(some [.val .nilFunc]),none⟩
 .nil) 35 ⟨.other,1,8,(some [.val .nilFunc]),none⟩
 (.node .nil 36 ⟨.slice 67,1,24,(some [.list .fld []]),(some .fld)⟩
 .nil)) 37 ⟨.other,1,8,(some [.val .nilFunc]),none⟩
 (.node (.node .nil 38 ⟨.struct [(0,9),(1,9),(2,9),(3,22)],4,72,(some [.str [],.str [],.str [],.list .byte []]),none⟩
 .nil) 39 ⟨.struct [(0,9),(1,9),(2,9),(3,22)],4,72,(some [.str [],.str [],.str [],.nl []]),none⟩
 (.node .nil 40 ⟨.other,1,0,none,none⟩
 .nil))))) 41 ⟨.other,1,8,(some [.val .nilFunc]),none⟩
 (.node (.node (.node (.node (.node (.node .nil 42 ⟨.other,1,8,(some [.val .nilFunc]),none⟩
 .nil) 43 ⟨.other,1,8,(some [.val .nilFunc]),none⟩
 .nil) 44 ⟨.other,1,8,(some [.val .nilFunc]),none⟩
 (.node .nil 45 ⟨.slice 9,1,24,(some [.list .str []]),(some .str)⟩
 .nil)) 46 ⟨.other,1,8,(some [.val .nilFunc]),none⟩
 (.node (.node .nil 47 ⟨.other,1,8,(some [.val .nilFunc]),none⟩
 .nil) 48 ⟨.slice 39,1,24,(some [.list .prt []]),(some .prt)⟩
 (.node .nil 49 ⟨.other,1,0,none,none⟩
 .nil))) 50 ⟨.other,1,8,(some [.val .nilFunc]),none⟩
 (.node (.node (.node (.node .nil 51 ⟨.ptr,1,8,(some [.val (.pointer none)]),none⟩
 .nil) 52 ⟨.other,1,8,(some [.val .nilFunc]),none⟩
 .nil) 53 ⟨.ptr,1,8,(some [.val (.pointer none)]),none⟩
 (.node .nil 54 ⟨.struct [(0,51),(1,3),(2,53),(3,36),(4,3),(5,3),(6,3),(7,28)],8,96,(some [.val (.pointer none),.int .i64 0,.val (.pointer none),.list .fld [],.int .i64 0,.int .i64 0,.int .i64 0,.list .evt []]),none⟩
 .nil)) 55 ⟨.struct [(0,51),(1,3),(2,53),(3,36),(4,3),(5,3),(6,3),(7,28)],8,96,(some [.val (.pointer none),.int .i64 0,.val (.pointer none),.list .fld [],.int .i64 0,.int .i64 0,.int .i64 0,.list .evt []]),none⟩
 (.node (.node .nil 56 ⟨.other,1,0,none,none⟩
 .nil) 57 ⟨.other,1,8,(some [.val .nilFunc]),none⟩
 (.node .nil 58 ⟨.int .u64,1,8,(some [.int .u64 0]),none⟩
 .nil)))) 59 ⟨.other,1,8,(some [.val .nilFunc]),none⟩
 (.node (.node (.node (.node (.node .nil 60 ⟨.struct [(0,9),(1,9),(2,3),(3,36),(4,3)],5,72,(some [.str [],.str [],.int .i64 0,.list .fld [],.int .i64 0]),none⟩
 .nil) 61 ⟨.struct [(0,9),(1,9),(2,3),(3,36),(4,3)],5,72,(some [.str [],.str [],.int .i64 0,.list .fld [],.int .i64 0]),none⟩
 .nil) 62 ⟨.struct [(0,3),(1,61),(6,22),(7,39),(11,3)],12,184,(some [.int .i64 0,.str [],.str [],.int .i64 0,.list .fld [],.int .i64 0,.list .byte [],.str [],.str [],.str [],.nl [],.int .i64 0]),none⟩
 (.node .nil 63 ⟨.struct [(0,3),(1,61),(6,22),(7,39),(11,3)],12,184,(some [.int .i64 0,.str [],.str [],.int .i64 0,.list .fld [],.int .i64 0,.list .byte [],.str [],.str [],.str [],.nl [],.int .i64 0]),none⟩
 .nil)) 64 ⟨.other,1,8,(some [.val .nilFunc]),none⟩
 (.node (.node .nil 65 ⟨.other,1,8,(some [.val .nilFunc]),none⟩
 .nil) 66 ⟨.struct [(0,9),(1,9)],2,32,(some [.str [],.str []]),none⟩
 (.node .nil 67 ⟨.struct [(0,9),(1,9)],2,32,(some [.str [],.str []]),none⟩
 .nil))) 68 ⟨.other,1,0,none,none⟩
 (.node (.node (.node (.node .nil 69 ⟨.other,1,8,(some [.val .nilFunc]),none⟩
 .nil) 70 ⟨.slice 98,1,24,(some [.list .fld []]),(some .fld)⟩
 .nil) 71 ⟨.struct [(0,9),(1,70)],2,40,(some [.str [],.list .fld []]),none⟩
 (.node .nil 72 ⟨.struct [(0,9),(1,70)],2,40,(some [.str [],.list .fld []]),none⟩
 .nil)) 73 ⟨.other,1,0,none,none⟩
 (.node (.node .nil 74 ⟨.other,1,8,(some [.val .nilFunc]),none⟩
 .nil) 75 ⟨.other,1,0,none,none⟩
 (.node .nil 76 ⟨.other,1,8,(some [.val .nilFunc]),none⟩
 .nil)))))) 77 ⟨.other,1,8,(some [.val .nilFunc]),none⟩
 (.node (.node (.node (.node (.node (.node (.node .nil 78 ⟨.other,1,8,(some [.val .nilFunc]),none⟩
 .nil) 79 ⟨.other,1,8,(some [.val .nilFunc]),none⟩
 .nil) 80 ⟨.other,1,8,(some [.val .nilFunc]),none⟩
 (.node .nil 81 ⟨.ptr,1,8,(some [.val (.pointer none)]),none⟩
 .nil)) 82 ⟨.other,1,8,(some [.val .nilFunc]),none⟩
 (.node (.node .nil 83 ⟨.struct [(0,22),(1,23),(2,3)],3,56,(some [.list .byte [],.list .int [],.int .i64 0]),none⟩
 .nil) 84 ⟨.struct [(0,22),(1,23),(2,3)],3,56,(some [.list .byte [],.list .int [],.int .i64 0]),none⟩
 (.node .nil 85 ⟨.other,1,8,(some [.val .nilFunc]),none⟩
 .nil))) 86 ⟨.other,1,8,(some [.val .nilFunc]),none⟩
 (.node (.node (.node (.node .nil 87 ⟨.other,1,0,none,none⟩
 .nil) 88 ⟨.other,1,8,(some [.val .nilFunc]),none⟩
 .nil) 89 ⟨.other,1,8,(some [.val .nilFunc]),none⟩
 (.node .nil 90 ⟨.other,1,8,(some [.val .nilFunc]),none⟩
 .nil)) 91 ⟨.int .i64,1,8,(some [.int .i64 0]),none⟩
 (.node (.node .nil 92 ⟨.other,1,0,none,none⟩
 .nil) 93 ⟨.ptr,1,8,(some [.val (.pointer none)]),none⟩
 (.node .nil 94 ⟨.struct [(0,9)],1,16,(some [.str []]),none⟩
 .nil)))) 95 ⟨.struct [(0,9)],1,16,(some [.str []]),none⟩
 (.node (.node (.node (.node (.node .nil 96 ⟨.other,1,8,(some [.val .nilFunc]),none⟩
 .nil) 97 ⟨.other,1,8,(some [.val .nilFunc]),none⟩
 .nil) 98 ⟨.struct [(0,9),(1,9)],2,32,(some [.str [],.str []]),none⟩
 (.node .nil 99 ⟨.other,1,8,(some [.val .nilFunc]),none⟩
 .nil)) 100 ⟨.other,1,8,(some [.val .nilFunc]),none⟩
 (.node (.node .nil 101 ⟨.other,1,8,(some [.val .nilFunc]),none⟩
 .nil) 102 ⟨.other,1,8,(some [.val .nilFunc]),none⟩
 (.node .nil 103 ⟨.other,1,8,(some [.val .nilFunc]),none⟩
 .nil))) 104 ⟨.other,1,8,(some [.val .nilFunc]),none⟩
 (.node (.node (.node (.node .nil 105 ⟨.struct [(0,22),(1,4),(2,3)],3,40,(some [.list .byte [],.bool false,.int .i64 0]),none⟩
 .nil) 106 ⟨.struct [(0,22),(1,4),(2,3)],3,40,(some [.list .byte [],.bool false,.int .i64 0]),none⟩
 .nil) 107 ⟨.other,1,8,(some [.val .nilFunc]),none⟩
 (.node .nil 108 ⟨.other,1,0,none,none⟩
 .nil)) 109 ⟨.other,1,8,(some [.val .nilFunc]),none⟩
 (.node (.node .nil 110 ⟨.other,1,8,(some [.val .nilFunc]),none⟩
 .nil) 111 ⟨.other,1,8,(some [.val .nilFunc]),none⟩
 (.node .nil 112 ⟨.other,1,8,(some [.val .nilFunc]),none⟩
 .nil))))) 113 ⟨.other,1,8,(some [.val .nilFunc]),none⟩
 (.node (.node (.node (.node (.node (.node .nil 114 ⟨.other,1,8,(some [.val .nilFunc]),none⟩
 .nil) 115 ⟨.array 256 4,256,256,none,none⟩
 .nil) 116 ⟨.array 256 4,256,256,none,none⟩
 (.node .nil 117 ⟨.other,1,0,none,none⟩
 .nil)) 118 ⟨.other,1,8,(some [.val .nilFunc]),none⟩
 (.node (.node .nil 119 ⟨.other,1,8,(some [.val .nilFunc]),none⟩
 .nil) 120 ⟨.ptr,1,8,(some [.val (.pointer none)]),none⟩
 (.node .nil 121 ⟨.other,1,0,none,none⟩
 .nil))) 122 ⟨.other,1,8,(some [.val .nilFunc]),none⟩
 (.node (.node (.node (.node .nil 123 ⟨.other,1,8,(some [.val .nilFunc]),none⟩
 .nil) 124 ⟨.other,1,0,none,none⟩
 .nil) 125 ⟨.other,1,8,(some [.val .nilFunc]),none⟩
 (.node .nil 126 ⟨.other,1,8,(some [.val .nilFunc]),none⟩
 .nil)) 127 ⟨.other,1,8,(some [.val .nilFunc]),none⟩
 (.node (.node .nil 128 ⟨.other,1,8,(some [.val .nilFunc]),none⟩
 .nil) 129 ⟨.other,1,8,(some [.val .nilFunc]),none⟩
 (.node .nil 130 ⟨.array 256 5,256,256,none,none⟩
 .nil)))) 131 ⟨.struct [(0,5),(1,5)],2,2,(some [.int .u8 0,.int .u8 0]),none⟩
 (.node (.node (.node (.node (.node .nil 132 ⟨.struct [(0,5),(1,5)],2,2,(some [.int .u8 0,.int .u8 0]),none⟩
 .nil) 133 ⟨.array 16 132,32,32,(some [.int .u8 0,.int .u8 0,.int .u8 0,.int .u8 0,.int .u8 0,.int .u8 0,.int .u8 0,.int .u8 0,.int .u8 0,.int .u8 0,.int .u8 0,.int .u8 0,.int .u8 0,.int .u8 0,.int .u8 0,.int .u8 0,.int .u8 0,.int .u8 0,.int .u8 0,.int .u8 0,.int .u8 0,.int .u8 0,.int .u8 0,.int .u8 0,.int .u8 0,.int .u8 0,.int .u8 0,.int .u8 0,.int .u8 0,.int .u8 0,.int .u8 0,.int .u8 0]),none⟩
 .nil) 134 ⟨.other,1,8,(some [.val .nilFunc]),none⟩
 (.node .nil 135 ⟨.other,1,8,(some [.val .nilFunc]),none⟩
 .nil)) 136 ⟨.int .u32,1,4,(some [.int .u32 0]),none⟩
 (.node (.node .nil 137 ⟨.other,1,0,none,none⟩
 .nil) 138 ⟨.other,1,8,(some [.val .nilFunc]),none⟩
 (.node .nil 141 ⟨.array 0 16,0,0,(some []),none⟩
 .nil))) 144 ⟨.int .u8,1,1,(some [.int .u8 0]),none⟩
 (.node (.node (.node (.node .nil 145 ⟨.int .u8,1,1,(some [.int .u8 0]),none⟩
 .nil) 146 ⟨.other,1,8,(some [.val .nilFunc]),none⟩
 .nil) 147 ⟨.ptr,1,8,(some [.val (.pointer none)]),none⟩
 (.node .nil 148 ⟨.int .i32,1,4,(some [.int .i32 0]),none⟩
 .nil)) 149 ⟨.int .i32,1,4,(some [.int .i32 0]),none⟩
 (.node (.node .nil 150 ⟨.struct [(0,12),(1,12),(2,136),(3,144),(4,5),(5,5),(6,145),(7,146),(8,147),(9,148),(10,149)],11,48,(some [.int .u64 0,.int .u64 0,.int .u32 0,.int .u8 0,.int .u8 0,.int .u8 0,.int .u8 0,.val .nilFunc,.val (.pointer none),.int .i32 0,.int .i32 0]),none⟩
 .nil) 151 ⟨.struct [(0,12),(1,12),(2,136),(3,144),(4,5),(5,5),(6,145),(7,146),(8,147),(9,148),(10,149)],11,48,(some [.int .u64 0,.int .u64 0,.int .u32 0,.int .u8 0,.int .u8 0,.int .u8 0,.int .u8 0,.val .nilFunc,.val (.pointer none),.int .i32 0,.int .i32 0]),none⟩
 (.node .nil 152 ⟨.other,1,8,none,none⟩
 .nil)))))))
def tab:Tab:=tabT.get
theorem zl:tab.fits Tryd.prog:=Tab.zgq (by kernel_rfl)
theorem mixed:Tryd.prog.follows .mixedOrders=true:=by kernel_rfl
end Go.Proofs.YtknaogelmckimaaDoor
namespace Go.Proofs.YtknaogelmckimaaDoor
open Go Go.Sep Go.Ab
def hd0:Hd:=⟨[],[],0,[],0⟩
def prt0:Prt:=⟨[],[],[],[]⟩
def evB (b:Str):Evt:=⟨2,hd0,b,prt0,0⟩
def evE:Evt:=⟨3,hd0,[],prt0,0⟩
def evF (c:Int):Evt:=⟨4,hd0,[],prt0,c⟩
def xK (out:List Evt) (e:Evt):List Evt:=
  match out.getLast? with
  |some x=>if e.kind=2∧x.kind=2 then out.dropLast++[evB (x.bytes++e.bytes)] else out++[e]
  |none=>out++[e]
def zH (l:List Evt):List Evt:=l.foldl xK []
theorem zV (z:List Evt) (x e:Evt):xK (z++[x]) e=if e.kind=2∧x.kind=2 then z++[evB (x.bytes++e.bytes)] else z++[x]++[e]:=by
  unfold xK
  simp
theorem wP (e:Evt):xK [] e=[e]:=rfl
theorem zbt (X a:List Evt) (e:Evt):(xK X e).foldl xK a=xK (X.foldl xK a) e:=by
  rcases List.eq_nil_or_concat X with rfl|⟨Y,x,rfl⟩
  · rfl
  · rw [List.concat_eq_append,zV]
    split
    · rename_i h
      obtain⟨he,hx⟩:=h
      simp only [List.foldl_append,List.foldl_cons,List.foldl_nil]
      generalize Y.foldl xK a=Z
      rcases List.eq_nil_or_concat Z with rfl|⟨W,z,rfl⟩
      · rw [wP,wP]
        have:=zV [] x e
        simp only [List.nil_append] at this
        rw [this,if_pos ⟨he,hx⟩]
      · rw [List.concat_eq_append,zV,zV]
        by_cases hz:z.kind=2
        · rw [if_pos ⟨rfl,hz⟩,if_pos ⟨hx,hz⟩,zV,if_pos ⟨he,rfl⟩]
          simp [evB]
        · rw [if_neg (fun h=>hz h.2),if_neg (fun h=>hz h.2),zV,if_pos ⟨he,hx⟩]
    · simp only [List.foldl_append,List.foldl_cons,List.foldl_nil]
theorem join_join (b a:List Evt):(zH b).foldl xK a=b.foldl xK a:=by
  unfold zH
  suffices ∀ (l c:List Evt),(l.foldl xK c).foldl xK a=l.foldl xK (c.foldl xK a) by simpa using this b []
  intro l
  induction l with
  |nil=>intro c;rfl
  |cons e r ih=>intro c;rw [List.foldl_cons,ih,zbt];rfl
theorem UR (a b:List Evt):zH (a++zH b)=zH (a++b):=by
  unfold zH
  rw [List.foldl_append,List.foldl_append]
  exact join_join b _
theorem WB (a b:List Evt):zH (zH a++b)=zH (a++b):=by
  have h:zH (zH a)=zH a:=UR [] a
  unfold zH at *
  rw [List.foldl_append,List.foldl_append,h]
end Go.Proofs.YtknaogelmckimaaDoor
namespace Go.Ab
open Go Go.Sep
variable [Facts]
def wfI (n:Int):Prop:= -9223372036854775808≤n∧n≤9223372036854775807
theorem zgM {n:Int} (h:(Lit.int .i64 n).wf=true):wfI n:=by
  simp only [Lit.wf,Bool.and_eq_true,decide_eq_true_eq] at h
  have h1:IntKind.i64.min= -9223372036854775808:=by decide
  have h2:IntKind.i64.max=9223372036854775807:=by decide
  rw [h1,h2] at h;exact h
def wfS {α:Type} (s:List α):Prop:=s.length≤140737488355328
def zd0 (f:Fld):Prop:=wfS f.name∧wfS f.value
def wfHd (h:Hd):Prop:=wfS h.method∧wfS h.target∧wfI h.minor∧(wfS h.fields∧∀ f ∈ h.fields,zd0 f)∧wfI h.length
def zgL (p:Prt):Prop:=wfS p.name∧wfS p.file∧wfS p.type∧wfS p.bytes
def wfZ:(u:U)→u.den→Prop
  |.byte,_=>True
  |.int,n=>wfI n
  |.str,(s:Str)=>wfS s
  |.fld,f=>zd0 f
  |.bytes,(b:Str)=>wfS b
  |.hd,h=>wfHd h
  |.prt,p=>zgL p
  |.evt,(e:Evt)=>wfI e.kind∧wfHd e.head∧wfS e.bytes∧zgL e.part∧wfI e.code
  |.upl,(x:Upl)=>wfI x.id∧wfI x.size∧wfS x.note∧wfS x.bytes∧wfI x.sent
  |.ent,(e:Ent)=>wfI e.kind∧wfI e.id∧wfI e.n∧wfS e.text
  |.stp,(e:Stp)=>wfI e.kind∧wfI e.conn∧wfI e.n∧wfS e.bytes
  |.ask,(a:Ask)=>wfHd a.h∧wfS a.body
  |.cal,(c:Cal)=>wfI c.conn∧wfS c.b
  |.lst,(e:Lst)=>wfI e.op∧wfI e.n∧wfS e.b
  |.sst,(e:Sst)=>wfI e.op∧wfI e.id∧wfI e.n∧wfS e.text
  |.rpl,(r:Rpl)=>wfI r.status∧(wfS r.fields∧∀ f ∈ r.fields,zd0 f)∧wfS r.body
  |.med,(m:Med)=>wfS m.word∧(wfS m.params∧∀ f ∈ m.params,zd0 f)
  |_,_=>True
abbrev Small {H:Type} (Pr:Program) (t:TypeId) (d:DataW H):Prop:=(d.weights Pr t).all (· ≤reachBytes)=true
section
variable {H:Type} {hsh:TypeId × Value→H} {Pr:Program} {w:World} {hF:Holds w} {base:Nat} {spare:Nat→Bool} {held:Bool}
def sF (hsh:TypeId × Value→H) (Pr:Program) (w:World) (hF:Holds w) (base:Nat) (spare:Nat→Bool) (held:Bool) (t:TypeId) (Q:List P→Prop):Prop:=
  ∀ fuel cs y,DataW.trod hsh Pr w base spare held fuel t cs=some y→Small Pr t y.1→∃ ps,MPs (frzW w hF) ps cs∧Q ps
theorem sF.mono {t:TypeId} {Q Q':List P→Prop} (h:sF hsh Pr w hF base spare held t Q) (hq: ∀ ps,Q ps→Q' ps):sF hsh Pr w hF base spare held t Q':=by
  intro fuel cs y hy hs
  obtain⟨ps,h1,h2⟩:=h fuel cs y hy hs
  exact⟨ps,h1,hq _ h2⟩
def QU (u:U) (ps:List P):Prop:=∃ x:u.den,ps=enc alg u x∧wfZ u x
def QL (u:U) (ps:List P):Prop:=∃ l:List u.den,ps=[.list u l]∧wfS l∧∀ x ∈ l,wfZ u x
theorem op_int {t:TypeId} (ht:Pr.underlying t=some (.int .i64)):sF hsh Pr w hF base spare held t (QU .int):=by
  intro fuel cs y h _
  obtain⟨n,rfl,hn⟩:=zcq ht fuel cs y h
  exact⟨[.int .i64 n],⟨.int _ _,trivial⟩,n,rfl,zgM hn⟩
theorem op_byte {t:TypeId} (ht:Pr.underlying t=some (.int .u8)):sF hsh Pr w hF base spare held t (QU .byte):=by
  intro fuel cs y h _
  obtain⟨c,hc⟩:=zbi ht fuel cs y h
  exact⟨enc alg .byte c,zf4 hc,c,rfl,trivial⟩
theorem QK {n:Nat} (h:n≤reachBytes):n≤140737488355328:=Nat.le_trans h (by decide)
theorem op_str {t:TypeId} (ht:Pr.underlying t=some .string):sF hsh Pr w hF base spare held t (QU .str):=by
  intro fuel cs y h hs
  obtain⟨s,rfl,hy,hl⟩:=DataW.trod_string ht h
  have e:Sep.S s.data.toList=s:=by cases s;rfl
  refine⟨[.str s.data.toList],⟨by rw [← e];exact .str _ (by simpa using hl),trivial⟩,s.data.toList,rfl,?_⟩
  rw [hy] at hs
  simp only [Small,DataW.weights,List.all_cons,List.all_nil,Bool.and_true,decide_eq_true_eq] at hs
  exact QK hs
def elemsOf:DataW H→List (DataW H)
  |.slice es _=>es
  |_=>[]
theorem SL {α:Type} {t e:TypeId} {size:Nat} {R:Sep.Rel α} (ht:Pr.underlying t=some (.slice e)) (hs:Pr.cellsOf e=size) {fuel:Nat} {cs:List Value} {y:DataW H × List MemPlace}
    (h:DataW.trod hsh Pr w base spare held fuel t cs=some y) (he: ∀ n ci z,z.1 ∈ elemsOf y.1→DataW.trod hsh Pr w base spare held n e ci=some z→∃ x,R w ci x):
    ∃ xs,RSl size R w cs xs∧xs.length=(elemsOf y.1).length:=by
  rcases DataW.trod_slice ht h with⟨rfl,rfl⟩|⟨a,len,cap,elems,rest,n,_,rfl,rfl,_,hl,hm,hlen,hel,_,_⟩
  · exact⟨[],⟨_,[],rfl,⟨none,0,rfl,Nat.le_refl _,Nat.zero_le _,fun _=>rfl,by simp,fun j u h=>by simp at h⟩,fun i x h=>by simp at h⟩,rfl⟩
  · subst hs
    have each: ∀ i,i<len→∃ ci:List Value,ci.length=Pr.cellsOf e∧(∀ j u,ci[j]? =some u→w.cell? ((a.add (i * Pr.cellsOf e)).add j)=some u)∧∃ x,R w ci x:=by
      intro i hi
      have h1:=hel i hi
      rw [List.getElem?_eq_getElem (by omega),Option.bind_eq_some_iff] at h1
      obtain⟨ci,hci,hy⟩:=h1
      obtain⟨h2,h3⟩:=cells?_get hci
      exact⟨ci,h2,h3,he n ci _ (List.mem_map_of_mem (List.getElem_mem _)) hy⟩
    have all: ∀ m,m≤len→∃ (vs:List Value) (xs:List α),xs.length=m∧vs.length=m * Pr.cellsOf e∧(∀ j u,vs[j]? =some u→w.cell? (a.add j)=some u)∧∀ i x,xs[i]? =some x→R w ((vs.drop (i * Pr.cellsOf e)).take (Pr.cellsOf e)) x:=by
      intro m
      induction m with
      |zero=>intro _;exact⟨[],[],rfl,by simp,fun j u h=>by simp at h,fun i x h=>by simp at h⟩
      | succ m ih=>
        intro hm'
        obtain⟨vs,xs,h1,h2,h3,h4⟩:=ih (by omega)
        obtain⟨ci,c1,c2,x,c3⟩:=each m (by omega)
        refine⟨vs++ci,xs++[x],by simp [h1],by simp [h2,c1,Nat.succ_mul],fun j u hj=> ?_,fun i z hi=> ?_⟩
        · rcases Nat.lt_or_ge j vs.length with hj1|hj1
          · rw [List.getElem?_append_left hj1] at hj;exact h3 j u hj
          · rw [List.getElem?_append_right hj1] at hj
            have h5:=c2 _ _ hj
            rw [Addr.add_add,h2,show m * Pr.cellsOf e+(j - m * Pr.cellsOf e)=j by omega] at h5
            exact h5
        · rcases Nat.lt_or_ge i xs.length with hi1|hi1
          · rw [List.getElem?_append_left hi1] at hi
            have h5:=h4 i z hi
            have h6:i * Pr.cellsOf e+Pr.cellsOf e≤vs.length:=by rw [h2,← Nat.succ_mul];exact Nat.mul_le_mul_right _ (by omega)
            rw [List.drop_append_of_le_length (by omega),List.take_append_of_le_length (by simp;omega)]
            exact h5
          · rw [List.getElem?_append_right hi1] at hi
            have hi2:i=m:=by
              have:=(List.getElem?_eq_some_iff.1 hi).1
              simp at this;omega
            subst hi2
            rw [h1,Nat.sub_self] at hi
            simp at hi
            subst hi
            rw [← h2,List.drop_left,List.take_of_length_le (by omega)]
            exact c3
    obtain⟨vs,xs,h1,h2,h3,h4⟩:=all len (Nat.le_refl _)
    refine⟨xs,⟨_,vs,rfl,⟨some a,cap,by rw [h1],by omega,hm,(fun h=>by cases h),by rw [h1];exact h2,fun j u hj=> ?_⟩,h4⟩,by simp [elemsOf,h1,hlen]⟩
    have hsp:a.spot=none:=by
      cases hv:vs with
      |nil=>rw [hv] at hj;simp at hj
      | cons u0 r=>
        have:=h3 0 u0 (by rw [hv];rfl)
        rw [show a.add 0=a by simp [Addr.add]] at this
        exact zfv this
    exact⟨⟨a,rfl,hsp⟩,by rw [← ZX hsp];exact h3 j u hj⟩
theorem weightsAll_mem {e:TypeId}: ∀ {es:List (DataW H)} {d:DataW H},d ∈ es→∀ n ∈ d.weights Pr e,n ∈ DataW.weightsAll Pr e es
  | x::es,d,hd,n,hn=>by
    simp only [DataW.weightsAll,List.mem_append]
    rcases List.mem_cons.1 hd with rfl|hd
    · exact .inl hn
    · exact .inr (weightsAll_mem hd n hn)
theorem za9 {t e:TypeId} (ht:Pr.underlying t=some (.slice e)) {d z:DataW H} (h:Small Pr t d) (hz:z ∈ elemsOf d):Small Pr e z:=by
  cases d<;>simp only [elemsOf,List.not_mem_nil] at hz
  refine List.all_eq_true.2 fun n hn=>List.all_eq_true.1 h n ?_
  simp only [DataW.weights,ht,List.mem_cons,List.mem_append]
  exact .inr (.inl (weightsAll_mem hz n hn))
theorem zb3 {t e:TypeId} (ht:Pr.underlying t=some (.slice e)) (hb:Nat.blt 0 (Pr.bytesOf e)=true) {d:DataW H} (h:Small Pr t d):(elemsOf d).length≤140737488355328:=by
  cases d<;>simp only [elemsOf]<;>try exact Nat.zero_le _
  rename_i es ss
  have h1:=List.all_eq_true.1 h ((es.length+ss.length) * Pr.bytesOf e) (by simp [DataW.weights,ht])
  have hb:0<Pr.bytesOf e:=by simpa [Nat.blt_eq] using hb
  refine QK (Nat.le_trans (Nat.le_trans (Nat.le_add_right _ ss.length) (Nat.le_mul_of_pos_right _ hb)) (by simpa using h1))
theorem op_list {t e:TypeId} {u:U} (ht:Pr.underlying t=some (.slice e)) (hc:Pr.cellsOf e=u.size) (hb:Nat.blt 0 (Pr.bytesOf e)=true) (he:sF hsh Pr w hF base spare held e (QU u)):
    sF hsh Pr w hF base spare held t (QL u):=by
  intro fuel cs y h hs
  obtain⟨l,hl,hlen⟩:=SL (R:=fun _ cs (x:u.den)=>MPs (frzW w hF) (enc alg u x) cs∧wfZ u x) ht hc h (fun n ci z hz ht'=>by
    obtain⟨ps,h1,x,rfl,hx⟩:=he n ci z ht' (za9 ht hs hz)
    exact⟨x,h1,hx⟩)
  have hl':=hl
  obtain⟨v,vs,rfl,_,hx⟩:=hl
  refine⟨[.list u l],⟨zf3 (fun _ _ h=>h.1) hl',trivial⟩,l,rfl,by unfold wfS;rw [hlen];exact zb3 ht hb hs,fun x hm=> ?_⟩
  obtain⟨i,hi⟩:=List.getElem?_of_mem hm
  exact(hx i x hi).2
def zbW (hsh:TypeId × Value→H) (Pr:Program) (w:World) (hF:Holds w) (base:Nat) (spare:Nat→Bool) (held:Bool):List Field→List (List P→Prop)→Prop
  |[],[]=>True
  |f::fs,Q::Qs=>sF hsh Pr w hF base spare held f.type Q∧zbW hsh Pr w hF base spare held fs Qs
  |_,_=>False
theorem zbW.nil:zbW hsh Pr w hF base spare held [] []:=trivial
theorem zbW.cons {f:Field} {fs:List Field} {Q:List P→Prop} {Qs:List (List P→Prop)} (h:sF hsh Pr w hF base spare held f.type Q) (k:zbW hsh Pr w hF base spare held fs Qs):zbW hsh Pr w hF base spare held (f::fs) (Q::Qs):=⟨h,k⟩
theorem MPs.append {S:Frz}: ∀ {a b:List P} {x y:List Value},MPs S a x→MPs S b y→MPs S (a++b) (x++y)
  |[],_,[],_,_,h=>h
  |_::_,_,_::_,_,h,k=>⟨h.1,MPs.append h.2 k⟩
theorem z_one {t:TypeId} {v:Value} {d:DataW H} {ps:List MemPlace} {Q:List P→Prop} (hr:v.oneCell'=true) (h:DataW.Trod hsh Pr w base spare held t v d ps) (hs:Small Pr t d) (ho:sF hsh Pr w hF base spare held t Q): ∃ qs,MPs (frzW w hF) qs [v]∧Q qs:=by
  obtain⟨fuel,hf⟩:=h
  have hc:v.cells.toList=[v]:=by cases v<;>first|rfl|cases hr
  rw [hc] at hf
  exact ho fuel _ _ hf hs
theorem small_nth {ts:List TypeId} {ds:List (DataW H)} (h:(DataW.weightsEach Pr ts ds).all (· ≤reachBytes)=true) {j:Nat} {t:TypeId} {d:DataW H} (ht:ts[j]? =some t) (hd:ds[j]? =some d):Small Pr t d:=
  List.all_eq_true.2 fun n hn=>List.all_eq_true.1 h n (DataW.weights_mem_each ht hd n hn)
end
end Go.Ab
namespace Go.Proofs
open Go.Shelf
def Tryd.Rn:Go.Shelf.Ren:=⟨fun|161=>83|231=>74|227=>76|233=>77|235=>79|228=>87|197=>88|151=>89|260=>93|152=>94|137=>92|119=>98|224=>99|225=>100|217=>97|266=>102|n=>n,fun|9=>9|4=>4|3=>3|5=>5|117=>117|116=>116|0=>0|124=>120|105=>124|21=>21|119=>130|46=>58|139=>133|138=>132|n=>n,fun|3=>0|4=>1|n=>n⟩
theorem Tryd.lays161:Go.Proofs.Lays.n161 Tryd.prog Tryd.Rn:= {
  mixed:=by kernel_rfl
  f119:=Tryd.func98.trans (congrArg some (by kernel_rfl))
  f137:=Tryd.func92.trans (congrArg some (by kernel_rfl))
  f151:=Tryd.func89.trans (congrArg some (by kernel_rfl))
  f152:=Tryd.func94.trans (congrArg some (by kernel_rfl))
  f161:=Tryd.func83.trans (congrArg some (by kernel_rfl))
  f197:=Tryd.func88.trans (congrArg some (by kernel_rfl))
  f217:=Tryd.func97.trans (congrArg some (by kernel_rfl))
  f224:=Tryd.func99.trans (congrArg some (by kernel_rfl))
  f225:=Tryd.func100.trans (congrArg some (by kernel_rfl))
  f227:=Tryd.func76.trans (congrArg some (by kernel_rfl))
  f228:=Tryd.func87.trans (congrArg some (by kernel_rfl))
  f231:=Tryd.func74.trans (congrArg some (by kernel_rfl))
  f233:=Tryd.func77.trans (congrArg some (by kernel_rfl))
  f235:=Tryd.func79.trans (congrArg some (by kernel_rfl))
  f260:=Tryd.func93.trans (congrArg some (by kernel_rfl))
  f266:=Tryd.func102.trans (congrArg some (by kernel_rfl))
  t0:=Tryd.underlying0
  a0:=Tryd.isAgg0
  z0:=Tryd.sizeOf0
  v0:=Tryd.zeroValue0
  t3:=Tryd.underlying3
  a3:=Tryd.isAgg3
  z3:=Tryd.sizeOf3
  v3:=Tryd.zeroValue3
  t4:=Tryd.underlying4
  a4:=Tryd.isAgg4
  z4:=Tryd.sizeOf4
  v4:=Tryd.zeroValue4
  t5:=Tryd.underlying5
  a5:=Tryd.isAgg5
  z5:=Tryd.sizeOf5
  v5:=Tryd.zeroValue5
  t9:=Tryd.underlying9
  a9:=Tryd.isAgg9
  z9:=Tryd.sizeOf9
  v9:=Tryd.zeroValue9
  t21:=Tryd.underlying21
  a21:=Tryd.isAgg21
  z21:=Tryd.sizeOf21
  v21:=Tryd.zeroValue21
  t46:=Tryd.underlying58
  a46:=Tryd.isAgg58
  z46:=Tryd.sizeOf58
  v46:=Tryd.zeroValue58
  t105:=Tryd.underlying124
  a105:=Tryd.isAgg124
  z105:=Tryd.sizeOf124
  v105:=Tryd.zeroValue124
  t116:=Tryd.underlying116
  a116:=Tryd.isAgg116
  z116:=Tryd.sizeOf116
  t117:=Tryd.underlying117
  a117:=Tryd.isAgg117
  z117:=Tryd.sizeOf117
  v117:=Tryd.zeroValue117
  t119:=Tryd.underlying130
  a119:=Tryd.isAgg130
  z119:=Tryd.sizeOf130
  t124:=Tryd.underlying120
  a124:=Tryd.isAgg120
  z124:=Tryd.sizeOf120
  v124:=Tryd.zeroValue120
  t138:=Tryd.underlying132
  a138:=Tryd.isAgg132
  z138:=Tryd.sizeOf132
  v138:=Tryd.zeroValue132
  t139:=Tryd.underlying133
  a139:=Tryd.isAgg133
  z139:=Tryd.sizeOf133
  v139:=Tryd.zeroValue133
  g3:=by kernel_rfl
  g4:=by kernel_rfl}
def Tryd.Ro:Go.Shelf.Ren:=⟨fun|160=>59|232=>75|231=>74|227=>76|234=>78|233=>77|236=>80|235=>79|228=>87|271=>90|151=>89|197=>88|120=>95|152=>94|260=>93|137=>92|119=>98|224=>99|225=>100|217=>97|266=>102|n=>n,fun|9=>9|4=>4|3=>3|5=>5|117=>117|116=>116|0=>0|124=>120|21=>21|105=>124|46=>58|119=>130|139=>133|138=>132|n=>n,fun|3=>0|4=>1|n=>n⟩
theorem Tryd.lays160:Go.Proofs.Lays.n160 Tryd.prog Tryd.Ro:= {
  mixed:=by kernel_rfl
  f119:=Tryd.func98.trans (congrArg some (by kernel_rfl))
  f120:=Tryd.func95.trans (congrArg some (by kernel_rfl))
  f137:=Tryd.func92.trans (congrArg some (by kernel_rfl))
  f151:=Tryd.func89.trans (congrArg some (by kernel_rfl))
  f152:=Tryd.func94.trans (congrArg some (by kernel_rfl))
  f160:=Tryd.func59.trans (congrArg some (by kernel_rfl))
  f197:=Tryd.func88.trans (congrArg some (by kernel_rfl))
  f217:=Tryd.func97.trans (congrArg some (by kernel_rfl))
  f224:=Tryd.func99.trans (congrArg some (by kernel_rfl))
  f225:=Tryd.func100.trans (congrArg some (by kernel_rfl))
  f227:=Tryd.func76.trans (congrArg some (by kernel_rfl))
  f228:=Tryd.func87.trans (congrArg some (by kernel_rfl))
  f231:=Tryd.func74.trans (congrArg some (by kernel_rfl))
  f232:=Tryd.func75.trans (congrArg some (by kernel_rfl))
  f233:=Tryd.func77.trans (congrArg some (by kernel_rfl))
  f234:=Tryd.func78.trans (congrArg some (by kernel_rfl))
  f235:=Tryd.func79.trans (congrArg some (by kernel_rfl))
  f236:=Tryd.func80.trans (congrArg some (by kernel_rfl))
  f260:=Tryd.func93.trans (congrArg some (by kernel_rfl))
  f266:=Tryd.func102.trans (congrArg some (by kernel_rfl))
  f271:=Tryd.func90.trans (congrArg some (by kernel_rfl))
  t0:=Tryd.underlying0
  a0:=Tryd.isAgg0
  z0:=Tryd.sizeOf0
  v0:=Tryd.zeroValue0
  t3:=Tryd.underlying3
  a3:=Tryd.isAgg3
  z3:=Tryd.sizeOf3
  v3:=Tryd.zeroValue3
  t4:=Tryd.underlying4
  a4:=Tryd.isAgg4
  z4:=Tryd.sizeOf4
  v4:=Tryd.zeroValue4
  t5:=Tryd.underlying5
  a5:=Tryd.isAgg5
  z5:=Tryd.sizeOf5
  v5:=Tryd.zeroValue5
  t9:=Tryd.underlying9
  a9:=Tryd.isAgg9
  z9:=Tryd.sizeOf9
  v9:=Tryd.zeroValue9
  t21:=Tryd.underlying21
  a21:=Tryd.isAgg21
  z21:=Tryd.sizeOf21
  v21:=Tryd.zeroValue21
  t46:=Tryd.underlying58
  a46:=Tryd.isAgg58
  z46:=Tryd.sizeOf58
  v46:=Tryd.zeroValue58
  t105:=Tryd.underlying124
  a105:=Tryd.isAgg124
  z105:=Tryd.sizeOf124
  v105:=Tryd.zeroValue124
  t116:=Tryd.underlying116
  a116:=Tryd.isAgg116
  z116:=Tryd.sizeOf116
  t117:=Tryd.underlying117
  a117:=Tryd.isAgg117
  z117:=Tryd.sizeOf117
  v117:=Tryd.zeroValue117
  t119:=Tryd.underlying130
  a119:=Tryd.isAgg130
  z119:=Tryd.sizeOf130
  t124:=Tryd.underlying120
  a124:=Tryd.isAgg120
  z124:=Tryd.sizeOf120
  v124:=Tryd.zeroValue120
  t138:=Tryd.underlying132
  a138:=Tryd.isAgg132
  z138:=Tryd.sizeOf132
  v138:=Tryd.zeroValue132
  t139:=Tryd.underlying133
  a139:=Tryd.isAgg133
  z139:=Tryd.sizeOf133
  v139:=Tryd.zeroValue133
  g3:=by kernel_rfl
  g4:=by kernel_rfl}
def Tryd.Ru:Go.Shelf.Ren:=⟨fun|137=>92|217=>97|266=>102|n=>n,fun|9=>9|5=>5|3=>3|n=>n,fun|n=>n⟩
theorem Tryd.lays137:Go.Proofs.Lays.n137 Tryd.prog Tryd.Ru:= {
  mixed:=by kernel_rfl
  f137:=Tryd.func92.trans (congrArg some (by kernel_rfl))
  f217:=Tryd.func97.trans (congrArg some (by kernel_rfl))
  f266:=Tryd.func102.trans (congrArg some (by kernel_rfl))
  t3:=Tryd.underlying3
  a3:=Tryd.isAgg3
  z3:=Tryd.sizeOf3
  v3:=Tryd.zeroValue3
  t5:=Tryd.underlying5
  a5:=Tryd.isAgg5
  z5:=Tryd.sizeOf5
  v5:=Tryd.zeroValue5
  t9:=Tryd.underlying9
  a9:=Tryd.isAgg9
  z9:=Tryd.sizeOf9
  v9:=Tryd.zeroValue9}
def Tryd.Rl:Go.Shelf.Ren:=⟨fun|219=>96|217=>97|225=>100|224=>99|267=>101|266=>102|314=>103|n=>n,fun|9=>9|3=>3|4=>4|5=>5|46=>58|146=>137|51=>136|n=>n,fun|1=>2|n=>n⟩
theorem Tryd.lays219:Go.Proofs.Lays.n219 Tryd.prog Tryd.Rl:= {
  mixed:=by kernel_rfl
  f217:=Tryd.func97.trans (congrArg some (by kernel_rfl))
  f219:=Tryd.func96.trans (congrArg some (by kernel_rfl))
  f224:=Tryd.func99.trans (congrArg some (by kernel_rfl))
  f225:=Tryd.func100.trans (congrArg some (by kernel_rfl))
  f266:=Tryd.func102.trans (congrArg some (by kernel_rfl))
  f267:=Tryd.func101.trans (congrArg some (by kernel_rfl))
  f314:=Tryd.func103.trans (congrArg some (by kernel_rfl))
  t3:=Tryd.underlying3
  a3:=Tryd.isAgg3
  z3:=Tryd.sizeOf3
  v3:=Tryd.zeroValue3
  t4:=Tryd.underlying4
  a4:=Tryd.isAgg4
  z4:=Tryd.sizeOf4
  v4:=Tryd.zeroValue4
  t5:=Tryd.underlying5
  a5:=Tryd.isAgg5
  z5:=Tryd.sizeOf5
  v5:=Tryd.zeroValue5
  t9:=Tryd.underlying9
  a9:=Tryd.isAgg9
  z9:=Tryd.sizeOf9
  v9:=Tryd.zeroValue9
  t46:=Tryd.underlying58
  a46:=Tryd.isAgg58
  z46:=Tryd.sizeOf58
  v46:=Tryd.zeroValue58
  t51:=Tryd.underlying136
  a51:=Tryd.isAgg136
  z51:=Tryd.sizeOf136
  v51:=Tryd.zeroValue136
  t146:=Tryd.underlying137
  a146:=Tryd.isAgg137
  z146:=Tryd.sizeOf137
  v146:=Tryd.zeroValue137
  g1:=by kernel_rfl}
open Go.RowKit in
theorem Tryd.strings_IndexByte (s:ByteArray) (c:Int) (w:World):
    Calls Tryd.prog 92 #[.string s,.int .u8 c] w fun e w'=>e=.returned (.int .i64 (Lib.indexByte s.data.toList c.toNat.toUInt8))∧w'=w:=Any.strings_IndexByte Tryd.lays137 s c w
open Go.RowKit Go.Lib in
theorem Tryd.stringslite_Index_one (s:ByteArray) (c:UInt8) (w:World):
    Calls Tryd.prog 96 #[.string s,.string ⟨#[c]⟩] w fun e w'=>e=.returned (.int .i64 (Lib.indexByte s.data.toList c))∧w'=w:=Any.stringslite_Index_one Tryd.lays219 s c w
theorem Tryd.strings_Trim_laid (s cutset:ByteArray) (w:World) (hs:s.size≤9223372036854775807) (hcs:cutset.size<4294967281) (hascii: ∀ (j:Nat) b,cutset.data.toList[j]? =some b→b.toNat<128):
    Calls Tryd.prog 59 #[.string s,.string cutset] w fun e w'=>e=.returned (.string ⟨(Lib.trimS s.data.toList cutset.data.toList).toArray⟩)∧Go.RowKit.Below w.heap.size w w':=Any.strings_Trim_laid Tryd.lays160 (by kernel_rfl) s cutset w hs hcs hascii
theorem Tryd.strings_TrimLeft_laid (s cutset:ByteArray) (w:World) (hcs:cutset.size<4294967281) (hascii: ∀ (j:Nat) b,cutset.data.toList[j]? =some b→b.toNat<128):
    Calls Tryd.prog 83 #[.string s,.string cutset] w fun e w'=>e=.returned (.string ⟨(Lib.trimLeftS s.data.toList cutset.data.toList).toArray⟩)∧Go.RowKit.Below w.heap.size w w':=Any.strings_TrimLeft_laid Tryd.lays161 (by kernel_rfl) s cutset w hcs hascii
end Go.Proofs
namespace Go.Ab
open Go Go.Sep
variable [Facts]
theorem Qm {w w':World} (h:RowKit.Below w.heap.size w w'):Keeps (fun k=>k<w.heap.size) w w':=⟨h.1,h.2,h.3,h.4,h.5⟩
theorem Spc.of_below {Pr:Program} {f:Nat} {args:List D} {hp:List HO} {d:D} (hf: ∃ fn,Pr.funcs[f]? =some fn∧(fn.name == "runtime.NumGoroutine")=false∧fn.body.isNone=false)
    (h: ∀ (S:Frz) (bs:List Value) (w:World) (vs:List Value),Facts.p w→MDs S bs args vs→∃ v,MD S bs d v∧Calls Pr f vs.toArray w fun e w'=>e=.returned v∧RowKit.Below w.heap.size w w'):Spc Pr f args hp (.ret d) hp:=by
  refine⟨hf,fun S K fr w vs hH hM hA=> ?_⟩
  obtain⟨v,hv,hc⟩:=h S _ w vs (At.frz hA).facts hM
  refine hc.mono fun e w' he=> ?_
  obtain⟨he,hb⟩:=he
  subst he
  exact⟨S,K,Frz.le.refl S,Ext.refl _,hH,hA.keep (Qm hb),hv⟩
end Go.Ab
namespace Go.Proofs.YtknaogelmckimaaDoor
open Go Go.Sep Go.Ab
set_option maxRecDepth 100000
theorem QB (s cs:Str):(Lib.trimS s cs).length≤s.length:=by
  unfold Lib.trimS Lib.trimLeftS Lib.trimRightS
  refine Nat.le_trans (List.dropWhile_sublist _).length_le ?_
  rw [List.length_reverse]
  exact Nat.le_trans (List.dropWhile_sublist _).length_le (by rw [List.length_reverse];exact Nat.le_refl _)
theorem Yd: ∀ (s:Str) (c:UInt8),-1≤Lib.indexByte s c∧Lib.indexByte s c<s.length
  |[],c=>by simp [Lib.indexByte]
  | b ::l,c=>by
    have:=Yd l c
    unfold Lib.indexByte
    rw [List.length_cons]
    split
    · omega
    · split
      · omega
      · omega
theorem zhP (s:Str):Spc Tryd.prog 59 [.v (.one (.p (.str s))),.v (.one (.p (.str ([32,9]))))] [] (.ret (.v (.one (.p (.str (Lib.trimS s [32,9])))))) []:=by
  refine Spc.of_below ⟨_,Tryd.func59,by kernel_rfl,by kernel_rfl⟩ fun S bs w vs _ hM=> ?_
  obtain⟨v,r,rfl⟩: ∃ v r,vs=v::r:=by cases vs with|nil=>exact hM.elim|cons v r=>exact⟨v,r,rfl⟩
  obtain⟨h1,hM⟩:=hM
  obtain⟨v2,r2,rfl⟩: ∃ v r2,r=v::r2:=by cases r with|nil=>exact hM.elim|cons v r=>exact⟨v,r,rfl⟩
  obtain⟨h2,hM⟩:=hM
  obtain rfl:r2=[]:=by cases r2 with|nil=>rfl|cons v r=>exact hM.elim
  cases h1 with
  | str _ hl1=>
    cases h2 with
    | str _ hl2=>
      refine⟨.string (Sep.S (Lib.trimS s [32,9])),.str _ (Nat.le_trans (QB _ _) hl1),?_⟩
      exact Tryd.strings_Trim_laid (Sep.S s) (Sep.S [32,9]) w (by have:=hl1;unfold maxLen at this;exact this) (by decide) (fun j b hb=>by
        have:=List.mem_of_getElem? hb
        rcases(by simpa [Sep.S] using this:b=32∨b=9) with rfl|rfl<;>decide)
def Vh (I:Alg) (args:List D) (hp:List HO):Option CT:=match args,hp with
  |[.v (.one (.p (.str s))),.v (.one (.p (.str ([32,9]))))],[]=>(fun(s:Str)=>(some (.one ⟨I.hid (True),(.ret (.v (.one (.p (.str (I.hid (Lib.trimS s [32,9]))))))),[]⟩):Option CT)) s
  |_,_=>none
theorem zb0:zA Tryd.prog 59 (Vh alg):=by
  intro args hp r h
  unfold Vh at h
  split at h
  · cases h;exact fun hn=>zhP _
  · cases h
def zfs:Know Tryd.prog:=⟨59,Vh,zb0⟩
def zfr:Know Tryd.prog:=⟨59,fun I=>zB I (Vh I),zf zb0⟩
theorem zbx (s:Str) (k:Int):Spc Tryd.prog 92 [.v (.one (.p (.str s))),.v (.one (.p (.int .u8 k)))] [] (.ret (.v (.one (.p (.int .i64 (Lib.indexByte s k.toNat.toUInt8)))))) []:=by
  refine Spc.of_below ⟨_,Tryd.func92,by kernel_rfl,by kernel_rfl⟩ fun S bs w vs _ hM=> ?_
  obtain⟨v,r,rfl⟩: ∃ v r,vs=v::r:=by cases vs with|nil=>exact hM.elim|cons v r=>exact⟨v,r,rfl⟩
  obtain⟨h1,hM⟩:=hM
  obtain⟨v2,r2,rfl⟩: ∃ v r2,r=v::r2:=by cases r with|nil=>exact hM.elim|cons v r=>exact⟨v,r,rfl⟩
  obtain⟨h2,hM⟩:=hM
  obtain rfl:r2=[]:=by cases r2 with|nil=>rfl|cons v r=>exact hM.elim
  cases h1 with
  | str _ hl1=>
    cases h2 with
    | int _ _=>
      refine⟨.int .i64 (Lib.indexByte s k.toNat.toUInt8),.int _ _,?_⟩
      refine(Tryd.strings_IndexByte (Sep.S s) k w).mono fun e w' h=> ?_
      obtain⟨he,rfl⟩:=h
      exact⟨he,RowKit.Below.refl _ _⟩
def vz (I:Alg) (args:List D) (hp:List HO):Option CT:=match args,hp with
  |[.v (.one (.p (.str s))),.v (.one (.p (.int .u8 k)))],[]=>(fun(s:Str) (k:Int)=>(some (.one ⟨I.hid (True),(.ret (.v (.one (.p (.int .i64 (I.hid (Lib.indexByte s k.toNat.toUInt8))))))),[]⟩):Option CT)) s k
  |_,_=>none
theorem Ye:zA Tryd.prog 92 (vz alg):=by
  intro args hp r h
  unfold vz at h
  split at h
  · cases h;exact fun hn=>zbx _ _
  · cases h
def U2:Know Tryd.prog:=⟨92,vz,Ye⟩
def U1:Know Tryd.prog:=⟨92,fun I=>zB I (vz I),zf Ye⟩
theorem zf2 (s:Str) (c:UInt8):Spc Tryd.prog 96 [.v (.one (.p (.str s))),.v (.one (.p (.str ([c]))))] [] (.ret (.v (.one (.p (.int .i64 (Lib.indexByte s c)))))) []:=by
  refine Spc.of_below ⟨_,Tryd.func96,by kernel_rfl,by kernel_rfl⟩ fun S bs w vs _ hM=> ?_
  obtain⟨v,r,rfl⟩: ∃ v r,vs=v::r:=by cases vs with|nil=>exact hM.elim|cons v r=>exact⟨v,r,rfl⟩
  obtain⟨h1,hM⟩:=hM
  obtain⟨v2,r2,rfl⟩: ∃ v r2,r=v::r2:=by cases r with|nil=>exact hM.elim|cons v r=>exact⟨v,r,rfl⟩
  obtain⟨h2,hM⟩:=hM
  obtain rfl:r2=[]:=by cases r2 with|nil=>rfl|cons v r=>exact hM.elim
  cases h1 with
  | str _ hl1=>
    cases h2 with
    | str _ _=>
      refine⟨.int .i64 (Lib.indexByte s c),.int _ _,?_⟩
      refine(Tryd.stringslite_Index_one (Sep.S s) c w).mono fun e w' h=> ?_
      obtain⟨he,rfl⟩:=h
      exact⟨he,RowKit.Below.refl _ _⟩
def Zb (I:Alg) (args:List D) (hp:List HO):Option CT:=match args,hp with
  |[.v (.one (.p (.str s))),.v (.one (.p (.str ([c]))))],[]=>(fun(s:Str) (c:UInt8)=>(some (.one ⟨I.hid (True),(.ret (.v (.one (.p (.int .i64 (I.hid (Lib.indexByte s c))))))),[]⟩):Option CT)) s c
  |_,_=>none
theorem U3:zA Tryd.prog 96 (Zb alg):=by
  intro args hp r h
  unfold Zb at h
  split at h
  · cases h;exact fun hn=>zf2 _ _
  · cases h
def zcI:Know Tryd.prog:=⟨96,Zb,U3⟩
def zcH:Know Tryd.prog:=⟨96,fun I=>zB I (Zb I),zf U3⟩
end Go.Proofs.YtknaogelmckimaaDoor
namespace Go.Proofs.YtknaogelmckimaaDoor
open Go Go.Sep Go.Ab
set_option maxRecDepth 100000
def lowK (k:Int):Int:=if 65≤k∧k≤90 then k+32 else k
def qg (k:Int):Bool:=decide (48≤k∧k≤57)
def vK (k:Int):Bool:=decide (97≤lowK k∧lowK k≤122)
def marks:Str:=[33,35,36,37,38,39,42,43,45,46,94,95,96,124,126]
def tokB (k:Int):Bool:=qg k||(vK k||decide (0≤Lib.indexByte marks k.toNat.toUInt8))
def Yl (k:Int):Bool:=decide (k=9∨32≤k∧k≠127)
def hexK (k:Int):Int:=if qg k then k - 48 else if vK k&&decide (lowK k≤102) then lowK k - 97+10 else -1
theorem zhO (n:Int) (h:0≤n∧n≤255):IntKind.u8.wrap n=n:=by
  unfold IntKind.wrap
  simp only [show IntKind.u8.signed=false by decide,show IntKind.u8.bits=8 by decide,Bool.false_and,Bool.false_eq_true,if_false]
  omega
theorem wrap64 (n:Int) (h: -9223372036854775808≤n∧n≤9223372036854775807):IntKind.i64.wrap n=n:=by
  unfold IntKind.wrap
  simp only [show IntKind.i64.signed=true by decide,show IntKind.i64.bits=64 by decide]
  split<;>simp_all<;>omega
theorem zcy {k:Int} (h:0≤k∧k≤255):0≤lowK k∧lowK k≤255:=by unfold lowK;split<;>omega
theorem zhE (k:Int):Spc Tryd.prog 70 [.v (.one (.p (.int .u8 k)))] [] (.ret (.v (.one (.p (.bool (qg k)))))) []:=by
  refine spcG zl mixed Tryd.func70 (by kernel_rfl) { keep:=some [0,2]} [] (by kernel_rfl) ?_
  intro I X hI hX
  refine zi (.br (I.ile 48 k) (.fin (.ret (.v (.one (.p (.bool (I.ile k 57)))))) []) (.fin (.ret (.v (.one (.p (.bool Bool.false))))) [])) (by kernel_rfl) ?_
  simp only [zu]
  subst hI
  simp only [nrmA,nrmB]
  unfold qg
  exact⟨fun h=>decide_eq_decide.2 (by omega),fun h=>(decide_eq_false (by omega)).symm⟩
def YQ (I:Alg) (args:List D) (hp:List HO):Option CT:=match args,hp with
  |[.v (.one (.p (.int .u8 k)))],[]=>(fun(k:Int)=>(some (.one ⟨I.hid (True),(.ret (.v (.one (.p (.bool (I.hid (qg k))))))),[]⟩):Option CT)) k
  |_,_=>none
theorem zaP:zA Tryd.prog 70 (YQ alg):=by
  intro args hp r h
  unfold YQ at h
  split at h
  · cases h;exact fun hn=>zhE _
  · cases h
def zaO:Know Tryd.prog:=⟨70,YQ,zaP⟩
def zaN:Know Tryd.prog:=⟨70,fun I=>zB I (YQ I),zf zaP⟩
theorem zhf (k:Int) (hneed:0≤k∧k≤255):Spc Tryd.prog 72 [.v (.one (.p (.int .u8 k)))] [] (.ret (.v (.one (.p (.int .u8 (lowK k)))))) []:=by
  refine spcG zl mixed Tryd.func72 (by kernel_rfl) { keep:=some [0,2]} [] (by kernel_rfl) ?_
  intro I X hI hX
  refine zi (.br (I.ile 65 k) (.br (I.ile k 90) (.need (I.inr Go.IntKind.u8 (I.add k 32)) (.fin (.ret (.v (.one (.p (.int .u8 (I.add k 32)))))) [])) (.fin (.ret (.v (.one (.p (.int .u8 k))))) [])) (.fin (.ret (.v (.one (.p (.int .u8 k))))) [])) (by kernel_rfl) ?_
  simp only [zu]
  subst hI
  simp only [nrmA,nrmB]
  unfold lowK
  (repeat' (first|refine And.intro ?_ ?_|intro _))<;>first|omega|exact True.intro|exact False.elim ‹False›|skip
def YF (I:Alg) (args:List D) (hp:List HO):Option CT:=match args,hp with
  |[.v (.one (.p (.int .u8 k)))],[]=>(fun(k:Int)=>(some (.one ⟨I.hid (0≤k∧k≤255),(.ret (.v (.one (.p (.int .u8 (I.hid (lowK k))))))),[]⟩):Option CT)) k
  |_,_=>none
theorem zab:zA Tryd.prog 72 (YF alg):=by
  intro args hp r h
  unfold YF at h
  split at h
  · cases h;exact fun hn=>zhf _ hn
  · cases h
def YE:Know Tryd.prog:=⟨72,YF,zab⟩
def YD:Know Tryd.prog:=⟨72,fun I=>zB I (YF I),zf zab⟩
theorem zf0 (k:Int) (hneed:0≤k∧k≤255):Spc Tryd.prog 71 [.v (.one (.p (.int .u8 k)))] [] (.ret (.v (.one (.p (.bool (vK k)))))) []:=by
  refine spcG zl mixed Tryd.func71 (by kernel_rfl) { keep:=some [0,2]} [YE,YD] (by kernel_rfl) ?_
  intro I X hI hX
  refine zi (let y0:=I.hid (α:=(Prop)) (And (LE.le (0:Int) k) (LE.le k (255:Int)));.need y0 (.br (I.ile 97 (I.hid (α:=Int) (lowK k))) (.need y0 (.fin (.ret (.v (.one (.p (.bool (I.ile (I.hid (α:=Int) (lowK k)) 122)))))) [])) (.fin (.ret (.v (.one (.p (.bool Bool.false))))) []))) (by kernel_rfl) ?_
  simp only [zu]
  subst hI
  simp only [nrmA,nrmB]
  unfold vK
  (repeat' (first|refine And.intro ?_ ?_|intro _))<;>first|omega|exact True.intro|exact False.elim ‹False›|skip
  all_goals first|exact decide_eq_decide.2 (by omega)|exact(decide_eq_false (by omega)).symm|exact(decide_eq_true (by omega)).symm|(rw [show(k == 127)=decide (k=127) from rfl,← decide_not];exact decide_eq_decide.2 (by omega))
def qZ (I:Alg) (args:List D) (hp:List HO):Option CT:=match args,hp with
  |[.v (.one (.p (.int .u8 k)))],[]=>(fun(k:Int)=>(some (.one ⟨I.hid (0≤k∧k≤255),(.ret (.v (.one (.p (.bool (I.hid (vK k))))))),[]⟩):Option CT)) k
  |_,_=>none
theorem UN:zA Tryd.prog 71 (qZ alg):=by
  intro args hp r h
  unfold qZ at h
  split at h
  · cases h;exact fun hn=>zf0 _ hn
  · cases h
def UM:Know Tryd.prog:=⟨71,qZ,UN⟩
def UL:Know Tryd.prog:=⟨71,fun I=>zB I (qZ I),zf UN⟩
theorem zgO (k:Int) (hneed:0≤k∧k≤255):Spc Tryd.prog 84 [.v (.one (.p (.int .u8 k)))] [] (.ret (.v (.one (.p (.bool (tokB k)))))) []:=by
  refine spcG zl mixed Tryd.func84 (by kernel_rfl) { keep:=some [0,2]} [U2,U1,zaO,zaN,UM,UL] (by kernel_rfl) ?_
  intro I X hI hX
  refine zi (.need (I.hid (α:=(Prop)) True) (.br (I.hid (α:=Bool) (qg k)) (.fin (.ret (.v (.one (.p (.bool Bool.true))))) []) (.need (I.hid (α:=(Prop)) (And (LE.le (0:Int) k) (LE.le k (255:Int)))) (.br (I.hid (α:=Bool) (vK k)) (.fin (.ret (.v (.one (.p (.bool Bool.true))))) []) (.need (I.hid (α:=(Prop)) True) (.fin (.ret (.v (.one (.p (.bool (I.ile 0 (I.hid (α:=Int) (Go.Lib.indexByte ([33,35,36,37,38,39,42,43,45,46,94,95,96,124,126]:Str) (Nat.toUInt8 (Int.toNat k)))))))))) [])))))) (by kernel_rfl) ?_
  simp only [zu]
  subst hI
  simp only [nrmA,nrmB]
  unfold tokB marks
  (repeat' (first|refine And.intro ?_ ?_|intro _))<;>first|omega|exact True.intro|exact False.elim ‹False›|skip
  all_goals simp [*]
def Yr (I:Alg) (args:List D) (hp:List HO):Option CT:=match args,hp with
  |[.v (.one (.p (.int .u8 k)))],[]=>(fun(k:Int)=>(some (.one ⟨I.hid (0≤k∧k≤255),(.ret (.v (.one (.p (.bool (I.hid (tokB k))))))),[]⟩):Option CT)) k
  |_,_=>none
theorem QC:zA Tryd.prog 84 (Yr alg):=by
  intro args hp r h
  unfold Yr at h
  split at h
  · cases h;exact fun hn=>zgO _ hn
  · cases h
def ug:Know Tryd.prog:=⟨84,Yr,QC⟩
def qA:Know Tryd.prog:=⟨84,fun I=>zB I (Yr I),zf QC⟩
theorem zd1 (k:Int):Spc Tryd.prog 37 [.v (.one (.p (.int .u8 k)))] [] (.ret (.v (.one (.p (.bool (Yl k)))))) []:=by
  refine spcG zl mixed Tryd.func37 (by kernel_rfl) { keep:=some [0,2]} [] (by kernel_rfl) ?_
  intro I X hI hX
  refine zi (.br (I.ieq k 9) (.fin (.ret (.v (.one (.p (.bool Bool.true))))) []) (.br (I.ile 32 k) (.fin (.ret (.v (.one (.p (.bool (I.bnot (I.ieq k 127))))))) []) (.fin (.ret (.v (.one (.p (.bool Bool.false))))) []))) (by kernel_rfl) ?_
  simp only [zu]
  subst hI
  simp only [nrmA,nrmB]
  unfold Yl
  (repeat' (first|refine And.intro ?_ ?_|intro _))<;>first|omega|exact True.intro|exact False.elim ‹False›|skip
  all_goals first|exact decide_eq_decide.2 (by omega)|exact(decide_eq_false (by omega)).symm|exact(decide_eq_true (by omega)).symm|(rw [show(k == 127)=decide (k=127) from rfl,← decide_not];exact decide_eq_decide.2 (by omega))
def sH (I:Alg) (args:List D) (hp:List HO):Option CT:=match args,hp with
  |[.v (.one (.p (.int .u8 k)))],[]=>(fun(k:Int)=>(some (.one ⟨I.hid (True),(.ret (.v (.one (.p (.bool (I.hid (Yl k))))))),[]⟩):Option CT)) k
  |_,_=>none
theorem X4:zA Tryd.prog 37 (sH alg):=by
  intro args hp r h
  unfold sH at h
  split at h
  · cases h;exact fun hn=>zd1 _
  · cases h
def wC:Know Tryd.prog:=⟨37,sH,X4⟩
def sG:Know Tryd.prog:=⟨37,fun I=>zB I (sH I),zf X4⟩
theorem hex_ (k:Int) (hneed:0≤k∧k≤255):Spc Tryd.prog 55 [.v (.one (.p (.int .u8 k)))] [] (.ret (.v (.one (.p (.int .i64 (hexK k)))))) []:=by
  refine spcG zl mixed Tryd.func55 (by kernel_rfl) { keep:=some [0,2]} [zaO,zaN,YE,YD,UM,UL] (by kernel_rfl) ?_
  intro I X hI hX
  refine zi (let y0:=I.hid (α:=(Prop)) (And (LE.le (0:Int) k) (LE.le k (255:Int)));let y1:=I.add (I.wrap Go.IntKind.i64 (I.sub (I.hid (α:=Int) (lowK k)) 97)) 10;.need (I.hid (α:=(Prop)) True) (.br (I.hid (α:=Bool) (qg k)) (.need (I.inr Go.IntKind.u8 (I.sub k 48)) (.fin (.ret (.v (.one (.p (.int .i64 (I.wrap Go.IntKind.i64 (I.sub k 48))))))) [])) (.need y0 (.br (I.hid (α:=Bool) (vK k)) (.need y0 (.br (I.ile (I.hid (α:=Int) (lowK k)) 102) (.need y0 (.need (I.inr Go.IntKind.u8 (I.sub (I.hid (α:=Int) (lowK k)) 97)) (.need (I.inr Go.IntKind.i64 y1) (.fin (.ret (.v (.one (.p (.int .i64 y1))))) [])))) (.fin (.ret (.v (.one (.p (.int .i64 (Neg.neg (1:Int))))))) []))) (.fin (.ret (.v (.one (.p (.int .i64 (Neg.neg (1:Int))))))) []))))) (by kernel_rfl) ?_
  simp only [zu]
  subst hI
  simp only [nrmA,nrmB]
  (repeat' (first|refine And.intro ?_ ?_|intro _))<;>first|omega|exact True.intro|exact False.elim ‹False›|skip
  all_goals first
    |(have:=of_decide_eq_true ‹qg k=true›;omega)
    |(have:=of_decide_eq_true ‹qg k=true›;unfold hexK;rw [if_pos ‹qg k=true›,wrap64 _ (by omega)])
    |(have:=of_decide_eq_true ‹vK k=true›;omega)
    |(have:=of_decide_eq_true ‹vK k=true›;rw [wrap64 _ (by omega)];omega)
    |(have:=of_decide_eq_true ‹vK k=true›;rw [wrap64 _ (by omega)];unfold hexK;simp [*])
    |(unfold hexK;simp [*])
def zam (I:Alg) (args:List D) (hp:List HO):Option CT:=match args,hp with
  |[.v (.one (.p (.int .u8 k)))],[]=>(fun(k:Int)=>(some (.one ⟨I.hid (0≤k∧k≤255),(.ret (.v (.one (.p (.int .i64 (I.hid (hexK k))))))),[]⟩):Option CT)) k
  |_,_=>none
theorem zfb:zA Tryd.prog 55 (zam alg):=by
  intro args hp r h
  unfold zam at h
  split at h
  · cases h;exact fun hn=>hex_ _ hn
  · cases h
def zfa:Know Tryd.prog:=⟨55,zam,zfb⟩
def ze9:Know Tryd.prog:=⟨55,fun I=>zB I (zam I),zf zfb⟩
end Go.Proofs.YtknaogelmckimaaDoor
namespace Go.Proofs.YtknaogelmckimaaDoor
open Go Go.Sep Go.Ab
set_option maxRecDepth 100000
def tokA (s:Str):Bool:=s.all fun c=>tokB (c.toNat:Int)
def rW (s:Str):Bool:=s.all fun c=>Yl (c.toNat:Int)
theorem wB (c:UInt8):0≤(c.toNat:Int)∧(c.toNat:Int)≤255:=by have:=c.toNat_lt;omega
theorem za1 {p:UInt8→Bool} {s:Str} {i:Nat} (h:i<s.length):(s.drop i).all p=(p (s.getD i 0)&&(s.drop (i+1)).all p):=by
  rw [List.drop_eq_getElem_cons h,List.all_cons];simp [h]
theorem zgJ (s:Str) (hneed:s.length≤1000000):Spc Tryd.prog 58 [.v (.one (.p (.str s))),.v (.one (.fn 84 []))] [] (.ret (.v (.one (.p (.bool (tokA s)))))) []:=by
  generalize hr:tokA s=r
  refine spcG zl mixed Tryd.func58 (by kernel_rfl) { keep:=some [0,1,4,5,7,8]} [ug] (by kernel_rfl) ?_
  intro I X hI hX
  refine zi (.code 0 [1,0,1,0] ⟨[(8,(.v (.one (.p (.int .i64 0))))),(7,(.v (.one (.p (.int .i64 (I.len (α:=UInt8) s)))))),(4,(.v (.one (.p (.val (.bool .false)))))),(0,(.v (.one (.p (.str s))))),(1,(.v (.one (.fn 84 []))))],[],18,none⟩) (by kernel_rfl) ?_
  simp only [zu]
  refine zL hI zl mixed [ug] hX [0,1,7,8] (fun(i:Nat)=>i≤s.length∧tokA (s.drop i)=r) (fun(i:Nat)=>⟨[(0,.v (.one (.p (.str s)))),(1,.v (.one (.fn 84 []))),(7,.v (.one (.p (.int .i64 ((I.len (α:=UInt8) s)))))),(8,.v (.one (.p (.int .i64 i))))],[],18,none⟩) (fun(i:Nat)=>s.length - i) 0 (by kernel_rfl) (by kernel_rfl) ?_ ?_
  · exact⟨Nat.zero_le _,hr⟩
  rintro i ⟨h1,h2⟩ A hA
  refine zi (let y0:=I.b2i (I.get (α:=UInt8) s 0 (Nat.cast i));.br (I.ilt (Nat.cast i) (I.len (α:=UInt8) s)) (.need (I.inb (Nat.cast i) (I.len (α:=UInt8) s)) (.need (I.hid (α:=(Prop)) (And (LE.le (0:Int) y0) (LE.le y0 (255:Int)))) (.br (I.bnot (I.hid (α:=Bool) (tokB y0))) (.fin (.ret (.v (.one (.p (.bool Bool.false))))) []) (.need (I.inr Go.IntKind.i64 (I.add (Nat.cast i) 1)) (.need (A ⟨[(0,(.v (.one (.p (.str s))))),(1,(.v (.one (.fn 84 [])))),(7,(.v (.one (.p (.int .i64 (I.len (α:=UInt8) s)))))),(8,(.v (.one (.p (.int .i64 (I.add (Nat.cast i) 1))))))],[],18,none⟩) .qed))))) (.fin (.ret (.v (.one (.p (.bool Bool.true))))) [])) (by kernel_rfl) ?_
  simp only [zu]
  subst hI
  simp only [nrmA,nrmB]
  have hb:=wB (s.getD i 0)
  have hd:i<s.length→tokA (s.drop i)=(tokB (s.getD i 0).toNat&&tokA (s.drop (i+1))):=fun h=>za1 h
  generalize s.getD i 0=x at *
  (repeat' (first|refine And.intro ?_ ?_|intro _))<;>first|omega|exact True.intro|exact False.elim ‹False›|skip
  all_goals first
    |(rw [← h2,hd (by omega)];simp [*];done)
    |(refine hA (i+1) ⟨by omega,?_⟩ (by omega);rw [← h2,hd (by omega)];simp [*];done)
    |(rw [← h2,List.drop_of_length_le (by omega)];rfl)
def Zx (I:Alg) (args:List D) (hp:List HO):Option CT:=match args,hp with
  |[.v (.one (.p (.str s))),.v (.one (.fn 84 []))],[]=>(fun(s:Str)=>(some (.one ⟨I.hid (s.length≤1000000),(.ret (.v (.one (.p (.bool (I.hid (tokA s))))))),[]⟩):Option CT)) s
  |_,_=>none
theorem SC:zA Tryd.prog 58 (Zx alg):=by
  intro args hp r h
  unfold Zx at h
  split at h
  · cases h;exact fun hn=>zgJ _ hn
  · cases h
def Zw:Know Tryd.prog:=⟨58,Zx,SC⟩
def Zv:Know Tryd.prog:=⟨58,fun I=>zB I (Zx I),zf SC⟩
theorem zeU (s:Str) (hneed:s.length≤1000000):Spc Tryd.prog 58 [.v (.one (.p (.str s))),.v (.one (.fn 37 []))] [] (.ret (.v (.one (.p (.bool (rW s)))))) []:=by
  generalize hr:rW s=r
  refine spcG zl mixed Tryd.func58 (by kernel_rfl) { keep:=some [0,1,4,5,7,8]} [wC,Zw,Zv] (by kernel_rfl) ?_
  intro I X hI hX
  refine zi (.code 0 [1,0,1,0] ⟨[(8,(.v (.one (.p (.int .i64 0))))),(7,(.v (.one (.p (.int .i64 (I.len (α:=UInt8) s)))))),(4,(.v (.one (.p (.val (.bool .false)))))),(0,(.v (.one (.p (.str s))))),(1,(.v (.one (.fn 37 []))))],[],18,none⟩) (by kernel_rfl) ?_
  simp only [zu]
  refine zL hI zl mixed [wC,Zw,Zv] hX [0,1,7,8] (fun(i:Nat)=>i≤s.length∧rW (s.drop i)=r) (fun(i:Nat)=>⟨[(0,.v (.one (.p (.str s)))),(1,.v (.one (.fn 37 []))),(7,.v (.one (.p (.int .i64 ((I.len (α:=UInt8) s)))))),(8,.v (.one (.p (.int .i64 i))))],[],18,none⟩) (fun(i:Nat)=>s.length - i) 0 (by kernel_rfl) (by kernel_rfl) ?_ ?_
  · exact⟨Nat.zero_le _,hr⟩
  rintro i ⟨h1,h2⟩ A hA
  refine zi (.br (I.ilt (Nat.cast i) (I.len (α:=UInt8) s)) (.need (I.inb (Nat.cast i) (I.len (α:=UInt8) s)) (.need (I.hid (α:=(Prop)) True) (.br (I.bnot (I.hid (α:=Bool) (Yl (I.b2i (I.get (α:=UInt8) s 0 (Nat.cast i)))))) (.fin (.ret (.v (.one (.p (.bool Bool.false))))) []) (.need (I.inr Go.IntKind.i64 (I.add (Nat.cast i) 1)) (.need (A ⟨[(0,(.v (.one (.p (.str s))))),(1,(.v (.one (.fn 37 [])))),(7,(.v (.one (.p (.int .i64 (I.len (α:=UInt8) s)))))),(8,(.v (.one (.p (.int .i64 (I.add (Nat.cast i) 1))))))],[],18,none⟩) .qed))))) (.fin (.ret (.v (.one (.p (.bool Bool.true))))) [])) (by kernel_rfl) ?_
  simp only [zu]
  subst hI
  simp only [nrmA,nrmB]
  have hb:=wB (s.getD i 0)
  have hd:i<s.length→rW (s.drop i)=(Yl (s.getD i 0).toNat&&rW (s.drop (i+1))):=fun h=>za1 h
  generalize s.getD i 0=x at *
  (repeat' (first|refine And.intro ?_ ?_|intro _))<;>first|omega|exact True.intro|exact False.elim ‹False›|skip
  all_goals first
    |(rw [← h2,hd (by omega)];simp [*];done)
    |(refine hA (i+1) ⟨by omega,?_⟩ (by omega);rw [← h2,hd (by omega)];simp [*];done)
    |(rw [← h2,List.drop_of_length_le (by omega)];rfl)
def rQ (I:Alg) (args:List D) (hp:List HO):Option CT:=match args,hp with
  |[.v (.one (.p (.str s))),.v (.one (.fn 37 []))],[]=>(fun(s:Str)=>(some (.one ⟨I.hid (s.length≤1000000),(.ret (.v (.one (.p (.bool (I.hid (rW s))))))),[]⟩):Option CT)) s
  |_,_=>none
theorem Vg:zA Tryd.prog 58 (rQ alg):=by
  intro args hp r h
  unfold rQ at h
  split at h
  · cases h;exact fun hn=>zeU _ hn
  · cases h
def Vf:Know Tryd.prog:=⟨58,rQ,Vg⟩
def Ve:Know Tryd.prog:=⟨58,fun I=>zB I (rQ I),zf Vg⟩
def Ug (s:Str):Bool:=decide (s≠[])&&tokA s
theorem zem (s:Str) (hneed:s.length≤1000000):Spc Tryd.prog 82 [.v (.one (.p (.str s)))] [] (.ret (.v (.one (.p (.bool (Ug s)))))) []:=by
  refine spcG zl mixed Tryd.func82 (by kernel_rfl) { keep:=some [0,2]} [ug,qA,Zw,Zv,Vf,Ve] (by kernel_rfl) ?_
  intro I X hI hX
  refine zi (.br (I.bnot (I.seq s ([]:Str))) (.need (I.hid (α:=(Prop)) (LE.le (List.length s) 1000000)) (.fin (.ret (.v (.one (.p (.bool (I.hid (α:=Bool) (tokA s))))))) [])) (.fin (.ret (.v (.one (.p (.bool Bool.false))))) [])) (by kernel_rfl) ?_
  simp only [zu]
  subst hI
  simp only [nrmA,nrmB]
  unfold Ug
  (repeat' (first|refine And.intro ?_ ?_|intro _))<;>first|omega|exact True.intro|exact False.elim ‹False›|skip
  all_goals simp [*]
def ru (I:Alg) (args:List D) (hp:List HO):Option CT:=match args,hp with
  |[.v (.one (.p (.str s)))],[]=>(fun(s:Str)=>(some (.one ⟨I.hid (s.length≤1000000),(.ret (.v (.one (.p (.bool (I.hid (Ug s))))))),[]⟩):Option CT)) s
  |_,_=>none
theorem WC:zA Tryd.prog 82 (ru alg):=by
  intro args hp r h
  unfold ru at h
  split at h
  · cases h;exact fun hn=>zem _ hn
  · cases h
def zbw:Know Tryd.prog:=⟨82,ru,WC⟩
def zbv:Know Tryd.prog:=⟨82,fun I=>zB I (ru I),zf WC⟩
theorem zbu (s:Str) (hneed:s.length≤1000000):Spc Tryd.prog 39 [.v (.one (.p (.str s)))] [] (.ret (.v (.one (.p (.bool (rW s)))))) []:=by
  refine spcG zl mixed Tryd.func39 (by kernel_rfl) { keep:=some [0,2]} [wC,sG,Zw,Zv,Vf,Ve] (by kernel_rfl) ?_
  intro I X hI hX
  refine zi (.need (I.hid (α:=(Prop)) (LE.le (List.length s) 1000000)) (.fin (.ret (.v (.one (.p (.bool (I.hid (α:=Bool) (rW s))))))) [])) (by kernel_rfl) ?_
  simp only [zu]
  subst hI
  simp only [nrmA,nrmB]
  exact hneed
def vk (I:Alg) (args:List D) (hp:List HO):Option CT:=match args,hp with
  |[.v (.one (.p (.str s)))],[]=>(fun(s:Str)=>(some (.one ⟨I.hid (s.length≤1000000),(.ret (.v (.one (.p (.bool (I.hid (rW s))))))),[]⟩):Option CT)) s
  |_,_=>none
theorem Yc:zA Tryd.prog 39 (vk alg):=by
  intro args hp r h
  unfold vk at h
  split at h
  · cases h;exact fun hn=>zbu _ hn
  · cases h
def tJ:Know Tryd.prog:=⟨39,vk,Yc⟩
def tH:Know Tryd.prog:=⟨39,fun I=>zB I (vk I),zf Yc⟩
theorem zic {p:Int→Prop} [∀ k,Decidable (p k)] (h: ∀ n:Fin 256,p (n.1:Int)) {k:Int} (hk:0≤k∧k≤255):p k:=by
  have:=h ⟨k.toNat,by omega⟩
  rwa [show((k.toNat:Nat):Int)=k by omega] at this
end Go.Proofs.YtknaogelmckimaaDoor
namespace Go.Proofs.YtknaogelmckimaaDoor
open Go Go.Sep Go.Ab
set_option maxRecDepth 100000
def lowC (x:UInt8):UInt8:=if 65≤x.toNat∧x.toNat≤90 then x+32 else x
def lowS (s:Str):Str:=s.map lowC
theorem xh (s:Str):(lowS s).length=s.length:=by simp [lowS]
theorem zbp (x:UInt8):((lowC x).toNat:Int)=lowK x.toNat:=by
  unfold lowC lowK
  have:=x.toNat_lt
  split
  · rw [if_pos (by omega),UInt8.toNat_add]
    simp only [show(32:UInt8).toNat=32 from rfl]
    omega
  · rw [if_neg (by omega)]
theorem zfX (x:UInt8):UInt8.ofNat (lowK x.toNat).toNat=lowC x:=by
  rw [← zbp,Int.toNat_natCast,UInt8.ofNat_toNat]
theorem zhK (s:Str):Spc Tryd.prog 40 [.v (.one (.p (.str s)))] [] (.ret (.v (.one (.p (.str (Lib.trimS s [32,9])))))) []:=by
  refine spcG zl mixed Tryd.func40 (by kernel_rfl) { keep:=some [0,2]} [zfs,zfr] (by kernel_rfl) ?_
  intro I X hI hX
  refine zi (.need (I.hid (α:=(Prop)) True) (.fin (.ret (.v (.one (.p (.str (I.hid (α:=Str) (Go.Lib.trimS s ([32,9]:Str)))))))) [])) (by kernel_rfl) ?_
  simp only [zu]
  subst hI
  simp only [nrmA,nrmB]
  try trivial
def YT (I:Alg) (args:List D) (hp:List HO):Option CT:=match args,hp with
  |[.v (.one (.p (.str s)))],[]=>(fun(s:Str)=>(some (.one ⟨I.hid (True),(.ret (.v (.one (.p (.str (I.hid (Lib.trimS s [32,9]))))))),[]⟩):Option CT)) s
  |_,_=>none
theorem zaX:zA Tryd.prog 40 (YT alg):=by
  intro args hp r h
  unfold YT at h
  split at h
  · cases h;exact fun hn=>zhK _
  · cases h
def zaW:Know Tryd.prog:=⟨40,YT,zaX⟩
def zaV:Know Tryd.prog:=⟨40,fun I=>zB I (YT I),zf zaX⟩
theorem zgG (s:Str) (hneed:s.length≤1000000):Spc Tryd.prog 64 [.v (.one (.p (.str s)))] [] (.ret (.v (.one (.p (.str (lowS s)))))) []:=by
  refine spcG zl mixed Tryd.func64 (by kernel_rfl) { keep:=some [0,2,3,4,5,8,9,10]} [YE,YD] (by kernel_rfl) ?_
  intro I X hI hX
  refine zi (.code 0 [1,1,0,1,0] ⟨[(10,(.v (.one (.p (.int .i64 0))))),(9,(.v (.one (.p (.int .i64 (I.len (α:=UInt8) s)))))),(8,(.v (.one (.row 0)))),(3,(.v (.one (.row 0)))),(2,(.v (.one (.p (.str ([]:Str)))))),(0,(.v (.one (.p (.str s)))))],[(.row .byte 5 s)],23,none⟩) (by kernel_rfl) ?_
  simp only [zu]
  refine zL hI zl mixed [YE,YD] hX [0,3,8,9,10] (fun(g:Nat × Str)=>match g with|(i,b)=>i≤s.length∧b=lowS (s.take i)++s.drop i) (fun(g:Nat × Str)=>match g with|(i,b)=>⟨[(0,.v (.one (.p (.str s)))),(3,.v (.one (.row 0))),(8,.v (.one (.row 0))),(9,.v (.one (.p (.int .i64 ((I.len (α:=UInt8) s)))))),(10,.v (.one (.p (.int .i64 i))))],[.row .byte 5 b],23,none⟩) (fun(g:Nat × Str)=>match g with|(i,b)=>s.length - i) (0,s) (by kernel_rfl) (by kernel_rfl) ?_ ?_
  · exact⟨Nat.zero_le _,rfl⟩
  rintro⟨i,b⟩ ⟨h1,h2⟩ A hA
  simp only at hA
  refine zi (let y0:=I.b2i (I.get (α:=UInt8) b 0 (Nat.cast i));let y1:=I.inb (Nat.cast i) (I.len (α:=UInt8) b);.br (I.ilt (Nat.cast i) (I.len (α:=UInt8) s)) (.need y1 (.need y1 (.need (I.hid (α:=(Prop)) (And (LE.le (0:Int) y0) (LE.le y0 (255:Int)))) (.need y1 (.need (I.inr Go.IntKind.u8 (I.hid (α:=Int) (lowK y0))) (.need y1 (.need (I.inr Go.IntKind.i64 (I.add (Nat.cast i) 1)) (.need (A ⟨[(0,(.v (.one (.p (.str s))))),(3,(.v (.one (.row 0)))),(8,(.v (.one (.row 0)))),(9,(.v (.one (.p (.int .i64 (I.len (α:=UInt8) s)))))),(10,(.v (.one (.p (.int .i64 (I.add (Nat.cast i) 1))))))],[(.row .byte 5 (I.set (α:=UInt8) b (Nat.cast i) (I.i2b (I.hid (α:=Int) (lowK y0)))))],23,none⟩) .qed)))))))) (.fin (.ret (.v (.one (.p (.str b))))) [])) (by kernel_rfl) ?_
  simp only [zu]
  subst hI
  simp only [nrmA,nrmB]
  have hlen:b.length=s.length:=by rw [h2,List.length_append,xh,List.length_take,List.length_drop];omega
  have hx:i<s.length→b.getD i 0=s.getD i 0:=fun h=>by
    rw [h2,List.getD_eq_getElem?_getD,List.getD_eq_getElem?_getD,List.getElem?_append_right (by rw [xh,List.length_take];omega),xh,List.length_take,List.getElem?_drop]
    congr 2
    omega
  have hset:i<s.length→b.set i (lowC (s.getD i 0))=lowS (s.take (i+1))++s.drop (i+1):=fun h=>by
    have e:(lowS (s.take i)).length=i:=by rw [xh,List.length_take];omega
    rw [h2,List.set_append_right _ _ (by omega),e,Nat.sub_self,List.drop_eq_getElem_cons h,List.set_cons_zero,List.take_succ_eq_append_getElem h,show s.getD i 0=s[i] by simp [h]]
    unfold lowS
    rw [List.map_append,List.append_assoc]
    rfl
  have hby:=wB (s.getD i 0)
  have hlk:=zcy hby
  refine⟨fun c=> ?_,fun c=> ?_⟩
  · rw [hx (by omega),zfX,hset (by omega)]
    exact⟨by omega,by omega,by omega,by omega,by omega,by omega,by omega,hA (i+1,_) ⟨by simp only;omega,rfl⟩ (by simp only;omega)⟩
  · rw [h2,List.drop_of_length_le (by omega),List.take_of_length_le (by omega),List.append_nil]
def Zu (I:Alg) (args:List D) (hp:List HO):Option CT:=match args,hp with
  |[.v (.one (.p (.str s)))],[]=>(fun(s:Str)=>(some (.one ⟨I.hid (s.length≤1000000),(.ret (.v (.one (.p (.str (I.hid (lowS s))))))),[]⟩):Option CT)) s
  |_,_=>none
theorem Sj:zA Tryd.prog 64 (Zu alg):=by
  intro args hp r h
  unfold Zu at h
  split at h
  · cases h;exact fun hn=>zgG _ hn
  · cases h
def xw:Know Tryd.prog:=⟨64,Zu,Sj⟩
def xu:Know Tryd.prog:=⟨64,fun I=>zB I (Zu I),zf Sj⟩
end Go.Proofs.YtknaogelmckimaaDoor
namespace Go.Proofs.YtknaogelmckimaaDoor
open Go Go.Sep Go.Ab
def ln0:Ln:=⟨[],false,0⟩
def zgQ (c:UInt8):Bool:=Yl (c.toNat:Int)
def lnF (s:Ln) (c:UInt8):Ln × Str × Bool × Int:=
  if s.code≠0 then(s,[],false,s.code)
  else if s.cr then(if c=10 then(⟨[],false,0⟩,s.b,true,0) else(⟨s.b,s.cr,2⟩,[],false,2))
  else if c=10 then(⟨s.b,s.cr,2⟩,[],false,2)
  else if c=13 then(⟨s.b,true,s.code⟩,[],false,0)
  else if zgQ c=false then(⟨s.b,s.cr,3⟩,[],false,3)
  else if s.b.length=200 then(⟨s.b,s.cr,4⟩,[],false,4)
  else(⟨s.b++[c],s.cr,s.code⟩,[],false,0)
theorem zcC (s:Ln) (c:UInt8):(lnF s c).2.1.length≤s.b.length:=by
  unfold lnF
  repeat' split
  all_goals simp
theorem zhj (s:Ln) (c:UInt8):(lnF s c).1.b.length≤s.b.length+1:=by
  unfold lnF
  repeat' split
  all_goals simp
end Go.Proofs.YtknaogelmckimaaDoor
namespace Go.Proofs.YtknaogelmckimaaDoor
open Go Go.Sep Go.Ab
set_option maxRecDepth 100000
end Go.Proofs.YtknaogelmckimaaDoor
namespace Go.Proofs.YtknaogelmckimaaDoor
open Go Go.Sep Go.Ab
set_option maxRecDepth 100000
def cutB (s:Str) (c:UInt8):Str × Str × Bool:=
  if 0≤Lib.indexByte s c then(s.take (Lib.indexByte s c).toNat,s.drop ((Lib.indexByte s c).toNat+1),true) else(s,[],false)
def yP (s:Str):Fld × Int:=
  if(cutB s 58).2.2=false then(⟨[],[]⟩,5)
  else if Ug (cutB s 58).1=false then(⟨[],[]⟩,6)
  else if 40<(cutB s 58).1.length then(⟨[],[]⟩,4)
  else if rW (cutB s 58).2.1=false then(⟨[],[]⟩,3)
  else(⟨(cutB s 58).1,Lib.trimS (cutB s 58).2.1 [32,9]⟩,0)
theorem zaQ (s:Str) (c:UInt8):(cutB s c).1.length≤s.length∧(cutB s c).2.1.length≤s.length:=by
  unfold cutB
  split
  · simp only [List.length_take,List.length_drop];omega
  · simp
theorem zgP (s:Str) (c:UInt8) (hneed:s.length≤1000000):Spc Tryd.prog 91 [.v (.one (.p (.str s))),.v (.one (.p (.str ([c]))))] [] (.ret (.tup [(.one (.p (.str ((cutB s c).1)))),(.one (.p (.str ((cutB s c).2.1)))),(.one (.p (.bool ((cutB s c).2.2))))])) []:=by
  generalize hr:cutB s c=r
  obtain⟨a,b,d⟩:=r
  refine spcG zl mixed Tryd.func91 (by kernel_rfl) { keep:=some [0,1,4,5,6,7]} [zcI,zcH] (by kernel_rfl) ?_
  intro I X hI hX
  refine zi (let y0:=I.hid (α:=Int) (Go.Lib.indexByte s c);let y1:=I.add y0 (I.len (α:=UInt8) ([c]:Str));.need (I.hid (α:=(Prop)) True) (.br (I.ile 0 y0) (.need (I.cutb 0 y0 (I.len (α:=UInt8) s)) (.need (I.inr Go.IntKind.i64 y1) (.need (I.cutb y1 (I.len (α:=UInt8) s) (I.len (α:=UInt8) s)) (.fin (.ret (.tup [(.one (.p (.str (I.cut (α:=UInt8) s 0 y0)))),(.one (.p (.str (I.cut (α:=UInt8) s y1 (I.len (α:=UInt8) s))))),(.one (.p (.bool Bool.true)))])) [])))) (.fin (.ret (.tup [(.one (.p (.str s))),(.one (.p (.str ([]:Str)))),(.one (.p (.bool Bool.false)))])) []))) (by kernel_rfl) ?_
  simp only [zu]
  subst hI
  simp only [nrmA,nrmB]
  have hx:=Yd s c
  simp only [List.length_cons,List.length_nil]
  refine⟨fun h=> ?_,fun h=> ?_⟩
  · rw [cutB,if_pos h] at hr
    simp only [Prod.mk.injEq] at hr
    obtain⟨rfl,rfl,rfl⟩:=hr
    refine⟨by omega,by omega,by omega,?_⟩
    rw [show(Lib.indexByte s c+((0+1:Nat):Int)).toNat=(Lib.indexByte s c).toNat+1 by omega]
    have e:List.take (s.length - ((Lib.indexByte s c).toNat+1)) (List.drop ((Lib.indexByte s c).toNat+1) s)=List.drop ((Lib.indexByte s c).toNat+1) s:=List.take_of_length_le (by rw [List.length_drop];exact Nat.le_refl _)
    rw [e]
  · rw [cutB,if_neg h] at hr
    simp only [Prod.mk.injEq] at hr
    obtain⟨rfl,rfl,rfl⟩:=hr
    rfl
def Yu (I:Alg) (args:List D) (hp:List HO):Option CT:=match args,hp with
  |[.v (.one (.p (.str s))),.v (.one (.p (.str ([c]))))],[]=>(fun(s:Str) (c:UInt8)=>(some (.one ⟨I.hid (s.length≤1000000),(.ret (.tup [(.one (.p (.str (I.hid ((cutB s c).1))))),(.one (.p (.str (I.hid ((cutB s c).2.1))))),(.one (.p (.bool (I.hid ((cutB s c).2.2)))))])),[]⟩):Option CT)) s c
  |_,_=>none
theorem QE:zA Tryd.prog 91 (Yu alg):=by
  intro args hp r h
  unfold Yu at h
  split at h
  · cases h;exact fun hn=>zgP _ _ hn
  · cases h
def zd5:Know Tryd.prog:=⟨91,Yu,QE⟩
def zd4:Know Tryd.prog:=⟨91,fun I=>zB I (Yu I),zf QE⟩
theorem zhT (s:Str) (c:UInt8) (hneed:s.length≤1000000):Spc Tryd.prog 81 [.v (.one (.p (.str s))),.v (.one (.p (.str ([c]))))] [] (.ret (.tup [(.one (.p (.str ((cutB s c).1)))),(.one (.p (.str ((cutB s c).2.1)))),(.one (.p (.bool ((cutB s c).2.2))))])) []:=by
  refine spcG zl mixed Tryd.func81 (by kernel_rfl) { keep:=some [0,1,4,5,6]} [zd5,zd4] (by kernel_rfl) ?_
  intro I X hI hX
  refine zi (.need (I.hid (α:=(Prop)) (LE.le (List.length s) 1000000)) (.fin (.ret (.tup [(.one (.p (.str (I.hid (α:=Str) (Prod.fst (cutB s c)))))),(.one (.p (.str (I.hid (α:=Str) (Prod.fst (Prod.snd (cutB s c))))))),(.one (.p (.bool (I.hid (α:=Bool) (Prod.snd (Prod.snd (cutB s c)))))))])) [])) (by kernel_rfl) ?_
  simp only [zu]
  subst hI
  simp only [nrmA,nrmB]
  exact hneed
def Vm (I:Alg) (args:List D) (hp:List HO):Option CT:=match args,hp with
  |[.v (.one (.p (.str s))),.v (.one (.p (.str ([c]))))],[]=>(fun(s:Str) (c:UInt8)=>(some (.one ⟨I.hid (s.length≤1000000),(.ret (.tup [(.one (.p (.str (I.hid ((cutB s c).1))))),(.one (.p (.str (I.hid ((cutB s c).2.1))))),(.one (.p (.bool (I.hid ((cutB s c).2.2)))))])),[]⟩):Option CT)) s c
  |_,_=>none
theorem zb9:zA Tryd.prog 81 (Vm alg):=by
  intro args hp r h
  unfold Vm at h
  split at h
  · cases h;exact fun hn=>zhT _ _ hn
  · cases h
def zfC:Know Tryd.prog:=⟨81,Vm,zb9⟩
def zfB:Know Tryd.prog:=⟨81,fun I=>zB I (Vm I),zf zb9⟩
theorem zgX (s:Str) (hneed:s.length≤1000000):Spc Tryd.prog 63 [.v (.one (.p (.str s)))] [] (.ret (.tup [(.agg [(.p (.str ((yP s).1.name))),(.p (.str ((yP s).1.value)))]),(.one (.p (.int .i64 ((yP s).2))))])) []:=by
  generalize hr:yP s=r
  obtain⟨⟨a,b⟩,d⟩:=r
  refine spcG zl mixed Tryd.func63 (by kernel_rfl) { keep:=some [0,2,3,4,5,6]} [zbw,zbv,tJ,tH,zaW,zaV,zfC,zfB] (by kernel_rfl) ?_
  intro I X hI hX
  refine zi (let y0:=I.hid (α:=Str) (Prod.fst (cutB s (58:UInt8)));let y1:=I.hid (α:=Str) (Prod.fst (Prod.snd (cutB s (58:UInt8))));.need (I.hid (α:=(Prop)) (LE.le (List.length s) 1000000)) (.br (I.bnot (I.hid (α:=Bool) (Prod.snd (Prod.snd (cutB s (58:UInt8)))))) (.fin (.ret (.tup [(.agg [(.p (.str ([]:Str))),(.p (.str ([]:Str)))]),(.one (.p (.int .i64 5)))])) []) (.need (I.hid (α:=(Prop)) (LE.le (List.length y0) 1000000)) (.br (I.bnot (I.hid (α:=Bool) (Ug y0))) (.fin (.ret (.tup [(.agg [(.p (.str ([]:Str))),(.p (.str ([]:Str)))]),(.one (.p (.int .i64 6)))])) []) (.br (I.ilt 40 (I.len (α:=UInt8) y0)) (.fin (.ret (.tup [(.agg [(.p (.str ([]:Str))),(.p (.str ([]:Str)))]),(.one (.p (.int .i64 4)))])) []) (.need (I.hid (α:=(Prop)) (LE.le (List.length y1) 1000000)) (.br (I.bnot (I.hid (α:=Bool) (rW y1))) (.fin (.ret (.tup [(.agg [(.p (.str ([]:Str))),(.p (.str ([]:Str)))]),(.one (.p (.int .i64 3)))])) []) (.need (I.hid (α:=(Prop)) True) (.fin (.ret (.tup [(.agg [(.p (.str y0)),(.p (.str (I.hid (α:=Str) (Go.Lib.trimS y1 ([32,9]:Str)))))]),(.one (.p (.int .i64 0)))])) []))))))))) (by kernel_rfl) ?_
  simp only [zu]
  subst hI
  simp only [nrmA,nrmB]
  have hl:=zaQ s 58
  unfold yP at hr
  (repeat' (first|refine And.intro ?_ ?_|intro _))<;>first|omega|exact True.intro|exact False.elim ‹False›|skip
  all_goals first
    |(rw [if_pos (by assumption)] at hr;cases hr;rfl)
    |(rw [if_neg (by simp [*]),if_pos (by assumption)] at hr;cases hr;rfl)
    |(rw [if_neg (by simp [*]),if_neg (by simp [*]),if_pos (by omega)] at hr;cases hr;rfl)
    |(rw [if_neg (by simp [*]),if_neg (by simp [*]),if_neg (by omega),if_pos (by assumption)] at hr;cases hr;rfl)
    |(rw [if_neg (by simp [*]),if_neg (by simp [*]),if_neg (by omega),if_neg (by simp [*])] at hr;cases hr;rfl)
def Yz (I:Alg) (args:List D) (hp:List HO):Option CT:=match args,hp with
  |[.v (.one (.p (.str s)))],[]=>(fun(s:Str)=>(some (.one ⟨I.hid (s.length≤1000000),(.ret (.tup [(.agg [(.p (.str (I.hid ((yP s).1.name)))),(.p (.str (I.hid ((yP s).1.value))))]),(.one (.p (.int .i64 (I.hid ((yP s).2)))))])),[]⟩):Option CT)) s
  |_,_=>none
theorem QT:zA Tryd.prog 63 (Yz alg):=by
  intro args hp r h
  unfold Yz at h
  split at h
  · cases h;exact fun hn=>zgX _ hn
  · cases h
def QS:Know Tryd.prog:=⟨63,Yz,QT⟩
def QO:Know Tryd.prog:=⟨63,fun I=>zB I (Yz I),zf QT⟩
end Go.Proofs.YtknaogelmckimaaDoor
namespace Go.Proofs.YtknaogelmckimaaDoor
open Go Go.Sep Go.Ab
set_option maxRecDepth 100000
end Go.Proofs.YtknaogelmckimaaDoor
namespace Go.Proofs.YtknaogelmckimaaDoor
open Go Go.Sep Go.Ab
set_option maxRecDepth 100000
end Go.Proofs.YtknaogelmckimaaDoor
namespace Go.Proofs.YtknaogelmckimaaDoor
open Go Go.Sep Go.Ab
set_option maxRecDepth 100000
def valsF (l:List Fld) (n:Str):List Str:=(l.filter fun f=>decide (lowS f.name=lowS n)).map (·.value)
theorem zia (l:List Fld) (n:Str) (hneed:l.length≤1000∧n.length≤1000000∧∀ f ∈ l,f.name.length≤1000000∧f.value.length≤1000000):Spc Tryd.prog 49 [.v (.one (.p (.list .fld l))),.v (.one (.p (.str n)))] [] (.ret (.v (.one (.row 0)))) [.row .str 9 ((valsF l n))]:=by
  refine spcG zl mixed Tryd.func49 (by kernel_rfl) { nr:=[5],keep:=some [0,1,4,5,7,8,9,10]} [xw,xu] (by kernel_rfl) ?_
  intro I X hI hX
  refine zi (.code 0 [1,1,0,1,0] ⟨[(10,(.v (.one (.p (.int .i64 0))))),(9,(.v (.one (.p (.int .i64 (I.len (α:=Fld) l)))))),(8,(.v (.one (.p (.list .fld l))))),(5,(.v (.one (.row 0)))),(4,(.v (.one .nilS))),(0,(.v (.one (.p (.list .fld l))))),(1,(.v (.one (.p (.str n)))))],[(.row .str 9 ([]:List (Str)))],27,none⟩) (by kernel_rfl) ?_
  simp only [zu]
  refine zL hI zl mixed [xw,xu] hX [0,1,5,8,9,10] (fun(g:Nat × List Str)=>match g with|(i,o)=>i≤l.length∧o=valsF (l.take i) n) (fun(g:Nat × List Str)=>match g with|(i,o)=>⟨[(0,.v (.one (.p (.list .fld l)))),(1,.v (.one (.p (.str n)))),(5,.v (.one (.row 0))),(8,.v (.one (.p (.list .fld l)))),(9,.v (.one (.p (.int .i64 ((I.len (α:=Fld) l)))))),(10,.v (.one (.p (.int .i64 i))))],[.row .str 9 o],27,none⟩) (fun(g:Nat × List Str)=>match g with|(i,o)=>l.length - i) (0,[]) (by kernel_rfl) (by kernel_rfl) ?_ ?_
  · exact⟨Nat.zero_le _,rfl⟩
  rintro⟨i,o⟩ ⟨h1,h2⟩ A hA
  simp only at hA
  refine zi (let y0:=I.get (α:=Fld) l (Fld.mk ([]:Str) ([]:Str)) (Nat.cast i);let y1:=I.inr Go.IntKind.i64 (I.add (Nat.cast i) 1);let y2:=I.inb (Nat.cast i) (I.len (α:=Fld) l);.br (I.ilt (Nat.cast i) (I.len (α:=Fld) l)) (.need y2 (.need y2 (.need (I.hid (α:=(Prop)) (LE.le (List.length (Fld.name y0)) 1000000)) (.need (I.hid (α:=(Prop)) (LE.le (List.length n) 1000000)) (.br (I.seq (I.hid (α:=Str) (lowS (Fld.name y0))) (I.hid (α:=Str) (lowS n))) (.need (I.few (I.add (I.len (α:=Str) o) (I.len (α:=Str) ([(Fld.value y0)]:List (Str)))) 100000000) (.need y1 (.need (A ⟨[(0,(.v (.one (.p (.list .fld l))))),(1,(.v (.one (.p (.str n))))),(5,(.v (.one (.row 0)))),(8,(.v (.one (.p (.list .fld l))))),(9,(.v (.one (.p (.int .i64 (I.len (α:=Fld) l)))))),(10,(.v (.one (.p (.int .i64 (I.add (Nat.cast i) 1))))))],[(.row .str 9 (I.app (α:=Str) o ([(Fld.value y0)]:List (Str))))],27,none⟩) .qed))) (.need y1 (.need (A ⟨[(0,(.v (.one (.p (.list .fld l))))),(1,(.v (.one (.p (.str n))))),(5,(.v (.one (.row 0)))),(8,(.v (.one (.p (.list .fld l))))),(9,(.v (.one (.p (.int .i64 (I.len (α:=Fld) l)))))),(10,(.v (.one (.p (.int .i64 (I.add (Nat.cast i) 1))))))],[(.row .str 9 o)],27,none⟩) .qed))))))) (.fin (.ret (.v (.one (.row 0)))) [(.row .str 9 o)])) (by kernel_rfl) ?_
  simp only [zu]
  subst hI
  simp only [nrmA,nrmB]
  have hx:i<l.length→(l.getD i ⟨[],[]⟩) ∈ l:=fun h=>by rw [show l.getD i ⟨[],[]⟩=l[i] by simp [h]];exact List.getElem_mem h
  have hs:i<l.length→valsF (l.take (i+1)) n=if lowS (l.getD i ⟨[],[]⟩).name=lowS n then o++[(l.getD i ⟨[],[]⟩).value] else o:=fun h=>by
    rw [show l.getD i ⟨[],[]⟩=l[i] by simp [h],List.take_succ_eq_append_getElem h,h2]
    unfold valsF
    rw [List.filter_append,List.map_append]
    by_cases hc:lowS l[i].name=lowS n<;>simp [hc]
  have hol:o.length≤i:=by
    rw [h2]
    unfold valsF
    rw [List.length_map]
    exact Nat.le_trans (List.length_filter_le _ _) (by rw [List.length_take];omega)
  have hn:=fun h=>hneed.2.2 _ (hx h)
  generalize l.getD i ⟨[],[]⟩=x at *
  simp only [List.length_cons,List.length_nil]
  (repeat' (first|refine And.intro ?_ ?_|intro _))<;>first|omega|exact True.intro|exact False.elim ‹False›|skip
  all_goals first
    |(have:=hn (by omega);omega)
    |exact hA (i+1,_) ⟨by simp only;omega,by simp only;rw [hs (by omega),if_pos (by assumption)]⟩ (by simp only;omega)
    |exact hA (i+1,_) ⟨by simp only;omega,by simp only;rw [hs (by omega),if_neg (by assumption)]⟩ (by simp only;omega)
    |(rw [h2,List.take_of_length_le (by omega)])
def VR (I:Alg) (args:List D) (hp:List HO):Option CT:=match args,hp with
  |[.v (.one (.p (.list .fld l))),.v (.one (.p (.str n)))],[]=>(fun(l:List Fld) (n:Str)=>(some (.one ⟨I.hid (l.length≤1000∧n.length≤1000000∧∀ f ∈ l,f.name.length≤1000000∧f.value.length≤1000000),(.ret (.v (.one (.row 0)))),[.row .str 9 (I.hid ((valsF l n)))]⟩):Option CT)) l n
  |_,_=>none
theorem zdm:zA Tryd.prog 49 (VR alg):=by
  intro args hp r h
  unfold VR at h
  split at h
  · cases h;exact fun hn=>zia _ _ hn
  · cases h
def zgz:Know Tryd.prog:=⟨49,VR,zdm⟩
def zgy:Know Tryd.prog:=⟨49,fun I=>zB I (VR I),zf zdm⟩
end Go.Proofs.YtknaogelmckimaaDoor
namespace Go.Proofs.YtknaogelmckimaaDoor
open Go Go.Sep Go.Ab
set_option maxRecDepth 100000
def oneF (l:List Str):Str × Int:=if l.length=0 then([],10) else if l.length=1 then(l.getD 0 [],0) else([],9)
theorem zh7 (l:List Fld) (n:Str) (hneed:l.length≤1000∧n.length≤1000000∧∀ f ∈ l,f.name.length≤1000000∧f.value.length≤1000000):Spc Tryd.prog 27 [.v (.one (.p (.list .fld l))),.v (.one (.p (.str n)))] [] (.ret (.tup [(.one (.p (.str ((oneF (valsF l n)).1)))),(.one (.p (.int .i64 ((oneF (valsF l n)).2))))])) []:=by
  generalize hr:oneF (valsF l n)=r
  obtain⟨a,d⟩:=r
  refine spcG zl mixed Tryd.func27 (by kernel_rfl) { keep:=some [0,1,4,5,6,11]} [zgz,zgy] (by kernel_rfl) ?_
  intro I X hI hX
  refine zi (let y0:=I.len (α:=Str) (I.hid (α:=(List (Str))) (valsF l n));.need (I.hid (α:=(Prop)) (And (LE.le (List.length l) 1000) (And (LE.le (List.length n) 1000000) (∀ (f:Fld),f ∈ l→List.length f.name≤1000000∧List.length f.value≤1000000)))) (.br (I.ieq y0 0) (.fin (.ret (.tup [(.one (.p (.str ([]:Str)))),(.one (.p (.int .i64 10)))])) []) (.br (I.ieq y0 1) (.need (I.inb 0 y0) (.need (I.inb 0 y0) (.fin (.ret (.tup [(.one (.p (.str (I.get (α:=Str) (I.hid (α:=(List (Str))) (valsF l n)) ([]:Str) 0)))),(.one (.p (.int .i64 0)))])) []))) (.fin (.ret (.tup [(.one (.p (.str ([]:Str)))),(.one (.p (.int .i64 9)))])) [])))) (by kernel_rfl) ?_
  simp only [zu]
  subst hI
  simp only [nrmA,nrmB]
  unfold oneF at hr
  (repeat' (first|refine And.intro ?_ ?_|intro _))<;>first|omega|exact True.intro|exact False.elim ‹False›|skip
  all_goals first
    |assumption
    |exact(hneed.2.2 _ (by assumption)).1
    |exact(hneed.2.2 _ (by assumption)).2
    |(rw [if_pos (by omega)] at hr;cases hr;rfl)
    |(rw [if_neg (by omega),if_pos (by omega)] at hr;cases hr;rfl)
    |(rw [if_neg (by omega),if_neg (by omega)] at hr;cases hr;rfl)
def VL (I:Alg) (args:List D) (hp:List HO):Option CT:=match args,hp with
  |[.v (.one (.p (.list .fld l))),.v (.one (.p (.str n)))],[]=>(fun(l:List Fld) (n:Str)=>(some (.one ⟨I.hid (l.length≤1000∧n.length≤1000000∧∀ f ∈ l,f.name.length≤1000000∧f.value.length≤1000000),(.ret (.tup [(.one (.p (.str (I.hid ((oneF (valsF l n)).1))))),(.one (.p (.int .i64 (I.hid ((oneF (valsF l n)).2)))))])),[]⟩):Option CT)) l n
  |_,_=>none
theorem zdh:zA Tryd.prog 27 (VL alg):=by
  intro args hp r h
  unfold VL at h
  split at h
  · cases h;exact fun hn=>zh7 _ _ hn
  · cases h
def zgv:Know Tryd.prog:=⟨27,VL,zdh⟩
def zgu:Know Tryd.prog:=⟨27,fun I=>zB I (VL I),zf zdh⟩
end Go.Proofs.YtknaogelmckimaaDoor
namespace Go.Proofs.YtknaogelmckimaaDoor
open Go Go.Sep Go.Ab
set_option maxRecDepth 100000
theorem zbZ {p:UInt8→Bool} {s:Str} {i:Nat} (h:i≤(s.takeWhile p).length):(i<s.length∧p (s.getD i 0)=true)↔i<(s.takeWhile p).length:=by
  induction s generalizing i with
  |nil=>simp
  | cons c r ih=>
    by_cases hc:p c=true
    · simp only [List.takeWhile_cons,hc,if_true,List.length_cons] at h ⊢
      cases i with
      |zero=>simp [hc]
      | succ i=>
        have:=ih (i:=i) (by omega)
        simp only [List.getD_cons_succ]
        constructor
        · rintro⟨h1,h2⟩;have:=this.1 ⟨by omega,h2⟩;omega
        · intro h1;have:=this.2 (by omega);exact⟨by omega,this.2⟩
    · simp only [List.takeWhile_cons,hc,Bool.false_eq_true,if_false,List.length_nil] at h ⊢
      have:i=0:=by omega
      subst this
      simp [hc]
theorem zfu (p:UInt8→Bool) (s:Str):s.take (s.takeWhile p).length=s.takeWhile p:=by
  induction s with
  |nil=>simp
  |cons c r ih=>by_cases hc:p c=true<;>simp [List.takeWhile_cons,hc,ih]
theorem drop_tw (p:UInt8→Bool) (s:Str):s.drop (s.takeWhile p).length=s.dropWhile p:=by
  induction s with
  |nil=>simp
  |cons c r ih=>by_cases hc:p c=true<;>simp [List.takeWhile_cons,List.dropWhile_cons,hc,ih]
theorem zgN (p:UInt8→Bool) (s:Str):(s.takeWhile p).length≤s.length:=(List.takeWhile_sublist p).length_le
theorem zhD (p:UInt8→Bool) (s:Str):(s.dropWhile p).length≤s.length:=(List.dropWhile_sublist p).length_le
def isTk (c:UInt8):Bool:=tokB (c.toNat:Int)
def tokS (s:Str):Str:=s.takeWhile isTk
def tokE (s:Str):Str:=s.dropWhile isTk
theorem xZ (s:Str):(tokS s).length≤s.length:=zgN _ _
theorem yY (s:Str):(tokE s).length≤s.length:=zhD _ _
theorem zft (s:Str):(tokS s).length+(tokE s).length=s.length:=by
  have:=congrArg List.length (List.takeWhile_append_dropWhile (p:=isTk) (l:=s))
  rw [List.length_append] at this;exact this
def skS (s:Str):Str:=Lib.trimLeftS s [32,9]
theorem yS (s:Str):(skS s).length≤s.length:=by
  unfold skS Lib.trimLeftS
  exact(List.dropWhile_sublist _).length_le
def zQ (s:Str) (c:UInt8):Bool:=s.head? == some c
theorem WG {s:Str} {c:UInt8} (h:zQ s c=true):0<s.length:=by
  cases s with
  |nil=>simp [zQ] at h
  |cons a r=>simp
theorem WH {s:Str} {c:UInt8}:zQ s c=true↔0<s.length∧s.getD 0 0=c:=by
  cases s with
  |nil=>simp [zQ]
  |cons a r=>simp [zQ]
theorem drop1 (s:Str):List.take (s.length - Int.toNat 1) (List.drop (Int.toNat 1) s)=s.drop 1:=by
  show List.take (s.length - 1) (List.drop 1 s)=s.drop 1
  exact List.take_of_length_le (by simp)
def quoF:Str→Option (Str × Str)
  |[]=>none
  |[x]=>if x=34 then some ([],[]) else none
  |x::y::r=>if x=34 then some ([],y::r) else if x=92 then(quoF r).map (fun p=>(y::p.1,p.2)) else(quoF (y::r)).map (fun p=>(x::p.1,p.2))
def quoV (s:Str):Str:=match quoF s with|some p=>p.1|none=>[]
def quoR (s:Str):Str:=match quoF s with|some p=>p.2|none=>[]
theorem Yy: ∀ (s:Str) (p:Str × Str),quoF s=some p→p.1.length+p.2.length<s.length
  |[],p,h=>by simp [quoF] at h
  | [x],p,h=>by
    simp only [quoF] at h
    split at h
    · cases h;simp
    · cases h
  | x ::y::r,p,h=>by
    simp only [quoF] at h
    split at h
    · cases h;simp
    · split at h
      · rw [Option.map_eq_some_iff] at h
        obtain⟨q,hq,rfl⟩:=h
        have:=Yy r q hq
        simp only [List.length_cons];omega
      · rw [Option.map_eq_some_iff] at h
        obtain⟨q,hq,rfl⟩:=h
        have:=Yy (y::r) q hq
        simp only [List.length_cons] at this ⊢;omega
theorem zee (s:Str):(quoR s).length≤s.length:=by
  unfold quoR
  split
  · rename_i p h;have:=Yy _ _ h;omega
  · simp
theorem zed (s:Str):(quoV s).length≤s.length:=by
  unfold quoV
  split
  · rename_i p h;have:=Yy _ _ h;omega
  · simp
def parM (s:Str):Int × Fld × Str:=
  if tokS s=[] then(5,⟨[],[]⟩,tokE s)
  else if zQ (tokE s) 61=false then(5,⟨[],[]⟩,tokE s)
  else if zQ ((tokE s).drop 1) 34=true then
    if(quoF ((tokE s).drop 2)).isSome=true then(0,⟨lowS (tokS s),quoV ((tokE s).drop 2)⟩,quoR ((tokE s).drop 2)) else(14,⟨[],[]⟩,[])
  else if tokS ((tokE s).drop 1)=[] then(5,⟨[],[]⟩,tokE ((tokE s).drop 1))
  else(0,⟨lowS (tokS s),tokS ((tokE s).drop 1)⟩,tokE ((tokE s).drop 1))
theorem Vr (s:Str):(parM s).2.2.length≤s.length∧(parM s).2.1.name.length≤s.length∧(parM s).2.1.value.length≤s.length:=by
  have h1:=yY s
  have h2:=yY ((tokE s).drop 1)
  have h3:=zee ((tokE s).drop 2)
  have h4:=zed ((tokE s).drop 2)
  have h5:=xZ s
  have h6:=xZ ((tokE s).drop 1)
  simp only [List.length_drop] at h2 h3 h4 h6
  unfold parM
  repeat' split
  all_goals simp only [List.length_nil,xh];omega
def getP (l:List Fld) (n:Str):Str × Bool:=match l.find? (fun f=>f.name == n) with|some f=>(f.value,true)|none=>([],false)
def medL:Nat→Str→List Fld→Int × List Fld × Str
  |0,s,ps=>(5,ps,s)
  | n +1,s,ps=>
    if zQ s 59=true then
      if(parM (skS (s.drop 1))).1≠0 then((parM (skS (s.drop 1))).1,ps,(parM (skS (s.drop 1))).2.2)
      else if(getP ps (parM (skS (s.drop 1))).2.1.name).2=true then(9,ps,(parM (skS (s.drop 1))).2.2)
      else if ps.length=8 then(8,ps,(parM (skS (s.drop 1))).2.2)
      else medL n (skS (parM (skS (s.drop 1))).2.2) (ps++[(parM (skS (s.drop 1))).2.1])
    else if s=[] then(0,ps,s) else(5,ps,s)
def medB (w:Str) (s:Str):Int × Med × Str:=((medL ((skS s).length+1) (skS s) []).1,⟨w,(medL ((skS s).length+1) (skS s) []).2.1⟩,(medL ((skS s).length+1) (skS s) []).2.2)
def medA (s:Str):Int × Med × Str:=
  if tokS s=[] then(5,⟨[],[]⟩,tokE s)
  else if zQ (tokE s) 47=true then
    if tokS ((tokE s).drop 1)=[] then(5,⟨[],[]⟩,tokE ((tokE s).drop 1))
    else medB (lowS (tokS s)++([47]++lowS (tokS ((tokE s).drop 1)))) (tokE ((tokE s).drop 1))
  else medB (lowS (tokS s)) (tokE s)
def yg (s:Str):Int × Med × Str:=medA (skS s)
def yO (s:Str):Med × Int:=if rW s=false then(⟨[],[]⟩,3) else if(yg s).1=0 then((yg s).2.1,0) else(⟨[],[]⟩,(yg s).1)
theorem UA (s:Str):(parM s).1=0∨(parM s).1=5∨(parM s).1=14:=by
  unfold parM
  repeat' split
  all_goals simp
end Go.Proofs.YtknaogelmckimaaDoor
namespace Go.Proofs.YtknaogelmckimaaDoor
open Go Go.Sep Go.Ab
set_option maxRecDepth 100000
theorem zhI (l:Str) (hneed:l.length≤100000000):Spc Tryd.prog 41 [.v (.one (.p (.list .byte l)))] [] (.ret (.v (.one (.row 0)))) [.row .byte 5 l]:=by
  refine spcG zl mixed Tryd.func41 (by kernel_rfl) { keep:=some [0,2]} [] (by kernel_rfl) ?_
  intro I X hI hX
  refine zi (let y0:=I.few (I.add (I.len (α:=UInt8) ([]:Str)) (I.len (α:=UInt8) l)) 140737488355328;let y1:HO:=.row .byte 5 (I.app (α:=UInt8) ([]:Str) l);.br (I.ieq (I.len (α:=UInt8) l) 0) (.both (.fin (.ret (.v (.one (.row 0)))) [(.row .byte 5 ([]:Str))]) (.need y0 (.fin (.ret (.v (.one (.row 0)))) [y1]))) (.need y0 (.fin (.ret (.v (.one (.row 0)))) [y1]))) (by kernel_rfl) ?_
  simp only [zu]
  subst hI
  dsimp only [alg]
  have h2:((([]:Str).length:Nat):Int)+((l.length:Nat):Int)≤140737488355328:=by simp;omega
  refine⟨fun h=>⟨⟨trivial,?_⟩,h2,trivial,rfl⟩,fun h=>⟨h2,trivial,rfl⟩⟩
  have:l=[]:=List.eq_nil_of_length_eq_zero (by have:=eq_of_beq h;omega)
  subst this;rfl
def YS (I:Alg) (args:List D) (hp:List HO):Option CT:=match args,hp with
  |[.v (.one (.p (.list .byte l)))],[]=>(fun(l:Str)=>(some (.one ⟨I.hid (l.length≤100000000),(.ret (.v (.one (.row 0)))),[.row .byte 5 l]⟩):Option CT)) l
  |_,_=>none
theorem zaS:zA Tryd.prog 41 (YS alg):=by
  intro args hp r h
  unfold YS at h
  split at h
  · cases h;exact fun hn=>zhI _ hn
  · cases h
def VX:Know Tryd.prog:=⟨41,YS,zaS⟩
def YR:Know Tryd.prog:=⟨41,fun I=>zB I (YS I),zf zaS⟩
theorem zbc (x y:Str):Spc Tryd.prog 25 [.v (.one (.p (.list .byte x))),.v (.one (.p (.list .byte y)))] [] (.ret (.v (.one (.p (.bool (x == y)))))) []:=by
  refine spcG zl mixed Tryd.func25 (by kernel_rfl) { keep:=some [0,1,4]} [] (by kernel_rfl) ?_
  intro I X hI hX
  refine zi (.fin (.ret (.v (.one (.p (.bool (I.seq x y)))))) []) (by kernel_rfl) ?_
  simp only [zu]
  subst hI
  exact⟨rfl,trivial⟩
def wY (I:Alg) (args:List D) (hp:List HO):Option CT:=match args,hp with
  |[.v (.one (.p (.list .byte x))),.v (.one (.p (.list .byte y)))],[]=>(fun(x y:Str)=>(some (.one ⟨I.hid (True),(.ret (.v (.one (.p (.bool (I.hid (x == y))))))),[]⟩):Option CT)) x y
  |_,_=>none
theorem Z4:zA Tryd.prog 25 (wY alg):=by
  intro args hp r h
  unfold wY at h
  split at h
  · cases h;exact fun hn=>zbc _ _
  · cases h
def uX:Know Tryd.prog:=⟨25,wY,Z4⟩
def uV:Know Tryd.prog:=⟨25,fun I=>zB I (wY I),zf Z4⟩
end Go.Proofs.YtknaogelmckimaaDoor
namespace Go.Sep.P
theorem uO {a b s:List UInt8} (ha:a<:+s) (hb:b<:+s) (h:a.length≤b.length):a<:+b:=List.suffix_of_suffix_length_le ha hb h
structure Top (m s:List UInt8) (b n:Nat):Prop where
  le:n≤b
  suf:m.take n<:+s
  top: ∀ k,k≤b→m.take k<:+s→k≤n
theorem Top.eq {m s:List UInt8} {b n n':Nat} (h:Top m s b n) (h':Top m s b n'):n=n':=
  Nat.le_antisymm (h'.top n h.le h.suf) (h.top n' h'.le h'.suf)
def wu (m s:List UInt8):Nat→Nat
  |0=>0
  |k+1=>if m.take (k+1)<:+s then k+1 else wu m s k
theorem yU (m s:List UInt8): ∀ b,Top m s b (wu m s b)
  |0=>⟨Nat.le_refl _,by simp [wu],fun k hk _=>hk⟩
  | b + 1=>by
    unfold wu
    split
    · rename_i h;exact⟨Nat.le_refl _,h,fun k hk _=>hk⟩
    · rename_i h
      have ih:=yU m s b
      refine⟨Nat.le_succ_of_le ih.le,ih.suf,fun k hk hs=> ?_⟩
      rcases Nat.lt_or_ge k (b+1) with h1|h1
      · exact ih.top k (by omega) hs
      · have:k=b+1:=by omega
        subst this;exact(h hs).elim
def held (m s:List UInt8):Nat:=wu m s (m.length - 1)
def zK (m:List UInt8) (i:Nat):Nat:=wu m (m.take i) (i - 1)
theorem wW {m:List UInt8} {i:Nat} (h:0<i):zK m i<i:=by
  have:=(yU m (m.take i) (i - 1)).le
  unfold zK;omega
def fall (m:List UInt8) (c:UInt8):Nat→Nat→Nat
  |0,n=>n
  |f+1,n=>if n=0 then 0 else if m[n]? =some c then n else fall m c f (zK m n)
theorem Zn (m:List UInt8) (c:UInt8) (f:Nat):fall m c f 0=0:=by cases f<;>simp [fall]
theorem TV (m:List UInt8) (c:UInt8): ∀ (f n:Nat),n≤f→∀ g,n≤g→fall m c f n=fall m c g n
  | 0,n,h,g,_=>by
    have:n=0:=by omega
    subst this;rw [Zn,Zn]
  | f + 1,n,h,g,hg=>by
    cases g with
    | zero=>
      have:n=0:=by omega
      subst this;rw [Zn,Zn]
    | succ g=>
      simp only [fall]
      split
      · rfl
      · split
        · rfl
        · rename_i h0 _
          have hb:=wW (m:=m) (i:=n) (by omega)
          exact TV m c f _ (by omega) g (by omega)
structure zhN (m:List UInt8) (c:UInt8) (n j:Nat):Prop where
  le:j≤n
  suf:m.take j<:+m.take n
  top: ∀ k,k≤n→m.take k<:+m.take n→m[k]? =some c→k≤j
  fits:j=0∨m[j]? =some c
theorem RU (m:List UInt8) (c:UInt8) (hm: ∀ k,k≤m.length→(m.take k).length=k): ∀ (f n:Nat),n≤f→n≤m.length→zhN m c n (fall m c f n)
  | 0,n,h,hn=>by
    have:n=0:=by omega
    subst this
    exact⟨Nat.le_refl _,List.suffix_refl _,fun k hk _ _=>hk,.inl rfl⟩
  | f + 1,n,h,hn=>by
    simp only [fall]
    split
    · rename_i h0;subst h0;exact⟨Nat.le_refl _,List.suffix_refl _,fun k hk _ _=>hk,.inl rfl⟩
    · split
      · rename_i h0 h1;exact⟨Nat.le_refl _,List.suffix_refl _,fun k hk _ _=>hk,.inr h1⟩
      · rename_i h0 h1
        have hb:=wW (m:=m) (i:=n) (by omega)
        have ht:Top m (m.take n) (n - 1) (zK m n):=yU m (m.take n) (n - 1)
        have ih:=RU m c hm f (zK m n) (by omega) (by omega)
        refine⟨by have:=ih.le;omega,ih.suf.trans ht.suf,fun k hk hs hc=> ?_,ih.fits⟩
        have hne:k≠n:=by rintro rfl;exact h1 hc
        have hkb:k≤zK m n:=ht.top k (by omega) hs
        refine ih.top k hkb (uO hs ht.suf ?_) hc
        rw [hm k (by omega),hm _ (by omega)]
        exact hkb
theorem take_len {m:List UInt8}: ∀ k,k≤m.length→(m.take k).length=k:=fun k hk=>by simp;omega
theorem uN {m s:List UInt8} {k:Nat} {c:UInt8} (hk:k<m.length):m.take (k+1)<:+s++[c]↔m.take k<:+s∧m[k]? =some c:=by
  rw [List.take_succ_eq_append_getElem hk,List.getElem?_eq_getElem hk]
  constructor
  · rintro⟨t,ht⟩
    rw [← List.append_assoc] at ht
    have:=List.append_inj' ht rfl
    exact⟨⟨t,this.1⟩,by simpa using this.2⟩
  · rintro⟨⟨t,ht⟩,hc⟩
    have hc':m[k]=c:=by simpa using hc
    exact⟨t,by rw [← List.append_assoc,ht,hc']⟩
theorem Top.step {m s:List UInt8} {b n:Nat} {c:UInt8} (h:Top m s b n) (hb:b<m.length):
    (m[fall m c n n]? =some c→Top m (s++[c]) (b+1) (fall m c n n+1))∧(m[fall m c n n]? ≠some c→Top m (s++[c]) (b+1) 0∧fall m c n n=0):=by
  have hn:n≤m.length:=by have:=h.le;omega
  have hf:=RU m c take_len n n (Nat.le_refl _) hn
  generalize fall m c n n=j at hf
  have hjl:j<m.length:=by have:=hf.le;have:=h.le;omega
  have key: ∀ k,k+1≤b+1→m.take (k+1)<:+s++[c]→k≤j∧m[k]? =some c:=by
    intro k hk hs
    obtain⟨h1,h2⟩:=(uN (by omega)).1 hs
    have h3:=h.top k (by omega) h1
    have h4:m.take k<:+m.take n:=uO h1 h.suf (by rw [take_len k (by omega),take_len n hn];exact h3)
    exact⟨hf.top k h3 h4 h2,h2⟩
  constructor
  · intro hc
    refine⟨by have:=hf.le;have:=h.le;omega,(uN hjl).2 ⟨hf.suf.trans h.suf,hc⟩,fun k hk hs=> ?_⟩
    cases k with
    |zero=>omega
    |succ k=>have:=(key k hk hs).1;omega
  · intro hc
    have hj0:j=0:=hf.fits.resolve_right hc
    subst hj0
    refine⟨⟨Nat.zero_le _,by simp,fun k hk hs=> ?_⟩,rfl⟩
    cases k with
    |zero=>omega
    | succ k=>
      obtain⟨h1,h2⟩:=key k hk hs
      have:k=0:=by omega
      subst this;exact(hc h2).elim
theorem Qk {m:List UInt8} {i:Nat} (hi:i<m.length) (h0:0<i):
    zK m (i+1)=(if m[fall m m[i] (zK m i) (zK m i)]? =some m[i] then fall m m[i] (zK m i) (zK m i)+1 else 0):=by
  have ht:=yU m (m.take i) (i - 1)
  have hs:=ht.step (c:=m[i]) (by omega)
  have e:m.take i++[m[i]]=m.take (i+1):=(List.take_succ_eq_append_getElem hi).symm
  rw [e,show i - 1+1=i by omega] at hs
  have hnew:=yU m (m.take (i+1)) (i+1 - 1)
  change Top m (m.take (i+1)) i (zK m (i+1)) at hnew
  change(m[fall m m[i] (zK m i) (zK m i)]? =some m[i]→_)∧_ at hs
  split
  · rename_i hc;exact hnew.eq (hs.1 hc)
  · rename_i hc;exact hnew.eq (hs.2 hc).1
theorem zdg {m:List UInt8} {n k j:Nat} (hj:0<j) (hk:k+j=n) (hn:n≤m.length) (h:m.take k++m.take j=m.take n):
    m.take k++m.take (j - zK m j)=m.take (k+(j - zK m j))∧m.take (k+(j - zK m j))++m.take (zK m j)=m.take n:=by
  have hb:=wW (m:=m) hj
  have ht:Top m (m.take j) (j - 1) (zK m j):=yU m (m.take j) (j - 1)
  generalize zK m j=b at hb ht
  obtain⟨t,e⟩:=ht.suf
  have hl:=congrArg List.length e
  rw [List.length_append,take_len b (by omega),take_len j (by omega)] at hl
  have e2:t=m.take (j - b):=by
    have h1:(m.take j).take t.length=t:=by rw [← e];simp
    rw [List.take_take,show min t.length j=j - b by omega] at h1
    exact h1.symm
  subst e2
  have e3:m.take n=(m.take k++m.take (j - b))++m.take b:=by rw [List.append_assoc,e,h]
  have e4:m.take (k+(j - b))=m.take k++m.take (j - b):=by
    have h1:(m.take n).take (k+(j - b))=m.take (k+(j - b)):=by rw [List.take_take,show min (k+(j - b)) n=k+(j - b) by omega]
    rw [← h1,e3]
    exact List.take_left' (by rw [List.length_append,take_len k (by omega),take_len _ (by omega)])
  exact⟨e4.symm,by rw [e4,e3]⟩
theorem TU {m:List UInt8} {c:UInt8} {j:Nat} (h0:0<j) (h:m[j]? ≠some c):fall m c j j=fall m c (zK m j) (zK m j):=by
  have hb:=wW (m:=m) h0
  cases j with
  |zero=>omega
  | succ i=>
    rw [fall,if_neg (by omega),if_neg h]
    exact TV m c _ _ (by omega) _ (Nat.le_refl _)
theorem tZ {m:List UInt8} {c:UInt8} {j:Nat} (h:j=0∨m[j]? =some c):fall m c j j=j:=by
  cases j with
  |zero=>rfl
  |succ i=>rw [fall,if_neg (by omega),if_pos (h.resolve_left (by omega))]
def feed (m:List UInt8) (n:Nat) (c:UInt8):List UInt8 × Nat × Bool:=
  let j:=fall m c n n
  let out:=m.take (n - j)
  if m[j]? =some c then(if j+1<m.length then(out,j+1,false) else(out,0,true)) else(out++[c],0,false)
end Go.Sep.P
namespace Go.Proofs.YtknaogelmckimaaDoor
open Go Go.Sep Go.Ab
set_option maxRecDepth 100000
set_option linter.unusedSimpArgs false
set_option linter.unusedVariables false
def cfgS:Cfg:= { sl:=[⟨84,0,.byte,some 5⟩,⟨84,1,.int,some 3⟩],nr:=[6]}
def xR (m:Str):List Int:=(List.range (m.length+1)).map fun i=>((P.zK m i:Nat):Int)
theorem zdE (m:Str) (i:Int) (h0:0≤i) (h:i≤m.length):(xR m).getD i.toNat 0=(P.zK m i.toNat:Nat):=by
  unfold xR
  rw [List.getD_eq_getElem?_getD,List.getElem?_map,List.getElem?_range (by omega)];rfl
theorem zdD (m:Str):(xR m).length=m.length+1:=by simp [xR]
def yh (m:Str) (n:Nat) (c:UInt8):Str × Nat × Bool:=if m=[] then([c],n,false) else P.feed m n c
theorem zh4 (m:Str) (n:Int) (bs:List Int) (k:Int) (hneed:bs=xR m∧m.length≤1000000∧0≤n∧(m=[]∨n<m.length)∧0≤k∧k≤255):Spc Tryd.prog 23 [.v (.one (.ptr 0 0)),.v (.one (.p (.int .u8 k)))] [.pack [.obj 84 [(.row 1),(.row 2),(.p (.int .i64 n))],.row .byte 5 m,.row .int 3 bs]] (.ret (.tup [(.one (.row 1)),(.one (.p (.bool ((yh m n.toNat (UInt8.ofNat k.toNat)).2.2))))])) [.pack [.obj 84 [(.row 1),(.row 2),(.p (.int .i64 (((yh m n.toNat (UInt8.ofNat k.toNat)).2.1:Int))))],.row .byte 5 m,.row .int 3 bs],.row .byte 5 ((yh m n.toNat (UInt8.ofNat k.toNat)).1)]:=by
  obtain⟨hbs,hl,hn0,hn,hk0,hk1⟩:=hneed
  generalize hr:yh m n.toNat (UInt8.ofNat k.toNat)=r
  obtain⟨out,n',fd⟩:=r
  refine spcG zl mixed Tryd.func23 (by kernel_rfl) { cfgS with keep:=some [0,1,4,5,6,7]} [] (by kernel_rfl) ?_
  intro I X hI hX
  refine zi (let y0:HO:=.obj 84 [(.row 1),(.row 2),(.p (.int .i64 n))];.br (I.ieq (I.len (α:=UInt8) m) 0) (.need (I.inr Go.IntKind.u8 k) (.fin (.ret (.tup [(.one (.row 1)),(.one (.p (.bool Bool.false)))])) [(.pack [y0,(.row .byte 5 m),(.row .int 3 bs)]),(.row .byte 5 ([(I.i2b k)]:Str))])) (.code 0 [1,1,1,0,0] ⟨[(6,(.v (.one (.row 3)))),(5,(.v (.one (.p (.val (.bool .false)))))),(4,(.v (.one .nilS))),(0,(.v (.one (.ptr 0 0)))),(1,(.v (.one (.p (.int .u8 k)))))],[y0,(.row .byte 5 m),(.row .int 3 bs),(.row .byte 5 ([]:Str))],100,none⟩)) (by kernel_rfl) ?_
  simp only [zu]
  refine⟨fun h=> ?_,fun h=> ?_⟩
  · subst hI
    simp only [nrmA,nrmB] at h
    have:m=[]:=List.eq_nil_of_length_eq_zero (by omega)
    subst this
    simp only [yh,if_true,Prod.mk.injEq] at hr
    obtain⟨rfl,rfl,rfl⟩:=hr
    simp only [nrmA,nrmB]
    refine⟨⟨hk0,hk1⟩,?_⟩
    rw [Int.toNat_of_nonneg hn0]
  have hm:m≠[]:=by
    subst hI
    simp only [nrmA,nrmB] at h
    rintro rfl;simp at h
  have hm0:0<m.length:=by cases m<;>simp_all
  have hn:n<m.length:=hn.resolve_left hm
  simp only [yh,if_neg hm] at hr
  refine zL hI zl mixed [YR] hX [0,1,6] (fun(p:Nat × Str)=>p.1≤n.toNat∧p.2.length+p.1=n.toNat∧P.fall m (UInt8.ofNat k.toNat) p.1 p.1=P.fall m (UInt8.ofNat k.toNat) n.toNat n.toNat∧p.2++m.take p.1=m.take n.toNat∧p.2=m.take p.2.length)
    (fun p=>⟨[(0,.v (.one (.ptr 0 0))),(1,.v (.one (.p (.int .u8 k)))),(6,.v (.one (.row 1)))],[.pack [.obj 84 [.row 1,.row 2,.p (.int .i64 p.1)],.row .byte 5 m,.row .int 3 bs],.row .byte 5 p.2],100,none⟩) (fun p=>p.1) (n.toNat,[])
    (by kernel_rfl) ?_ ⟨Nat.le_refl _,by simp,rfl,by simp,by simp⟩ ?_
  · simp only [Int.toNat_of_nonneg hn0];kernel_rfl
  rintro⟨j,o⟩ ⟨hjn,hoj,hfall,hcat,hpre⟩ A hA
  simp only at hjn hoj hfall hcat hpre
  refine zi (let y0:=I.inb (Nat.cast j) (I.len (α:=UInt8) m);let y1:=I.sub (Nat.cast j) (I.get (α:=Int) bs 0 (Nat.cast j));let y2:=I.bnot (I.ieq (I.b2i (I.get (α:=UInt8) m 0 (Nat.cast j))) k);let y3:HO:=.pack [(.obj 84 [(.row 1),(.row 2),(.p (.int .i64 (I.add (Nat.cast j) 1)))]),(.row .byte 5 m),(.row .int 3 bs)];let y4:HO:=.pack [(.obj 84 [(.row 1),(.row 2),(.p (.int .i64 (Nat.cast j)))]),(.row .byte 5 m),(.row .int 3 bs)];let y5:=I.few (I.add (I.len (α:=UInt8) o) (I.len (α:=UInt8) ([(I.i2b k)]:Str))) 140737488355328;let y6:HO:=.pack [(.obj 84 [(.row 1),(.row 2),(.p (.int .i64 0))]),(.row .byte 5 m),(.row .int 3 bs)];let y7:HO:=.row .byte 5 (I.app (α:=UInt8) o ([(I.i2b k)]:Str));let y8:=I.ilt (I.add (Nat.cast j) 1) (I.len (α:=UInt8) m);let y9:=I.inr Go.IntKind.i64 (I.add (Nat.cast j) 1);let y10:=I.inb (Nat.cast j) (I.len (α:=Int) bs);.br (I.ilt 0 (Nat.cast j)) (.need y0 (.need y0 (.br y2 (.need y10 (.need y10 (.need (I.inr Go.IntKind.i64 y1) (.need (I.cutb 0 y1 (I.len (α:=UInt8) m)) (.need (I.few (I.add (I.len (α:=UInt8) o) (I.len (α:=UInt8) (I.cut (α:=UInt8) m 0 y1))) 140737488355328) (.need (A ⟨[(0,(.v (.one (.ptr 0 0)))),(1,(.v (.one (.p (.int .u8 k))))),(6,(.v (.one (.row 1))))],[(.pack [(.obj 84 [(.row 1),(.row 2),(.p (.int .i64 (I.get (α:=Int) bs 0 (Nat.cast j))))]),(.row .byte 5 m),(.row .int 3 bs)]),(.row .byte 5 (I.app (α:=UInt8) o (I.cut (α:=UInt8) m 0 y1)))],100,none⟩) .qed)))))) (.need y0 (.need y0 (.br y2 (.need (I.inr Go.IntKind.u8 k) (.need y5 (.fin (.ret (.tup [(.one (.row 1)),(.one (.p (.bool Bool.false)))])) [y4,y7]))) (.need y9 (.br y8 (.fin (.ret (.tup [(.one (.row 1)),(.one (.p (.bool Bool.false)))])) [y3,(.row .byte 5 o)]) (.fin (.ret (.tup [(.one (.row 1)),(.one (.p (.bool Bool.true)))])) [y6,(.row .byte 5 o)]))))))))) (.need y0 (.need y0 (.br y2 (.need (I.inr Go.IntKind.u8 k) (.need y5 (.fin (.ret (.tup [(.one (.row 1)),(.one (.p (.bool Bool.false)))])) [y4,y7]))) (.need y9 (.br y8 (.fin (.ret (.tup [(.one (.row 1)),(.one (.p (.bool Bool.false)))])) [y3,(.row .byte 5 o)]) (.fin (.ret (.tup [(.one (.row 1)),(.one (.p (.bool Bool.true)))])) [y6,(.row .byte 5 o)]))))))) (by kernel_rfl) ?_
  simp only [zu]
  subst hI hbs
  simp only [nrmA,nrmB]
  have hb:=zdE m j (by omega) (by omega)
  simp only [Int.toNat_natCast] at hb
  have hbl:0<j→P.zK m j<j:=P.wW
  have hj:j<m.length:=by omega
  have hge:m.getD j 0=m[j]:=by simp [hj]
  rw [hb,zdD,hge]
  have hcc:(m[j].toNat:Int)=k↔m[j]? =some (UInt8.ofNat k.toNat):=by
    rw [List.getElem?_eq_getElem hj,Option.some.injEq,← UInt8.toNat_inj,UInt8.toNat_ofNat']
    omega
  simp only [hcc]
  have hfeed:=hr
  simp only [P.feed] at hfeed
  rw [← hfall] at hfeed
  refine⟨fun h0=>⟨by omega,by omega,fun hne=>⟨by omega,by omega,by omega,by omega,by simp only [List.length_take];omega,?_⟩,fun heq=>⟨by omega,by omega,fun hne=>(hne heq).elim,fun _=>⟨by omega,fun hlt=> ?_,fun hlt=> ?_⟩⟩⟩,fun h0=>⟨by omega,by omega,fun hne=> ?_,fun heq=>⟨by omega,fun hlt=> ?_,fun hlt=> ?_⟩⟩⟩
  · obtain⟨h1,h2⟩:=P.zdg (m:=m) (n:=n.toNat) (k:=o.length) (j:=j) (by omega) (by omega) (by omega) (by rw [← hpre];exact hcat)
    have hx:(↑j - ↑(P.zK m j):Int).toNat=j - P.zK m j:=by omega
    have hbj:=hbl (by omega)
    rw [hx]
    refine hA (P.zK m j,o++m.take (j - P.zK m j)) ⟨by simp only;omega,?_,?_,?_,?_⟩ hbj
    · simp only [List.length_append,List.length_take];omega
    · rw [← hfall];exact(P.TU (by omega) hne).symm
    · simp only;rw [← h2,← h1,← hpre]
    · have:(o++m.take (j - P.zK m j)).length=o.length+(j - P.zK m j):=by simp only [List.length_append,List.length_take];omega
      simp only;rw [this,← h1,← hpre]
  · have hstop:=P.tZ (c:=UInt8.ofNat k.toNat) (.inr heq)
    rw [hstop,if_pos heq,if_pos (by omega)] at hfeed
    simp only [Prod.mk.injEq] at hfeed
    obtain⟨rfl,rfl,rfl⟩:=hfeed
    rw [show n.toNat - j=o.length by omega,← hpre]
    exact⟨rfl,rfl⟩
  · have hstop:=P.tZ (c:=UInt8.ofNat k.toNat) (.inr heq)
    rw [hstop,if_pos heq,if_neg (by omega)] at hfeed
    simp only [Prod.mk.injEq] at hfeed
    obtain⟨rfl,rfl,rfl⟩:=hfeed
    rw [show n.toNat - j=o.length by omega,← hpre]
    exact⟨rfl,rfl⟩
  all_goals
    have hj0:j=0:=by omega
    subst hj0
    have hstop:=P.tZ (m:=m) (c:=UInt8.ofNat k.toNat) (j:=0) (.inl rfl)
    rw [hstop] at hfeed
    rw [show n.toNat=o.length by omega,Nat.sub_zero,← hpre] at hfeed
  · rw [if_neg hne] at hfeed
    simp only [Prod.mk.injEq] at hfeed
    obtain⟨rfl,rfl,rfl⟩:=hfeed
    exact⟨⟨hk0,hk1⟩,by simp only [List.length_cons,List.length_nil];omega,rfl,rfl⟩
  · rw [if_pos heq,if_pos (by omega)] at hfeed
    simp only [Prod.mk.injEq] at hfeed
    obtain⟨rfl,rfl,rfl⟩:=hfeed
    exact⟨rfl,rfl⟩
  · rw [if_pos heq,if_neg (by omega)] at hfeed
    simp only [Prod.mk.injEq] at hfeed
    obtain⟨rfl,rfl,rfl⟩:=hfeed
    exact⟨rfl,rfl⟩
def VK (I:Alg) (args:List D) (hp:List HO):Option CT:=match args,hp with
  |[.v (.one (.ptr 0 0)),.v (.one (.p (.int .u8 k)))],[.pack [.obj 84 [(.row 1),(.row 2),(.p (.int .i64 n))],.row .byte 5 m,.row .int 3 bs]]=>(fun(m:Str) (n:Int) (bs:List Int) (k:Int)=>(some (.one ⟨I.hid (bs=xR m∧m.length≤1000000∧0≤n∧(m=[]∨n<m.length)∧0≤k∧k≤255),(.ret (.tup [(.one (.row 1)),(.one (.p (.bool (I.hid ((yh m n.toNat (UInt8.ofNat k.toNat)).2.2)))))])),[.pack [.obj 84 [(.row 1),(.row 2),(.p (.int .i64 (I.hid (((yh m n.toNat (UInt8.ofNat k.toNat)).2.1:Int)))))],.row .byte 5 m,.row .int 3 bs],.row .byte 5 (I.hid ((yh m n.toNat (UInt8.ofNat k.toNat)).1))]⟩):Option CT)) m n bs k
  |_,_=>none
theorem zde:zA Tryd.prog 23 (VK alg):=by
  intro args hp r h
  unfold VK at h
  split at h
  · cases h;exact fun hn=>zh4 _ _ _ _ hn
  · cases h
def ZO:Know Tryd.prog:=⟨23,VK,zde⟩
def ZN:Know Tryd.prog:=⟨23,fun I=>zB I (VK I),zf zde⟩
def yJ (m:Str) (i:Nat):List Int:=(List.range (m.length+1)).map fun q=>if q<i then((P.zK m q:Nat):Int) else 0
theorem Qj (m:Str) (i:Nat) (h:m.length<i):yJ m i=xR m:=by
  unfold yJ xR
  refine List.map_congr_left fun q hq=> ?_
  rw [if_pos (by have:=List.mem_range.1 hq;omega)]
theorem Qe (m:Str):yJ m 2=List.replicate (m.length+1) 0:=by
  unfold yJ
  refine List.ext_getElem (by simp) fun q h1 h2=> ?_
  simp only [List.getElem_map,List.getElem_range,List.getElem_replicate]
  split
  · have:q=0∨q=1:=by omega
    rcases this with rfl|rfl
    · simp [P.zK,P.wu]
    · simp [P.zK,P.wu]
  · rfl
theorem Qh (m:Str) (i:Nat):(yJ m i).length=m.length+1:=by simp [yJ]
theorem Qi (m:Str) (i q:Nat) (h:q<i) (hm:q≤m.length):(yJ m i).getD q 0=(P.zK m q:Nat):=by
  unfold yJ
  rw [List.getD_eq_getElem?_getD,List.getElem?_map,List.getElem?_range (by omega)]
  simp [h]
theorem Qg (m:Str) (i:Nat):(yJ m i).set i ((P.zK m i:Nat):Int)=yJ m (i+1):=by
  unfold yJ
  refine List.ext_getElem (by simp) fun q h1 h2=> ?_
  simp only [List.getElem_set,List.getElem_map,List.getElem_range]
  by_cases h:i=q
  · subst h;simp
  · rw [if_neg h]
    by_cases hq:q<i
    · rw [if_pos hq,if_pos (by omega)]
    · rw [if_neg hq,if_neg (by omega)]
theorem new_ (m:Str) (hneed:m.length≤999999):Spc Tryd.prog 22 [.v (.one (.p (.list .byte m)))] [] (.ret (.v (.one (.ptr 0 0)))) [.pack [.obj 84 [(.row 1),(.row 2),(.p (.int .i64 0))],.row .byte 5 m,.row .int 3 ((xR m))]]:=by
  refine spcG zl mixed Tryd.func22 (by kernel_rfl) { cfgS with seam:=[2],keep:=some [0,2,3,4,5]} [VX,YR] (by kernel_rfl) ?_
  intro I X hI hX
  refine zi (let y0:=I.same (α:=Int) (I.add (I.len (α:=UInt8) m) 1) (I.add (I.len (α:=UInt8) m) 1);let y1:HO:=.row .int 3 (I.rep (α:=Int) (I.add (I.len (α:=UInt8) m) 1) 0);let y2:=I.hid (α:=(Prop)) (LE.le (List.length m) 100000000);let y3:=I.few (I.add (I.len (α:=UInt8) m) 1) 1000000;let y4:=I.nng (I.add (I.len (α:=UInt8) m) 1);.need (I.inr Go.IntKind.i64 (I.add (I.len (α:=UInt8) m) 1)) (.both (.need y2 (.need y0 (.need y4 (.need y3 (.code 0 [1,1,0] ⟨[(3,(.v (.one (.ptr 2 0)))),(2,(.v (.one (.p (.val (.pointer .none)))))),(0,(.v (.one (.p (.list .byte m)))))],[(.row .byte 5 m),y1,(.obj 84 [(.row 0),(.row 1),(.p (.int .i64 0))])],60,none⟩))))) (.need y0 (.need y4 (.need y3 (.need y2 (.code 0 [1,1,0] ⟨[(3,(.v (.one (.ptr 2 0)))),(2,(.v (.one (.p (.val (.pointer .none)))))),(0,(.v (.one (.p (.list .byte m)))))],[y1,(.row .byte 5 m),(.obj 84 [(.row 1),(.row 0),(.p (.int .i64 0))])],60,none⟩))))))) (by kernel_rfl) ?_
  simp only [zu]
  refine⟨?n1,⟨?n2,?n3,?n4,?n5,seam hI zl mixed [] hX [0,3] ⟨[(0,.v (.one (.p (.list .byte m)))),(3,.v (.one (.ptr 0 0)))],[.pack [.obj 84 [(.row 1),(.row 2),(.p (.int .i64 0))],.row .byte 5 m,.row .int 3 ((I.rep (α:=Int) (I.add (I.len (α:=UInt8) m) 1) (0:Int)))]],60,none⟩ (by kernel_rfl) ?on⟩,?n3,?n4,?n5,?n2,seam hI zl mixed [] hX [0,3] _ (by kernel_rfl) ?on⟩
  case on=>
    have hrep:(I.rep (α:=Int) (I.add (I.len (α:=UInt8) m) 1) (0:Int))=yJ m 2:=by
      subst hI
      simp only [nrmA,nrmB]
      rw [Qe];rfl
    rw [hrep]
    generalize hb2:yJ m 2=b2
    refine zi (.code 0 [1,1,1,0,1,0] ⟨[(5,(.v (.one (.p (.int .i64 1))))),(4,(.v (.one (.p (.int .i64 0))))),(0,(.v (.one (.p (.list .byte m))))),(3,(.v (.one (.ptr 0 0))))],[(.pack [(.obj 84 [(.row 1),(.row 2),(.p (.int .i64 0))]),(.row .byte 5 m),(.row .int 3 b2)])],60,none⟩) (by kernel_rfl) ?_
    simp only [zu]
    refine zL hI zl mixed [VX,YR] hX [0,3,5,4] (fun(g:Nat × Nat × List Int)=>match g with|(i,k,bs)=>1≤i∧(i≤m.length∨i=1)∧k=P.zK m i∧bs=yJ m (i+1)) (fun(g:Nat × Nat × List Int)=>match g with|(i,k,bs)=>⟨[(0,.v (.one (.p (.list .byte m)))),(3,.v (.one (.ptr 0 0))),(5,.v (.one (.p (.int .i64 i)))),(4,.v (.one (.p (.int .i64 k))))],[.pack [.obj 84 [(.row 1),(.row 2),(.p (.int .i64 0))],.row .byte 5 m,.row .int 3 bs]],60,none⟩) (fun(g:Nat × Nat × List Int)=>match g with|(i,k,bs)=>m.length - i) (1,0,b2) (by kernel_rfl) (by kernel_rfl) ?_ ?_
    · exact⟨Nat.le_refl _,.inr rfl,by simp [P.zK,P.wu],hb2.symm⟩
    rintro⟨i,k,bs⟩ ⟨hi,him,rfl,hbs⟩ A hA
    simp only at hA
    generalize hk:P.zK m i=k at hA
    refine zi (let y0:HO:=.pack [(.obj 84 [(.row 1),(.row 2),(.p (.int .i64 0))]),(.row .byte 5 m),(.row .int 3 bs)];.br (I.ilt (Nat.cast i) (I.len (α:=UInt8) m)) (.code 0 [1,0,0,0,0] ⟨[(0,(.v (.one (.p (.list .byte m))))),(3,(.v (.one (.ptr 0 0)))),(5,(.v (.one (.p (.int .i64 (Nat.cast i)))))),(4,(.v (.one (.p (.int .i64 (Nat.cast k))))))],[y0],60,none⟩) (.fin (.ret (.v (.one (.ptr 0 0)))) [y0])) (by kernel_rfl) ?_
    simp only [zu]
    refine⟨fun hlt=> ?_,fun hlt=> ?_⟩
    · refine zL hI zl mixed [VX,YR] hX [0,3,5,4] (fun(q:Nat)=>q≤k∧P.fall m (m.getD i 0) q q=P.fall m (m.getD i 0) k k) (fun(q:Nat)=>⟨[(0,.v (.one (.p (.list .byte m)))),(3,.v (.one (.ptr 0 0))),(5,.v (.one (.p (.int .i64 i)))),(4,.v (.one (.p (.int .i64 q))))],[.pack [.obj 84 [(.row 1),(.row 2),(.p (.int .i64 0))],.row .byte 5 m,.row .int 3 bs]],60,none⟩) (fun(q:Nat)=>q) k (by kernel_rfl) (by kernel_rfl) ?_ ?_
      · exact⟨Nat.le_refl _,rfl⟩
      rintro q ⟨hq,hfall⟩ B hB
      refine zi (let y0:=I.inb (I.add (Nat.cast i) 1) (I.len (α:=Int) bs);let y1:=I.inr Go.IntKind.i64 (I.add (Nat.cast i) 1);let y2:=I.inb (Nat.cast i) (I.len (α:=UInt8) m);let y3:=I.inb (Nat.cast q) (I.len (α:=UInt8) m);let y4:=I.ieq (I.b2i (I.get (α:=UInt8) m 0 (Nat.cast i))) (I.b2i (I.get (α:=UInt8) m 0 (Nat.cast q)));let y5:HO:=.obj 84 [(.row 1),(.row 2),(.p (.int .i64 0))];let y6:HO:=.pack [y5,(.row .byte 5 m),(.row .int 3 (I.set (α:=Int) bs (I.add (Nat.cast i) 1) (I.add (Nat.cast q) 1)))];let y7:HO:=.pack [y5,(.row .byte 5 m),(.row .int 3 (I.set (α:=Int) bs (I.add (Nat.cast i) 1) (Nat.cast q)))];let y8:=I.inr Go.IntKind.i64 (I.add (Nat.cast q) 1);let y9:=I.inb (Nat.cast q) (I.len (α:=Int) bs);.br (I.ilt 0 (Nat.cast q)) (.need y2 (.need y2 (.need y3 (.need y3 (.br (I.bnot y4) (.need y9 (.need y9 (.need (B ⟨[(0,(.v (.one (.p (.list .byte m))))),(3,(.v (.one (.ptr 0 0)))),(5,(.v (.one (.p (.int .i64 (Nat.cast i)))))),(4,(.v (.one (.p (.int .i64 (I.get (α:=Int) bs 0 (Nat.cast q)))))))],[(.pack [y5,(.row .byte 5 m),(.row .int 3 bs)])],60,none⟩) .qed))) (.need y2 (.need y2 (.need y3 (.need y3 (.br y4 (.need y8 (.need y1 (.need y0 (.need y0 (.need y1 (.need (A ⟨[(0,(.v (.one (.p (.list .byte m))))),(3,(.v (.one (.ptr 0 0)))),(5,(.v (.one (.p (.int .i64 (I.add (Nat.cast i) 1)))))),(4,(.v (.one (.p (.int .i64 (I.add (Nat.cast q) 1))))))],[y6],60,none⟩) .qed)))))) (.need y1 (.need y0 (.need y0 (.need y1 (.need (A ⟨[(0,(.v (.one (.p (.list .byte m))))),(3,(.v (.one (.ptr 0 0)))),(5,(.v (.one (.p (.int .i64 (I.add (Nat.cast i) 1)))))),(4,(.v (.one (.p (.int .i64 (Nat.cast q))))))],[y7],60,none⟩) .qed))))))))))))))) (.need y2 (.need y2 (.need y3 (.need y3 (.br y4 (.need y8 (.need y1 (.need y0 (.need y0 (.need y1 (.need (A ⟨[(0,(.v (.one (.p (.list .byte m))))),(3,(.v (.one (.ptr 0 0)))),(5,(.v (.one (.p (.int .i64 (I.add (Nat.cast i) 1)))))),(4,(.v (.one (.p (.int .i64 (I.add (Nat.cast q) 1))))))],[y6],60,none⟩) .qed)))))) (.need y1 (.need y0 (.need y0 (.need y1 (.need (A ⟨[(0,(.v (.one (.p (.list .byte m))))),(3,(.v (.one (.ptr 0 0)))),(5,(.v (.one (.p (.int .i64 (I.add (Nat.cast i) 1)))))),(4,(.v (.one (.p (.int .i64 (Nat.cast q))))))],[y7],60,none⟩) .qed))))))))))) (by kernel_rfl) ?_
      simp only [zu]
      subst hI hbs
      simp only [nrmA,nrmB] at hlt
      have hil:i<m.length:=by omega
      have hkl:k<i:=by rw [← hk];exact P.wW (by omega)
      have hql:q<m.length:=by omega
      have hst:=P.Qk hil (by omega)
      have hgi:m.getD i 0=m[i]:=by simp [hil]
      have hgq:m.getD q 0=m[q]:=by simp [hql]
      have hg0:=Qi m (i+1) q (by omega) (by omega)
      have hbl:0<q→P.zK m q<q:=P.wW
      rw [hk] at hst
      rw [hgi] at hfall
      rw [← hfall] at hst
      simp only [nrmA,nrmB]
      rw [hgi,hgq,Qh,hg0,show((i:Int)+1).toNat=i+1 by omega]
      have hset:=Qg m (i+1)
      have hcc:m[i]=m[q]↔m[q]? =some m[i]:=by rw [List.getElem?_eq_getElem hql];simp [eq_comm]
      have hA1:(q=0∨m[i]=m[q])→m[i]=m[q]→A ⟨[(0,.v (.one (.p (.list .byte m)))),(3,.v (.one (.ptr 0 0))),(5,.v (.one (.p (.int .i64 ((i:Int)+1))))),(4,.v (.one (.p (.int .i64 ((q:Int)+1)))))],[.pack [.obj 84 [(.row 1),(.row 2),(.p (.int .i64 0))],.row .byte 5 m,.row .int 3 (((yJ m (i+1)).set (i+1) ((q:Int)+1)))]],60,none⟩:=by
        intro h1 h2
        rw [P.tZ (by rw [← hcc];exact h1),if_pos (hcc.1 h2)] at hst
        have:=hA (i+1,q+1,yJ m (i+2)) ⟨by omega,by omega,hst.symm,rfl⟩ (by simp only;omega)
        rw [hst] at hset
        rw [← hset] at this
        exact this
      have hA2:(q=0∨m[i]=m[q])→¬m[i]=m[q]→A ⟨[(0,.v (.one (.p (.list .byte m)))),(3,.v (.one (.ptr 0 0))),(5,.v (.one (.p (.int .i64 ((i:Int)+1))))),(4,.v (.one (.p (.int .i64 q))))],[.pack [.obj 84 [(.row 1),(.row 2),(.p (.int .i64 0))],.row .byte 5 m,.row .int 3 (((yJ m (i+1)).set (i+1) (q:Int)))]],60,none⟩:=by
        intro h1 h2
        obtain rfl:q=0:=h1.resolve_right h2
        rw [P.tZ (.inl rfl),if_neg (fun h=>h2 (hcc.2 h))] at hst
        have:=hA (i+1,0,yJ m (i+2)) ⟨by omega,by omega,hst.symm,rfl⟩ (by simp only;omega)
        rw [hst] at hset
        rw [← hset] at this
        exact this
      (repeat' (first|refine And.intro ?_ ?_|intro _))<;>first|omega|exact True.intro|exact False.elim ‹False›|skip
      · refine hB (P.zK m q) ⟨by have:=hbl (by omega);omega,?_⟩ (hbl (by omega))
        rw [hgi,← P.TU (by omega) (fun h=>‹¬m[i]=m[q]› (hcc.2 h)),hfall]
      · exact hA1 (.inr ‹_›) ‹_›
      · exact hA2 (.inr ‹_›) ‹_›
      · exact hA1 (.inl (by omega)) ‹_›
      · exact hA2 (.inl (by omega)) ‹_›
    · subst hI hbs
      simp only [nrmA,nrmB] at hlt
      rw [Qj m _ (by omega)]
      exact⟨trivial,rfl⟩
  all_goals subst hI;simp only [nrmA,nrmB];try omega
def Q5 (I:Alg) (args:List D) (hp:List HO):Option CT:=match args,hp with
  |[.v (.one (.p (.list .byte m)))],[]=>(fun(m:Str)=>(some (.one ⟨I.hid (m.length≤999999),(.ret (.v (.one (.ptr 0 0)))),[.pack [.obj 84 [(.row 1),(.row 2),(.p (.int .i64 0))],.row .byte 5 m,.row .int 3 (I.hid ((xR m)))]]⟩):Option CT)) m
  |_,_=>none
theorem ze7:zA Tryd.prog 22 (Q5 alg):=by
  intro args hp r h
  unfold Q5 at h
  split at h
  · cases h;exact fun hn=>new_ _ hn
  · cases h
def ze6:Know Tryd.prog:=⟨22,Q5,ze7⟩
def ze5:Know Tryd.prog:=⟨22,fun I=>zB I (Q5 I),zf ze7⟩
end Go.Proofs.YtknaogelmckimaaDoor
namespace Go.Proofs.YtknaogelmckimaaDoor
open Go Go.Sep Go.Ab
def yT (s:Str):Bool:= !decide (70<s.length)&&(rW s&&(decide (Lib.trimS s [32,9]=s)&&decide (s≠[])))
def qI (b:Str) (c:UInt8):Str:=
  if c=47∨c=92 then []
  else if c=9∨Yl (c.toNat:Int)=false∨c=34∨c=58 then b++[95]
  else if c=46∧b=[] then b
  else b++[c]
def Y4 (s:Str):Str:=if(s.foldl qI []).take 40=[] then [102,105,108,101] else(s.foldl qI []).take 40
def pctM:Str→Option Str
  |[]=>some []
  | c ::r=>
    if c≠37 then(pctM r).map (c:: ·)
    else match r with
      |a::b::r'=>if hexK (a.toNat:Int)<0∨hexK (b.toNat:Int)<0 then none else(pctM r').map (UInt8.ofNat (16 * hexK (a.toNat:Int)+hexK (b.toNat:Int)).toNat:: ·)
      |_=>none
def utfS:Str:=[117,116,102,45,56,39,39]
def extM (s:Str):Option Str:=if s.length<7∨lowS (s.take 7)≠utfS then none else pctM (s.drop 7)
def wV:Str:=[99,111,110,116,101,110,116,45,100,105,115,112,111,115,105,116,105,111,110]
def zaR:Str:=[99,111,110,116,101,110,116,45,116,121,112,101]
def zfi:Str:=[102,111,114,109,45,100,97,116,97]
def zfV:Str:=[110,97,109,101]
def zeH:Str:=[102,105,108,101,110,97,109,101]
def TQ:Str:=[102,105,108,101,110,97,109,101,42]
def extV (s:Str):Str:=(extM s).getD []
def extB (s:Str):Bool:=(extM s).isSome
def zgW (f x:Str × Bool):Str:=if x.2=true then Y4 (extV x.1) else if f.2=true then Y4 f.1 else []
def partT (t:Str × Int):Str:=if t.2=0 then t.1 else []
def zfK (a:Str × Int) (m:Med × Int) (n f x:Str × Bool) (t:Str × Int):Prt × Int:=
  if a.2≠0 then(prt0,a.2)
  else if m.2≠0 then(prt0,m.2)
  else if m.1.word≠zfi then(prt0,11)
  else if n.2=false then(prt0,6)
  else if x.2=true∧extB x.1=false then(prt0,5)
  else if t.2=9 then(prt0,9)
  else(⟨n.1,zgW f x,partT t,[]⟩,0)
def xI (l:List Fld):Prt × Int:=
  zfK (oneF (valsF l wV)) (yO (oneF (valsF l wV)).1) (getP (yO (oneF (valsF l wV)).1).1.params zfV) (getP (yO (oneF (valsF l wV)).1).1.params zeH) (getP (yO (oneF (valsF l wV)).1).1.params TQ) (oneF (valsF l zaR))
def evP (p:Prt):Evt:=⟨5,hd0,[],p,0⟩
def evO:Evt:=⟨6,hd0,[],prt0,0⟩
def zC (f:Fm) (c:Int):Fm:= { f with pos:=8,code:=c,out:=f.out++[evF c]}
def fmSk (f:Fm) (c:UInt8):Fm:= { f with held:=((yh f.mark f.held.toNat c).2.1:Int)}
def yc (f:Fm):Fm:=
  if(xI f.fields).2≠0 then zC f (xI f.fields).2
  else if f.parts=12 then zC f 8
  else fmSk (fmSk { f with parts:=f.parts+1,pos:=6,out:=f.out++[evP (xI f.fields).1],skip:=2} 13) 10
def yH (f:Fm) (s:Str):Fm:=
  if s=[] then yc f
  else if f.fields.length=16 then zC f 8
  else if(yP s).2≠0 then zC f (yP s).2
  else { f with fields:=f.fields++[(yP s).1]}
def zS (f:Fm) (c:UInt8):Fm:=
  if f.pos=1∧c=45 then { f with pos:=2}
  else if f.pos=2∧c=45 then { f with pos:=7,out:=f.out++[evE]}
  else if f.pos≠2∧(c=32∨c=9) then { f with pos:=3}
  else if f.pos≠2∧c=13 then { f with pos:=4}
  else zC f 5
def yX (f:Fm) (c:UInt8):Str:=(yh f.mark f.held.toNat c).1.drop (min f.skip ((yh f.mark f.held.toNat c).1.length:Int)).toNat
def yA (f:Fm) (c:UInt8):Fm:=
  if(yh f.mark f.held.toNat c).2.2=false then
    { fmSk f c with skip:=f.skip - min f.skip ((yh f.mark f.held.toNat c).1.length:Int),out:=if f.pos=6∧yX f c≠[] then f.out++[evB (yX f c)] else f.out}
  else { fmSk f c with pos:=1,skip:=0,out:=if f.pos=6 then(if yX f c≠[] then f.out++[evB (yX f c),evO] else f.out++[evO]) else f.out}
def lnOf (f:Fm):Ln:=match f.ln with|some l=>l|none=>ln0
def fmF (f:Fm) (c:UInt8):Fm:=
  if f.pos=0∨f.pos=6 then yA f c
  else if f.pos=1∨f.pos=2∨f.pos=3 then zS f c
  else if f.pos=4 then(if c≠10 then zC f 2 else { f with pos:=5,ln:=some ln0,fields:=[]})
  else if f.pos=5 then
    if(lnF (lnOf f) c).2.2.2≠0 then zC { f with ln:=some (lnF (lnOf f) c).1} (lnF (lnOf f) c).2.2.2
    else if(lnF (lnOf f) c).2.2.1=true then yH { f with ln:=some (lnF (lnOf f) c).1} (lnF (lnOf f) c).2.1
    else { f with ln:=some (lnF (lnOf f) c).1}
  else f
def Xz (b:Str):Str:=[13,10,45,45]++b
def fm0 (b:Str):Fm:=fmSk (fmSk ⟨Xz b,0,xR (Xz b),0,none,[],0,0,0,[]⟩ 13) 10
def wz (f:Fm) (b:Str):Fm:=b.foldl fmF f
def zq (f:Fm) (b:Str):Fm:=wz { f with out:=[]} b
def yw (f:Fm):Int:=if f.pos=8 then f.code else if f.pos=7 then 0 else 14
def prtS (l:List Prt) (e:Evt):List Prt:=
  if e.kind=5 then l++[e.part]
  else if e.kind=2 then(match l.getLast? with|some p=>l.dropLast++[{ p with bytes:=p.bytes++e.bytes}]|none=>l)
  else l
def rX (b x:Str):List Prt × Int:=
  if yT b=false then([],5)
  else if yw (zq (fm0 b) x)≠0 then([],yw (zq (fm0 b) x))
  else((zH (zq (fm0 b) x).out).foldl prtS [],0)
end Go.Proofs.YtknaogelmckimaaDoor
namespace Go.Proofs.YtknaogelmckimaaDoor
open Go Go.Sep Go.Ab
set_option maxRecDepth 100000
theorem zcM {k:Int} (hk:0≤k∧k≤255): -1≤hexK k∧hexK k≤15:=zic (p:=fun k=> -1≤hexK k∧hexK k≤15) (by decide+kernel) hk
end Go.Proofs.YtknaogelmckimaaDoor
namespace Go.Proofs.YtknaogelmckimaaDoor
open Go Go.Sep Go.Ab
set_option maxRecDepth 100000
def qx (s p:Str):Str × Bool:=if s.length<p.length∨lowS (s.take p.length)≠p then([],false) else(s.drop p.length,true)
theorem zh9 (s p:Str) (hneed:s.length≤1000000∧p.length≤100):Spc Tryd.prog 54 [.v (.one (.p (.str s))),.v (.one (.p (.str p)))] [] (.ret (.tup [(.one (.p (.str ((qx s p).1)))),(.one (.p (.bool ((qx s p).2))))])) []:=by
  obtain⟨h1,h2⟩:=hneed
  generalize hr:qx s p=r
  obtain⟨a,k⟩:=r
  refine spcG zl mixed Tryd.func54 (by kernel_rfl) { keep:=some [0,1,4,5]} [xw,xu] (by kernel_rfl) ?_
  intro I X hI hX
  refine zi (let y0:=I.cut (α:=UInt8) s 0 (I.len (α:=UInt8) p);.br (I.ilt (I.len (α:=UInt8) s) (I.len (α:=UInt8) p)) (.fin (.ret (.tup [(.one (.p (.str ([]:Str)))),(.one (.p (.bool Bool.false)))])) []) (.need (I.cutb 0 (I.len (α:=UInt8) p) (I.len (α:=UInt8) s)) (.need (I.hid (α:=(Prop)) (LE.le (List.length y0) 1000000)) (.br (I.bnot (I.seq (I.hid (α:=Str) (lowS y0)) p)) (.fin (.ret (.tup [(.one (.p (.str ([]:Str)))),(.one (.p (.bool Bool.false)))])) []) (.need (I.cutb (I.len (α:=UInt8) p) (I.len (α:=UInt8) s) (I.len (α:=UInt8) s)) (.fin (.ret (.tup [(.one (.p (.str (I.cut (α:=UInt8) s (I.len (α:=UInt8) p) (I.len (α:=UInt8) s))))),(.one (.p (.bool Bool.true)))])) [])))))) (by kernel_rfl) ?_
  simp only [zu]
  subst hI
  unfold qx at hr
  simp only [nrmA,nrmB,nrlB,reduceCtorEq]
  (repeat' (first|refine And.intro ?_ ?_|intro _))<;>first|omega|exact True.intro|exact False.elim ‹False›|skip
  all_goals first
    |omega
    |(simp only [List.length_take];omega)
    |(rw [if_pos (Or.inl (by omega))] at hr;cases hr;rfl)
    |(rw [if_pos (Or.inr ‹_›)] at hr;cases hr;rfl)
    |(rw [if_neg (fun h=>h.elim (fun h=>by omega) (fun h=>h ‹_›))] at hr;cases hr;first|rfl|exact List.take_of_length_le (by simp))
def VQ (I:Alg) (args:List D) (hp:List HO):Option CT:=match args,hp with
  |[.v (.one (.p (.str s))),.v (.one (.p (.str p)))],[]=>(fun(s p:Str)=>(some (.one ⟨I.hid (s.length≤1000000∧p.length≤100),(.ret (.tup [(.one (.p (.str (I.hid ((qx s p).1))))),(.one (.p (.bool (I.hid ((qx s p).2)))))])),[]⟩):Option CT)) s p
  |_,_=>none
theorem zdl:zA Tryd.prog 54 (VQ alg):=by
  intro args hp r h
  unfold VQ at h
  split at h
  · cases h;exact fun hn=>zh9 _ _ hn
  · cases h
def zdk:Know Tryd.prog:=⟨54,VQ,zdl⟩
def zdj:Know Tryd.prog:=⟨54,fun I=>zB I (VQ I),zf zdl⟩
theorem zhV {r:Str} {i:Nat} (h:i<r.length) (k: ¬ r.getD i 0=37):pctM (r.drop i)=(pctM (r.drop (i+1))).map (r.getD i 0:: ·):=by
  have e:r.getD i 0=r[i]:=by simp [h]
  rw [e] at k
  rw [List.drop_eq_getElem_cons h,pctM.eq_def]
  simp only
  rw [if_pos k,e]
theorem zhU {r:Str} {i:Nat} (h:i<r.length) (k:r.getD i 0=37) (h2:r.length≤i+2):pctM (r.drop i)=none:=by
  have e:r.getD i 0=r[i]:=by simp [h]
  rw [e] at k
  rw [List.drop_eq_getElem_cons h,pctM.eq_def]
  simp only [k,ne_eq,not_true_eq_false,if_false]
  have hl:(r.drop (i+1)).length≤1:=by rw [List.length_drop];omega
  match hd:r.drop (i+1),hl with
  |[],_=>rfl
  |[_],_=>rfl
  |_::_::_,h=>simp at h
theorem zhW {r:Str} {i:Nat} (h:i+2<r.length) (k:r.getD i 0=37):pctM (r.drop i)=if hexK ((r.getD (i+1) 0).toNat:Int)<0∨hexK ((r.getD (i+2) 0).toNat:Int)<0 then none else(pctM (r.drop (i+3))).map (UInt8.ofNat (16 * hexK ((r.getD (i+1) 0).toNat:Int)+hexK ((r.getD (i+2) 0).toNat:Int)).toNat:: ·):=by
  have h0:i<r.length:=by omega
  have h1:i+1<r.length:=by omega
  have e0:r.getD i 0=r[i]:=by simp [h0]
  have e1:r.getD (i+1) 0=r[i+1]:=by simp [h1]
  have e2:r.getD (i+2) 0=r[i+2]:=by simp [h]
  rw [e0] at k
  rw [List.drop_eq_getElem_cons h0,List.drop_eq_getElem_cons h1,List.drop_eq_getElem_cons h,pctM,if_neg (by simp [k]),e1,e2]
theorem zh8 (s:Str) (hneed:s.length≤1000000):Spc Tryd.prog 30 [.v (.one (.p (.str s)))] [] (.ret (.tup [(.one (.p (.str ((extV s))))),(.one (.p (.bool ((extB s)))))])) []:=by
  unfold extV extB
  generalize hr:extM s=r
  refine spcG zl mixed Tryd.func30 (by kernel_rfl) { nr:=[6],keep:=some [0,2,3,4,5,6,7]} [zfa,ze9,zdk,zdj] (by kernel_rfl) ?_
  intro I X hI hX
  refine zi (let y0:=([117,116,102,45,56,39,39]:Str);let y1:=I.hid (α:=Bool) (Prod.snd (qx s y0));.need (I.hid (α:=(Prop)) (And (LE.le (List.length s) 1000000) (LE.le (List.length y0) 100))) (.br (I.bnot y1) (.fin (.ret (.tup [(.one (.p (.str ([]:Str)))),(.one (.p (.bool Bool.false)))])) []) (.code 0 [1,1,1,1,0,1,0] ⟨[(7,(.v (.one (.p (.int .i64 0))))),(6,(.v (.one (.row 0)))),(5,(.v (.one (.p (.bool y1))))),(4,(.v (.one (.p (.str (I.hid (α:=Str) (Prod.fst (qx s y0)))))))),(3,(.v (.one (.p (.val (.bool .false)))))),(2,(.v (.one (.p (.str ([]:Str)))))),(0,(.v (.one (.p (.str s)))))],[(.row .byte 5 ([]:Str))],72,none⟩))) (by kernel_rfl) ?_
  simp only [zu]
  rw [show([117,116,102,45,56,39,39]:Str)=utfS from rfl]
  have hc:extM s=if(qx s utfS).2=false then none else pctM (qx s utfS).1:=by
    unfold extM qx
    by_cases h:s.length<7∨lowS (s.take 7)≠utfS
    · rw [if_pos h,if_pos (show s.length<utfS.length∨lowS (s.take utfS.length)≠utfS from h)];rfl
    · rw [if_neg h,if_neg (show ¬ (s.length<utfS.length∨lowS (s.take utfS.length)≠utfS) from h)];rfl
  have hl:(qx s utfS).1.length≤1000000:=by
    unfold qx
    split
    · simp
    · simp only [List.length_drop];omega
  rw [hc] at hr
  generalize(qx s utfS).2=k at *
  generalize(qx s utfS).1=R at *
  have h7:utfS.length≤100:=by decide
  (repeat' (first|refine And.intro ?_ ?_|intro _))
  all_goals try(subst hI;(simp only [nrmA,nrmB,nrlB,reduceCtorEq] at *);first|done|trivial|omega|exact⟨hneed,h7⟩|(rw [if_pos ‹_›] at hr;rw [← hr];exact⟨rfl,rfl⟩))
  have hk:k=true:=by
    subst hI
    simp only [nrmA,nrmB,nrlB,reduceCtorEq] at *
    simpa using ‹_›
  rw [hk] at hr
  simp only [Bool.true_eq_false,if_false] at hr
  rw [show I.hid R=R by subst hI;rfl]
  refine zL hI zl mixed [zfa,ze9,zdk,zdj] hX [4,6,7] (fun(g:Nat × Str)=>match g with|(i,b)=>i≤R.length∧b.length≤i∧r=(pctM (R.drop i)).map (b++ ·)) (fun(g:Nat × Str)=>match g with|(i,b)=>⟨[(4,.v (.one (.p (.str R)))),(6,.v (.one (.row 0))),(7,.v (.one (.p (.int .i64 i))))],[.row .byte 5 b],72,none⟩) (fun(g:Nat × Str)=>match g with|(i,b)=>R.length - i) (0,[]) (by kernel_rfl) (by kernel_rfl) ?_ ?_
  · refine⟨Nat.zero_le _,Nat.le_refl _,?_⟩
    rw [List.drop_zero,hr]
    cases r<;>rfl
  rintro⟨i,b⟩ ⟨h1,h2,h3⟩ A hA
  simp only at hA h1 h2 h3
  refine zi (let y1:=I.b2i (I.get (α:=UInt8) R 0 (I.add (Nat.cast i) 1));let y2:=I.b2i (I.get (α:=UInt8) R 0 (I.add (Nat.cast i) 2));let y0:=I.add (I.mul 16 (I.hid (α:=Int) (hexK y1))) (I.hid (α:=Int) (hexK y2));let y3:=I.b2i (I.get (α:=UInt8) R 0 (Nat.cast i));let y4:=I.inr Go.IntKind.i64 (I.add (Nat.cast i) 2);let y5:=I.inr Go.IntKind.i64 (I.add (Nat.cast i) 1);let y6:=I.hid (α:=(Prop)) (And (LE.le (0:Int) y1) (LE.le y1 (255:Int)));let y7:=I.hid (α:=(Prop)) (And (LE.le (0:Int) y2) (LE.le y2 (255:Int)));let y8:=I.inb (I.add (Nat.cast i) 1) (I.len (α:=UInt8) R);let y9:=I.inb (I.add (Nat.cast i) 2) (I.len (α:=UInt8) R);let y10:=I.inb (Nat.cast i) (I.len (α:=UInt8) R);.br (I.ilt (Nat.cast i) (I.len (α:=UInt8) R)) (.need y10 (.br (I.bnot (I.ieq y3 37)) (.need y10 (.need (I.inr Go.IntKind.u8 y3) (.need (I.few (I.add (I.len (α:=UInt8) b) (I.len (α:=UInt8) ([(I.i2b y3)]:Str))) 140737488355328) (.need y5 (.need (A ⟨[(4,(.v (.one (.p (.str R))))),(6,(.v (.one (.row 0)))),(7,(.v (.one (.p (.int .i64 (I.add (Nat.cast i) 1))))))],[(.row .byte 5 (I.app (α:=UInt8) b ([(I.i2b y3)]:Str)))],72,none⟩) .qed))))) (.need y4 (.br (I.ile (I.len (α:=UInt8) R) (I.add (Nat.cast i) 2)) (.fin (.ret (.tup [(.one (.p (.str ([]:Str)))),(.one (.p (.bool Bool.false)))])) []) (.need y5 (.need y8 (.need y6 (.br (I.ilt (I.hid (α:=Int) (hexK y1)) 0) (.fin (.ret (.tup [(.one (.p (.str ([]:Str)))),(.one (.p (.bool Bool.false)))])) []) (.need y4 (.need y9 (.need y7 (.br (I.ilt (I.hid (α:=Int) (hexK y2)) 0) (.fin (.ret (.tup [(.one (.p (.str ([]:Str)))),(.one (.p (.bool Bool.false)))])) []) (.need y5 (.need y8 (.need y4 (.need y9 (.need y6 (.need (I.inr Go.IntKind.i64 (I.mul 16 (I.hid (α:=Int) (hexK y1)))) (.need y7 (.need (I.inr Go.IntKind.i64 y0) (.need (I.inr Go.IntKind.u8 (I.wrap Go.IntKind.u8 y0)) (.need (I.few (I.add (I.len (α:=UInt8) b) (I.len (α:=UInt8) ([(I.i2b (I.wrap Go.IntKind.u8 y0))]:Str))) 140737488355328) (.need y4 (.need (I.inr Go.IntKind.i64 (I.add (I.add (Nat.cast i) 2) 1)) (.need (A ⟨[(4,(.v (.one (.p (.str R))))),(6,(.v (.one (.row 0)))),(7,(.v (.one (.p (.int .i64 (I.add (I.add (Nat.cast i) 2) 1))))))],[(.row .byte 5 (I.app (α:=UInt8) b ([(I.i2b (I.wrap Go.IntKind.u8 y0))]:Str)))],72,none⟩) .qed))))))))))))))))))))))))) (.fin (.ret (.tup [(.one (.p (.str b))),(.one (.p (.bool Bool.true)))])) [])) (by kernel_rfl) ?_
  simp only [zu]
  subst hI
  simp only [nrmA,nrmB,nrlB,reduceCtorEq]
  have e1:((i:Int)+1).toNat=i+1:=by omega
  have e2:((i:Int)+2).toNat=i+2:=by omega
  rw [e1,e2]
  have b37:(R.getD i 0).toNat=37↔R.getD i 0=37:=⟨fun h=>UInt8.toNat_inj.1 h,fun h=>by rw [h];rfl⟩
  have g0:i<R.length→¬ R.getD i 0=37→_:=fun h k=>zhV h k
  have g1:i<R.length→R.getD i 0=37→R.length≤i+2→_:=fun h k=>zhU h k
  have g2:i+2<R.length→R.getD i 0=37→_:=fun h k=>zhW h k
  have l0:=(R.getD i 0).toNat_lt
  have l1:=(R.getD (i+1) 0).toNat_lt
  have l2:=(R.getD (i+2) 0).toNat_lt
  have m1:=zcM (k:=((R.getD (i+1) 0).toNat:Int)) ⟨by omega,by omega⟩
  have m2:=zcM (k:=((R.getD (i+2) 0).toNat:Int)) ⟨by omega,by omega⟩
  have hend: ¬ i<R.length→r=some b:=fun h=>by rw [h3,List.drop_of_length_le (by omega)];simp [pctM]
  have hA2:=fun(c:UInt8) (j:Nat) (h:i<j) (hj:j≤R.length) (e:pctM (R.drop i)=(pctM (R.drop j)).map (c:: ·))=>hA (j,b++[c]) ⟨hj,by rw [List.length_append,List.length_singleton];omega,by rw [h3,e,Option.map_map];congr 1;funext x;simp⟩ (by simp only;omega)
  generalize R.getD i 0=x0 at *
  generalize R.getD (i+1) 0=x1 at *
  generalize R.getD (i+2) 0=x2 at *
  refine⟨fun c=>⟨by omega,fun c2=>⟨by omega,by omega,by simp only [List.length_singleton];omega,by omega,?_⟩,fun c2=> ?_⟩,fun c=> ?_⟩
  · have:=hA2 x0 (i+1) (by omega) (by omega) (g0 (by omega) (fun h=>c2 (by have:=b37.2 h;omega)))
    simp only [Int.natCast_add,Int.natCast_one] at this
    exact this
  · have hx:x0=37:=b37.1 (by omega)
    subst hx
    have gs:R.length≤i+2→r=none:=fun h=>by rw [h3,g1 (by omega) rfl h];rfl
    have gm:=fun h=>g2 h rfl
    have gn:i+2<R.length→(hexK (x1.toNat:Int)<0∨hexK (x2.toNat:Int)<0)→r=none:=fun h k=>by rw [h3,gm h,if_pos k];rfl
    have gy:i+2<R.length→¬ hexK (x1.toNat:Int)<0→¬ hexK (x2.toNat:Int)<0→_:=fun h k k2=>hA2 (UInt8.ofNat (16 * hexK (x1.toNat:Int)+hexK (x2.toNat:Int)).toNat) (i+3) (by omega) (by omega) (by rw [gm h,if_neg (fun q=>q.elim k k2)])
    have wr: ¬ hexK (x1.toNat:Int)<0→¬ hexK (x2.toNat:Int)<0→IntKind.u8.wrap (16 * hexK (x1.toNat:Int)+hexK (x2.toNat:Int))=16 * hexK (x1.toNat:Int)+hexK (x2.toNat:Int):=fun k k2=>zhO _ ⟨by omega,by omega⟩
    (repeat' (first|refine And.intro ?_ ?_|intro _))<;>first|omega|exact True.intro|exact False.elim ‹False›|skip
    all_goals first
      |omega
      |(rw [gs (by omega)];done)
      |(rw [gs (by omega)];rfl)
      |(rw [gn (by omega) (Or.inl ‹_›)];rfl)
      |(rw [gn (by omega) (Or.inr ‹_›)];rfl)
      |(rw [wr ‹_› ‹_›];omega)
      |(simp only [List.length_singleton];omega)
      |(rw [wr ‹_› ‹_›,show(i:Int)+2+1=((i+3:Nat):Int) by omega];exact gy (by omega) ‹_› ‹_›)
  · rw [hend (by omega)]
    exact⟨rfl,rfl⟩
def VP (I:Alg) (args:List D) (hp:List HO):Option CT:=match args,hp with
  |[.v (.one (.p (.str s)))],[]=>(fun(s:Str)=>(some (.one ⟨I.hid (s.length≤1000000),(.ret (.tup [(.one (.p (.str (I.hid ((extV s)))))),(.one (.p (.bool (I.hid ((extB s))))))])),[]⟩):Option CT)) s
  |_,_=>none
theorem zdi:zA Tryd.prog 30 (VP alg):=by
  intro args hp r h
  unfold VP at h
  split at h
  · cases h;exact fun hn=>zh8 _ hn
  · cases h
def zgx:Know Tryd.prog:=⟨30,VP,zdi⟩
def zgw:Know Tryd.prog:=⟨30,fun I=>zB I (VP I),zf zdi⟩
theorem zb8 (s:Str) (i:Nat) (h:i<s.length):(s.take (i+1)).foldl qI []=qI ((s.take i).foldl qI []) (s.getD i 0):=by
  rw [List.take_succ_eq_append_getElem h,List.foldl_append]
  simp [h]
theorem zd8 (s:Str): ∀ b:Str,(s.foldl qI b).length≤b.length+s.length:=by
  induction s with
  |nil=>intro b;simp
  | cons c r ih=>
    intro b
    have h:=ih (qI b c)
    have h2:(qI b c).length≤b.length+1:=by
      unfold qI
      repeat' split
      all_goals simp
    rw [List.foldl_cons,List.length_cons];omega
theorem za5 (c:UInt8) (k:Nat) (h:k<256):(c.toNat:Int)=(k:Int)↔c=UInt8.ofNat k:=by
  constructor
  · intro e
    rw [← UInt8.toNat_inj,UInt8.toNat_ofNat',Nat.mod_eq_of_lt h];omega
  · intro e
    rw [e,UInt8.toNat_ofNat',Nat.mod_eq_of_lt h]
theorem zd9 (b:Str) (c:UInt8):qI b c=if(c.toNat:Int)=47 then [] else if(c.toNat:Int)=92 then [] else if(c.toNat:Int)=9 then b++[95] else if Yl (c.toNat:Int)=false then b++[95] else if(c.toNat:Int)=34 then b++[95] else if(c.toNat:Int)=58 then b++[95] else if(c.toNat:Int)=46 then(if(b.length:Int)=0 then b else b++[c]) else b++[c]:=by
  have h0:(b.length:Int)=0↔b=[]:=by rw [← List.length_eq_zero_iff];omega
  have e1:(c.toNat:Int)=47↔c=47:=za5 c 47 (by decide)
  have e2:(c.toNat:Int)=92↔c=92:=za5 c 92 (by decide)
  have e3:(c.toNat:Int)=9↔c=9:=za5 c 9 (by decide)
  have e4:(c.toNat:Int)=34↔c=34:=za5 c 34 (by decide)
  have e5:(c.toNat:Int)=58↔c=58:=za5 c 58 (by decide)
  have e6:(c.toNat:Int)=46↔c=46:=za5 c 46 (by decide)
  simp only [e1,e2,e3,e4,e5,e6,h0]
  unfold qI
  generalize Yl (c.toNat:Int)=k
  clear e1 e2 e3 e4 e5 e6 h0
  repeat' split
  all_goals simp_all
theorem zhz (s:Str) (hneed:s.length≤1000000):Spc Tryd.prog 17 [.v (.one (.p (.str s)))] [] (.ret (.v (.one (.p (.str ((Y4 s))))))) []:=by
  refine spcG zl mixed Tryd.func17 (by kernel_rfl) { nr:=[3],keep:=some [0,2,3,4,5,7,8]} [wC,sG] (by kernel_rfl) ?_
  intro I X hI hX
  refine zi (.code 0 [1,1,0,1,0] ⟨[(8,(.v (.one (.p (.int .i64 0))))),(7,(.v (.one (.p (.int .i64 (I.len (α:=UInt8) s)))))),(3,(.v (.one (.row 0)))),(2,(.v (.one (.p (.str ([]:Str)))))),(0,(.v (.one (.p (.str s)))))],[(.row .byte 5 ([]:Str))],63,none⟩) (by kernel_rfl) ?_
  simp only [zu]
  refine zL hI zl mixed [wC,sG] hX [0,3,7,8] (fun(g:Nat × Str)=>match g with|(i,b)=>i≤s.length∧b=(s.take i).foldl qI []) (fun(g:Nat × Str)=>match g with|(i,b)=>⟨[(0,.v (.one (.p (.str s)))),(3,.v (.one (.row 0))),(7,.v (.one (.p (.int .i64 ((I.len (α:=UInt8) s)))))),(8,.v (.one (.p (.int .i64 i))))],[.row .byte 5 b],63,none⟩) (fun(g:Nat × Str)=>match g with|(i,b)=>s.length - i) (0,[]) (by kernel_rfl) (by kernel_rfl) ?_ ?_
  · exact⟨Nat.zero_le _,rfl⟩
  rintro⟨i,b⟩ ⟨h1,h2⟩ A hA
  simp only at hA h1 h2
  refine zi (let y0:=I.b2i (I.get (α:=UInt8) s 0 (Nat.cast i));let y1:=I.inr Go.IntKind.i64 (I.add (Nat.cast i) 1);let y2:=I.few (I.add (I.len (α:=UInt8) b) (I.len (α:=UInt8) ([(I.i2b 95)]:Str))) 140737488355328;let y3:HO:=.row .byte 5 (I.app (α:=UInt8) b ([(I.i2b 95)]:Str));let y4:=I.few (I.add (I.len (α:=UInt8) b) (I.len (α:=UInt8) ([(I.i2b y0)]:Str))) 140737488355328;let y5:HO:=.row .byte 5 (I.app (α:=UInt8) b ([(I.i2b y0)]:Str));.br (I.ilt (Nat.cast i) (I.len (α:=UInt8) s)) (.need (I.inb (Nat.cast i) (I.len (α:=UInt8) s)) (.br (I.ieq y0 47) (.need y1 (.need (A ⟨[(0,(.v (.one (.p (.str s))))),(3,(.v (.one (.row 0)))),(7,(.v (.one (.p (.int .i64 (I.len (α:=UInt8) s)))))),(8,(.v (.one (.p (.int .i64 (I.add (Nat.cast i) 1))))))],[(.row .byte 5 ([]:Str))],63,none⟩) .qed)) (.br (I.ieq y0 92) (.need y1 (.need (A ⟨[(0,(.v (.one (.p (.str s))))),(3,(.v (.one (.row 0)))),(7,(.v (.one (.p (.int .i64 (I.len (α:=UInt8) s)))))),(8,(.v (.one (.p (.int .i64 (I.add (Nat.cast i) 1))))))],[(.row .byte 5 ([]:Str))],63,none⟩) .qed)) (.br (I.ieq y0 9) (.need (I.inr Go.IntKind.u8 95) (.need y2 (.need y1 (.need (A ⟨[(0,(.v (.one (.p (.str s))))),(3,(.v (.one (.row 0)))),(7,(.v (.one (.p (.int .i64 (I.len (α:=UInt8) s)))))),(8,(.v (.one (.p (.int .i64 (I.add (Nat.cast i) 1))))))],[y3],63,none⟩) .qed)))) (.need (I.hid (α:=(Prop)) True) (.br (I.bnot (I.hid (α:=Bool) (Yl y0))) (.need (I.inr Go.IntKind.u8 95) (.need y2 (.need y1 (.need (A ⟨[(0,(.v (.one (.p (.str s))))),(3,(.v (.one (.row 0)))),(7,(.v (.one (.p (.int .i64 (I.len (α:=UInt8) s)))))),(8,(.v (.one (.p (.int .i64 (I.add (Nat.cast i) 1))))))],[y3],63,none⟩) .qed)))) (.br (I.ieq y0 34) (.need (I.inr Go.IntKind.u8 95) (.need y2 (.need y1 (.need (A ⟨[(0,(.v (.one (.p (.str s))))),(3,(.v (.one (.row 0)))),(7,(.v (.one (.p (.int .i64 (I.len (α:=UInt8) s)))))),(8,(.v (.one (.p (.int .i64 (I.add (Nat.cast i) 1))))))],[y3],63,none⟩) .qed)))) (.br (I.ieq y0 58) (.need (I.inr Go.IntKind.u8 95) (.need y2 (.need y1 (.need (A ⟨[(0,(.v (.one (.p (.str s))))),(3,(.v (.one (.row 0)))),(7,(.v (.one (.p (.int .i64 (I.len (α:=UInt8) s)))))),(8,(.v (.one (.p (.int .i64 (I.add (Nat.cast i) 1))))))],[y3],63,none⟩) .qed)))) (.br (I.ieq y0 46) (.br (I.ieq (I.len (α:=UInt8) b) 0) (.need y1 (.need (A ⟨[(0,(.v (.one (.p (.str s))))),(3,(.v (.one (.row 0)))),(7,(.v (.one (.p (.int .i64 (I.len (α:=UInt8) s)))))),(8,(.v (.one (.p (.int .i64 (I.add (Nat.cast i) 1))))))],[(.row .byte 5 b)],63,none⟩) .qed)) (.need (I.inr Go.IntKind.u8 y0) (.need y4 (.need y1 (.need (A ⟨[(0,(.v (.one (.p (.str s))))),(3,(.v (.one (.row 0)))),(7,(.v (.one (.p (.int .i64 (I.len (α:=UInt8) s)))))),(8,(.v (.one (.p (.int .i64 (I.add (Nat.cast i) 1))))))],[y5],63,none⟩) .qed))))) (.need (I.inr Go.IntKind.u8 y0) (.need y4 (.need y1 (.need (A ⟨[(0,(.v (.one (.p (.str s))))),(3,(.v (.one (.row 0)))),(7,(.v (.one (.p (.int .i64 (I.len (α:=UInt8) s)))))),(8,(.v (.one (.p (.int .i64 (I.add (Nat.cast i) 1))))))],[y5],63,none⟩) .qed))))))))))))) (.br (I.ilt 40 (I.len (α:=UInt8) b)) (.need (I.cutb 0 40 (I.len (α:=UInt8) b)) (.br (I.ieq (I.sub 40 0) 0) (.fin (.ret (.v (.one (.p (.str ([102,105,108,101]:Str)))))) []) (.fin (.ret (.v (.one (.p (.str (I.cut (α:=UInt8) b 0 40)))))) []))) (.br (I.ieq (I.len (α:=UInt8) b) 0) (.fin (.ret (.v (.one (.p (.str ([102,105,108,101]:Str)))))) []) (.fin (.ret (.v (.one (.p (.str b))))) [])))) (by kernel_rfl) ?_
  simp only [zu]
  subst hI
  simp only [nrmA,nrmB,nrlB,reduceCtorEq]
  have hs:=zb8 s i
  have hbl:=zd8 (s.take i) []
  rw [← h2] at hs hbl
  rw [List.length_take,List.length_nil] at hbl
  have hA2:i<s.length→_:=fun h=>hA (i+1,qI b (s.getD i 0)) ⟨by simp only;omega,(hs h).symm⟩ (by simp only;omega)
  have l0:=(s.getD i 0).toNat_lt
  rw [zd9] at hA2
  have hend: ¬ i<s.length→s.foldl qI []=b:=fun h=>by rw [h2,List.take_of_length_le (by omega)]
  have hm: ¬ i<s.length→Y4 s=if b.take 40=[] then [102,105,108,101] else b.take 40:=fun h=>by unfold Y4;rw [hend h]
  have hn:0<b.length→¬ b.take 40=[]:=fun h k=>by have:=congrArg List.length k;rw [List.length_take,List.length_nil] at this;omega
  generalize s.getD i 0=c at *
  (repeat' (first|refine And.intro ?_ ?_|intro _))<;>first|omega|exact True.intro|exact False.elim ‹False›|skip
  all_goals first
    |omega
    |exact⟨by omega,by omega⟩
    |(simp only [List.length_singleton];omega)
    |(rw [hm (by omega),if_neg (hn (by omega))];first|rfl|exact(List.take_of_length_le (by omega)).symm)
    |(rw [hm (by omega),if_pos (by rw [List.eq_nil_of_length_eq_zero (show b.length=0 by omega)];rfl)])
    |(have h:=hA2 (by omega);(repeat(first|rw [if_pos (by first|omega|assumption)] at h|rw [if_neg (by first|omega|assumption|simpa using ‹_=true›)] at h));simp only [Int.natCast_add,Int.natCast_one] at h;exact h)
def YM (I:Alg) (args:List D) (hp:List HO):Option CT:=match args,hp with
  |[.v (.one (.p (.str s)))],[]=>(fun(s:Str)=>(some (.one ⟨I.hid (s.length≤1000000),(.ret (.v (.one (.p (.str (I.hid ((Y4 s)))))))),[]⟩):Option CT)) s
  |_,_=>none
theorem zaD:zA Tryd.prog 17 (YM alg):=by
  intro args hp r h
  unfold YM at h
  split at h
  · cases h;exact fun hn=>zhz _ hn
  · cases h
def zaC:Know Tryd.prog:=⟨17,YM,zaD⟩
def zaB:Know Tryd.prog:=⟨17,fun I=>zB I (YM I),zf zaD⟩
theorem zhC (s:Str) (hneed:s.length≤140737488355328):Spc Tryd.prog 21 [.v (.one (.p (.str s)))] [] (.ret (.v (.one (.p (.bool ((yT s))))))) []:=by
  refine spcG zl mixed Tryd.func21 (by kernel_rfl) { keep:=some [0,2]} [tJ,tH,zaW,zaV] (by kernel_rfl) ?_
  intro I X hI hX
  refine zi (.br (I.ilt 70 (I.len (α:=UInt8) s)) (.fin (.ret (.v (.one (.p (.bool Bool.false))))) []) (.need (I.hid (α:=(Prop)) (LE.le (List.length s) 1000000)) (.br (I.bnot (I.hid (α:=Bool) (rW s))) (.fin (.ret (.v (.one (.p (.bool Bool.false))))) []) (.need (I.hid (α:=(Prop)) True) (.br (I.bnot (I.seq (I.hid (α:=Str) (Go.Lib.trimS s ([32,9]:Str))) s)) (.fin (.ret (.v (.one (.p (.bool Bool.false))))) []) (.fin (.ret (.v (.one (.p (.bool (I.bnot (I.seq s ([]:Str)))))))) [])))))) (by kernel_rfl) ?_
  simp only [zu]
  subst hI
  simp only [nrmA,nrmB,nrlB,reduceCtorEq]
  unfold yT
  have h70:(70<s.length)↔((70:Int)<(s.length:Int)):=by omega
  simp only [h70]
  (repeat' (first|refine And.intro ?_ ?_|intro _))<;>first|omega|exact True.intro|exact False.elim ‹False›|skip
  all_goals first
    |omega
    |(rw [decide_eq_false (by omega),‹rW s=true›,decide_eq_true ‹Lib.trimS s _=s›];cases s<;>simp)
    |(simp_all;done)
def YP (I:Alg) (args:List D) (hp:List HO):Option CT:=match args,hp with
  |[.v (.one (.p (.str s)))],[]=>(fun(s:Str)=>(some (.one ⟨I.hid (s.length≤140737488355328),(.ret (.v (.one (.p (.bool (I.hid ((yT s)))))))),[]⟩):Option CT)) s
  |_,_=>none
theorem zaI:zA Tryd.prog 21 (YP alg):=by
  intro args hp r h
  unfold YP at h
  split at h
  · cases h;exact fun hn=>zhC _ hn
  · cases h
def VO:Know Tryd.prog:=⟨21,YP,zaI⟩
def VN:Know Tryd.prog:=⟨21,fun I=>zB I (YP I),zf zaI⟩
end Go.Proofs.YtknaogelmckimaaDoor
namespace Go.Proofs.YtknaogelmckimaaDoor
open Go Go.Sep Go.Ab
set_option maxRecDepth 100000
theorem zb1 (s:Str):Spc Tryd.prog 83 [.v (.one (.p (.str s))),.v (.one (.p (.str ([32,9]))))] [] (.ret (.v (.one (.p (.str ((skS s))))))) []:=by
  refine Spc.of_below ⟨_,Tryd.func83,by kernel_rfl,by kernel_rfl⟩ fun S bs w vs _ hM=> ?_
  obtain⟨v,r,rfl⟩: ∃ v r,vs=v::r:=by cases vs with|nil=>exact hM.elim|cons v r=>exact⟨v,r,rfl⟩
  obtain⟨h1,hM⟩:=hM
  obtain⟨v2,r2,rfl⟩: ∃ v r2,r=v::r2:=by cases r with|nil=>exact hM.elim|cons v r=>exact⟨v,r,rfl⟩
  obtain⟨h2,hM⟩:=hM
  obtain rfl:r2=[]:=by cases r2 with|nil=>rfl|cons v r=>exact hM.elim
  cases h1 with
  | str _ hl1=>
    cases h2 with
    | str _ hl2=>
      refine⟨.string (Sep.S (skS s)),.str _ (Nat.le_trans (yS _) hl1),?_⟩
      exact Tryd.strings_TrimLeft_laid (Sep.S s) (Sep.S [32,9]) w (by decide) (fun j b hb=>by
        have:=List.mem_of_getElem? hb
        rcases(by simpa [Sep.S] using this:b=32∨b=9) with rfl|rfl<;>decide)
def uf (I:Alg) (args:List D) (hp:List HO):Option CT:=match args,hp with
  |[.v (.one (.p (.str s))),.v (.one (.p (.str ([32,9]))))],[]=>(fun(s:Str)=>(some (.one ⟨I.hid (True),(.ret (.v (.one (.p (.str (I.hid ((skS s)))))))),[]⟩):Option CT)) s
  |_,_=>none
theorem YV:zA Tryd.prog 83 (uf alg):=by
  intro args hp r h
  unfold uf at h
  split at h
  · cases h;exact fun hn=>zb1 _
  · cases h
def SH:Know Tryd.prog:=⟨83,uf,YV⟩
def SG:Know Tryd.prog:=⟨83,fun I=>zB I (uf I),zf YV⟩
theorem zfP (b:Bool) (c:Int) (hneed:b=false):Spc Tryd.prog 69 [.v (.one (.p (.bool b))),.v (.one (.p (.int .i64 c)))] [] (.ret (.tup [])) []:=by
  refine spcG zl mixed Tryd.func69 (by kernel_rfl) { keep:=some [0,1]} [] (by kernel_rfl) ?_
  intro I X hI hX
  refine zi (.br b (.fin (.pan (.ifc 91 .false [(.int .i64 c)])) []) (.fin (.ret (.tup [])) [])) (by kernel_rfl) ?_
  simp only [zu]
  subst hI
  simp only [nrmA,nrmB]
  (repeat' (first|refine And.intro ?_ ?_|intro _))<;>first|omega|exact True.intro|exact False.elim ‹False›|skip
  all_goals simp_all
theorem zfO (b:Bool) (c:Int) (hneed:b=true):Spc Tryd.prog 69 [.v (.one (.p (.bool b))),.v (.one (.p (.int .i64 c)))] [] (.pan (.ifc 91 false [(.int .i64 c)])) []:=by
  refine spcG zl mixed Tryd.func69 (by kernel_rfl) { keep:=some [0,1]} [] (by kernel_rfl) ?_
  intro I X hI hX
  refine zi (.br b (.fin (.pan (.ifc 91 .false [(.int .i64 c)])) []) (.fin (.ret (.tup [])) [])) (by kernel_rfl) ?_
  simp only [zu]
  subst hI
  simp only [nrmA,nrmB]
  (repeat' (first|refine And.intro ?_ ?_|intro _))<;>first|omega|exact True.intro|exact False.elim ‹False›|skip
  all_goals simp_all
def YC (I:Alg) (args:List D) (hp:List HO):Option CT:=match args,hp with
  |[.v (.one (.p (.bool b))),.v (.one (.p (.int .i64 c)))],[]=>(fun(b:Bool) (c:Int)=>(some (.br (I.hid (b)) (.one ⟨I.hid (b=true),(.pan (.ifc 91 false [(.int .i64 c)])),[]⟩) (.one ⟨I.hid (b=false),(.ret (.tup [])),[]⟩)):Option CT)) b c
  |_,_=>none
theorem QY:zA Tryd.prog 69 (YC alg):=by
  intro args hp r h
  unfold YC at h
  split at h
  · cases h;exact⟨fun _ hn=>zfO _ _ hn,fun _ hn=>zfP _ _ hn⟩
  · cases h
def yL:Know Tryd.prog:=⟨69,YC,QY⟩
def yK:Know Tryd.prog:=⟨69,fun I=>zB I (YC I),zf QY⟩
theorem zei (s:Str):Spc Tryd.prog 65 [.v (.one (.ptr 0 0))] [.pack [.obj 95 [(.p (.str s))]]] (.ret (.tup [])) [.pack [.obj 95 [(.p (.str ((skS s))))]]]:=by
  refine spcG zl mixed Tryd.func65 (by kernel_rfl) { keep:=some [0]} [SH,SG] (by kernel_rfl) ?_
  intro I X hI hX
  refine zi (.need (I.hid (α:=(Prop)) True) (.fin (.ret (.tup [])) [(.pack [(.obj 95 [(.p (.str (I.hid (α:=Str) (skS s))))])])])) (by kernel_rfl) ?_
  simp only [zu]
  subst hI
  simp only [nrmA,nrmB,nrlB,reduceCtorEq,HO.pack.injEq,HO.obj.injEq]
  try trivial
def sU (I:Alg) (args:List D) (hp:List HO):Option CT:=match args,hp with
  |[.v (.one (.ptr 0 0))],[.pack [.obj 95 [(.p (.str s))]]]=>(fun(s:Str)=>(some (.one ⟨I.hid (True),(.ret (.tup [])),[.pack [.obj 95 [(.p (.str (I.hid ((skS s)))))]]]⟩):Option CT)) s
  |_,_=>none
theorem Wn:zA Tryd.prog 65 (sU alg):=by
  intro args hp r h
  unfold sU at h
  split at h
  · cases h;exact fun hn=>zei _
  · cases h
def sS:Know Tryd.prog:=⟨65,sU,Wn⟩
def sQ:Know Tryd.prog:=⟨65,fun I=>zB I (sU I),zf Wn⟩
theorem zg4 (s:Str) (k:Int) (hneed:0≤k∧k≤255):Spc Tryd.prog 67 [.v (.one (.ptr 0 0)),.v (.one (.p (.int .u8 k)))] [.pack [.obj 95 [(.p (.str s))]]] (.ret (.v (.one (.p (.bool ((zQ s (UInt8.ofNat k.toNat)))))))) [.pack [.obj 95 [(.p (.str ((if zQ s (UInt8.ofNat k.toNat)=true then s.drop 1 else s))))]]]:=by
  generalize hr:zQ s (UInt8.ofNat k.toNat)=r
  refine spcG zl mixed Tryd.func67 (by kernel_rfl) { keep:=some [0,1,4,5]} [] (by kernel_rfl) ?_
  intro I X hI hX
  refine zi (let y0:=I.ieq (I.b2i (I.get (α:=UInt8) s 0 0)) k;let y1:HO:=.pack [(.obj 95 [(.p (.str s))])];.br (I.bnot (I.seq s ([]:Str))) (.need (I.inb 0 (I.len (α:=UInt8) s)) (.br y0 (.need (I.cutb 1 (I.len (α:=UInt8) s) (I.len (α:=UInt8) s)) (.fin (.ret (.v (.one (.p (.bool y0))))) [(.pack [(.obj 95 [(.p (.str (I.cut (α:=UInt8) s 1 (I.len (α:=UInt8) s))))])])])) (.fin (.ret (.v (.one (.p (.bool y0))))) [y1]))) (.fin (.ret (.v (.one (.p (.bool Bool.false))))) [y1])) (by kernel_rfl) ?_
  simp only [zu]
  subst hI
  simp only [nrmA,nrmB,nrlB,reduceCtorEq,HO.pack.injEq,HO.obj.injEq]
  have hk:((UInt8.ofNat k.toNat).toNat:Int)=k:=by rw [UInt8.toNat_ofNat',Nat.mod_eq_of_lt (by omega)];omega
  have hk2: ∀ c:UInt8,(c.toNat:Int)=k↔c=UInt8.ofNat k.toNat:=fun c=>⟨fun h=>by rw [← h];simp,fun h=>by rw [h];exact hk⟩
  rw [drop1]
  have hs:s=[]↔s.length=0:=List.length_eq_zero_iff.symm
  rw [hs]
  cases r with
  | true=>
    obtain⟨h1,h2⟩:=WH.1 hr
    have hkk:=(hk2 _).2 h2
    rw [hkk]
    (repeat' (first|refine And.intro ?_ ?_|intro _))<;>first|omega|exact True.intro|exact False.elim ‹False›|skip
    all_goals first|omega|(simp;done)|(simp_all;done)
  | false=>
    have h1:0<s.length→¬ ((s.getD 0 0).toNat:Int)=k:=fun h q=>by rw [WH.2 ⟨h,(hk2 _).1 q⟩] at hr;cases hr
    (repeat' (first|refine And.intro ?_ ?_|intro _))<;>first|omega|exact True.intro|exact False.elim ‹False›|skip
    all_goals first|omega|(simp;done)|(exfalso;exact h1 (by omega) ‹_›)|(have:=h1 (by omega);simp_all;done)|trace_state
def YA (I:Alg) (args:List D) (hp:List HO):Option CT:=match args,hp with
  |[.v (.one (.ptr 0 0)),.v (.one (.p (.int .u8 k)))],[.pack [.obj 95 [(.p (.str s))]]]=>(fun(s:Str) (k:Int)=>(some (.one ⟨I.hid (0≤k∧k≤255),(.ret (.v (.one (.p (.bool (I.hid ((zQ s (UInt8.ofNat k.toNat))))))))),[.pack [.obj 95 [(.p (.str (I.hid ((if zQ s (UInt8.ofNat k.toNat)=true then s.drop 1 else s)))))]]]⟩):Option CT)) s k
  |_,_=>none
theorem QV:zA Tryd.prog 67 (YA alg):=by
  intro args hp r h
  unfold YA at h
  split at h
  · cases h;exact fun hn=>zg4 _ _ hn
  · cases h
def sO:Know Tryd.prog:=⟨67,YA,QV⟩
def sN:Know Tryd.prog:=⟨67,fun I=>zB I (YA I),zf QV⟩
theorem zgZ (s:Str) (hneed:s.length≤1000000∧¬ tokS s=[]):Spc Tryd.prog 66 [.v (.one (.ptr 0 0))] [.pack [.obj 95 [(.p (.str s))]]] (.ret (.v (.one (.p (.str ((tokS s))))))) [.pack [.obj 95 [(.p (.str ((tokE s))))]]]:=by
  obtain⟨hl,hne⟩:=hneed
  refine spcG zl mixed Tryd.func66 (by kernel_rfl) { keep:=some [0,2,3,4]} [ug,qA,yL,yK] (by kernel_rfl) ?_
  intro I X hI hX
  refine zi (.code 0 [1,1,0,0] ⟨[(3,(.v (.one (.p (.int .i64 0))))),(2,(.v (.one (.p (.str ([]:Str)))))),(0,(.v (.one (.ptr 0 0))))],[(.pack [(.obj 95 [(.p (.str s))])])],42,none⟩) (by kernel_rfl) ?_
  simp only [zu]
  refine zL hI zl mixed [ug,qA,yL,yK] hX [0,3] (fun(i:Nat)=>i≤(tokS s).length) (fun(i:Nat)=>⟨[(0,.v (.one (.ptr 0 0))),(3,.v (.one (.p (.int .i64 i))))],[.pack [.obj 95 [(.p (.str s))]]],42,none⟩) (fun(i:Nat)=>s.length - i) 0 (by kernel_rfl) (by kernel_rfl) ?_ ?_
  · exact Nat.zero_le _
  rintro i h1 A hA
  refine zi (let y7:=I.cut (α:=UInt8) s 0 (Int.ofNat i);let y0:=I.seq y7 ([]:Str);let y1:HO:=.pack [(.obj 95 [(.p (.str (I.cut (α:=UInt8) s (Int.ofNat i) (I.len (α:=UInt8) s))))])];let y2:=I.b2i (I.get (α:=UInt8) s 0 (Nat.cast i));let y3:=I.cutb (Int.ofNat i) (I.len (α:=UInt8) s) (I.len (α:=UInt8) s);let y4:=I.cutb 0 (Int.ofNat i) (I.len (α:=UInt8) s);let y5:=I.hid (α:=(Prop)) (Eq y0 Bool.false);let y6:=I.hid (α:=(Prop)) (Eq y0 Bool.true);.br (I.ilt (Nat.cast i) (I.len (α:=UInt8) s)) (.need (I.inb (Nat.cast i) (I.len (α:=UInt8) s)) (.need (I.hid (α:=(Prop)) (And (LE.le (0:Int) y2) (LE.le y2 (255:Int)))) (.br (I.hid (α:=Bool) (tokB y2)) (.need (I.inr Go.IntKind.i64 (I.add (Nat.cast i) 1)) (.need (A ⟨[(0,(.v (.one (.ptr 0 0)))),(3,(.v (.one (.p (.int .i64 (I.add (Nat.cast i) 1))))))],[(.pack [(.obj 95 [(.p (.str s))])])],42,none⟩) .qed)) (.need y4 (.need y3 (.br (I.hid (α:=Bool) y0) (.need y6 (.fin (.pan (.ifc 91 .false [(.int .i64 5)])) [y1])) (.need y5 (.fin (.ret (.v (.one (.p (.str y7))))) [y1])))))))) (.need y4 (.need y3 (.br (I.hid (α:=Bool) y0) (.need y6 (.fin (.pan (.ifc 91 .false [(.int .i64 5)])) [y1])) (.need y5 (.fin (.ret (.v (.one (.p (.str y7))))) [y1])))))) (by kernel_rfl) ?_
  simp only [zu]
  subst hI
  simp only [nrmA,nrmB,nrlB,reduceCtorEq,HO.pack.injEq,HO.obj.injEq]
  have hb:=wB (s.getD i 0)
  have hs:=zbZ (p:=isTk) (s:=s) h1
  have hle:=xZ s
  have ht:=zfu isTk s
  have hd:=drop_tw isTk s
  unfold isTk at hs
  change _↔i<(tokS s).length at hs
  change s.take (tokS s).length=tokS s at ht
  change s.drop (tokS s).length=tokE s at hd
  have hlen:=zft s
  have hend: ¬ i<(tokS s).length→i=(tokS s).length:=fun h=>by omega
  generalize s.getD i 0=x at *
  have hgo:i<(tokS s).length→A ⟨[(0,.v (.one (.ptr 0 0))),(3,.v (.one (.p (.int .i64 (((i:Int)+1))))))],[.pack [.obj 95 [(.p (.str s))]]],42,none⟩:=fun h=>hA (i+1) (by omega) (by omega)
  by_cases hi:i<(tokS s).length
  · have hi2:=hs.2 hi
    clear hs hend ht hd hA
    (repeat' (first|refine And.intro ?_ ?_|intro _))<;>first|omega|exact True.intro|exact False.elim ‹False›|skip
    all_goals first
      |omega
      |exact hgo hi
      |(exfalso;simp_all;done)
  · have hx:i<s.length→tokB (x.toNat:Int)=true→False:=fun a b=>hi (hs.1 ⟨a,b⟩)
    have hi2:=hend hi
    clear hs hend hA hgo
    subst hi2
    rw [ht]
    have hcut:List.take (s.length - (tokS s).length) (List.drop (tokS s).length s)=tokE s:=by rw [hd];exact List.take_of_length_le (by omega)
    rw [hcut]
    (repeat' (first|refine And.intro ?_ ?_|intro _))<;>first|omega|exact True.intro|exact False.elim ‹False›|skip
    all_goals first
      |omega
      |(exfalso;exact hx (by omega) ‹_›)
      |(exfalso;exact hne ‹_›)
      |(simp [hne];done)
theorem zgY (s:Str) (hneed:s.length≤1000000∧tokS s=[]):Spc Tryd.prog 66 [.v (.one (.ptr 0 0))] [.pack [.obj 95 [(.p (.str s))]]] (.pan (.ifc 91 false [(.int .i64 5)])) [.pack [.obj 95 [(.p (.str ((tokE s))))]]]:=by
  obtain⟨hl,hne⟩:=hneed
  refine spcG zl mixed Tryd.func66 (by kernel_rfl) { keep:=some [0,2,3,4]} [ug,qA,yL,yK] (by kernel_rfl) ?_
  intro I X hI hX
  refine zi (.code 0 [1,1,0,0] ⟨[(3,(.v (.one (.p (.int .i64 0))))),(2,(.v (.one (.p (.str ([]:Str)))))),(0,(.v (.one (.ptr 0 0))))],[(.pack [(.obj 95 [(.p (.str s))])])],42,none⟩) (by kernel_rfl) ?_
  simp only [zu]
  refine zL hI zl mixed [ug,qA,yL,yK] hX [0,3] (fun(i:Nat)=>i≤(tokS s).length) (fun(i:Nat)=>⟨[(0,.v (.one (.ptr 0 0))),(3,.v (.one (.p (.int .i64 i))))],[.pack [.obj 95 [(.p (.str s))]]],42,none⟩) (fun(i:Nat)=>s.length - i) 0 (by kernel_rfl) (by kernel_rfl) ?_ ?_
  · exact Nat.zero_le _
  rintro i h1 A hA
  refine zi (let y7:=I.cut (α:=UInt8) s 0 (Int.ofNat i);let y0:=I.seq y7 ([]:Str);let y1:HO:=.pack [(.obj 95 [(.p (.str (I.cut (α:=UInt8) s (Int.ofNat i) (I.len (α:=UInt8) s))))])];let y2:=I.b2i (I.get (α:=UInt8) s 0 (Nat.cast i));let y3:=I.cutb (Int.ofNat i) (I.len (α:=UInt8) s) (I.len (α:=UInt8) s);let y4:=I.cutb 0 (Int.ofNat i) (I.len (α:=UInt8) s);let y5:=I.hid (α:=(Prop)) (Eq y0 Bool.false);let y6:=I.hid (α:=(Prop)) (Eq y0 Bool.true);.br (I.ilt (Nat.cast i) (I.len (α:=UInt8) s)) (.need (I.inb (Nat.cast i) (I.len (α:=UInt8) s)) (.need (I.hid (α:=(Prop)) (And (LE.le (0:Int) y2) (LE.le y2 (255:Int)))) (.br (I.hid (α:=Bool) (tokB y2)) (.need (I.inr Go.IntKind.i64 (I.add (Nat.cast i) 1)) (.need (A ⟨[(0,(.v (.one (.ptr 0 0)))),(3,(.v (.one (.p (.int .i64 (I.add (Nat.cast i) 1))))))],[(.pack [(.obj 95 [(.p (.str s))])])],42,none⟩) .qed)) (.need y4 (.need y3 (.br (I.hid (α:=Bool) y0) (.need y6 (.fin (.pan (.ifc 91 .false [(.int .i64 5)])) [y1])) (.need y5 (.fin (.ret (.v (.one (.p (.str y7))))) [y1])))))))) (.need y4 (.need y3 (.br (I.hid (α:=Bool) y0) (.need y6 (.fin (.pan (.ifc 91 .false [(.int .i64 5)])) [y1])) (.need y5 (.fin (.ret (.v (.one (.p (.str y7))))) [y1])))))) (by kernel_rfl) ?_
  simp only [zu]
  subst hI
  simp only [nrmA,nrmB,nrlB,reduceCtorEq,HO.pack.injEq,HO.obj.injEq]
  have hb:=wB (s.getD i 0)
  have hs:=zbZ (p:=isTk) (s:=s) h1
  have hd:=drop_tw isTk s
  unfold isTk at hs
  change _↔i<(tokS s).length at hs
  change s.drop (tokS s).length=tokE s at hd
  rw [hne] at h1 hs hd
  simp only [List.length_nil] at h1 hs hd
  have h0:i=0:=by omega
  subst h0
  generalize s.getD 0 0=x at *
  have hx:0<s.length→tokB (x.toNat:Int)=true→False:=fun a b=>absurd (hs.1 ⟨a,b⟩) (by omega)
  have hcut:List.take (s.length - 0) (List.drop 0 s)=tokE s:=by rw [hd];exact List.take_of_length_le (by have:=yY s;omega)
  clear hs hA
  simp only [Int.toNat_natCast,List.take_zero,hcut] at *
  (repeat' (first|refine And.intro ?_ ?_|intro _))<;>first|omega|exact True.intro|exact False.elim ‹False›|skip
  all_goals first
    |omega
    |(exfalso;exact hx (by omega) ‹_›)
    |(exfalso;rename_i hq;exact hq rfl)
    |(simp;done)
def Vs (I:Alg) (args:List D) (hp:List HO):Option CT:=match args,hp with
  |[.v (.one (.ptr 0 0))],[.pack [.obj 95 [(.p (.str s))]]]=>(fun(s:Str)=>(some (.br (I.hid (decide (tokS s=[]))) (.one ⟨I.hid (s.length≤1000000∧tokS s=[]),(.pan (.ifc 91 false [(.int .i64 5)])),[.pack [.obj 95 [(.p (.str (I.hid ((tokE s)))))]]]⟩) (.one ⟨I.hid (s.length≤1000000∧¬ tokS s=[]),(.ret (.v (.one (.p (.str (I.hid ((tokS s)))))))),[.pack [.obj 95 [(.p (.str (I.hid ((tokE s)))))]]]⟩)):Option CT)) s
  |_,_=>none
theorem zch:zA Tryd.prog 66 (Vs alg):=by
  intro args hp r h
  unfold Vs at h
  split at h
  · cases h;exact⟨fun _ hn=>zgY _ hn,fun _ hn=>zgZ _ hn⟩
  · cases h
def ZI:Know Tryd.prog:=⟨66,Vs,zch⟩
def ZH:Know Tryd.prog:=⟨66,fun I=>zB I (Vs I),zf zch⟩
theorem zg1 (s:Str) (hneed:s.length≤1000000∧(quoF s).isSome=true):Spc Tryd.prog 85 [.v (.one (.ptr 0 0))] [.pack [.obj 95 [(.p (.str s))]]] (.ret (.v (.one (.p (.str ((quoV s))))))) [.pack [.obj 95 [(.p (.str ((quoR s))))]]]:=by
  obtain⟨hl,hne⟩:=hneed
  refine spcG zl mixed Tryd.func85 (by kernel_rfl) { nr:=[3],keep:=some [0,2,3,4]} [yL,yK] (by kernel_rfl) ?_
  intro I X hI hX
  refine zi (.code 0 [1,1,0] ⟨[(3,(.v (.one (.row 1)))),(2,(.v (.one (.p (.str ([]:Str)))))),(0,(.v (.one (.ptr 0 0))))],[(.pack [(.obj 95 [(.p (.str s))])]),(.row .byte 5 ([]:Str))],53,none⟩) (by kernel_rfl) ?_
  simp only [zu]
  refine zL hI zl mixed [yL,yK] hX [0,3] (fun(g:Str × Str)=>match g with|(b,t)=>b.length+t.length≤s.length∧quoF s=(quoF t).map (fun p=>(b++p.1,p.2))) (fun(g:Str × Str)=>match g with|(b,t)=>⟨[(0,.v (.one (.ptr 0 0))),(3,.v (.one (.row 1)))],[.pack [.obj 95 [(.p (.str t))]],.row .byte 5 b],53,none⟩) (fun(g:Str × Str)=>match g with|(b,t)=>t.length) ([],s) (by kernel_rfl) (by kernel_rfl) ?_ ?_
  · exact⟨by simp,by simp⟩
  rintro⟨b,t⟩ ⟨h1,h2⟩ A hA
  refine zi (let y0:=I.cut (α:=UInt8) t 1 (I.len (α:=UInt8) t);let y1:=I.b2i (I.get (α:=UInt8) t 0 0);let y2:=I.b2i (I.get (α:=UInt8) y0 0 0);let y3:HO:=.pack [(.obj 95 [(.p (.str y0))])];.br (I.hid (α:=Bool) (I.seq t ([]:Str))) (.need (I.hid (α:=(Prop)) (Eq (I.seq t ([]:Str)) Bool.true)) (.fin (.pan (.ifc 91 .false [(.int .i64 14)])) [(.pack [(.obj 95 [(.p (.str t))])])])) (.need (I.hid (α:=(Prop)) (Eq (I.seq t ([]:Str)) Bool.false)) (.need (I.inb 0 (I.len (α:=UInt8) t)) (.need (I.cutb 1 (I.len (α:=UInt8) t) (I.len (α:=UInt8) t)) (.br (I.ieq y1 34) (.fin (.ret (.v (.one (.p (.str b))))) [y3]) (.br (I.ieq y1 92) (.br (I.hid (α:=Bool) (I.seq y0 ([]:Str))) (.need (I.hid (α:=(Prop)) (Eq (I.seq y0 ([]:Str)) Bool.true)) (.fin (.pan (.ifc 91 .false [(.int .i64 14)])) [y3])) (.need (I.hid (α:=(Prop)) (Eq (I.seq y0 ([]:Str)) Bool.false)) (.need (I.inb 0 (I.len (α:=UInt8) y0)) (.need (I.cutb 1 (I.len (α:=UInt8) y0) (I.len (α:=UInt8) y0)) (.need (I.inr Go.IntKind.u8 y2) (.need (I.few (I.add (I.len (α:=UInt8) b) (I.len (α:=UInt8) ([(I.i2b y2)]:Str))) 140737488355328) (.need (A ⟨[(0,(.v (.one (.ptr 0 0)))),(3,(.v (.one (.row 1))))],[(.pack [(.obj 95 [(.p (.str (I.cut (α:=UInt8) y0 1 (I.len (α:=UInt8) y0))))])]),(.row .byte 5 (I.app (α:=UInt8) b ([(I.i2b y2)]:Str)))],53,none⟩) .qed))))))) (.need (I.inr Go.IntKind.u8 y1) (.need (I.few (I.add (I.len (α:=UInt8) b) (I.len (α:=UInt8) ([(I.i2b y1)]:Str))) 140737488355328) (.need (A ⟨[(0,(.v (.one (.ptr 0 0)))),(3,(.v (.one (.row 1))))],[y3,(.row .byte 5 (I.app (α:=UInt8) b ([(I.i2b y1)]:Str)))],53,none⟩) .qed))))))))) (by kernel_rfl) ?_
  simp only [zu]
  subst hI
  simp only [nrmA,nrmB,nrlB,reduceCtorEq,HO.pack.injEq,HO.obj.injEq]
  have hb:=wB (t.getD 0 0)
  rw [drop1]
  have hq: ∀ r:Str × Str,quoF s=some r→True:=fun _ _=>trivial
  cases t with
  | nil=>
    simp only [quoF,Option.map_none] at h2
    (repeat' (first|refine And.intro ?_ ?_|intro _))<;>first|omega|exact True.intro|exact False.elim ‹False›|skip
    all_goals first
      |omega
      |(simp_all;done)
  |cons x t=>
  cases t with
  | nil=>
    simp only [quoF] at h2
    have h34:((x.toNat:Int)=34)↔x=34:=vO x 34
    have h92:((x.toNat:Int)=92)↔x=92:=vO x 92
    simp only [List.getD_cons_zero,h34,h92,List.drop_succ_cons,List.drop_zero,List.length_cons,List.length_nil] at *
    have hgo: ¬ x=34→A ⟨[(0,.v (.one (.ptr 0 0))),(3,.v (.one (.row 1)))],[.pack [.obj 95 [(.p (.str ([])))]],.row .byte 5 ((b++[x]))],53,none⟩:=fun h=>hA (b++[x],[]) ⟨by simp;omega,by rw [h2,if_neg h];rfl⟩ (by simp)
    have hv:x=34→quoV s=b∧quoR s=[]:=fun h=>by unfold quoV quoR;rw [h2,if_pos h];simp
    clear hA
    (repeat' (first|refine And.intro ?_ ?_|intro _))<;>first|omega|exact True.intro|exact False.elim ‹False›|skip
    all_goals first
      |omega
      |exact(hv ‹_›).1.symm
      |exact(hv ‹_›).2.symm
      |exact hgo ‹_›
      |(simp_all;done)
  | cons y t=>
    simp only [quoF] at h2
    have h34:((x.toNat:Int)=34)↔x=34:=vO x 34
    have h92:((x.toNat:Int)=92)↔x=92:=vO x 92
    have hy:=wB y
    have hyt:List.take (t.length+1 - Int.toNat 1) (List.drop (Int.toNat 1) (y::t))=t:=by simpa using drop1 (y::t)
    simp only [List.getD_cons_zero,h34,h92,List.drop_succ_cons,List.drop_zero,List.length_cons] at *
    have hgoY: ¬ x=34→x=92→A ⟨[(0,.v (.one (.ptr 0 0))),(3,.v (.one (.row 1)))],[.pack [.obj 95 [(.p (.str t))]],.row .byte 5 ((b++[y]))],53,none⟩:=fun h k=>hA (b++[y],t) ⟨by simp;omega,by rw [h2,if_neg h,if_pos k,Option.map_map];congr 1;funext p;simp⟩ (by simp;omega)
    have hgoX: ¬ x=34→¬ x=92→A ⟨[(0,.v (.one (.ptr 0 0))),(3,.v (.one (.row 1)))],[.pack [.obj 95 [(.p (.str ((y::t))))]],.row .byte 5 ((b++[x]))],53,none⟩:=fun h k=>hA (b++[x],y::t) ⟨by simp;omega,by rw [h2,if_neg h,if_neg k,Option.map_map];congr 1;funext p;simp⟩ (by simp)
    have hv:x=34→quoV s=b∧quoR s=y::t:=fun h=>by unfold quoV quoR;rw [h2,if_pos h];simp
    clear hA
    simp only [List.length_nil,Nat.zero_add]
    first|rw [hyt]|skip
    (repeat' (first|refine And.intro ?_ ?_|intro _))<;>first|omega|exact True.intro|exact False.elim ‹False›|skip
    all_goals first
      |omega
      |exact(hv ‹_›).1.symm
      |exact(hv ‹_›).2.symm
      |exact hgoX ‹_› ‹_›
      |exact hgoY ‹_› ‹_›
      |(simp_all;done)
theorem zg0 (s:Str) (hneed:s.length≤1000000∧(quoF s).isSome=false):Spc Tryd.prog 85 [.v (.one (.ptr 0 0))] [.pack [.obj 95 [(.p (.str s))]]] (.pan (.ifc 91 false [(.int .i64 14)])) [.pack [.obj 95 [(.p (.str ([])))]]]:=by
  obtain⟨hl,hne⟩:=hneed
  refine spcG zl mixed Tryd.func85 (by kernel_rfl) { nr:=[3],keep:=some [0,2,3,4]} [yL,yK] (by kernel_rfl) ?_
  intro I X hI hX
  refine zi (.code 0 [1,1,0] ⟨[(3,(.v (.one (.row 1)))),(2,(.v (.one (.p (.str ([]:Str)))))),(0,(.v (.one (.ptr 0 0))))],[(.pack [(.obj 95 [(.p (.str s))])]),(.row .byte 5 ([]:Str))],53,none⟩) (by kernel_rfl) ?_
  simp only [zu]
  refine zL hI zl mixed [yL,yK] hX [0,3] (fun(g:Str × Str)=>match g with|(b,t)=>b.length+t.length≤s.length∧quoF s=(quoF t).map (fun p=>(b++p.1,p.2))) (fun(g:Str × Str)=>match g with|(b,t)=>⟨[(0,.v (.one (.ptr 0 0))),(3,.v (.one (.row 1)))],[.pack [.obj 95 [(.p (.str t))]],.row .byte 5 b],53,none⟩) (fun(g:Str × Str)=>match g with|(b,t)=>t.length) ([],s) (by kernel_rfl) (by kernel_rfl) ?_ ?_
  · exact⟨by simp,by simp⟩
  rintro⟨b,t⟩ ⟨h1,h2⟩ A hA
  refine zi (let y0:=I.cut (α:=UInt8) t 1 (I.len (α:=UInt8) t);let y1:=I.b2i (I.get (α:=UInt8) t 0 0);let y2:=I.b2i (I.get (α:=UInt8) y0 0 0);let y3:HO:=.pack [(.obj 95 [(.p (.str y0))])];.br (I.hid (α:=Bool) (I.seq t ([]:Str))) (.need (I.hid (α:=(Prop)) (Eq (I.seq t ([]:Str)) Bool.true)) (.fin (.pan (.ifc 91 .false [(.int .i64 14)])) [(.pack [(.obj 95 [(.p (.str t))])])])) (.need (I.hid (α:=(Prop)) (Eq (I.seq t ([]:Str)) Bool.false)) (.need (I.inb 0 (I.len (α:=UInt8) t)) (.need (I.cutb 1 (I.len (α:=UInt8) t) (I.len (α:=UInt8) t)) (.br (I.ieq y1 34) (.fin (.ret (.v (.one (.p (.str b))))) [y3]) (.br (I.ieq y1 92) (.br (I.hid (α:=Bool) (I.seq y0 ([]:Str))) (.need (I.hid (α:=(Prop)) (Eq (I.seq y0 ([]:Str)) Bool.true)) (.fin (.pan (.ifc 91 .false [(.int .i64 14)])) [y3])) (.need (I.hid (α:=(Prop)) (Eq (I.seq y0 ([]:Str)) Bool.false)) (.need (I.inb 0 (I.len (α:=UInt8) y0)) (.need (I.cutb 1 (I.len (α:=UInt8) y0) (I.len (α:=UInt8) y0)) (.need (I.inr Go.IntKind.u8 y2) (.need (I.few (I.add (I.len (α:=UInt8) b) (I.len (α:=UInt8) ([(I.i2b y2)]:Str))) 140737488355328) (.need (A ⟨[(0,(.v (.one (.ptr 0 0)))),(3,(.v (.one (.row 1))))],[(.pack [(.obj 95 [(.p (.str (I.cut (α:=UInt8) y0 1 (I.len (α:=UInt8) y0))))])]),(.row .byte 5 (I.app (α:=UInt8) b ([(I.i2b y2)]:Str)))],53,none⟩) .qed))))))) (.need (I.inr Go.IntKind.u8 y1) (.need (I.few (I.add (I.len (α:=UInt8) b) (I.len (α:=UInt8) ([(I.i2b y1)]:Str))) 140737488355328) (.need (A ⟨[(0,(.v (.one (.ptr 0 0)))),(3,(.v (.one (.row 1))))],[y3,(.row .byte 5 (I.app (α:=UInt8) b ([(I.i2b y1)]:Str)))],53,none⟩) .qed))))))))) (by kernel_rfl) ?_
  simp only [zu]
  subst hI
  simp only [nrmA,nrmB,nrlB,reduceCtorEq,HO.pack.injEq,HO.obj.injEq]
  have hb:=wB (t.getD 0 0)
  rw [drop1]
  have hq: ∀ r:Str × Str,quoF s=some r→True:=fun _ _=>trivial
  cases t with
  | nil=>
    simp only [quoF,Option.map_none] at h2
    (repeat' (first|refine And.intro ?_ ?_|intro _))<;>first|omega|exact True.intro|exact False.elim ‹False›|skip
    all_goals first
      |omega
      |(simp_all;done)
  |cons x t=>
  cases t with
  | nil=>
    simp only [quoF] at h2
    have h34:((x.toNat:Int)=34)↔x=34:=vO x 34
    have h92:((x.toNat:Int)=92)↔x=92:=vO x 92
    simp only [List.getD_cons_zero,h34,h92,List.drop_succ_cons,List.drop_zero,List.length_cons,List.length_nil] at *
    have hgo: ¬ x=34→A ⟨[(0,.v (.one (.ptr 0 0))),(3,.v (.one (.row 1)))],[.pack [.obj 95 [(.p (.str ([])))]],.row .byte 5 ((b++[x]))],53,none⟩:=fun h=>hA (b++[x],[]) ⟨by simp;omega,by rw [h2,if_neg h];rfl⟩ (by simp)
    have hv:x=34→quoV s=b∧quoR s=[]:=fun h=>by unfold quoV quoR;rw [h2,if_pos h];simp
    clear hA
    (repeat' (first|refine And.intro ?_ ?_|intro _))<;>first|omega|exact True.intro|exact False.elim ‹False›|skip
    all_goals first
      |omega
      |exact(hv ‹_›).1.symm
      |exact(hv ‹_›).2.symm
      |exact hgo ‹_›
      |(simp_all;done)
  | cons y t=>
    simp only [quoF] at h2
    have h34:((x.toNat:Int)=34)↔x=34:=vO x 34
    have h92:((x.toNat:Int)=92)↔x=92:=vO x 92
    have hy:=wB y
    have hyt:List.take (t.length+1 - Int.toNat 1) (List.drop (Int.toNat 1) (y::t))=t:=by simpa using drop1 (y::t)
    simp only [List.getD_cons_zero,h34,h92,List.drop_succ_cons,List.drop_zero,List.length_cons] at *
    have hgoY: ¬ x=34→x=92→A ⟨[(0,.v (.one (.ptr 0 0))),(3,.v (.one (.row 1)))],[.pack [.obj 95 [(.p (.str t))]],.row .byte 5 ((b++[y]))],53,none⟩:=fun h k=>hA (b++[y],t) ⟨by simp;omega,by rw [h2,if_neg h,if_pos k,Option.map_map];congr 1;funext p;simp⟩ (by simp;omega)
    have hgoX: ¬ x=34→¬ x=92→A ⟨[(0,.v (.one (.ptr 0 0))),(3,.v (.one (.row 1)))],[.pack [.obj 95 [(.p (.str ((y::t))))]],.row .byte 5 ((b++[x]))],53,none⟩:=fun h k=>hA (b++[x],y::t) ⟨by simp;omega,by rw [h2,if_neg h,if_neg k,Option.map_map];congr 1;funext p;simp⟩ (by simp)
    have hv:x=34→quoV s=b∧quoR s=y::t:=fun h=>by unfold quoV quoR;rw [h2,if_pos h];simp
    clear hA
    simp only [List.length_nil,Nat.zero_add]
    first|rw [hyt]|skip
    (repeat' (first|refine And.intro ?_ ?_|intro _))<;>first|omega|exact True.intro|exact False.elim ‹False›|skip
    all_goals first
      |omega
      |exact(hv ‹_›).1.symm
      |exact(hv ‹_›).2.symm
      |exact hgoX ‹_› ‹_›
      |exact hgoY ‹_› ‹_›
      |(simp_all;done)
def Vt (I:Alg) (args:List D) (hp:List HO):Option CT:=match args,hp with
  |[.v (.one (.ptr 0 0))],[.pack [.obj 95 [(.p (.str s))]]]=>(fun(s:Str)=>(some (.br (I.hid ((quoF s).isSome)) (.one ⟨I.hid (s.length≤1000000∧(quoF s).isSome=true),(.ret (.v (.one (.p (.str (I.hid ((quoV s)))))))),[.pack [.obj 95 [(.p (.str (I.hid ((quoR s)))))]]]⟩) (.one ⟨I.hid (s.length≤1000000∧(quoF s).isSome=false),(.pan (.ifc 91 false [(.int .i64 14)])),[.pack [.obj 95 [(.p (.str (I.hid ([]))))]]]⟩)):Option CT)) s
  |_,_=>none
theorem zck:zA Tryd.prog 85 (Vt alg):=by
  intro args hp r h
  unfold Vt at h
  split at h
  · cases h;exact⟨fun _ hn=>zg1 _ hn,fun _ hn=>zg0 _ hn⟩
  · cases h
def zcj:Know Tryd.prog:=⟨85,Vt,zck⟩
def zci:Know Tryd.prog:=⟨85,fun I=>zB I (Vt I),zf zck⟩
theorem zg3 (s:Str) (hneed:s.length≤1000000∧(parM s).1=0):Spc Tryd.prog 68 [.v (.one (.ptr 0 0))] [.pack [.obj 95 [(.p (.str s))]]] (.ret (.v (.agg [(.p (.str ((parM s).2.1.name))),(.p (.str ((parM s).2.1.value)))]))) [.pack [.obj 95 [(.p (.str ((parM s).2.2)))]]]:=by
  obtain⟨hl,hc⟩:=hneed
  generalize hr:parM s=r at hc
  obtain⟨c,⟨n,v⟩,z⟩:=r
  simp only at hc
  subst hc
  refine spcG zl mixed Tryd.func68 (by kernel_rfl) { keep:=some [0,2,3]} [xw,xu,yL,yK,sO,sN,ZI,ZH,zcj,zci] (by kernel_rfl) ?_
  intro I X hI hX
  refine zi (let y2:=I.hid (α:=Str) (ite (Eq (zQ (I.hid (α:=Str) (tokE s)) (UInt8.ofNat (Int.toNat (61:Int)))) Bool.true) (List.drop 1 (I.hid (α:=Str) (tokE s))) (I.hid (α:=Str) (tokE s)));let y0:=I.hid (α:=Str) (ite (Eq (zQ y2 (UInt8.ofNat (Int.toNat (34:Int)))) Bool.true) (List.drop 1 y2) y2);let y1:=I.bnot (I.hid (α:=Bool) (zQ (I.hid (α:=Str) (tokE s)) (UInt8.ofNat (Int.toNat (61:Int)))));let y3:HO:=.pack [(.obj 95 [(.p (.str (I.hid (α:=Str) (tokE y0))))])];let y4:=I.hid (α:=Str) (lowS (I.hid (α:=Str) (tokS s)));.br (I.hid (α:=Bool) (Decidable.decide (Eq (tokS s) ([]:Str)))) (.need (I.hid (α:=(Prop)) (And (LE.le (List.length s) 1000000) (Eq (tokS s) ([]:Str)))) (.fin (.pan (.ifc 91 .false [(.int .i64 5)])) [(.pack [(.obj 95 [(.p (.str (I.hid (α:=Str) (tokE s))))])])])) (.need (I.hid (α:=(Prop)) (And (LE.le (List.length s) 1000000) (Not (Eq (tokS s) ([]:Str))))) (.need (I.hid (α:=(Prop)) (LE.le (List.length (I.hid (α:=Str) (tokS s))) 1000000)) (.need (I.hid (α:=(Prop)) (And (LE.le (0:Int) (61:Int)) (LE.le (61:Int) (255:Int)))) (.br (I.hid (α:=Bool) y1) (.need (I.hid (α:=(Prop)) (Eq y1 Bool.true)) (.fin (.pan (.ifc 91 .false [(.int .i64 5)])) [(.pack [(.obj 95 [(.p (.str y2))])])])) (.need (I.hid (α:=(Prop)) (Eq y1 Bool.false)) (.need (I.hid (α:=(Prop)) (And (LE.le (0:Int) (34:Int)) (LE.le (34:Int) (255:Int)))) (.br (I.hid (α:=Bool) (zQ y2 (UInt8.ofNat (Int.toNat (34:Int))))) (.br (I.hid (α:=Bool) (Option.isSome (quoF y0))) (.need (I.hid (α:=(Prop)) (And (LE.le (List.length y0) 1000000) (Eq (Option.isSome (quoF y0)) Bool.true))) (.fin (.ret (.v (.agg [(.p (.str y4)),(.p (.str (I.hid (α:=Str) (quoV y0))))]))) [(.pack [(.obj 95 [(.p (.str (I.hid (α:=Str) (quoR y0))))])])])) (.need (I.hid (α:=(Prop)) (And (LE.le (List.length y0) 1000000) (Eq (Option.isSome (quoF y0)) Bool.false))) (.fin (.pan (.ifc 91 .false [(.int .i64 14)])) [(.pack [(.obj 95 [(.p (.str (I.hid (α:=Str) ([]:Str))))])])]))) (.br (I.hid (α:=Bool) (Decidable.decide (Eq (tokS y0) ([]:Str)))) (.need (I.hid (α:=(Prop)) (And (LE.le (List.length y0) 1000000) (Eq (tokS y0) ([]:Str)))) (.fin (.pan (.ifc 91 .false [(.int .i64 5)])) [y3])) (.need (I.hid (α:=(Prop)) (And (LE.le (List.length y0) 1000000) (Not (Eq (tokS y0) ([]:Str))))) (.fin (.ret (.v (.agg [(.p (.str y4)),(.p (.str (I.hid (α:=Str) (tokS y0))))]))) [y3]))))))))))) (by kernel_rfl) ?_
  simp only [zu]
  subst hI
  simp only [nrmA,nrmB,nrlB,reduceCtorEq,HO.pack.injEq,HO.obj.injEq]
  unfold parM at hr
  have hl1:=xZ s
  have hl2:=yY s
  simp only [show UInt8.ofNat (Int.toNat 61)=61 from rfl,show UInt8.ofNat (Int.toNat 34)=34 from rfl] at *
  (repeat' (first|refine And.intro ?_ ?_|intro _))<;>first|omega|exact True.intro|exact False.elim ‹False›|skip
  all_goals first
    |omega
    |(simp_all;done)
    |(simp_all;omega)
theorem zg2 (s:Str) (hneed:s.length≤1000000∧¬ (parM s).1=0):Spc Tryd.prog 68 [.v (.one (.ptr 0 0))] [.pack [.obj 95 [(.p (.str s))]]] (.pan (.ifc 91 false [(.int .i64 ((parM s).1))])) [.pack [.obj 95 [(.p (.str ((parM s).2.2)))]]]:=by
  obtain⟨hl,hc⟩:=hneed
  generalize hr:parM s=r at hc
  obtain⟨c,⟨n,v⟩,z⟩:=r
  simp only at hc
  refine spcG zl mixed Tryd.func68 (by kernel_rfl) { keep:=some [0,2,3]} [xw,xu,yL,yK,sO,sN,ZI,ZH,zcj,zci] (by kernel_rfl) ?_
  intro I X hI hX
  refine zi (let y2:=I.hid (α:=Str) (ite (Eq (zQ (I.hid (α:=Str) (tokE s)) (UInt8.ofNat (Int.toNat (61:Int)))) Bool.true) (List.drop 1 (I.hid (α:=Str) (tokE s))) (I.hid (α:=Str) (tokE s)));let y0:=I.hid (α:=Str) (ite (Eq (zQ y2 (UInt8.ofNat (Int.toNat (34:Int)))) Bool.true) (List.drop 1 y2) y2);let y1:=I.bnot (I.hid (α:=Bool) (zQ (I.hid (α:=Str) (tokE s)) (UInt8.ofNat (Int.toNat (61:Int)))));let y3:HO:=.pack [(.obj 95 [(.p (.str (I.hid (α:=Str) (tokE y0))))])];let y4:=I.hid (α:=Str) (lowS (I.hid (α:=Str) (tokS s)));.br (I.hid (α:=Bool) (Decidable.decide (Eq (tokS s) ([]:Str)))) (.need (I.hid (α:=(Prop)) (And (LE.le (List.length s) 1000000) (Eq (tokS s) ([]:Str)))) (.fin (.pan (.ifc 91 .false [(.int .i64 5)])) [(.pack [(.obj 95 [(.p (.str (I.hid (α:=Str) (tokE s))))])])])) (.need (I.hid (α:=(Prop)) (And (LE.le (List.length s) 1000000) (Not (Eq (tokS s) ([]:Str))))) (.need (I.hid (α:=(Prop)) (LE.le (List.length (I.hid (α:=Str) (tokS s))) 1000000)) (.need (I.hid (α:=(Prop)) (And (LE.le (0:Int) (61:Int)) (LE.le (61:Int) (255:Int)))) (.br (I.hid (α:=Bool) y1) (.need (I.hid (α:=(Prop)) (Eq y1 Bool.true)) (.fin (.pan (.ifc 91 .false [(.int .i64 5)])) [(.pack [(.obj 95 [(.p (.str y2))])])])) (.need (I.hid (α:=(Prop)) (Eq y1 Bool.false)) (.need (I.hid (α:=(Prop)) (And (LE.le (0:Int) (34:Int)) (LE.le (34:Int) (255:Int)))) (.br (I.hid (α:=Bool) (zQ y2 (UInt8.ofNat (Int.toNat (34:Int))))) (.br (I.hid (α:=Bool) (Option.isSome (quoF y0))) (.need (I.hid (α:=(Prop)) (And (LE.le (List.length y0) 1000000) (Eq (Option.isSome (quoF y0)) Bool.true))) (.fin (.ret (.v (.agg [(.p (.str y4)),(.p (.str (I.hid (α:=Str) (quoV y0))))]))) [(.pack [(.obj 95 [(.p (.str (I.hid (α:=Str) (quoR y0))))])])])) (.need (I.hid (α:=(Prop)) (And (LE.le (List.length y0) 1000000) (Eq (Option.isSome (quoF y0)) Bool.false))) (.fin (.pan (.ifc 91 .false [(.int .i64 14)])) [(.pack [(.obj 95 [(.p (.str (I.hid (α:=Str) ([]:Str))))])])]))) (.br (I.hid (α:=Bool) (Decidable.decide (Eq (tokS y0) ([]:Str)))) (.need (I.hid (α:=(Prop)) (And (LE.le (List.length y0) 1000000) (Eq (tokS y0) ([]:Str)))) (.fin (.pan (.ifc 91 .false [(.int .i64 5)])) [y3])) (.need (I.hid (α:=(Prop)) (And (LE.le (List.length y0) 1000000) (Not (Eq (tokS y0) ([]:Str))))) (.fin (.ret (.v (.agg [(.p (.str y4)),(.p (.str (I.hid (α:=Str) (tokS y0))))]))) [y3]))))))))))) (by kernel_rfl) ?_
  simp only [zu]
  subst hI
  simp only [nrmA,nrmB,nrlB,reduceCtorEq,HO.pack.injEq,HO.obj.injEq]
  unfold parM at hr
  have hl1:=xZ s
  have hl2:=yY s
  simp only [show UInt8.ofNat (Int.toNat 61)=61 from rfl,show UInt8.ofNat (Int.toNat 34)=34 from rfl] at *
  (repeat' (first|refine And.intro ?_ ?_|intro _))<;>first|omega|exact True.intro|exact False.elim ‹False›|skip
  all_goals first
    |omega
    |(simp_all;done)
    |(simp_all;omega)
    |(by_cases hq:tokS (List.drop 1 (tokE s))=[]<;>simp_all;done)
def Vx (I:Alg) (args:List D) (hp:List HO):Option CT:=match args,hp with
  |[.v (.one (.ptr 0 0))],[.pack [.obj 95 [(.p (.str s))]]]=>(fun(s:Str)=>(some (.br (I.hid (decide ((parM s).1=0))) (.one ⟨I.hid (s.length≤1000000∧(parM s).1=0),(.ret (.v (.agg [(.p (.str (I.hid ((parM s).2.1.name)))),(.p (.str (I.hid ((parM s).2.1.value))))]))),[.pack [.obj 95 [(.p (.str (I.hid ((parM s).2.2))))]]]⟩) (.one ⟨I.hid (s.length≤1000000∧¬ (parM s).1=0),(.pan (.ifc 91 false [(.int .i64 (I.hid ((parM s).1)))])),[.pack [.obj 95 [(.p (.str (I.hid ((parM s).2.2))))]]]⟩)):Option CT)) s
  |_,_=>none
theorem zcn:zA Tryd.prog 68 (Vx alg):=by
  intro args hp r h
  unfold Vx at h
  split at h
  · cases h;exact⟨fun _ hn=>zg3 _ hn,fun _ hn=>zg2 _ hn⟩
  · cases h
def Vw:Know Tryd.prog:=⟨68,Vx,zcn⟩
def Vu:Know Tryd.prog:=⟨68,fun I=>zB I (Vx I),zf zcn⟩
end Go.Proofs.YtknaogelmckimaaDoor
namespace Go.Proofs.YtknaogelmckimaaDoor
open Go Go.Sep Go.Ab
set_option maxRecDepth 100000
theorem zg9 (a b n:Str):Spc Tryd.prog 53 [.v (.agg [(.p (.str a)),(.p (.str b))]),.v (.one (.ptr 0 0))] [.pack [.obj 9 [(.p (.str n))]]] (.ret (.v (.one (.p (.bool ((a == n))))))) [.pack [.obj 9 [(.p (.str n))]]]:=by
  refine spcG zl mixed Tryd.func53 (by kernel_rfl) { keep:=some [0,1,2,3]} [] (by kernel_rfl) ?_
  intro I X hI hX
  refine zi (.fin (.ret (.v (.one (.p (.bool (I.seq a n)))))) [(.pack [(.obj 9 [(.p (.str n))])])]) (by kernel_rfl) ?_
  simp only [zu]
  subst hI
  simp only [nrmA,nrmB,nrlB,reduceCtorEq,HO.pack.injEq,HO.obj.injEq]
  try trivial
def YB (I:Alg) (args:List D) (hp:List HO):Option CT:=match args,hp with
  |[.v (.agg [(.p (.str a)),(.p (.str b))]),.v (.one (.ptr 0 0))],[.pack [.obj 9 [(.p (.str n))]]]=>(fun(a b n:Str)=>(some (.one ⟨I.hid (True),(.ret (.v (.one (.p (.bool (I.hid ((a == n)))))))),[.pack [.obj 9 [(.p (.str n))]]]⟩):Option CT)) a b n
  |_,_=>none
theorem QX:zA Tryd.prog 53 (YB alg):=by
  intro args hp r h
  unfold YB at h
  split at h
  · cases h;exact fun hn=>zg9 _ _ _
  · cases h
def VA:Know Tryd.prog:=⟨53,YB,QX⟩
def zeh:Know Tryd.prog:=⟨53,fun I=>zB I (YB I),zf QX⟩
def ixP (l:List Fld) (n:Str):Int:=if l.findIdx (fun f=>f.name == n)<l.length then(l.findIdx (fun f=>f.name == n):Int) else -1
set_option maxHeartbeats 1000000 in
theorem pIx_ (l:List Fld) (n:Str) (hneed:l.length≤1000000):Spc Tryd.prog 52 [.v (.one (.p (.list .fld l))),.v (.one (.fn 53 [.ptr 0 0]))] [.pack [.obj 9 [(.p (.str n))]]] (.ret (.v (.one (.p (.int .i64 ((ixP l n))))))) [.pack [.obj 9 [(.p (.str n))]]]:=by
  refine spcG zl mixed Tryd.func52 (by kernel_rfl) { keep:=some [0,1,4,5,7,8]} [VA] (by kernel_rfl) ?_
  intro I X hI hX
  refine zi (.code 0 [1,0,1,0] ⟨[(8,(.v (.one (.p (.int .i64 0))))),(7,(.v (.one (.p (.int .i64 (I.len (α:=Fld) l)))))),(4,(.v (.one (.p (.int .i64 0))))),(0,(.v (.one (.p (.list .fld l))))),(1,(.v (.one (.fn 53 [(.ptr 0 0)]))))],[(.pack [(.obj 9 [(.p (.str n))])])],19,none⟩) (by kernel_rfl) ?_
  simp only [zu]
  refine zL hI zl mixed [VA] hX [0,1,7,8] (fun(i:Nat)=>i≤l.length∧i≤l.findIdx (fun f=>f.name == n)) (fun(i:Nat)=>⟨[(0,.v (.one (.p (.list .fld l)))),(1,.v (.one (.fn 53 [.ptr 0 0]))),(7,.v (.one (.p (.int .i64 ((I.len (α:=Fld) l)))))),(8,.v (.one (.p (.int .i64 i))))],[.pack [.obj 9 [(.p (.str n))]]],19,none⟩) (fun(i:Nat)=>l.length - i) 0 (by kernel_rfl) (by kernel_rfl) ?_ ?_
  · exact⟨Nat.zero_le _,Nat.zero_le _⟩
  rintro i ⟨h1,h2⟩ A hA
  refine zi (let y0:HO:=.pack [(.obj 9 [(.p (.str n))])];let y1:=I.inb (Nat.cast i) (I.len (α:=Fld) l);.br (I.ilt (Nat.cast i) (I.len (α:=Fld) l)) (.need y1 (.need y1 (.need (I.hid (α:=(Prop)) True) (.br (I.hid (α:=Bool) (BEq.beq (Fld.name (I.get (α:=Fld) l (Fld.mk ([]:Str) ([]:Str)) (Nat.cast i))) n)) (.fin (.ret (.v (.one (.p (.int .i64 (Nat.cast i)))))) [y0]) (.need (I.inr Go.IntKind.i64 (I.add (Nat.cast i) 1)) (.need (A ⟨[(0,(.v (.one (.p (.list .fld l))))),(1,(.v (.one (.fn 53 [(.ptr 0 0)])))),(7,(.v (.one (.p (.int .i64 (I.len (α:=Fld) l)))))),(8,(.v (.one (.p (.int .i64 (I.add (Nat.cast i) 1))))))],[y0],19,none⟩) .qed)))))) (.fin (.ret (.v (.one (.p (.int .i64 (Neg.neg (1:Int))))))) [y0])) (by kernel_rfl) ?_
  simp only [zu]
  subst hI
  simp only [nrmA,nrmB,nrlB,reduceCtorEq,HO.pack.injEq,HO.obj.injEq]
  have hfl:l.findIdx (fun f=>f.name == n)≤l.length:=List.findIdx_le_length
  have hyes:i<l.length→(l.getD i ⟨[],[]⟩).name=n→ixP l n=i:=fun h hid=>by
    have h0:l.findIdx (fun f=>f.name == n)≤i:=by
      refine Nat.le_of_not_lt fun hlt=> ?_
      have:=List.not_of_lt_findIdx hlt
      rw [List.getD_eq_getElem?_getD,List.getElem?_eq_getElem h] at hid
      simp only [Option.getD_some] at hid
      rw [hid] at this;simp at this
    unfold ixP
    rw [if_pos (by omega)];omega
  have hno:i<l.length→¬ (l.getD i ⟨[],[]⟩).name=n→i+1≤l.findIdx (fun f=>f.name == n):=fun h hid=>by
    refine Nat.lt_of_le_of_ne h2 fun e=>hid ?_
    have hlt:l.findIdx (fun f=>f.name == n)<l.length:=by omega
    have:=List.findIdx_getElem (xs:=l) (p:=fun f=>f.name == n) (w:=hlt)
    have h9:l.getD i ⟨[],[]⟩=l[l.findIdx (fun f=>f.name == n)]:=by simp [e,List.getD_eq_getElem?_getD,hlt]
    rw [h9];simpa using this
  have hend: ¬ i<l.length→ixP l n= -1:=fun h=>by unfold ixP;rw [if_neg (by omega)]
  generalize l.getD i ⟨[],[]⟩=x at *
  (repeat' (first|refine And.intro ?_ ?_|intro _))<;>first|omega|exact True.intro|exact False.elim ‹False›|skip
  all_goals first
    |omega
    |(exact(hyes (by omega) ‹_›).symm)
    |(exact hA (i+1) ⟨by omega,hno (by omega) ‹_›⟩ (by omega))
    |(exact(hend (by omega)).symm)
def QW (I:Alg) (args:List D) (hp:List HO):Option CT:=match args,hp with
  |[.v (.one (.p (.list .fld l))),.v (.one (.fn 53 [.ptr 0 0]))],[.pack [.obj 9 [(.p (.str n))]]]=>(fun(l:List Fld) (n:Str)=>(some (.one ⟨I.hid (l.length≤1000000),(.ret (.v (.one (.p (.int .i64 (I.hid ((ixP l n)))))))),[.pack [.obj 9 [(.p (.str n))]]]⟩):Option CT)) l n
  |_,_=>none
theorem ze3:zA Tryd.prog 52 (QW alg):=by
  intro args hp r h
  unfold QW at h
  split at h
  · cases h;exact fun hn=>pIx_ _ _ hn
  · cases h
def zg8:Know Tryd.prog:=⟨52,QW,ze3⟩
def zg7:Know Tryd.prog:=⟨52,fun I=>zB I (QW I),zf ze3⟩
theorem zhm (l:List Fld) (n:Str): -1≤ixP l n∧ixP l n<l.length:=by unfold ixP;split<;>omega
theorem zga (l:List Fld) (n:Str):getP l n=if 0≤ixP l n then((l.getD (ixP l n).toNat ⟨[],[]⟩).value,true) else([],false):=by
  unfold getP ixP
  rw [List.find?_eq_getElem?_findIdx]
  by_cases h:l.findIdx (fun f=>f.name == n)<l.length
  · rw [if_pos h,if_pos (by omega),List.getElem?_eq_getElem h]
    simp [List.getD_eq_getElem?_getD,h]
  · rw [if_neg h,if_neg (by omega),List.getElem?_eq_none (by omega)]
theorem zhX (w:Str) (l:List Fld) (n:Str) (hneed:l.length≤1000000):Spc Tryd.prog 29 [.v (.agg [(.p (.str w)),(.p (.list .fld l))]),.v (.one (.p (.str n)))] [] (.ret (.tup [(.one (.p (.str ((getP l n).1)))),(.one (.p (.bool ((getP l n).2))))])) []:=by
  rw [zga]
  have hx:=zhm l n
  refine spcG zl mixed Tryd.func29 (by kernel_rfl) { keep:=some [0,1,2,3,4,5,6]} [VA,zeh,zg8,zg7] (by kernel_rfl) ?_
  intro I X hI hX
  refine zi (let y0:=I.inb (I.hid (α:=Int) (ixP l n)) (I.len (α:=Fld) l);.need (I.hid (α:=(Prop)) (LE.le (List.length l) 1000000)) (.br (I.ilt (I.hid (α:=Int) (ixP l n)) 0) (.fin (.ret (.tup [(.one (.p (.str ([]:Str)))),(.one (.p (.bool Bool.false)))])) []) (.need y0 (.need y0 (.fin (.ret (.tup [(.one (.p (.str (Fld.value (I.get (α:=Fld) l (Fld.mk ([]:Str) ([]:Str)) (I.hid (α:=Int) (ixP l n))))))),(.one (.p (.bool Bool.true)))])) []))))) (by kernel_rfl) ?_
  simp only [zu]
  subst hI
  simp only [nrmA,nrmB]
  (repeat' (first|refine And.intro ?_ ?_|intro _))<;>first|omega|exact True.intro|exact False.elim ‹False›|skip
  all_goals first
    |omega
    |(rw [if_pos (by omega)])
    |(rw [if_neg (by omega)])
def Vz (I:Alg) (args:List D) (hp:List HO):Option CT:=match args,hp with
  |[.v (.agg [(.p (.str w)),(.p (.list .fld l))]),.v (.one (.p (.str n)))],[]=>(fun(w:Str) (l:List Fld) (n:Str)=>(some (.one ⟨I.hid (l.length≤1000000),(.ret (.tup [(.one (.p (.str (I.hid ((getP l n).1))))),(.one (.p (.bool (I.hid ((getP l n).2)))))])),[]⟩):Option CT)) w l n
  |_,_=>none
theorem zcp:zA Tryd.prog 29 (Vz alg):=by
  intro args hp r h
  unfold Vz at h
  split at h
  · cases h;exact fun hn=>zhX _ _ _ hn
  · cases h
def Xd:Know Tryd.prog:=⟨29,Vz,zcp⟩
def Xc:Know Tryd.prog:=⟨29,fun I=>zB I (Vz I),zf zcp⟩
def cfgM:Cfg:= { sl:=[⟨72,1,.fld,some 98⟩]}
set_option maxHeartbeats 4000000 in
theorem zg6 (s:Str) (hneed:s.length≤1000000∧(yg s).1=0):Spc Tryd.prog 51 [.v (.one (.ptr 0 0))] [.pack [.obj 95 [(.p (.str s))]]] (.ret (.v (.agg [(.p (.str ((yg s).2.1.word))),(.p (.list .fld ((yg s).2.1.params)))]))) [.pack [.obj 95 [(.p (.str ((yg s).2.2)))]]]:=by
  obtain⟨hl,hc⟩:=hneed
  generalize hr:yg s=r at hc
  obtain⟨c,⟨w,ps⟩,z⟩:=r
  simp only at hc
  subst hc
  refine spcG zl mixed Tryd.func51 (by kernel_rfl) { cfgM with lend:=[29],keep:=some [0,2,3,4,6]} [xw,xu,yL,yK,sS,sQ,sO,sN,ZI,ZH,Vw,Vu,Xd,Xc] (by kernel_rfl) ?_
  intro I X hI hX
  refine zi (let y11:=I.hid (α:=Str) (tokE (I.hid (α:=Str) (skS s)));let y0:=I.hid (α:=Str) (ite (Eq (zQ y11 (UInt8.ofNat (Int.toNat (47:Int)))) Bool.true) (List.drop 1 y11) y11);let y12:=I.hid (α:=Str) (tokS (I.hid (α:=Str) (skS s)));let y1:=I.few (I.add (I.len (α:=UInt8) (I.hid (α:=Str) (lowS y12))) (I.len (α:=UInt8) (I.app (α:=UInt8) ([47]:Str) (I.hid (α:=Str) (lowS (I.hid (α:=Str) (tokS y0))))))) 1000000000;let y2:HO:=.obj 72 [(.p (.str (I.app (α:=UInt8) (I.hid (α:=Str) (lowS y12)) (I.app (α:=UInt8) ([47]:Str) (I.hid (α:=Str) (lowS (I.hid (α:=Str) (tokS y0)))))))),.nilS];let y3:=I.few (I.add (I.len (α:=UInt8) ([47]:Str)) (I.len (α:=UInt8) (I.hid (α:=Str) (lowS (I.hid (α:=Str) (tokS y0)))))) 1000000000;let y4:HO:=.pack [(.obj 95 [(.p (.str (I.hid (α:=Str) (skS (I.hid (α:=Str) (tokE y0))))))])];let y5:=I.hid (α:=(Prop)) (LE.le (List.length (I.hid (α:=Str) (tokS y0))) 1000000);let y6:HO:=.obj 72 [(.p (.str ([]:Str))),.nilS];let y7:=I.hid (α:=(Prop)) (And (LE.le (List.length y0) 1000000) (Not (Eq (tokS y0) ([]:Str))));let y8:=I.hid (α:=(Prop)) (And (LE.le (List.length y0) 1000000) (Eq (tokS y0) ([]:Str)));let y9:=I.hid (α:=Bool) (Decidable.decide (Eq (tokS y0) ([]:Str)));let y10:HO:=.pack [(.obj 95 [(.p (.str (I.hid (α:=Str) (tokE y0))))])];.need (I.hid (α:=(Prop)) True) (.br (I.hid (α:=Bool) (Decidable.decide (Eq (tokS (I.hid (α:=Str) (skS s))) ([]:Str)))) (.need (I.hid (α:=(Prop)) (And (LE.le (List.length (I.hid (α:=Str) (skS s))) 1000000) (Eq (tokS (I.hid (α:=Str) (skS s))) ([]:Str)))) (.fin (.pan (.ifc 91 .false [(.int .i64 5)])) [(.pack [(.obj 95 [(.p (.str y11))])])])) (.need (I.hid (α:=(Prop)) (And (LE.le (List.length (I.hid (α:=Str) (skS s))) 1000000) (Not (Eq (tokS (I.hid (α:=Str) (skS s))) ([]:Str))))) (.need (I.hid (α:=(Prop)) (LE.le (List.length y12) 1000000)) (.need (I.hid (α:=(Prop)) (And (LE.le (0:Int) (47:Int)) (LE.le (47:Int) (255:Int)))) (.br (I.hid (α:=Bool) (zQ y11 (UInt8.ofNat (Int.toNat (47:Int))))) (.both (.br y9 (.need y8 (.fin (.pan (.ifc 91 .false [(.int .i64 5)])) [y10])) (.need y7 (.need y5 (.need y3 (.need y1 (.need (I.hid (α:=(Prop)) True) (.code 0 [1,1,1,1,0,1,0] ⟨[(3,(.v (.one (.ptr 2 0)))),(2,(.v (.one (.ptr 1 0)))),(0,(.v (.one (.ptr 0 0))))],[y4,y6,y2],60,none⟩))))))) (.br y9 (.need y8 (.fin (.pan (.ifc 91 .false [(.int .i64 5)])) [y10])) (.need y7 (.both (.need y5 (.need y3 (.need y1 (.need (I.hid (α:=(Prop)) True) (.code 0 [1,1,1,1,0,1,0] ⟨[(3,(.v (.one (.ptr 2 0)))),(2,(.v (.one (.ptr 1 0)))),(0,(.v (.one (.ptr 0 0))))],[y4,y6,y2],60,none⟩))))) (.need y5 (.need y3 (.need y1 (.need (I.hid (α:=(Prop)) True) (.code 0 [1,1,1,1,0,1,0] ⟨[(3,(.v (.one (.ptr 2 0)))),(2,(.v (.one (.ptr 1 0)))),(0,(.v (.one (.ptr 0 0))))],[y4,y6,y2],60,none⟩))))))))) (.need (I.hid (α:=(Prop)) True) (.code 0 [1,1,1,1,0,1,0] ⟨[(3,(.v (.one (.ptr 2 0)))),(2,(.v (.one (.ptr 1 0)))),(0,(.v (.one (.ptr 0 0))))],[(.pack [(.obj 95 [(.p (.str (I.hid (α:=Str) (skS y0))))])]),y6,(.obj 72 [(.p (.str (I.hid (α:=Str) (lowS y12)))),.nilS])],60,none⟩)))))))) (by kernel_rfl) ?_
  simp only [zu]
  have hh: ∀ {α:Type} (x:α),I.hid x=x:=by subst hI;intros;rfl
  have key : ∀ (w0 t0:Str),t0.length≤1000000→((medL (t0.length+1) t0 []).1,(⟨w0,(medL (t0.length+1) t0 []).2.1⟩:Med),(medL (t0.length+1) t0 []).2.2)=(0,⟨w,ps⟩,z)→Ok Tryd.prog X (fun o h=>o=AOut.ret (D.v (V0.agg [C.p (P.str w),C.p (P.list U.fld ps)]))∧h=[HO.pack [HO.obj 95 [C.p (P.str z)]]]) (leaf I tab { cfgM with lend:=[29],keep:=some [0,2,3,4,6]} [⟨uS Tryd.f51,finK I tab { cfgM with lend:=[29],keep:=some [0,2,3,4,6]} 1 Tryd.f51⟩] 0 [1,1,1,1,0,1,0] ⟨[(3,.v (.one (.ptr 2 0))),(2,.v (.one (.ptr 1 0))),(0,.v (.one (.ptr 0 0)))],[.pack [.obj 95 [(.p (.str t0))]],.obj 72 [(.p (.str ([]))),.nilS],.obj 72 [(.p (.str w0)),.nilS]],60,none⟩):=by
    intro w0 t0 ht0 hm
    simp only [Prod.mk.injEq,Med.mk.injEq] at hm
    obtain⟨hm1,⟨rfl,hm2⟩,hm3⟩:=hm
    refine zL hI zl mixed [xw,xu,yL,yK,sS,sQ,sO,sN,ZI,ZH,Vw,Vu,Xd,Xc] hX [0,2,3] (fun(g:Str × List Fld)=>match g with|(t,l)=>t.length≤1000000∧l.length≤8∧∃ n,t.length<n∧medL n t l=(0,ps,z)) (fun(g:Str × List Fld)=>match g with|(t,l)=>⟨[(0,.v (.one (.ptr 0 0))),(2,.v (.one (.ptr 1 0))),(3,.v (.one (.ptr 2 0)))],[.pack [.obj 95 [(.p (.str t))]],.pack [.obj 72 [(.p (.str ([]))),(.row 1)],.row .fld 98 ([])],.pack [.obj 72 [(.p (.str w0)),(.row 1)],.row .fld 98 l]],60,none⟩) (fun(g:Str × List Fld)=>match g with|(t,l)=>t.length) (t0,[]) (by kernel_rfl) (by kernel_rfl) ?_ ?_
    · exact⟨ht0,by simp,t0.length+1,by omega,by rw [← hm1,← hm2,← hm3]⟩
    rintro⟨t,l⟩ ⟨ht,hl8,n,hn,hm⟩ A hA
    clear hm1 hm2 hm3 hr
    simp only at hA
    refine zi (let y0:=I.hid (α:=Str) (ite (Eq (zQ t (UInt8.ofNat (Int.toNat (59:Int)))) Bool.true) (List.drop 1 t) t);let y1:=I.hid (α:=Str) (Fld.name (Prod.fst (Prod.snd (parM (I.hid (α:=Str) (skS y0))))));let y2:=I.hid (α:=Str) (Prod.snd (Prod.snd (parM (I.hid (α:=Str) (skS y0)))));let y3:=I.hid (α:=Str) (Fld.value (Prod.fst (Prod.snd (parM (I.hid (α:=Str) (skS y0))))));let y4:=I.hid (α:=Bool) (Prod.snd (getP l y1));let y5:HO:=.pack [(.obj 95 [(.p (.str y2))])];let y6:HO:=.pack [(.obj 95 [(.p (.str y0))])];.need (I.hid (α:=(Prop)) (And (LE.le (0:Int) (59:Int)) (LE.le (59:Int) (255:Int)))) (.br (I.hid (α:=Bool) (zQ t (UInt8.ofNat (Int.toNat (59:Int))))) (.need (I.hid (α:=(Prop)) True) (.br (I.hid (α:=Bool) (Decidable.decide (Eq (Prod.fst (parM (I.hid (α:=Str) (skS y0)))) (0:Int)))) (.need (I.hid (α:=(Prop)) (And (LE.le (List.length (I.hid (α:=Str) (skS y0))) 1000000) (Eq (Prod.fst (parM (I.hid (α:=Str) (skS y0)))) (0:Int)))) (.need (I.hid (α:=(Prop)) (LE.le (List.length l) 1000000)) (.br (I.hid (α:=Bool) y4) (.need (I.hid (α:=(Prop)) (Eq y4 Bool.true)) (.fin (.pan (.ifc 91 .false [(.int .i64 9)])) [y5])) (.need (I.hid (α:=(Prop)) (Eq y4 Bool.false)) (.br (I.hid (α:=Bool) (I.ieq (I.len (α:=Fld) l) 8)) (.need (I.hid (α:=(Prop)) (Eq (I.ieq (I.len (α:=Fld) l) 8) Bool.true)) (.fin (.pan (.ifc 91 .false [(.int .i64 8)])) [y5])) (.need (I.hid (α:=(Prop)) (Eq (I.ieq (I.len (α:=Fld) l) 8) Bool.false)) (.need (I.few (I.add (I.len (α:=Fld) l) (I.len (α:=Fld) ([(Fld.mk y1 y3)]:List Fld))) 100000000) (.need (I.hid (α:=(Prop)) True) (.need (A ⟨[(0,(.v (.one (.ptr 0 0)))),(2,(.v (.one (.ptr 1 0)))),(3,(.v (.one (.ptr 2 0))))],[(.pack [(.obj 95 [(.p (.str (I.hid (α:=Str) (skS y2))))])]),(.pack [(.obj 72 [(.p (.str ([]:Str))),(.row 1)]),(.row .fld 98 ([]:List Fld))]),(.pack [(.obj 72 [(.p (.str w0)),(.row 1)]),(.row .fld 98 (I.app (α:=Fld) l ([(Fld.mk y1 y3)]:List Fld)))])],60,none⟩) .qed))))))))) (.need (I.hid (α:=(Prop)) (And (LE.le (List.length (I.hid (α:=Str) (skS y0))) 1000000) (Not (Eq (Prod.fst (parM (I.hid (α:=Str) (skS y0)))) (0:Int))))) (.fin (.pan (.ifc 91 .false [(.int .i64 (I.hid (α:=Int) (Prod.fst (parM (I.hid (α:=Str) (skS y0))))))])) [y5])))) (.br (I.hid (α:=Bool) (I.bnot (I.seq y0 ([]:Str)))) (.need (I.hid (α:=(Prop)) (Eq (I.bnot (I.seq y0 ([]:Str))) Bool.true)) (.fin (.pan (.ifc 91 .false [(.int .i64 5)])) [y6])) (.need (I.hid (α:=(Prop)) (Eq (I.bnot (I.seq y0 ([]:Str))) Bool.false)) (.fin (.ret (.v (.agg [(.p (.str w0)),(.p (.list .fld l))]))) [y6]))))) (by kernel_rfl) ?_
    simp only [zu]
    cases n with
    |zero=>omega
    |succ n=>
    simp only [medL] at hm
    have hgo:=hA (skS (parM (skS (t.drop 1))).2.2,l++[(parM (skS (t.drop 1))).2.1])
    have hpl:=Vr (skS (t.drop 1))
    have hpc:=UA (skS (t.drop 1))
    have hsl:=yS (t.drop 1)
    have hsr:=yS (parM (skS (t.drop 1))).2.2
    rw [List.length_drop] at hsl
    clear hA
    simp only [hh,show UInt8.ofNat (Int.toNat 59)=59 from rfl]
    subst hI
    by_cases h59:zQ t 59=true
    · have hpos:=WG h59
      simp only [h59,if_true] at hm ⊢
      have hgo2:(parM (skS (t.drop 1))).1=0→(getP l (parM (skS (t.drop 1))).2.1.name).2=false→¬ l.length=8→_:=fun h1 h2 h3=>hgo ⟨by simp only;omega,by simp only [List.length_append,List.length_cons,List.length_nil];omega,n,by simp only;omega,by
        rw [if_neg (fun h=>h h1),if_neg (by rw [h2];exact Bool.false_ne_true),if_neg h3] at hm;exact hm⟩ (by simp only;omega)
      clear hgo
      simp only at hgo2
      generalize parM (skS (t.drop 1))=p at *
      obtain⟨pc,⟨pn,pv⟩,pr⟩:=p
      simp only at hgo2 hm hpl hpc hsl hsr ⊢
      simp only [nrmA,nrmB,nrlB,reduceCtorEq,List.length_cons,List.length_nil]
      (repeat' (first|refine And.intro ?_ ?_|intro _))<;>first|omega|exact True.intro|exact False.elim ‹False›|skip
      all_goals first
        |omega
        |assumption
        | (by_cases hpz:pc=0
           · exact hpz
           · rw [if_pos hpz] at hm;simp only [Prod.mk.injEq] at hm;exact hm.1)
        |exact hgo2 ‹_› ‹_› (by omega)
        |(exfalso;rw [if_neg (fun h=>h ‹pc=0›),if_neg (by rw [‹(getP l pn).2=false›];exact Bool.false_ne_true),if_pos (by omega)] at hm;simp_all;done)
        |(rw [if_neg (fun h=>h ‹pc=0›),if_neg (by rw [‹(getP l pn).2=false›];exact Bool.false_ne_true),if_pos (by omega)] at hm;simp_all;done)
        |(exfalso;simp_all;done)
        |(simp_all;done)
    · have h59:zQ t 59=false:=by simpa using h59
      simp only [h59,Bool.false_eq_true,if_false] at hm ⊢
      simp only [nrmA,nrmB,nrlB,reduceCtorEq,List.length_cons,List.length_nil]
      (repeat' (first|refine And.intro ?_ ?_|intro _))<;>first|omega|exact True.intro|exact False.elim ‹False›|skip
      all_goals first
        |omega
        |(exfalso;simp_all;done)
        |(simp_all;done)
        |(by_cases hte:t=[]<;>simp_all;done)
  have hl1:=yS s
  have hl2:=yY (skS s)
  have hl3:=xZ (skS s)
  simp only [hh,show UInt8.ofNat (Int.toNat 47)=47 from rfl,decide_eq_true_eq,decide_eq_false_iff_not]
  unfold yg medA at hr
  generalize skS s=t at *
  have hl4:=xZ ((tokE t).drop 1)
  have hl5:=yY ((tokE t).drop 1)
  rw [List.length_drop] at hl4 hl5
  (repeat' (first|refine And.intro ?_ ?_|intro _))
  all_goals try first|trivial|assumption|omega|(exfalso;simp_all;done)|(subst hI;(try(simp only [nrmA,nrmB,nrlB,reduceCtorEq,List.length_cons,List.length_nil,xh]))<;>first|omega|(simp_all [xh];done)|(simp_all [xh];omega))
  all_goals(have happ: ∀ a b:Str,I.app (α:=UInt8) a b=a++b:=by subst hI;intros;rfl)
  all_goals try simp only [happ]
  all_goals first
    | (rename_i q1 q2 q3
       rw [if_neg q1,if_pos q2] at hr
       simp only [q2,if_true] at q3 ⊢
       rw [if_neg q3] at hr
       have hsk:=yS (tokE ((tokE t).drop 1))
       exact key _ _ (by omega) hr)
    | (rename_i q1 q2
       rw [if_neg q1,if_neg (by simp [q2])] at hr
       simp only [q2,Bool.false_eq_true,if_false] at ⊢
       have hsk:=yS (tokE t)
       exact key _ _ (by omega) hr)
set_option maxHeartbeats 4000000 in
theorem zg5 (s:Str) (hneed:s.length≤1000000∧¬ (yg s).1=0):Spc Tryd.prog 51 [.v (.one (.ptr 0 0))] [.pack [.obj 95 [(.p (.str s))]]] (.pan (.ifc 91 false [(.int .i64 ((yg s).1))])) [.pack [.obj 95 [(.p (.str ((yg s).2.2)))]]]:=by
  obtain⟨hl,hc⟩:=hneed
  generalize hr:yg s=r at hc
  obtain⟨c,⟨w,ps⟩,z⟩:=r
  simp only at hc
  refine spcG zl mixed Tryd.func51 (by kernel_rfl) { cfgM with lend:=[29],keep:=some [0,2,3,4,6]} [xw,xu,yL,yK,sS,sQ,sO,sN,ZI,ZH,Vw,Vu,Xd,Xc] (by kernel_rfl) ?_
  intro I X hI hX
  refine zi (let y11:=I.hid (α:=Str) (tokE (I.hid (α:=Str) (skS s)));let y0:=I.hid (α:=Str) (ite (Eq (zQ y11 (UInt8.ofNat (Int.toNat (47:Int)))) Bool.true) (List.drop 1 y11) y11);let y12:=I.hid (α:=Str) (tokS (I.hid (α:=Str) (skS s)));let y1:=I.few (I.add (I.len (α:=UInt8) (I.hid (α:=Str) (lowS y12))) (I.len (α:=UInt8) (I.app (α:=UInt8) ([47]:Str) (I.hid (α:=Str) (lowS (I.hid (α:=Str) (tokS y0))))))) 1000000000;let y2:HO:=.obj 72 [(.p (.str (I.app (α:=UInt8) (I.hid (α:=Str) (lowS y12)) (I.app (α:=UInt8) ([47]:Str) (I.hid (α:=Str) (lowS (I.hid (α:=Str) (tokS y0)))))))),.nilS];let y3:=I.few (I.add (I.len (α:=UInt8) ([47]:Str)) (I.len (α:=UInt8) (I.hid (α:=Str) (lowS (I.hid (α:=Str) (tokS y0)))))) 1000000000;let y4:HO:=.pack [(.obj 95 [(.p (.str (I.hid (α:=Str) (skS (I.hid (α:=Str) (tokE y0))))))])];let y5:=I.hid (α:=(Prop)) (LE.le (List.length (I.hid (α:=Str) (tokS y0))) 1000000);let y6:HO:=.obj 72 [(.p (.str ([]:Str))),.nilS];let y7:=I.hid (α:=(Prop)) (And (LE.le (List.length y0) 1000000) (Not (Eq (tokS y0) ([]:Str))));let y8:=I.hid (α:=(Prop)) (And (LE.le (List.length y0) 1000000) (Eq (tokS y0) ([]:Str)));let y9:=I.hid (α:=Bool) (Decidable.decide (Eq (tokS y0) ([]:Str)));let y10:HO:=.pack [(.obj 95 [(.p (.str (I.hid (α:=Str) (tokE y0))))])];.need (I.hid (α:=(Prop)) True) (.br (I.hid (α:=Bool) (Decidable.decide (Eq (tokS (I.hid (α:=Str) (skS s))) ([]:Str)))) (.need (I.hid (α:=(Prop)) (And (LE.le (List.length (I.hid (α:=Str) (skS s))) 1000000) (Eq (tokS (I.hid (α:=Str) (skS s))) ([]:Str)))) (.fin (.pan (.ifc 91 .false [(.int .i64 5)])) [(.pack [(.obj 95 [(.p (.str y11))])])])) (.need (I.hid (α:=(Prop)) (And (LE.le (List.length (I.hid (α:=Str) (skS s))) 1000000) (Not (Eq (tokS (I.hid (α:=Str) (skS s))) ([]:Str))))) (.need (I.hid (α:=(Prop)) (LE.le (List.length y12) 1000000)) (.need (I.hid (α:=(Prop)) (And (LE.le (0:Int) (47:Int)) (LE.le (47:Int) (255:Int)))) (.br (I.hid (α:=Bool) (zQ y11 (UInt8.ofNat (Int.toNat (47:Int))))) (.both (.br y9 (.need y8 (.fin (.pan (.ifc 91 .false [(.int .i64 5)])) [y10])) (.need y7 (.need y5 (.need y3 (.need y1 (.need (I.hid (α:=(Prop)) True) (.code 0 [1,1,1,1,0,1,0] ⟨[(3,(.v (.one (.ptr 2 0)))),(2,(.v (.one (.ptr 1 0)))),(0,(.v (.one (.ptr 0 0))))],[y4,y6,y2],60,none⟩))))))) (.br y9 (.need y8 (.fin (.pan (.ifc 91 .false [(.int .i64 5)])) [y10])) (.need y7 (.both (.need y5 (.need y3 (.need y1 (.need (I.hid (α:=(Prop)) True) (.code 0 [1,1,1,1,0,1,0] ⟨[(3,(.v (.one (.ptr 2 0)))),(2,(.v (.one (.ptr 1 0)))),(0,(.v (.one (.ptr 0 0))))],[y4,y6,y2],60,none⟩))))) (.need y5 (.need y3 (.need y1 (.need (I.hid (α:=(Prop)) True) (.code 0 [1,1,1,1,0,1,0] ⟨[(3,(.v (.one (.ptr 2 0)))),(2,(.v (.one (.ptr 1 0)))),(0,(.v (.one (.ptr 0 0))))],[y4,y6,y2],60,none⟩))))))))) (.need (I.hid (α:=(Prop)) True) (.code 0 [1,1,1,1,0,1,0] ⟨[(3,(.v (.one (.ptr 2 0)))),(2,(.v (.one (.ptr 1 0)))),(0,(.v (.one (.ptr 0 0))))],[(.pack [(.obj 95 [(.p (.str (I.hid (α:=Str) (skS y0))))])]),y6,(.obj 72 [(.p (.str (I.hid (α:=Str) (lowS y12)))),.nilS])],60,none⟩)))))))) (by kernel_rfl) ?_
  simp only [zu]
  have hh: ∀ {α:Type} (x:α),I.hid x=x:=by subst hI;intros;rfl
  have key : ∀ (w0 t0:Str),t0.length≤1000000→((medL (t0.length+1) t0 []).1,(⟨w0,(medL (t0.length+1) t0 []).2.1⟩:Med),(medL (t0.length+1) t0 []).2.2)=(c,⟨w,ps⟩,z)→Ok Tryd.prog X (fun o h=>o=AOut.pan (C.ifc 91 false [P.int IntKind.i64 c])∧h=[HO.pack [HO.obj 95 [C.p (P.str z)]]]) (leaf I tab { cfgM with lend:=[29],keep:=some [0,2,3,4,6]} [⟨uS Tryd.f51,finK I tab { cfgM with lend:=[29],keep:=some [0,2,3,4,6]} 1 Tryd.f51⟩] 0 [1,1,1,1,0,1,0] ⟨[(3,.v (.one (.ptr 2 0))),(2,.v (.one (.ptr 1 0))),(0,.v (.one (.ptr 0 0)))],[.pack [.obj 95 [(.p (.str t0))]],.obj 72 [(.p (.str ([]))),.nilS],.obj 72 [(.p (.str w0)),.nilS]],60,none⟩):=by
    intro w0 t0 ht0 hm
    simp only [Prod.mk.injEq,Med.mk.injEq] at hm
    obtain⟨hm1,⟨rfl,hm2⟩,hm3⟩:=hm
    refine zL hI zl mixed [xw,xu,yL,yK,sS,sQ,sO,sN,ZI,ZH,Vw,Vu,Xd,Xc] hX [0,2,3] (fun(g:Str × List Fld)=>match g with|(t,l)=>t.length≤1000000∧l.length≤8∧∃ n,t.length<n∧medL n t l=(c,ps,z)) (fun(g:Str × List Fld)=>match g with|(t,l)=>⟨[(0,.v (.one (.ptr 0 0))),(2,.v (.one (.ptr 1 0))),(3,.v (.one (.ptr 2 0)))],[.pack [.obj 95 [(.p (.str t))]],.pack [.obj 72 [(.p (.str ([]))),(.row 1)],.row .fld 98 ([])],.pack [.obj 72 [(.p (.str w0)),(.row 1)],.row .fld 98 l]],60,none⟩) (fun(g:Str × List Fld)=>match g with|(t,l)=>t.length) (t0,[]) (by kernel_rfl) (by kernel_rfl) ?_ ?_
    · exact⟨ht0,by simp,t0.length+1,by omega,by rw [← hm1,← hm2,← hm3]⟩
    rintro⟨t,l⟩ ⟨ht,hl8,n,hn,hm⟩ A hA
    clear hm1 hm2 hm3 hr
    simp only at hA
    refine zi (let y0:=I.hid (α:=Str) (ite (Eq (zQ t (UInt8.ofNat (Int.toNat (59:Int)))) Bool.true) (List.drop 1 t) t);let y1:=I.hid (α:=Str) (Fld.name (Prod.fst (Prod.snd (parM (I.hid (α:=Str) (skS y0))))));let y2:=I.hid (α:=Str) (Prod.snd (Prod.snd (parM (I.hid (α:=Str) (skS y0)))));let y3:=I.hid (α:=Str) (Fld.value (Prod.fst (Prod.snd (parM (I.hid (α:=Str) (skS y0))))));let y4:=I.hid (α:=Bool) (Prod.snd (getP l y1));let y5:HO:=.pack [(.obj 95 [(.p (.str y2))])];let y6:HO:=.pack [(.obj 95 [(.p (.str y0))])];.need (I.hid (α:=(Prop)) (And (LE.le (0:Int) (59:Int)) (LE.le (59:Int) (255:Int)))) (.br (I.hid (α:=Bool) (zQ t (UInt8.ofNat (Int.toNat (59:Int))))) (.need (I.hid (α:=(Prop)) True) (.br (I.hid (α:=Bool) (Decidable.decide (Eq (Prod.fst (parM (I.hid (α:=Str) (skS y0)))) (0:Int)))) (.need (I.hid (α:=(Prop)) (And (LE.le (List.length (I.hid (α:=Str) (skS y0))) 1000000) (Eq (Prod.fst (parM (I.hid (α:=Str) (skS y0)))) (0:Int)))) (.need (I.hid (α:=(Prop)) (LE.le (List.length l) 1000000)) (.br (I.hid (α:=Bool) y4) (.need (I.hid (α:=(Prop)) (Eq y4 Bool.true)) (.fin (.pan (.ifc 91 .false [(.int .i64 9)])) [y5])) (.need (I.hid (α:=(Prop)) (Eq y4 Bool.false)) (.br (I.hid (α:=Bool) (I.ieq (I.len (α:=Fld) l) 8)) (.need (I.hid (α:=(Prop)) (Eq (I.ieq (I.len (α:=Fld) l) 8) Bool.true)) (.fin (.pan (.ifc 91 .false [(.int .i64 8)])) [y5])) (.need (I.hid (α:=(Prop)) (Eq (I.ieq (I.len (α:=Fld) l) 8) Bool.false)) (.need (I.few (I.add (I.len (α:=Fld) l) (I.len (α:=Fld) ([(Fld.mk y1 y3)]:List Fld))) 100000000) (.need (I.hid (α:=(Prop)) True) (.need (A ⟨[(0,(.v (.one (.ptr 0 0)))),(2,(.v (.one (.ptr 1 0)))),(3,(.v (.one (.ptr 2 0))))],[(.pack [(.obj 95 [(.p (.str (I.hid (α:=Str) (skS y2))))])]),(.pack [(.obj 72 [(.p (.str ([]:Str))),(.row 1)]),(.row .fld 98 ([]:List Fld))]),(.pack [(.obj 72 [(.p (.str w0)),(.row 1)]),(.row .fld 98 (I.app (α:=Fld) l ([(Fld.mk y1 y3)]:List Fld)))])],60,none⟩) .qed))))))))) (.need (I.hid (α:=(Prop)) (And (LE.le (List.length (I.hid (α:=Str) (skS y0))) 1000000) (Not (Eq (Prod.fst (parM (I.hid (α:=Str) (skS y0)))) (0:Int))))) (.fin (.pan (.ifc 91 .false [(.int .i64 (I.hid (α:=Int) (Prod.fst (parM (I.hid (α:=Str) (skS y0))))))])) [y5])))) (.br (I.hid (α:=Bool) (I.bnot (I.seq y0 ([]:Str)))) (.need (I.hid (α:=(Prop)) (Eq (I.bnot (I.seq y0 ([]:Str))) Bool.true)) (.fin (.pan (.ifc 91 .false [(.int .i64 5)])) [y6])) (.need (I.hid (α:=(Prop)) (Eq (I.bnot (I.seq y0 ([]:Str))) Bool.false)) (.fin (.ret (.v (.agg [(.p (.str w0)),(.p (.list .fld l))]))) [y6]))))) (by kernel_rfl) ?_
    simp only [zu]
    cases n with
    |zero=>omega
    |succ n=>
    simp only [medL] at hm
    have hgo:=hA (skS (parM (skS (t.drop 1))).2.2,l++[(parM (skS (t.drop 1))).2.1])
    have hpl:=Vr (skS (t.drop 1))
    have hpc:=UA (skS (t.drop 1))
    have hsl:=yS (t.drop 1)
    have hsr:=yS (parM (skS (t.drop 1))).2.2
    rw [List.length_drop] at hsl
    clear hA
    simp only [hh,show UInt8.ofNat (Int.toNat 59)=59 from rfl]
    subst hI
    by_cases h59:zQ t 59=true
    · have hpos:=WG h59
      simp only [h59,if_true] at hm ⊢
      have hgo2:(parM (skS (t.drop 1))).1=0→(getP l (parM (skS (t.drop 1))).2.1.name).2=false→¬ l.length=8→_:=fun h1 h2 h3=>hgo ⟨by simp only;omega,by simp only [List.length_append,List.length_cons,List.length_nil];omega,n,by simp only;omega,by
        rw [if_neg (fun h=>h h1),if_neg (by rw [h2];exact Bool.false_ne_true),if_neg h3] at hm;exact hm⟩ (by simp only;omega)
      clear hgo
      simp only at hgo2
      generalize parM (skS (t.drop 1))=p at *
      obtain⟨pc,⟨pn,pv⟩,pr⟩:=p
      simp only at hgo2 hm hpl hpc hsl hsr ⊢
      simp only [nrmA,nrmB,nrlB,reduceCtorEq,List.length_cons,List.length_nil]
      (repeat' (first|refine And.intro ?_ ?_|intro _))<;>first|omega|exact True.intro|exact False.elim ‹False›|skip
      all_goals first
        |omega
        |assumption
        | (by_cases hpz:pc=0
           · exact hpz
           · rw [if_pos hpz] at hm;simp only [Prod.mk.injEq] at hm;exact hm.1)
        |exact hgo2 ‹_› ‹_› (by omega)
        |(exfalso;rw [if_neg (fun h=>h ‹pc=0›),if_neg (by rw [‹(getP l pn).2=false›];exact Bool.false_ne_true),if_pos (by omega)] at hm;simp_all;done)
        |(rw [if_neg (fun h=>h ‹pc=0›),if_neg (by rw [‹(getP l pn).2=false›];exact Bool.false_ne_true),if_pos (by omega)] at hm;simp_all;done)
        |(exfalso;simp_all;done)
        |(simp_all;done)
    · have h59:zQ t 59=false:=by simpa using h59
      simp only [h59,Bool.false_eq_true,if_false] at hm ⊢
      simp only [nrmA,nrmB,nrlB,reduceCtorEq,List.length_cons,List.length_nil]
      (repeat' (first|refine And.intro ?_ ?_|intro _))<;>first|omega|exact True.intro|exact False.elim ‹False›|skip
      all_goals first
        |omega
        |(exfalso;simp_all;done)
        |(simp_all;done)
        |(by_cases hte:t=[]<;>simp_all;done)
  have hl1:=yS s
  have hl2:=yY (skS s)
  have hl3:=xZ (skS s)
  simp only [hh,show UInt8.ofNat (Int.toNat 47)=47 from rfl,decide_eq_true_eq,decide_eq_false_iff_not]
  unfold yg medA at hr
  generalize skS s=t at *
  have hl4:=xZ ((tokE t).drop 1)
  have hl5:=yY ((tokE t).drop 1)
  rw [List.length_drop] at hl4 hl5
  (repeat' (first|refine And.intro ?_ ?_|intro _))
  all_goals try first|trivial|assumption|omega|(exfalso;simp_all;done)|(subst hI;(try(simp only [nrmA,nrmB,nrlB,reduceCtorEq,List.length_cons,List.length_nil,xh]))<;>first|omega|(simp_all [xh];done)|(simp_all [xh];omega))
  all_goals(have happ: ∀ a b:Str,I.app (α:=UInt8) a b=a++b:=by subst hI;intros;rfl)
  all_goals try simp only [happ]
  all_goals first
    | (rename_i q1 q2 q3
       rw [if_neg q1,if_pos q2] at hr
       simp only [q2,if_true] at q3 ⊢
       rw [if_neg q3] at hr
       have hsk:=yS (tokE ((tokE t).drop 1))
       exact key _ _ (by omega) hr)
    | (rename_i q1 q2
       rw [if_neg q1,if_neg (by simp [q2])] at hr
       simp only [q2,Bool.false_eq_true,if_false] at ⊢
       have hsk:=yS (tokE t)
       exact key _ _ (by omega) hr)
def Vy (I:Alg) (args:List D) (hp:List HO):Option CT:=match args,hp with
  |[.v (.one (.ptr 0 0))],[.pack [.obj 95 [(.p (.str s))]]]=>(fun(s:Str)=>(some (.br (I.hid (decide ((yg s).1=0))) (.one ⟨I.hid (s.length≤1000000∧(yg s).1=0),(.ret (.v (.agg [(.p (.str (I.hid ((yg s).2.1.word)))),(.p (.list .fld (I.hid ((yg s).2.1.params))))]))),[.pack [.obj 95 [(.p (.str (I.hid ((yg s).2.2))))]]]⟩) (.one ⟨I.hid (s.length≤1000000∧¬ (yg s).1=0),(.pan (.ifc 91 false [(.int .i64 (I.hid ((yg s).1)))])),[.pack [.obj 95 [(.p (.str (I.hid ((yg s).2.2))))]]]⟩)):Option CT)) s
  |_,_=>none
theorem zco:zA Tryd.prog 51 (Vy alg):=by
  intro args hp r h
  unfold Vy at h
  split at h
  · cases h;exact⟨fun _ hn=>zg6 _ hn,fun _ hn=>zg5 _ hn⟩
  · cases h
def zfN:Know Tryd.prog:=⟨51,Vy,zco⟩
def zfM:Know Tryd.prog:=⟨51,fun I=>zB I (Vy I),zf zco⟩
end Go.Proofs.YtknaogelmckimaaDoor
namespace Go.Proofs.YtknaogelmckimaaDoor
open Go Go.Sep Go.Ab
set_option maxRecDepth 100000
theorem zhb (w:Str) (l:List Fld) (n:Int) (s:Str):SpcD Tryd.prog 50 [.ptr 0 0,.ptr 1 0] .ret [.obj 72 [.p (.str w),.p (.list .fld l)],.obj 3 [.p (.int .i64 n)],.pack [.obj 95 [.p (.str s)]]] .ret [.obj 72 [.p (.str w),.p (.list .fld l)],.obj 3 [.p (.int .i64 n)],.obj 95 [.p (.str s)]]:=by
  refine X5 zl mixed Tryd.func50 (by kernel_rfl) { flat:=true} [] (rest:=_) rfl (by kernel_rfl) ?_
  intro I X hI hX
  refine zi (.fin (.ret (.tup [])) [(.obj 72 [(.p (.str w)),(.p (.list .fld l))]),(.obj 3 [(.p (.int .i64 n))]),(.obj 95 [(.p (.str s))])]) (by kernel_rfl) ?_
  simp only [zu]
  try trivial
theorem zha (w:Str) (n k:Int) (s:Str):SpcD Tryd.prog 50 [.ptr 0 0,.ptr 1 0] (.pan (.ifc 91 false [.int .i64 k])) [.obj 72 [.p (.str w),.nilS],.obj 3 [.p (.int .i64 n)],.pack [.obj 95 [.p (.str s)]]] .ret [.obj 72 [.p (.str []),.nilS],.obj 3 [.p (.int .i64 k)],.obj 95 [.p (.str s)]]:=by
  refine X5 zl mixed Tryd.func50 (by kernel_rfl) { flat:=true} [] (rest:=_) rfl (by kernel_rfl) ?_
  intro I X hI hX
  refine zi (.fin (.ret (.tup [])) [(.obj 72 [(.p (.str ([]:Str))),.nilS]),(.obj 3 [(.p (.int .i64 k))]),(.obj 95 [(.p (.str s))])]) (by kernel_rfl) ?_
  simp only [zu]
  try trivial
def zhY:Door Tryd.prog where
  g:=50
  c :=fun _ m caps hp=>match m,caps,hp with
    |.ret,[.ptr 0 0,.ptr 1 0],[.obj 72 [.p (.str w),.p (.list .fld l)],.obj 3 [.p (.int .i64 n)],.pack [.obj 95 [.p (.str s)]]]=>some (True,.ret,[.obj 72 [.p (.str w),.p (.list .fld l)],.obj 3 [.p (.int .i64 n)],.obj 95 [.p (.str s)]])
    |.pan (.ifc 91 false [.int .i64 k]),[.ptr 0 0,.ptr 1 0],[.obj 72 [.p (.str w),.nilS],.obj 3 [.p (.int .i64 n)],.pack [.obj 95 [.p (.str s)]]]=>some (True,.ret,[.obj 72 [.p (.str []),.nilS],.obj 3 [.p (.int .i64 k)],.obj 95 [.p (.str s)]])
    |_,_,_=>none
  ok:=by
    intro m caps hp p m' hp' h _
    split at h
    · cases h;exact zhb _ _ _ _
    · cases h;exact zha _ _ _ _
    · cases h
theorem zfL (s:Str) (hneed:s.length≤1000000):Spc Tryd.prog 28 [.v (.one (.p (.str s)))] [] (.ret (.tup [(.agg [(.p (.str ((yO s).1.word))),(.p (.list .fld ((yO s).1.params)))]),(.one (.p (.int .i64 ((yO s).2))))])) []:=by
  generalize hr:yO s=r
  obtain⟨⟨w,ps⟩,c⟩:=r
  unfold yO at hr
  refine zhS zl mixed Tryd.func28 (by kernel_rfl) { cfgM with keep:=some [0,2,3,4]} [tJ,tH,zfN,zfM] zhY (by kernel_rfl) ?_
  intro I X hI hX
  refine zi (.need (I.hid (α:=(Prop)) (LE.le (List.length s) 1000000)) (.br (I.bnot (I.hid (α:=Bool) (rW s))) (.fin (.ret (.tup [(.agg [(.p (.str ([]:Str))),(.p (.list .fld ([]:List Fld)))]),(.one (.p (.int .i64 3)))])) []) (.br (I.hid (α:=Bool) (Decidable.decide (Eq (Prod.fst (yg s)) (0:Int)))) (.need (I.hid (α:=(Prop)) (And (LE.le (List.length s) 1000000) (Eq (Prod.fst (yg s)) (0:Int)))) (.need True (.fin (.ret (.tup [(.agg [(.p (.str (I.hid (α:=Str) (Go.Ab.Med.word (Prod.fst (Prod.snd (yg s))))))),(.p (.list .fld (I.hid (α:=(List Fld)) (Go.Ab.Med.params (Prod.fst (Prod.snd (yg s)))))))]),(.one (.p (.int .i64 0)))])) []))) (.need (I.hid (α:=(Prop)) (And (LE.le (List.length s) 1000000) (Not (Eq (Prod.fst (yg s)) (0:Int))))) (.need True (.fin (.ret (.tup [(.agg [(.p (.str ([]:Str))),(.p (.list .fld ([]:List Fld)))]),(.one (.p (.int .i64 (I.hid (α:=Int) (Prod.fst (yg s))))))])) [])))))) (by kernel_rfl) ?_
  simp only [zu]
  subst hI
  simp only [nrmA,nrmB,nrlB,reduceCtorEq,V0.agg.injEq]
  (repeat' (first|refine And.intro ?_ ?_|intro _))<;>first|omega|exact True.intro|exact False.elim ‹False›|skip
  all_goals first|(simp_all;done)|trace_state
def qQ (I:Alg) (args:List D) (hp:List HO):Option CT:=match args,hp with
  |[.v (.one (.p (.str s)))],[]=>(fun(s:Str)=>(some (.one ⟨I.hid (s.length≤1000000),(.ret (.tup [(.agg [(.p (.str (I.hid ((yO s).1.word)))),(.p (.list .fld (I.hid ((yO s).1.params))))]),(.one (.p (.int .i64 (I.hid ((yO s).2)))))])),[]⟩):Option CT)) s
  |_,_=>none
theorem UC:zA Tryd.prog 28 (qQ alg):=by
  intro args hp r h
  unfold qQ at h
  split at h
  · cases h;exact fun hn=>zfL _ hn
  · cases h
def zcm:Know Tryd.prog:=⟨28,qQ,UC⟩
def zcl:Know Tryd.prog:=⟨28,fun I=>zB I (qQ I),zf UC⟩
end Go.Proofs.YtknaogelmckimaaDoor
namespace Go.Proofs.YtknaogelmckimaaDoor
open Go Go.Sep Go.Ab
set_option maxRecDepth 100000
theorem Vq: ∀ (n:Nat) (r:Str),r.length≤n→∀ v,pctM r=some v→v.length≤r.length
  |n,[],_,v,h=>by rw [pctM] at h;cases h;exact Nat.le_refl _
  |0,c::r,h,_,_=>by simp at h
  | n + 1,c::r,hl,v,h=>by
    rw [List.length_cons] at hl
    rw [pctM.eq_def] at h
    simp only at h
    split at h
    · cases hp:pctM r with
      |none=>rw [hp] at h;cases h
      | some u=>
        rw [hp] at h;cases h
        have:=Vq n r (by omega) u hp
        simp only [List.length_cons];omega
    · split at h
      · rename_i a b r'
        split at h
        · cases h
        · cases hp:pctM r' with
          |none=>rw [hp] at h;cases h
          | some u=>
            rw [hp] at h;cases h
            have:=Vq n r' (by simp only [List.length_cons] at hl;omega) u hp
            simp only [List.length_cons];omega
      · cases h
theorem zeN (s:Str):(extV s).length≤s.length:=by
  unfold extV extM
  split
  · simp
  · cases h:pctM (s.drop 7) with
    |none=>simp
    | some v=>
      have:=Vq _ _ (Nat.le_refl _) v h
      rw [List.length_drop] at this
      simp only [Option.getD_some];omega
def PsOk (N:Nat) (l:List Fld):Prop:=l.length≤8∧∀ f ∈ l,f.value.length≤N
theorem zcx (N:Nat): ∀ (n:Nat) (s:Str) (ps:List Fld),s.length≤N→PsOk N ps→PsOk N (medL n s ps).2.1
  |0,s,ps,_,h=>h
  | n + 1, s,ps,hs,h=>by
    rw [medL]
    have h1:=yS (s.drop 1)
    have h2:=Vr (skS (s.drop 1))
    have h3:=yS (parM (skS (s.drop 1))).2.2
    rw [List.length_drop] at h1
    split
    · split
      · exact h
      · split
        · exact h
        · split
          · exact h
          · rename_i h8
            refine zcx N n _ _ (by omega) ⟨by rw [List.length_append,List.length_singleton];have:=h.1;omega,fun f hf=> ?_⟩
            rcases List.mem_append.1 hf with h5|h5
            · exact h.2 f h5
            · rw [List.mem_singleton.1 h5];omega
    · split<;>exact h
theorem zcg (s:Str):PsOk s.length (yO s).1.params:=by
  have h0:PsOk s.length []:=⟨by decide,fun f h=>by cases h⟩
  have hb: ∀ w t:Str,t.length≤s.length→PsOk s.length (medB w t).2.1.params:=fun w t ht=>by
    have h1:=yS t
    exact zcx s.length _ _ [] (by omega) h0
  have h1:=yS s
  have h2:=yY (skS s)
  have h3:=yY ((tokE (skS s)).drop 1)
  rw [List.length_drop] at h3
  have hm:PsOk s.length (yg s).2.1.params:=by
    unfold yg medA
    split
    · exact h0
    · split
      · split
        · exact h0
        · exact hb _ _ (by omega)
      · exact hb _ _ (by omega)
  unfold yO
  split
  · exact h0
  · split
    · exact hm
    · exact h0
theorem zep {N:Nat} {l:List Fld} (h: ∀ f ∈ l,f.value.length≤N) (n:Str):(getP l n).1.length≤N:=by
  unfold getP
  cases hf:l.find? (fun f=>f.name == n) with
  |none=>simp
  |some f=>exact h f (List.mem_of_find?_eq_some hf)
theorem zej {N:Nat} {l:List Fld} (h: ∀ f ∈ l,f.value.length≤N) (n:Str):(oneF (valsF l n)).1.length≤N:=by
  unfold oneF
  split
  · simp
  · split
    · rename_i h1
      match hv:valsF l n,h1 with
      | [x],_=>
        have:x ∈ valsF l n:=by rw [hv];exact List.mem_singleton.2 rfl
        unfold valsF at this
        obtain⟨f,hf,rfl⟩:=List.mem_map.1 this
        exact h f (List.mem_filter.1 hf).1
    · simp
theorem zhB (l:List Fld) (hneed:l.length≤1000∧∀ f ∈ l,f.name.length≤1000000∧f.value.length≤1000000):Spc Tryd.prog 14 [.v (.one (.p (.list .fld l)))] [] (.ret (.tup [(.agg [(.p (.str ((xI l).1.name))),(.p (.str ((xI l).1.file))),(.p (.str ((xI l).1.type))),.nilS]),(.one (.p (.int .i64 ((xI l).2))))])) []:=by
  obtain⟨hl,hf⟩:=hneed
  generalize hr:xI l=r
  refine spcG zl mixed Tryd.func14 (by kernel_rfl) { raw:=true,keep:=some [0,2,3,4,5,6,7,8,9,10,11,12,13,77]} [zgv,zgu,zgx,zgw,zaC,zaB,Xd,Xc,zcm,zcl] (by kernel_rfl) ?_
  intro I X hI hX
  refine zi (let y3:=([99,111,110,116,101,110,116,45,100,105,115,112,111,115,105,116,105,111,110]:Str);let y8:=I.hid (α:=Str) (Prod.fst (oneF (valsF l y3)));let y0:=I.hid (α:=(List Fld)) (Go.Ab.Med.params (Prod.fst (yO y8)));let y1:=I.hid (α:=Int) (Prod.snd (oneF (valsF l ([99,111,110,116,101,110,116,45,116,121,112,101]:Str))));let y2:=I.hid (α:=(Prop)) (And (LE.le (List.length l) 1000) (And (LE.le (List.length ([99,111,110,116,101,110,116,45,116,121,112,101]:Str)) 1000000) (∀ (f:Fld),f ∈ l→List.length f.name≤1000000∧List.length f.value≤1000000)));let y4:=I.hid (α:=Str) (Prod.fst (getP y0 ([110,97,109,101]:Str)));let y5:=I.hid (α:=Str) (Prod.fst (getP y0 ([102,105,108,101,110,97,109,101,42]:Str)));let y6:=I.hid (α:=Str) (Prod.fst (oneF (valsF l ([99,111,110,116,101,110,116,45,116,121,112,101]:Str))));let y7:=I.hid (α:=Str) (Prod.fst (getP y0 ([102,105,108,101,110,97,109,101]:Str)));let y9:=I.hid (α:=(Prop)) (LE.le (List.length y0) 1000000);let y10:=I.hid (α:=Str) (Y4 (I.hid (α:=Str) (extV y5)));let y11:=I.hid (α:=Int) (Prod.snd (oneF (valsF l y3)));let y12:=I.hid (α:=Int) (Prod.snd (yO y8));.need (I.hid (α:=(Prop)) (And (LE.le (List.length l) 1000) (And (LE.le (List.length y3) 1000000) (∀ (f:Fld),f ∈ l→List.length f.name≤1000000∧List.length f.value≤1000000)))) (.br (I.bnot (I.ieq y11 0)) (.fin (.ret (.tup [(.agg [(.p (.str ([]:Str))),(.p (.str ([]:Str))),(.p (.str ([]:Str))),.nilS]),(.one (.p (.int .i64 y11)))])) []) (.need (I.hid (α:=(Prop)) (LE.le (List.length y8) 1000000)) (.br (I.bnot (I.ieq y12 0)) (.fin (.ret (.tup [(.agg [(.p (.str ([]:Str))),(.p (.str ([]:Str))),(.p (.str ([]:Str))),.nilS]),(.one (.p (.int .i64 y12)))])) []) (.br (I.bnot (I.seq (I.hid (α:=Str) (Go.Ab.Med.word (Prod.fst (yO y8)))) ([102,111,114,109,45,100,97,116,97]:Str))) (.fin (.ret (.tup [(.agg [(.p (.str ([]:Str))),(.p (.str ([]:Str))),(.p (.str ([]:Str))),.nilS]),(.one (.p (.int .i64 11)))])) []) (.need y9 (.br (I.bnot (I.hid (α:=Bool) (Prod.snd (getP y0 ([110,97,109,101]:Str))))) (.fin (.ret (.tup [(.agg [(.p (.str ([]:Str))),(.p (.str ([]:Str))),(.p (.str ([]:Str))),.nilS]),(.one (.p (.int .i64 6)))])) []) (.need y9 (.need y9 (.br (I.hid (α:=Bool) (Prod.snd (getP y0 ([102,105,108,101,110,97,109,101,42]:Str)))) (.need (I.hid (α:=(Prop)) (LE.le (List.length y5) 1000000)) (.br (I.bnot (I.hid (α:=Bool) (extB y5))) (.fin (.ret (.tup [(.agg [(.p (.str ([]:Str))),(.p (.str ([]:Str))),(.p (.str ([]:Str))),.nilS]),(.one (.p (.int .i64 5)))])) []) (.br (I.hid (α:=Bool) (extB y5)) (.need (I.hid (α:=(Prop)) (LE.le (List.length (I.hid (α:=Str) (extV y5))) 1000000)) (.need y2 (.br (I.ieq y1 0) (.fin (.ret (.tup [(.agg [(.p (.str y4)),(.p (.str y10)),(.p (.str y6)),.nilS]),(.one (.p (.int .i64 0)))])) []) (.br (I.ieq y1 9) (.fin (.ret (.tup [(.agg [(.p (.str ([]:Str))),(.p (.str ([]:Str))),(.p (.str ([]:Str))),.nilS]),(.one (.p (.int .i64 y1)))])) []) (.fin (.ret (.tup [(.agg [(.p (.str y4)),(.p (.str y10)),(.p (.str ([]:Str))),.nilS]),(.one (.p (.int .i64 0)))])) []))))) (.need y2 (.br (I.ieq y1 0) (.fin (.ret (.tup [(.agg [(.p (.str y4)),(.p (.str ([]:Str))),(.p (.str y6)),.nilS]),(.one (.p (.int .i64 0)))])) []) (.br (I.ieq y1 9) (.fin (.ret (.tup [(.agg [(.p (.str ([]:Str))),(.p (.str ([]:Str))),(.p (.str ([]:Str))),.nilS]),(.one (.p (.int .i64 y1)))])) []) (.fin (.ret (.tup [(.agg [(.p (.str y4)),(.p (.str ([]:Str))),(.p (.str ([]:Str))),.nilS]),(.one (.p (.int .i64 0)))])) []))))))) (.br (I.hid (α:=Bool) (Prod.snd (getP y0 ([102,105,108,101,110,97,109,101]:Str)))) (.need (I.hid (α:=(Prop)) (LE.le (List.length y7) 1000000)) (.need y2 (.br (I.ieq y1 0) (.fin (.ret (.tup [(.agg [(.p (.str y4)),(.p (.str (I.hid (α:=Str) (Y4 y7)))),(.p (.str y6)),.nilS]),(.one (.p (.int .i64 0)))])) []) (.br (I.ieq y1 9) (.fin (.ret (.tup [(.agg [(.p (.str ([]:Str))),(.p (.str ([]:Str))),(.p (.str ([]:Str))),.nilS]),(.one (.p (.int .i64 y1)))])) []) (.fin (.ret (.tup [(.agg [(.p (.str y4)),(.p (.str (I.hid (α:=Str) (Y4 y7)))),(.p (.str ([]:Str))),.nilS]),(.one (.p (.int .i64 0)))])) []))))) (.need y2 (.br (I.ieq y1 0) (.fin (.ret (.tup [(.agg [(.p (.str y4)),(.p (.str ([]:Str))),(.p (.str y6)),.nilS]),(.one (.p (.int .i64 0)))])) []) (.br (I.ieq y1 9) (.fin (.ret (.tup [(.agg [(.p (.str ([]:Str))),(.p (.str ([]:Str))),(.p (.str ([]:Str))),.nilS]),(.one (.p (.int .i64 y1)))])) []) (.fin (.ret (.tup [(.agg [(.p (.str y4)),(.p (.str ([]:Str))),(.p (.str ([]:Str))),.nilS]),(.one (.p (.int .i64 0)))])) []))))))))))))))) (by kernel_rfl) ?_
  simp only [zu]
  try rw [show([99,111,110,116,101,110,116,45,100,105,115,112,111,115,105,116,105,111,110]:Str)=wV from rfl]
  try rw [show([99,111,110,116,101,110,116,45,116,121,112,101]:Str)=zaR from rfl]
  try rw [show([102,111,114,109,45,100,97,116,97]:Str)=zfi from rfl]
  try rw [show([102,105,108,101,110,97,109,101]:Str)=zeH from rfl]
  try rw [show([102,105,108,101,110,97,109,101,42]:Str)=TQ from rfl]
  try rw [show([110,97,109,101]:Str)=zfV from rfl]
  have hk1:wV.length≤1000000:=by decide
  have hk2:zaR.length≤1000000:=by decide
  have hv:=zej (fun f h=>(hf f h).2) wV
  have hp:=zcg (oneF (valsF l wV)).1
  have hg:=fun n=>zep hp.2 n
  have hg1:=hg TQ
  have hg2:=hg zeH
  have hx:=zeN (getP (yO (oneF (valsF l wV)).1).1.params TQ).1
  unfold xI at hr
  subst hI
  simp only [nrmA,nrmB,nrlB,reduceCtorEq]
  have hpl:=hp.1
  clear hp hg
  generalize oneF (valsF l zaR)=t at *
  generalize getP (yO (oneF (valsF l wV)).1).1.params TQ=x at *
  generalize getP (yO (oneF (valsF l wV)).1).1.params zeH=f at *
  generalize getP (yO (oneF (valsF l wV)).1).1.params zfV=n at *
  generalize yO (oneF (valsF l wV)).1=m at *
  generalize oneF (valsF l wV)=a at *
  unfold zfK zgW partT at hr
  (repeat' (first|refine And.intro ?_ ?_|intro _))<;>first|omega|exact True.intro|exact False.elim ‹False›|skip
  all_goals first
    |omega
    |exact hl
    |exact hk1
    |exact hk2
    |exact(hf _ ‹_›).1
    |exact(hf _ ‹_›).2
    |exact absurd (‹extB x.fst=true›.symm.trans ‹extB x.fst=false›) (by decide)
    |(subst hr;clear hf hX hv hg1 hg2 hx hpl hl hk1 hk2;simp [*,prt0];done)
def YO (I:Alg) (args:List D) (hp:List HO):Option CT:=match args,hp with
  |[.v (.one (.p (.list .fld l)))],[]=>(fun(l:List Fld)=>(some (.one ⟨I.hid (l.length≤1000∧∀ f ∈ l,f.name.length≤1000000∧f.value.length≤1000000),(.ret (.tup [(.agg [(.p (.str (I.hid ((xI l).1.name)))),(.p (.str (I.hid ((xI l).1.file)))),(.p (.str (I.hid ((xI l).1.type)))),.nilS]),(.one (.p (.int .i64 (I.hid ((xI l).2)))))])),[]⟩):Option CT)) l
  |_,_=>none
theorem zaH:zA Tryd.prog 14 (YO alg):=by
  intro args hp r h
  unfold YO at h
  split at h
  · cases h;exact fun hn=>zhB _ hn
  · cases h
def zaG:Know Tryd.prog:=⟨14,YO,zaH⟩
def zaF:Know Tryd.prog:=⟨14,fun I=>zB I (YO I),zf zaH⟩
end Go.Proofs.YtknaogelmckimaaDoor
