/- Texts of this proof, one behind the other: AbP AbO Tab InZ Shelf Lib ChrA ChrB ChrC ParL ParA ParC ParD ParB Fnd FldA FldB SamF ParU Onc Ty RpcA. -/
import Derived.Deep.LoopGhost
import Derived.Recover
import Derived.Test.YtlpmdnffdmdahaaGreatDoorProg
import Derived.WalkKit
import Derived.WideShapes
import Derived.ChangeArms
import Derived.SizedLaws
import Derived.Shelf.Strings.SlTrimAscii
import Derived.Shelf.Strings.Trim
import Derived.Shelf.Small.Utf8
import Derived.Shelf.Small.Strs
import Derived.Shelf.Strings.Search1
import Derived.Shelf.Strings.Search2
import Derived.Shelf.Strings.Search3
import Derived.Shelf.Strings.Cut
import Derived.Shelf.Strings.Count
import Derived.Shelf.LaysM
import Derived.Shelf.Strings.Shaped
import Derived.Shelf.Strings.Runes
import Derived.Shelf.Strings.AsciiSet
import Derived.Shelf.Unicode.DecodeSlow
import Derived.Below
import Derived.Tactics
import Derived.Tactics2
import Derived.Defers
import Derived.Laws.Pointers
import Derived.Laws.LoneSync
import Derived.RegionTactic
import Derived.RegionCalls
import Derived.ChangeAlike
import Derived.Test.YtlpmdnffdmdahaaGreatDoorMb
set_option linter.all false
namespace Go.Ab
open Go Go.Sep
variable [Facts]
theorem zbD {α:Type} (x:α):alg.hid x=x:=rfl
theorem zbA (k:IntKind) (x y:Int):alg.shl k x y=k.wrap (x * 2 ^ (min y.toNat k.bits)):=rfl
theorem zbz (x y:Int):alg.shr x y=x.fdiv (2 ^ (min y.toNat 64)):=rfl
theorem RI (op:BinOp) (k:IntKind) (x y:Int):alg.bits op k x y=k.wrap (match op with
    |.and=>(BitVec.ofInt k.bits x&&& BitVec.ofInt k.bits y).toNat
    |.or=>(BitVec.ofInt k.bits x|||BitVec.ofInt k.bits y).toNat
    |_=>(BitVec.ofInt k.bits x ^^^ BitVec.ofInt k.bits y).toNat:Nat):=rfl
theorem zaU:IntKind.i64.min= -9223372036854775808:=by decide
theorem zaV:IntKind.i64.max=9223372036854775807:=by decide
theorem zcr:IntKind.u8.min=0:=by decide
theorem zcs:IntKind.u8.max=255:=by decide
theorem Vr (c:UInt8):UInt8.ofNat ((c.toNat:Int)).toNat=c:=by simp
theorem vz (c d:UInt8):((c.toNat:Int)=(d.toNat:Int))↔c=d:=by
  constructor
  · intro h;exact UInt8.toNat_inj.1 (by omega)
  · intro h;rw [h]
structure CR where
  need:Prop
  out:AOut
  hp:List HO
inductive CT where
  |one (r:CR)
  |br (b:Bool) (t f:CT)
def CT.Good (Pr:Program) (f:Nat) (args:List D) (hp:List HO):CT→Prop
  |.one r=>r.need→Spc Pr f args hp r.out r.hp
  |.br b t e=>(b=true→t.Good Pr f args hp)∧(b=false→e.Good Pr f args hp)
def CT.map (g:CR→CR):CT→CT
  |.one r=>.one (g r)
  |.br b t e=>.br b (t.map g) (e.map g)
def CT.mapO (g:CR→Option CR):CT→Option CT
  |.one r=>match g r with|some r=>some (.one r)|none=>none
  |.br b t e=>match t.mapO g,e.mapO g with|some t,some e=>some (.br b t e)|_,_=>none
def CT.tree (k:CR→Tree):CT→Tree
  |.one r=>k r
  |.br b t e=>.br b (t.tree k) (e.tree k)
theorem CT.Good.map {Pr:Program} {f f':Nat} {args args':List D} {hp hp':List HO} {g:CR→CR} (h: ∀ r:CR,(r.need→Spc Pr f args hp r.out r.hp)→(g r).need→Spc Pr f' args' hp' (g r).out (g r).hp): ∀ {c:CT},c.Good Pr f args hp→(c.map g).Good Pr f' args' hp'
  |.one r,hc=>h r hc
  |.br _ _ _,hc=>⟨fun e=>CT.Good.map h (hc.1 e),fun e=>CT.Good.map h (hc.2 e)⟩
theorem CT.Good.mapO {Pr:Program} {f f':Nat} {args args':List D} {hp hp':List HO} {g:CR→Option CR} (h: ∀ r r':CR,g r=some r'→(r.need→Spc Pr f args hp r.out r.hp)→r'.need→Spc Pr f' args' hp' r'.out r'.hp): ∀ {c c':CT},c.mapO g=some c'→c.Good Pr f args hp→c'.Good Pr f' args' hp'
  | .one r,c',e,hc=>by
    simp only [CT.mapO] at e
    split at e
    · rename_i r' hr;cases e;exact h r r' hr hc
    · cases e
  | .br b t f,c',e,hc=>by
    simp only [CT.mapO] at e
    split at e
    · rename_i t' f' ht hf;cases e;exact⟨fun e=>CT.Good.mapO h ht (hc.1 e),fun e=>CT.Good.mapO h hf (hc.2 e)⟩
    · cases e
structure Know (Pr:Program) where
  f:Nat
  c:Alg→List D→List HO→Option CT
  ok: ∀ args hp r,c alg args hp=some r→r.Good Pr f args hp
def zcu:List D→List Nat
  |[]=>[]
  |d::ds=>zbY d++zcu ds
def XP (hp:List HO) (args:List D):List Nat:=gather hp 60 (zcu args) []
def frameC (c:List D→List HO→Option CT) (args:List D) (hp:List HO):Option CT:=
  match wF (XP hp args) hp with
  |none=>none
  | some (os,hpr)=>match c (args.map (D.ren fun q=>idx q (XP hp args) 0)) (os.map (HO.ren fun q=>idx q (XP hp args) 0)) with
    |none=>none
    |some r=>some (r.map fun r=>⟨r.need,r.out.ren (Zc (XP hp args) hp.length),vM (Zc (XP hp args) hp.length) (XP hp args) r.hp hpr⟩)
def Yx (I:Alg) (c:List D→List HO→Option CT):Nat→List D→List HO→Option CT
  |0,args,hp=>frameC c args hp
  | n + 1,args,hp=>match nth hp n with
    | some (.row u E l)=>(match Yx I c n (args.map (D.frz I n u l)) (setN (hp.map (HO.frz I n u l)) n .gone) with
      | some r=>r.mapO fun r=>(match noLA r.out,Vs r.hp with
        |true,true=>some ⟨r.need,r.out,setN r.hp n (.row u E l)⟩
        |_,_=>none)
      |none=>none)
    |_=>Yx I c n args hp
def xh (I:Alg) (c:List D→List HO→Option CT) (args:List D) (hp:List HO):Option CT:=Yx I c hp.length args hp
def ask {Pr:Program} (I:Alg):List (Know Pr)→Nat→List D→List HO→Option CT
  |[],_,_,_=>none
  | k::r,f,args,hp=>match Nat.beq k.f f with
    |true=>(match frameC (k.c I) args hp with|some x=>some x|none=>ask I r f args hp)
    |false=>ask I r f args hp
def drive (q:Nat→List D→List HO→Option CT):Tree→Tree
  |.need p t=>.need p (drive q t)
  |.br b t f=>.br b (drive q t) (drive q f)
  | .call f args hp k=>XB hp fun hp=>match q f args hp with
    |some r=>r.tree fun r=>.need r.need (XB r.hp fun h=>drive q (k r.out h))
    |none=>.call f args hp fun o h=>drive q (k o h)
  |.code c st k=>.code c st k
  |.fin o hp=>.fin o hp
  |.both t f=>.both (drive q t) (drive q f)
  |.qed=>.qed
  |.stop n=>.stop n
def yH (Pr:Program) (f:Nat) (c:List D→List HO→Option CT):Prop:=∀ args hp r,c args hp=some r→r.Good Pr f args hp
section
variable {Pr:Program} {T:Tab} {X:Ctx} {G:AOut→List HO→Prop} {a:Act} {w:World}
theorem YE {f:Nat} {c:List D→List HO→Option CT} (h:yH Pr f c):yH Pr f (frameC c):=by
  intro args hp r hr
  unfold frameC at hr
  split at hr
  · cases hr
  · rename_i os hpr ht
    split at hr
    · cases hr
    · rename_i r0 hc
      cases hr
      exact CT.Good.map (g:=fun r=>⟨r.need,r.out.ren (Zc (XP hp args) hp.length),vM (Zc (XP hp args) hp.length) (XP hp args) r.hp hpr⟩) (fun r hs hn=>(hs hn).frame _ ht rfl rfl) (h _ _ _ hc)
theorem uG {f:Nat} {c:List D→List HO→Option CT} (h:yH Pr f c): ∀ n,yH Pr f (Yx alg c n)
  |0=>YE h
  | n + 1 =>by
    intro args hp r hr
    unfold Yx at hr
    split at hr
    · rename_i u E l ho
      rw [zY] at ho
      split at hr
      · rename_i r0 hc
        refine CT.Good.mapO (fun r r' hrr hs hn=> ?_) hr (uG h n _ _ _ hc)
        split at hrr
        · rename_i h1 h2
          cases hrr
          exact Spc.zeg (hs hn) ho rfl rfl h1 h2
        · cases hrr
      · cases hr
    · exact uG h n _ _ _ hr
theorem zH {f:Nat} {c:List D→List HO→Option CT} (h:yH Pr f c):yH Pr f (xh alg c):=fun args hp=>uG h hp.length args hp
theorem vY: ∀ {kn:List (Know Pr)} {f:Nat},yH Pr f (ask alg kn f)
  |[],f=>fun args hp r hr=>by cases hr
  | k ::r,f=>fun args hp x hr=>by
    unfold ask at hr
    split at hr
    · rename_i hb
      obtain rfl:=Nat.eq_of_beq_eq_true hb
      split at hr
      · rename_i y hy;cases hr;exact YE k.ok args hp _ hy
      · exact vY args hp x hr
    · exact vY args hp x hr
theorem CT.xA {f:Nat} {args:List D} {hp:List HO} {k:AOut→List HO→Tree} {k':AOut→List HO→Tree} (ih: ∀ o h,(k' o h).ok Pr X G→(k o h).ok Pr X G): ∀ {c:CT},c.Good Pr f args hp→(c.tree fun r=>.need r.need (k' r.out r.hp)).ok Pr X G→∃ out hp',Spc Pr f args hp out hp'∧(k out hp').ok Pr X G
  |.one r,hc,h=>⟨r.out,r.hp,hc h.1,ih _ _ h.2⟩
  | .br b t e,hc,h=>by
    cases b with
    |true=>exact CT.xA ih (hc.1 rfl) (h.1 rfl)
    |false=>exact CT.xA ih (hc.2 rfl) (h.2 rfl)
theorem ql {q:Nat→List D→List HO→Option CT} (hq: ∀ f,yH Pr f (q f)): ∀ {t:Tree},(drive q t).ok Pr X G→t.ok Pr X G:=by
  intro t
  induction t with
  |need p t ih=>exact fun h=>⟨h.1,ih h.2⟩
  |br b t f ih1 ih2=>exact fun h=>⟨fun e=>ih1 (h.1 e),fun e=>ih2 (h.2 e)⟩
  | call f args hp k ih=>
    intro h
    simp only [drive,YG] at h
    split at h
    · rename_i r hr;exact CT.xA (k':=fun o h=>drive q (k o h)) (fun o h=>ih o h) (hq f args hp r hr) h
    · obtain⟨o,hp',h1,h2⟩:=h;exact⟨o,hp',h1,ih _ _ h2⟩
  |code c st k ih=>exact fun h=>h
  |fin o hp=>exact fun h=>h
  |both t f ih1 ih2=>exact fun h=>⟨ih1 h.1,ih2 h.2⟩
  |qed=>exact fun h=>h
  |stop n=>exact fun h=>h
structure Rt where
  B:Code
  K:AEx→St→Tree
def uo (fn:Func):Code:=match fn.body with|some c=>c|none=>.skip
def loopBody:Code→Code
  |.loop b=>b
  |c=>c
def cAt:List Nat→Code→Code
  |[],c=>c
  | n::p,c=>match c with
    |.seq a b=>(match n with|0=>cAt p a|_=>cAt p b)
    |.cond _ t e=>(match n with|0=>cAt p t|_=>cAt p e)
    |.block _ b=>cAt p b
    |c=>c
def kAt (I:Alg) (T:Tab) (cfg:Cfg):List Nat→Code→(AEx→St→Tree)→AEx→St→Tree
  |[],_,K=>K
  | n ::p,c,K=>match c with
    |.seq a b=>(match n with|0=>kAt I T cfg p a (fun e st=>match e with|.normal=>vc I T cfg b K st|e=>K e st)|_=>kAt I T cfg p b K)
    |.cond _ t e=>(match n with|0=>kAt I T cfg p t K|_=>kAt I T cfg p e K)
    | .block id b=>kAt I T cfg p b (fun e st=>match e with
      |.exit j=>(match Nat.beq j id with|true=>K .normal st|false=>K (.exit j) st)
      |e=>K e st)
    |_=>K
def rtAt:Nat→List Rt→Rt
  |_,[]=>⟨.skip,fun _ _=>.stop 50⟩
  |0,r::_=>r
  |n+1,_::l=>rtAt n l
def leaf (I:Alg) (T:Tab) (cfg:Cfg) (R:List Rt) (i:Nat) (p:List Nat) (st:St):Tree:=
  .code (cAt p (rtAt i R).B) st (kAt I T cfg p (rtAt i R).B (rtAt i R).K)
def zen (I:Alg) (T:Tab) (cfg:Cfg) (c:Code) (K:AEx→St→Tree) (st:St):Tree:=
  match c with
  |.region _ ops draw=>regT I T cfg ops draw K (st.tidy cfg.keep)
  |c=>vc I T cfg c K st
def go (I:Alg) (T:Tab) (cfg:Cfg) (kn:List (Know Pr)) (R:List Rt) (i:Nat) (p:List Nat) (st:St):Tree:=
  drive (ask I kn) (zen I T cfg (cAt p (rtAt i R).B) (kAt I T cfg p (rtAt i R).B (rtAt i R).K) st)
def cutM (cfg:Cfg) (k0:Nat) (dom:List Nat) (st:St):Option St:=St.cut cfg.fsl k0 dom (sO cfg.mv st)
def zdL (cfg:Cfg) (k0:Nat) (dom:List Nat) (A:St→Prop) (k:AEx→St→Tree):AEx→St→Tree:=fun e st=>
  match e with
  |.normal=>(match cutM cfg k0 dom st with|some s=>.need (A s) .qed|none=>.stop 19)
  |e=>k e st
def round (I:Alg) (T:Tab) (cfg:Cfg) (k0:Nat) (dom:List Nat) (A:St→Prop) (R:List Rt) (i:Nat) (p:List Nat):Rt:=
  ⟨loopBody (cAt p (rtAt i R).B),zdL cfg k0 dom A (kAt I T cfg p (rtAt i R).B (rtAt i R).K)⟩
inductive PT where
  |need (p:Prop) (t:PT)
  |br (b:Bool) (t f:PT)
  |code (i:Nat) (p:List Nat) (st:St)
  |fin (o:AOut) (hp:List HO)
  |both (t f:PT)
  |qed
  |stop (n:Nat)
def PT.inst (I:Alg) (T:Tab) (cfg:Cfg) (R:List Rt):PT→Tree
  |.need p t=>.need p (t.inst I T cfg R)
  |.br b t f=>.br b (t.inst I T cfg R) (f.inst I T cfg R)
  |.code i p st=>leaf I T cfg R i p st
  |.fin o hp=>.fin o hp
  |.both t f=>.both (t.inst I T cfg R) (f.inst I T cfg R)
  |.qed=>.qed
  |.stop n=>.stop n
theorem zJ {I:Alg} {cfg:Cfg} {kn:List (Know Pr)} {R:List Rt} {i:Nat} {p:List Nat} {st:St} (pt:PT) (h:go I T cfg kn R i p st=pt.inst I T cfg R) (k:Ok Pr X G (pt.inst I T cfg R)):Ok Pr X G (go I T cfg kn R i p st):=h▸k
theorem VE {I:Alg} {cfg:Cfg} {R:List Rt} {p:Prop} {t:PT}:Ok Pr X G (PT.inst I T cfg R (.need p t))↔p∧Ok Pr X G (t.inst I T cfg R):=zda
theorem zaQ {I:Alg} {cfg:Cfg} {R:List Rt} {b:Bool} {t f:PT}:Ok Pr X G (PT.inst I T cfg R (.br b t f))↔(b=true→Ok Pr X G (t.inst I T cfg R))∧(b=false→Ok Pr X G (f.inst I T cfg R)):=zeJ
theorem VG {I:Alg} {cfg:Cfg} {R:List Rt} {t f:PT}:Ok Pr X G (PT.inst I T cfg R (.both t f))↔Ok Pr X G (t.inst I T cfg R)∧Ok Pr X G (f.inst I T cfg R):=zdb
theorem SS {I:Alg} {cfg:Cfg} {R:List Rt} {o:AOut} {hp:List HO}:Ok Pr X G (PT.inst I T cfg R (.fin o hp))↔G o hp:=zea
theorem SQ {I:Alg} {cfg:Cfg} {R:List Rt}:Ok Pr X G (PT.inst I T cfg R .qed)↔True:=zd9
theorem VD {I:Alg} {cfg:Cfg} {R:List Rt} {n:Nat}:Ok Pr X G (PT.inst I T cfg R (.stop n))↔False:=zc9
theorem VF {I:Alg} {cfg:Cfg} {R:List Rt} {i:Nat} {p:List Nat} {st:St}:Ok Pr X G (PT.inst I T cfg R (.code i p st))↔Ok Pr X G (leaf I T cfg R i p st):=Iff.rfl
def qh (cfg:Cfg):Code→Bool
  |.region id _ _=>memN id cfg.seam
  |_=>false
theorem spcG {P:Program} {T:Tab} (hT:T.fits P) (hm:P.follows .mixedOrders=true) {f:Nat} {fn:Func} (hf:P.funcs[f]? =some fn) (hn:(fn.name == "runtime.NumGoroutine")=false) (cfg:Cfg) (kn:List (Know P)) {args:List D} {hp:List HO} {out:AOut} {hp':List HO}
    (hb:(fn.body.isSome&& !qh cfg (uo fn)&&Nat.ble args.length fn.ntmps)=true)
    (h: ∀ (I:Alg) (X:Ctx),I=alg→X.bs0.length=hp.length→Ok P X (fun o h=>o=out∧h=hp') (go I T cfg kn [⟨uo fn,finK I T cfg hp.length fn⟩] 0 [] { env:=Y0 0 args,hp:=hp,n:=fn.ntmps})):Spc P f args hp out hp':=by
  simp only [Bool.and_eq_true,Bool.not_eq_true'] at hb
  refine RY hT hm hf hn (cfg:=cfg) hb.1.1 hb.2 fun I X hI hX=> ?_
  subst hI
  have h1:=(h alg X rfl hX).out
  have h2:=ql (fun f=>vY) h1
  have hs:=hb.1.2
  unfold funT
  unfold uo at h2 hs
  cases hbd:fn.body with
  |none=>rw [hbd] at hb;cases hb.1.1
  | some c=>
    rw [hbd] at h2 hs
    simp only [rtAt,cAt,kAt] at h2
    simp only at hs ⊢
    cases c<;>first|exact h2|skip
    simp only [qh] at hs
    simp only [vc,hs]
    exact h2
theorem vS (hT:T.fits Pr) (hm:Pr.follows .mixedOrders=true) {cfg:Cfg} {c:Code} {K:AEx→St→Tree} {st:St} (h:(zen alg T cfg c K st).ok Pr X G) (hn:Now X st a w):c.wp Pr (Post X fun e st'=>(K e st').ok Pr X G) a w:=by
  cases c with
  |region id ops draw=>exact Xc hT hm h (hn.tidy cfg.keep)
  |_=>exact Tj hT hm (cfg:=cfg) h hn
theorem Za {cfg:Cfg} {k0:Nat} (hk:X.bs0.length=k0) {dom:List Nat} {st s:St} (hc:cutM cfg k0 dom st=some s) (hn:Now X st a w):Now X s a w:=by
  obtain⟨S,K,hH,hE⟩:=hn
  obtain⟨K',h1,h2⟩:=vO cfg.mv hH hE
  exact zbg hk hc ⟨S,K',h1,h2⟩
theorem yZ {I:Alg} (hI:I=alg) (hT:T.fits Pr) (hm:Pr.follows .mixedOrders=true) {cfg:Cfg} (kn:List (Know Pr)) {R:List Rt} {i:Nat} {p:List Nat} {st:St} {k0:Nat} (hk:X.bs0.length=k0) (dom:List Nat) {ι:Type} (Inv:ι→Prop) (Iv:ι→St) (μ:ι→Nat) (g0:ι)
    (hc:(match cAt p (rtAt i R).B with|.loop b=> !qh cfg b|_=>false)=true) (h0:cutM cfg k0 dom st=some (Iv g0)) (hg0:Inv g0)
    (hr: ∀ (g:ι),Inv g→∀ (A:St→Prop),(∀ g',Inv g'→μ g'<μ g→A (Iv g'))→Ok Pr X G (go I T cfg kn (round I T cfg k0 dom A R i p::R) 0 [] (Iv g))):Ok Pr X G (leaf I T cfg R i p st):=by
  subst hI
  constructor
  unfold leaf
  intro S K a w hH hE
  obtain⟨b,hb⟩: ∃ b,cAt p (rtAt i R).B=.loop b:=by
    cases h:cAt p (rtAt i R).B<;>rw [h] at hc<;>first|exact⟨_,rfl⟩|cases hc
  rw [hb]
  refine wp_loop_ghost (fun n a w=>∃ g,Inv g∧μ g=n∧Now X (Iv g) a w) (μ g0) ⟨g0,hg0,rfl,Za hk h0 ⟨S,K,hH,hE⟩⟩ ?_
  rintro n a w ⟨g,hg,rfl,hn⟩
  have h1:=(hr g hg (fun s=>∃ g',Inv g'∧μ g'<μ g∧s=Iv g') (fun g' hi hl=>⟨g',hi,hl,rfl⟩)).out
  have h2:=ql (fun f=>vY) h1
  simp only [rtAt,cAt,kAt,round,hb,loopBody] at h2
  refine wp_mono (vS hT hm h2 hn) fun e a' w' hq=> ?_
  obtain⟨e',st',h1,S',K',hH',hE',hem⟩:=hq
  generalize kAt alg T cfg p (rtAt i R).B (rtAt i R).K=k at h1
  have keep: ∀ {e:Exit} {e':AEx},(∀ (h:e'=.normal),False)→EM S' (K'.map CO.base) e e'→(k e' st').ok Pr X G→Post X (fun e st'=>(k e st').ok Pr X G) e a' w':=fun {e e'} _ hem h=>⟨e',st',h,S',K',hH',hE',hem⟩
  cases e' with
  | normal=>
    cases e with
    | normal=>
      have h1:((match cutM cfg k0 dom st' with|some s=>Tree.need (∃ g',Inv g'∧μ g'<μ g∧s=Iv g') .qed|none=>.stop 19):Tree).ok Pr X G:=h1
      split at h1
      · rename_i s hs
        obtain⟨⟨g',hi,hlt,rfl⟩,_⟩:=h1
        exact⟨μ g',hlt,g',hi,rfl,Za hk hs ⟨S',K',hH',hE'⟩⟩
      · exact h1.elim
    |exit i=>exact hem.elim
    |goto l=>exact hem.elim
    |ret=>exact hem.elim
    |panic ch=>exact hem.elim
    |outgrown=>exact hem.elim
  | exit j=>cases e with
    |exit i=>exact keep (fun h=>by cases h) hem h1
    |normal=>exact hem.elim
    |goto l=>exact hem.elim
    |ret=>exact hem.elim
    |panic ch=>exact hem.elim
    |outgrown=>exact hem.elim
  | ret=>cases e with
    |ret=>exact keep (fun h=>by cases h) hem h1
    |normal=>exact hem.elim
    |goto l=>exact hem.elim
    |exit j=>exact hem.elim
    |panic ch=>exact hem.elim
    |outgrown=>exact hem.elim
  | pan c=>cases e with
    |panic ch=>exact keep (fun h=>by cases h) hem h1
    |normal=>exact hem.elim
    |goto l=>exact hem.elim
    |exit j=>exact hem.elim
    |ret=>exact hem.elim
    |outgrown=>exact hem.elim
theorem seam {I:Alg} (hI:I=alg) (hT:T.fits Pr) (hm:Pr.follows .mixedOrders=true) {cfg:Cfg} (kn:List (Know Pr)) {R:List Rt} {i:Nat} {p:List Nat} {st:St} {k0:Nat} (hk:X.bs0.length=k0) (dom:List Nat) (st1:St)
    (h0:cutM cfg k0 dom st=some st1) (hr:Ok Pr X G (go I T cfg kn R i p st1)):Ok Pr X G (leaf I T cfg R i p st):=by
  subst hI
  constructor
  intro S K a w hH hE
  exact vS hT hm (ql (fun f=>vY) hr.out) (Za hk h0 ⟨S,K,hH,hE⟩)
end
inductive AM where
  |ret
  |pan (c:C)
def MAM (S:Frz) (bs:List Value):AM→FrameMode→Prop
  |.ret,u=>u=.returning
  |.pan c,u=>∃ v,u=.panicking [{ v:=v,recovered:=false}]∧MC S bs c v
def SpcD (Pr:Program) (g:Nat) (caps:List Cap) (m:AM) (hp:List HO) (m':AM) (hp':List HO):Prop:=
  (∃ fn,Pr.funcs[g]? =some fn∧(fn.name == "runtime.NumGoroutine")=false∧fn.body.isNone=false)∧
  ∀ (S:Frz) (K:List CO) (fr:List Chunk) (w:World) (vs:List Value) (u:FrameMode),HR S (K.map CO.base) hp K→uw S (K.map CO.base) caps vs→At w (frzC S::(CO.zx K++fr))→MAM S (K.map CO.base) m u→
    CallsD Pr g vs.toArray u w fun e u' w'=>(∃ v,e=.returned v)∧∃ S' K',S.le S'∧Ext (K.map CO.base) (K'.map CO.base)∧HR S' (K'.map CO.base) hp' K'∧At w' (frzC S'::(CO.zx K'++fr))∧MAM S' (K'.map CO.base) m' (settle u')
structure Door (Pr:Program) where
  g:Nat
  c:Alg→AM→List Cap→List HO→Option (Prop × AM × List HO)
  ok: ∀ m caps hp p m' hp',c alg m caps hp=some (p,m',hp')→p→SpcD Pr g caps m hp m' hp'
def AM.out:AM→AEx
  |.ret=>.ret
  |.pan c=>.pan c
def zec:AEx→Option AM
  |.normal=>some .ret
  |.ret=>some .ret
  |.pan c=>some (.pan c)
  |.exit _=>none
def zeq {Pr:Program} (I:Alg) (T:Tab) (cfg:Cfg) (k0:Nat) (fn:Func) (dk:Door Pr) (e:AEx) (st:St):Tree:=
  match st.df with
  |none=>zce I T cfg k0 fn e st
  | some (g,caps)=>match Nat.beq g dk.g,zec e with
    | true,some m=>(match dk.c I m caps st.hp with
      |some (p,m',hp')=>.need p (zce I T cfg k0 fn m'.out { st with hp:=hp',df:=none})
      |none=>.stop 91)
    |_,_=>.stop 92
section
variable {Pr:Program} {T:Tab} {a:Act} {w:World}
theorem QE {g:Nat} {fn:Func} (hfn:Pr.funcs[g]? =some fn) (hname:(fn.name == "runtime.NumGoroutine")=false) (hbody:fn.body.isNone=false) (args:Array Value):(callFunc g args).run Pr w=.ok (.enter g args) w:=by
  have hname': ¬ fn.name= "runtime.NumGoroutine" :=by simpa using hname
  have hbody': ¬ fn.body=none:=by cases hb:fn.body with|none=>rw [hb] at hbody;cases hbody|some c=>simp
  simp [callFunc,program,hfn,Sem.run]
  rw [if_neg hname',if_neg hbody']
theorem zeD {P:Program} {T:Tab} (hT:T.fits P) (hm:P.follows .mixedOrders=true) {f:Nat} {fn:Func} (hf:P.funcs[f]? =some fn) (hn:(fn.name == "runtime.NumGoroutine")=false) (cfg:Cfg) (kn:List (Know P)) (dk:Door P) {args:List D} {hp:List HO} {out:AOut} {hp':List HO}
    (hb:(fn.body.isSome&& !qh cfg (uo fn)&&Nat.ble args.length fn.ntmps)=true)
    (h: ∀ (I:Alg) (X:Ctx),I=alg→X.bs0.length=hp.length→Ok P X (fun o h=>o=out∧h=hp') (go I T cfg kn [⟨uo fn,zeq I T cfg hp.length fn dk⟩] 0 [] { env:=Y0 0 args,hp:=hp,n:=fn.ntmps})):Spc P f args hp out hp':=by
  simp only [Bool.and_eq_true,Bool.not_eq_true'] at hb
  obtain⟨⟨hb1,hb2⟩,hb3⟩:=hb
  obtain⟨c,hc⟩:=Option.isSome_iff_exists.1 hb1
  have hbo:uo fn=c:=by unfold uo;rw [hc]
  refine⟨⟨fn,hf,hn,by rw [hc];rfl⟩,fun S K fr w vs hHR hargs hat=> ?_⟩
  have h1:=(h alg ⟨S,K.map CO.base,fr⟩ rfl (by simp [hHR.1])).out
  have h2:=ql (fun f=>vY) h1
  simp only [rtAt,cAt,kAt,hbo] at h2
  have hal:=hargs.length
  have hle:=Nat.le_of_ble_eq_true hb3
  have hnow:Now ⟨S,K.map CO.base,fr⟩ { env:=Y0 0 args,hp:=hp,n:=fn.ntmps} { tmps:=vs.toArray++Array.replicate (fn.ntmps - vs.toArray.size) undef,defers:=[]} w:=by
    refine⟨S,K,⟨Frz.le.refl S,Ext.refl _,hHR,hat⟩,⟨?_,rfl,fun t d hd=> ?_⟩⟩
    · simp [hal];omega
    · obtain⟨_,v,h1,h2⟩:=tC hargs hd
      simp only [Nat.sub_zero] at h1
      have hlt:=(List.getElem?_eq_some_iff.1 h1).1
      have e:(vs.toArray++Array.replicate (fn.ntmps - vs.toArray.size) undef).getD t undef=v:=by
        rw [Array.getD_eq_getD_getElem?,Array.getElem?_append_left (by simpa using hlt)]
        simp [h1]
      rw [e];exact h2
  refine calls_of_wp_defers hf hc (wp_mono (vS hT hm h2 hnow) fun e a w' hq=> ?_)
  obtain⟨e',st',hk,S',K',hH,hE,hem⟩:=hq
  have hlen:(K.map CO.base).length=hp.length:=by simp [hHR.1]
  unfold zeq at hk
  split at hk
  · rename_i hdf
    have hd:a.defers=[]:=by have:=hE.defers;rw [hdf] at this;exact this
    have hfin:=VX (X:=⟨S,K.map CO.base,fr⟩) hT hlen hk hH hE hem
    cases e with
    |normal=>show Leaves P fn a.tmps _ a.defers .returning w';rw [hd];exact hfin
    |ret=>show Leaves P fn a.tmps _ a.defers .returning w';rw [hd];exact hfin
    |panic ch=>show Leaves P fn a.tmps _ a.defers (.panicking ch) w';rw [hd];exact hfin
    |exit i=>exact hfin.elim
    |goto l=>exact hfin.elim
    |outgrown=>exact hfin.elim
  · rename_i g caps hdf
    split at hk
    · rename_i m hg hmo
      have hg:=Nat.eq_of_beq_eq_true hg
      split at hk
      · rename_i p m' hp2 hc2
        obtain⟨hpn,hk⟩:=hk
        have hds:=hE.defers
        rw [hdf] at hds
        obtain⟨us,hcap,hds⟩:=hds
        have hspec:=dk.ok _ _ _ _ _ _ hc2 hpn
        rw [← hg] at hspec
        obtain⟨⟨gn,hgn,hgname,hgbody⟩,hspec⟩:=hspec
        have key: ∀ u,MAM S' (K'.map CO.base) m u→u≠ .run→Leaves P fn a.tmps (fun e w'=>∃ S' K',S.le S'∧Ext (K.map CO.base) (K'.map CO.base)∧HR S' (K'.map CO.base) hp' K'∧At w' (frzC S'::(CO.zx K'++fr))∧EOut S' (K'.map CO.base) out e) a.defers u w':=by
          intro u hu hrun
          rw [hds]
          refine⟨hrun,_,_,g,us.toArray,rfl,?_,CallsD.mono (hspec S' K' fr w' us u hH.2.2.1 hcap hH.2.2.2 hu) ?_⟩
          · simp only [invoke,Array.empty_append]
            exact QE hgn hgname hgbody _
          · rintro e2 u' w2 ⟨⟨v,rfl⟩,S2,K2,hle2,hex2,hHR2,hat2,hm2⟩
            simp only
            have hH2:Heap ⟨S,K.map CO.base,fr⟩ hp2 S2 K2 w2:=⟨hH.1.trans hle2,hH.2.1.trans hex2,hHR2,hat2⟩
            have hE2:Env S2 (K2.map CO.base) { st' with hp:=hp2,df:=none} { a with defers:=[]}:=⟨hE.size,rfl,fun t d hd=>(hE.slots t d hd).mono hle2 hex2⟩
            cases m' with
            | ret=>
              have:settle u'=.returning:=hm2
              rw [this]
              exact VX (X:=⟨S,K.map CO.base,fr⟩) (e:=.ret) hT hlen hk hH2 hE2 trivial
            | pan c=>
              obtain⟨v2,h5,h6⟩:=hm2
              rw [h5]
              exact VX (X:=⟨S,K.map CO.base,fr⟩) (e:=.panic _) hT hlen hk hH2 hE2 ⟨v2,rfl,h6⟩
        cases e with
        |normal=>cases e'<;>first|exact hem.elim|(cases hmo;exact key .returning rfl (by simp))
        |ret=>cases e'<;>first|exact hem.elim|(cases hmo;exact key .returning rfl (by simp))
        |panic ch=>cases e'<;>first|exact hem.elim|(cases hmo;exact key (.panicking ch) (by obtain⟨v,h1,h2⟩:=hem;exact⟨v,by rw [h1],h2⟩) (by simp))
        |exit i=>cases e'<;>first|exact hem.elim|(cases hmo;done)
        |goto l=>cases e'<;>exact hem.elim
        |outgrown=>cases e'<;>exact hem.elim
      · exact hk.elim
    · exact hk.elim
def recC:AM→C
  |.ret=>.p (.val .nilIface)
  |.pan c=>c
theorem Y7 {P:Program} {T:Tab} (hT:T.fits P) (hm:P.follows .mixedOrders=true) {f:Nat} {fn:Func} (hf:P.funcs[f]? =some fn) (hn:(fn.name == "runtime.NumGoroutine")=false) (cfg:Cfg) (kn:List (Know P))
    {id t t2 ty0 ty1:Nat} {pos0 pos1:String} {af0 af1:Array Edge} {rest:Code}
    (hb:fn.body=some (.seq (.region id #[⟨some t,.call ⟨.builtin .recover,#[],#[]⟩,ty0,pos0,af0,none⟩,⟨some t2,.assign (.tmp t),ty1,pos1,af1,none⟩] false) rest))
    {m:AM} {caps:List Cap} {hp hp':List HO}
    (hbb:(Nat.blt t fn.ntmps&&Nat.blt t2 fn.ntmps&& !Nat.beq t t2&&Nat.ble caps.length fn.ntmps&& !qh cfg rest)=true)
    (h: ∀ (I:Alg) (X:Ctx),I=alg→X.bs0.length=hp.length→Ok P X (fun o h=>o=.ret (.tup [])∧h=hp') (go I T cfg kn [⟨uo fn,finK I T cfg hp.length fn⟩] 0 [1] (({ env:=Y0 0 (caps.map dP),hp:=hp,n:=fn.ntmps}:St).put (some t) (.v (.one (recC m))) |>.put (some t2) (.v (.one (recC m)))))):SpcD P f caps m hp .ret hp':=by
  simp only [Bool.and_eq_true,Bool.not_eq_true'] at hbb
  obtain⟨⟨⟨⟨ht,ht2⟩,hne⟩,hle⟩,hseam⟩:=hbb
  have ht:t<fn.ntmps:=by simpa using ht
  have ht2:t2<fn.ntmps:=by simpa using ht2
  have hne:t≠t2:=Nat.ne_of_beq_eq_false hne
  have hle:=Nat.le_of_ble_eq_true hle
  refine⟨⟨fn,hf,hn,by rw [hb];rfl⟩,fun S K fr w vs u hHR hcap hat hmode=> ?_⟩
  have h1:=(h alg ⟨S,K.map CO.base,fr⟩ rfl (by simp [hHR.1])).out
  have h2:=ql (fun f=>vY) h1
  have hbo:uo fn=.seq (.region id #[⟨some t,.call ⟨.builtin .recover,#[],#[]⟩,ty0,pos0,af0,none⟩,⟨some t2,.assign (.tmp t),ty1,pos1,af1,none⟩] false) rest:=by unfold uo;rw [hb]
  simp only [rtAt,hbo,cAt,kAt] at h2
  have hal:=hcap.mds.length
  rw [List.length_map] at hal
  have hlen:(K.map CO.base).length=hp.length:=by simp [hHR.1]
  refine callsD_of_wpS hf hb fun c₀ cs hu=> ?_
  obtain⟨x,u1,hrec,hx,hset⟩: ∃ x u1,(match recoverD (c₀::cs) with|some (v,cs')=>(v,cs')|none=>(.nilIface,c₀::cs))=(x,{ c₀ with mode:=u1}::cs)∧MC S (K.map CO.base) (recC m) x∧settle u1=.returning:=by
    cases m with
    | ret=>
      have hmode:u=.returning:=hmode
      subst hmode
      refine⟨.nilIface,.returning,?_,.val _ rfl,rfl⟩
      simp only [recoverD,hu]
      cases c₀;simp at hu;subst hu;rfl
    | pan c=>
      obtain⟨v,rfl,hv⟩:=hmode
      refine⟨v,.panicking [{ v:=v,recovered:=true}],?_,hv,rfl⟩
      simp [recoverD,hu]
  have hnow:Now ⟨S,K.map CO.base,fr⟩ (({ env:=Y0 0 (caps.map dP),hp:=hp,n:=fn.ntmps}:St).put (some t) (.v (.one (recC m))) |>.put (some t2) (.v (.one (recC m)))) (({ tmps:=vs.toArray++Array.replicate (fn.ntmps - vs.toArray.size) undef,defers:=[]}:Act).put (some t) x |>.put (some t2) x) w:=by
    have hE0:Env S (K.map CO.base) { env:=Y0 0 (caps.map dP),hp:=hp,n:=fn.ntmps} { tmps:=vs.toArray++Array.replicate (fn.ntmps - vs.toArray.size) undef,defers:=[]}:=by
      refine⟨?_,rfl,fun t d hd=> ?_⟩
      · simp [hal];omega
      · obtain⟨_,v,h1,h2⟩:=tC hcap.mds hd
        simp only [Nat.sub_zero] at h1
        have hlt:=(List.getElem?_eq_some_iff.1 h1).1
        have e:(vs.toArray++Array.replicate (fn.ntmps - vs.toArray.size) undef).getD t undef=v:=by
          rw [Array.getD_eq_getD_getElem?,Array.getElem?_append_left (by simpa using hlt)]
          simp [h1]
        rw [e];exact h2
    exact⟨S,K,by rw [wo,wo];exact⟨Frz.le.refl S,Ext.refl _,hHR,hat⟩,(hE0.put (some t) (d:=.v (.one (recC m))) hx).put (some t2) (d:=.v (.one (recC m))) hx⟩
  have hw:=vS hT hm h2 hnow
  refine wpS_seq (wpS_region ?_)
  have hsz:t<(vs.toArray++Array.replicate (fn.ntmps - vs.toArray.size) undef).size:=by simp [hal];omega
  have hev:({ tmps:=(vs.toArray++Array.replicate (fn.ntmps - vs.toArray.size) undef).setIfInBounds t x,defers:=[]}:Act).eval (.tmp t)=x:=by
    simp only [Act.eval]
    rw [Array.getD_eq_getD_getElem?,Array.getElem?_setIfInBounds_self_of_lt hsz];rfl
  have hgoal:rest.wpS P (bodyPostS P fn c₀ cs fun e u' w'=>(∃ v,e=.returned v)∧∃ S' K',S.le S'∧Ext (K.map CO.base) (K'.map CO.base)∧HR S' (K'.map CO.base) hp' K'∧At w' (frzC S'::(CO.zx K'++fr))∧MAM S' (K'.map CO.base) .ret (settle u'))
      (({ tmps:=vs.toArray++Array.replicate (fn.ntmps - vs.toArray.size) undef,defers:=[]}:Act).put (some t) x |>.put (some t2) x) ({ c₀ with mode:=u1}::cs) w:=by
    refine wpS_of_wp (wp_mono hw fun e a' w' hq=> ?_)
    obtain⟨e',st',hk,S',K',hH,hE,hem⟩:=hq
    unfold finK at hk
    split at hk
    case h_2=>exact hk.elim
    rename_i hdf
    have hd:a'.defers=[]:=by have:=hE.defers;rw [hdf] at this;exact this
    have hfin:=VX (X:=⟨S,K.map CO.base,fr⟩) hT hlen hk hH hE hem
    cases e with
    |normal=>obtain⟨v,hv,S2,K2,h5,h6,h7,h8,_⟩:=hfin;exact⟨hd,u1,rfl,v,hv,⟨v,rfl⟩,S2,K2,h5,h6,h7,h8,hset⟩
    |ret=>obtain⟨v,hv,S2,K2,h5,h6,h7,h8,_⟩:=hfin;exact⟨hd,u1,rfl,v,hv,⟨v,rfl⟩,S2,K2,h5,h6,h7,h8,hset⟩
    |panic ch=>obtain⟨S2,K2,h5,h6,h7,h8,h9⟩:=hfin;exact h9.elim
    |exit i=>exact hfin.elim
    |goto l=>exact hfin.elim
    |outgrown=>exact hfin.elim
  clear hnow hw
  generalize vs.toArray++Array.replicate (fn.ntmps - vs.toArray.size) undef=tm at hev hgoal hsz ⊢
  have hr0: ∀ (a:Act),(execOp a.eval ⟨some t,.call ⟨.builtin .recover,#[],#[]⟩,ty0,pos0,af0,none⟩).run P w=.ok .recover w:=by
    intro a;simp [execOp,Go.resolve,invoke,builtin]
  simp only [List.size_toArray,List.length_cons,List.length_nil,Nat.zero_add,Nat.reduceAdd,List.range_succ_eq_map,List.range_zero,List.map_cons,List.map_nil]
  simp only [wpOpsS,List.getElem?_toArray,List.getElem?_cons_zero,List.getElem?_cons_succ,Region.wanted,if_true,hr0]
  cases hq:recoverD (c₀::cs) with
  | none=>
    rw [hq] at hrec
    simp only [Prod.mk.injEq] at hrec
    obtain⟨rfl,hcs⟩:=hrec
    simp only [Act.put,execOp,Sem.run_pure,hev,Oper.upon,Exit.thenS]
    rw [hcs]
    exact hgoal
  | some y=>
    obtain⟨y,cs'⟩:=y
    rw [hq] at hrec
    simp only [Prod.mk.injEq] at hrec
    obtain⟨rfl,rfl⟩:=hrec
    simp only [Act.put,execOp,Sem.run_pure,hev,Oper.upon,Exit.thenS]
    exact hgoal
end
theorem nrmA:type_of% (And.intro @Tf <| And.intro @zbC <| And.intro @x9 <| And.intro @vZ <| And.intro @U9 <| And.intro @U8 <| And.intro @zbB <| And.intro @RH <| And.intro @WS <| And.intro @WT <| And.intro @WU <| And.intro @WV <| And.intro @Ze <| And.intro @uj <| And.intro @YR <| And.intro @Td <| And.intro @YP <| And.intro @zZ <| And.intro @Zf <| And.intro @xZ <| And.intro @WW <| And.intro @U7 <| And.intro @YQ <| And.intro @Tc <| And.intro @ug <| And.intro @qG <| And.intro @uf <| And.intro @uh <| And.intro @WR <| And.intro @Zd <| And.intro @zbD <| And.intro @zbA <| And.intro @zbz <| @RI):=And.intro @Tf <| And.intro @zbC <| And.intro @x9 <| And.intro @vZ <| And.intro @U9 <| And.intro @U8 <| And.intro @zbB <| And.intro @RH <| And.intro @WS <| And.intro @WT <| And.intro @WU <| And.intro @WV <| And.intro @Ze <| And.intro @uj <| And.intro @YR <| And.intro @Td <| And.intro @YP <| And.intro @zZ <| And.intro @Zf <| And.intro @xZ <| And.intro @WW <| And.intro @U7 <| And.intro @YQ <| And.intro @Tc <| And.intro @ug <| And.intro @qG <| And.intro @uf <| And.intro @uh <| And.intro @WR <| And.intro @Zd <| And.intro @zbD <| And.intro @zbA <| And.intro @zbz <| @RI
theorem nrmB:type_of% (And.intro @decide_eq_true_eq <| And.intro @decide_eq_false_iff_not <| And.intro @beq_iff_eq.{0} <| And.intro @beq_eq_false_iff_ne.{0} <| And.intro @Bool.not_eq_true' <| And.intro @Bool.not_eq_false' <| And.intro @Bool.and_eq_true <| And.intro @Bool.and_true <| And.intro @Bool.true_and <| And.intro @and_true <| And.intro @true_and <| And.intro @ne_eq.{1} <| And.intro @Int.toNat_zero <| And.intro @Nat.sub_zero <| And.intro @List.drop_zero.{0} <| And.intro @zaU <| And.intro @zaV <| And.intro @zcr <| And.intro @zcs <| And.intro @Vr <| And.intro @vz <| And.intro @Int.toNat_natCast <| And.intro @Int.ofNat_eq_natCast <| And.intro @UInt8.ofNat_toNat <| And.intro @AOut.ret.injEq <| And.intro @AOut.pan.injEq <| And.intro @C.ifc.injEq <| And.intro @D.v.injEq <| And.intro @D.tup.injEq <| And.intro @V0.one.injEq <| And.intro @C.p.injEq <| And.intro @P.bool.injEq <| And.intro @P.int.injEq <| And.intro @P.str.injEq <| And.intro @Bool.false_eq_true <| And.intro @Bool.true_eq_false <| And.intro @imp_false <| And.intro @Decidable.not_not <| And.intro @not_true_eq_false <| @not_false_eq_true):=And.intro @decide_eq_true_eq <| And.intro @decide_eq_false_iff_not <| And.intro @beq_iff_eq.{0} <| And.intro @beq_eq_false_iff_ne.{0} <| And.intro @Bool.not_eq_true' <| And.intro @Bool.not_eq_false' <| And.intro @Bool.and_eq_true <| And.intro @Bool.and_true <| And.intro @Bool.true_and <| And.intro @and_true <| And.intro @true_and <| And.intro @ne_eq.{1} <| And.intro @Int.toNat_zero <| And.intro @Nat.sub_zero <| And.intro @List.drop_zero.{0} <| And.intro @zaU <| And.intro @zaV <| And.intro @zcr <| And.intro @zcs <| And.intro @Vr <| And.intro @vz <| And.intro @Int.toNat_natCast <| And.intro @Int.ofNat_eq_natCast <| And.intro @UInt8.ofNat_toNat <| And.intro @AOut.ret.injEq <| And.intro @AOut.pan.injEq <| And.intro @C.ifc.injEq <| And.intro @D.v.injEq <| And.intro @D.tup.injEq <| And.intro @V0.one.injEq <| And.intro @C.p.injEq <| And.intro @P.bool.injEq <| And.intro @P.int.injEq <| And.intro @P.str.injEq <| And.intro @Bool.false_eq_true <| And.intro @Bool.true_eq_false <| And.intro @imp_false <| And.intro @Decidable.not_not <| And.intro @not_true_eq_false <| @not_false_eq_true
theorem nrlB:type_of% (And.intro @List.cons.injEq.{0} <| And.intro @P.list.injEq <| And.intro @HO.row.injEq <| And.intro @heq_eq_eq.{1} <| And.intro @false_and <| @and_false):=And.intro @List.cons.injEq.{0} <| And.intro @P.list.injEq <| And.intro @HO.row.injEq <| And.intro @heq_eq_eq.{1} <| And.intro @false_and <| @and_false
theorem yg:type_of% (And.intro @VE <| And.intro @zaQ <| And.intro @VG <| And.intro @SS <| And.intro @SQ <| And.intro @VD <| @VF):=And.intro @VE <| And.intro @zaQ <| And.intro @VG <| And.intro @SS <| And.intro @SQ <| And.intro @VD <| @VF
end Go.Ab
namespace Go.Ab
open Go Go.Sep Go.RowKit
variable [Facts]
def Holds (W:World):Prop:=∀ w:World,(∀ (k:Nat) (o:Obj),W.heap[k]? =some o→w.heap[k]? =some o)→Facts.p w
def frzW (W:World) (hF:Holds W):Frz:=⟨fun k=>W.heap[k]?,W.os,W.tape,W.output,fun w hw=>hF w hw.2.2.2⟩
theorem zdq (W:World) (hF:Holds W):At W [frzC (frzW W hF)]:=
  ⟨fun k=>(W.heap[k]?).isSome=true,fun k=>(W.heap[k]?).isSome=true,fun _=>False,fun k=>by simp,fun _ _ h=>h,⟨fun _=>Iff.rfl,rfl,rfl,rfl,fun _ _ h=>h⟩,fun _ h=>h⟩
theorem Xy {W w:World} {hF:Holds W} (h:(frzW W hF).on w):Below W.heap.size W w:=by
  obtain⟨h1,h2,h3,h4⟩:=h
  have hb: ∀ k,k<W.heap.size→w.heap[k]? =W.heap[k]? :=fun k hk=>by
    have:W.heap[k]? =some W.heap[k]:=by simp [hk]
    rw [h4 k _ this,this]
  refine⟨h1,h2,h3,?_,hb⟩
  rcases Nat.lt_or_ge w.heap.size W.heap.size with hlt|hge
  · have:=hb w.heap.size hlt
    simp at this
    omega
  · exact hge
theorem zdp {W:World} {hF:Holds W} {size:Nat} {v:Value} {n:Nat} {cs:List Value} (h:Rd W size v n cs):RdS (frzW W hF) size v n cs:=by
  intro w hw
  obtain⟨ao,cap,e,h1,h2,h4,h3,hc⟩:=h
  refine⟨ao,cap,e,h1,h2,h4,h3,fun j u hu=> ?_⟩
  obtain⟨hs,hcell⟩:=hc j u hu
  exact⟨hs,((Xy hw).cell (block_lt hcell)).trans hcell⟩
theorem Spc.law {Pr:Program} {f:Nat} {args:List D} {hp':List HO} {W:World} {hF:Holds W} {vs:List Value} (h:Spc Pr f args [] (.ret (.v (.one (.p (.bool true))))) hp') (ha:MDs (frzW W hF) [] args vs):
    Calls Pr f vs.toArray W fun e w'=>e=.returned (.bool true)∧Below W.heap.size W w':=by
  refine(h.2 (frzW W hF) [] [] W vs ⟨rfl,fun i o c h=>by simp at h⟩ ha (zdq W hF)).mono fun e w' he=> ?_
  obtain⟨S',K',hle,_,_,hat,ho⟩:=he
  refine⟨?_,Xy ((At.frz hat).mono hle)⟩
  cases e with
  |returned v=>cases ho;rfl
  |panicked ch=>exact ho.elim
  |outgrown=>exact ho.elim
theorem zdl {W:World} {hF:Holds W} {v:Value} {u:U} {R:Sep.Rel u.den} (hR: ∀ cs x,R W cs x→MPs (frzW W hF) (enc alg u x) cs) {xs:List u.den} (h:RSl u.size R W [v] xs):MD (frzW W hF) [] (.v (.one (.p (.list u xs)))) v:=by
  obtain⟨v',vs,e,hr,hx⟩:=h
  cases e
  have hlen:=hr.len
  obtain⟨ao,cap,rfl,_⟩:=id hr
  refine MP.list u xs ao cap vs hlen (zdp hr) fun i x j p v hi hj hv=> ?_
  have hm:=hR _ _ (hx i x hi)
  obtain⟨v',h1,h2⟩:=hm.get hj
  rw [List.getElem?_take] at h1
  split at h1
  · rw [List.getElem?_drop,hv] at h1
    cases h1;exact h2
  · cases h1
end Go.Ab
namespace Go.Proofs.YtlpmdnffdmdahaaGreatDoor
open Go Go.Ab
instance facts:Facts:= { p:=fun w=>True,sh:=fun _=>[],ab:=fun _=>none,abok:=fun _ _ h=>by cases h}
def tabT:TT:=
 (.node (.node (.node (.node (.node (.node (.node (.node .nil 0 ⟨.other,1,0,none,none⟩
 .nil) 1 ⟨.other,1,8,(some [.val .nilFunc]),none⟩
 .nil) 2 ⟨.int .i64,1,8,(some [.int .i64 0]),none⟩
 (.node (.node .nil 3 ⟨.int .i64,1,8,(some [.int .i64 0]),none⟩
 .nil) 4 ⟨.bool,1,1,(some [.bool false]),none⟩
 .nil)) 5 ⟨.int .u8,1,1,(some [.int .u8 0]),none⟩
 (.node (.node (.node .nil 6 ⟨.int .u8,1,1,(some [.int .u8 0]),none⟩
 .nil) 9 ⟨.str,1,16,(some [.str []]),none⟩
 .nil) 10 ⟨.str,1,16,(some [.str []]),none⟩
 (.node (.node .nil 11 ⟨.str,1,16,(some [.str []]),none⟩
 .nil) 12 ⟨.int .u64,1,8,(some [.int .u64 0]),none⟩
 .nil))) 15 ⟨.ptr,1,8,(some [.val (.pointer none)]),none⟩
 (.node (.node (.node (.node .nil 16 ⟨.ptr,1,8,(some [.val (.pointer none)]),none⟩
 .nil) 17 ⟨.ptr,1,8,(some [.val (.pointer none)]),none⟩
 .nil) 20 ⟨.iface,1,16,(some [.val .nilIface]),none⟩
 (.node (.node .nil 21 ⟨.int .i32,1,4,(some [.int .i32 0]),none⟩
 .nil) 22 ⟨.slice 37,1,24,(some [.list .fld []]),(some .fld)⟩
 .nil)) 23 ⟨.struct [(0,9),(1,22)],2,40,(some [.str [],.list .fld []]),none⟩
 (.node (.node (.node .nil 24 ⟨.struct [(0,9),(1,22)],2,40,(some [.str [],.list .fld []]),none⟩
 .nil) 25 ⟨.other,1,8,(some [.val .nilFunc]),none⟩
 .nil) 26 ⟨.other,1,8,(some [.val .nilFunc]),none⟩
 (.node .nil 27 ⟨.other,1,0,none,none⟩
 .nil)))) 28 ⟨.other,1,8,(some [.val .nilFunc]),none⟩
 (.node (.node (.node (.node (.node .nil 29 ⟨.other,1,0,none,none⟩
 .nil) 30 ⟨.other,1,8,(some [.val .nilFunc]),none⟩
 .nil) 31 ⟨.other,1,0,none,none⟩
 (.node (.node .nil 32 ⟨.other,1,8,(some [.val .nilFunc]),none⟩
 .nil) 33 ⟨.other,1,8,(some [.val .nilFunc]),none⟩
 .nil)) 34 ⟨.other,1,8,(some [.val .nilFunc]),none⟩
 (.node (.node (.node .nil 35 ⟨.other,1,8,(some [.val .nilFunc]),none⟩
 .nil) 36 ⟨.struct [(0,9),(1,9)],2,32,(some [.str [],.str []]),none⟩
 .nil) 37 ⟨.struct [(0,9),(1,9)],2,32,(some [.str [],.str []]),none⟩
 (.node .nil 38 ⟨.other,1,8,(some [.val .nilFunc]),none⟩
 .nil))) 39 ⟨.int .i64,1,8,(some [.int .i64 0]),none⟩
 (.node (.node (.node (.node .nil 40 ⟨.other,1,0,none,none⟩
 .nil) 41 ⟨.ptr,1,8,(some [.val (.pointer none)]),none⟩
 .nil) 42 ⟨.struct [(0,9)],1,16,(some [.str []]),none⟩
 (.node (.node .nil 43 ⟨.struct [(0,9)],1,16,(some [.str []]),none⟩
 .nil) 44 ⟨.other,1,8,(some [.val .nilFunc]),none⟩
 .nil)) 45 ⟨.other,1,8,(some [.val .nilFunc]),none⟩
 (.node (.node (.node .nil 46 ⟨.other,1,8,(some [.val .nilFunc]),none⟩
 .nil) 47 ⟨.other,1,8,(some [.val .nilFunc]),none⟩
 .nil) 48 ⟨.other,1,8,(some [.val .nilFunc]),none⟩
 (.node .nil 49 ⟨.other,1,8,(some [.val .nilFunc]),none⟩
 .nil))))) 50 ⟨.slice 5,1,24,(some [.list .byte []]),(some .byte)⟩
 (.node (.node (.node (.node (.node (.node .nil 51 ⟨.other,1,8,(some [.val .nilFunc]),none⟩
 .nil) 52 ⟨.other,1,8,(some [.val .nilFunc]),none⟩
 .nil) 53 ⟨.other,1,8,(some [.val .nilFunc]),none⟩
 (.node (.node .nil 54 ⟨.other,1,8,(some [.val .nilFunc]),none⟩
 .nil) 55 ⟨.other,1,8,(some [.val .nilFunc]),none⟩
 .nil)) 56 ⟨.other,1,8,(some [.val .nilFunc]),none⟩
 (.node (.node (.node .nil 57 ⟨.other,1,0,none,none⟩
 .nil) 58 ⟨.other,1,8,(some [.val .nilFunc]),none⟩
 .nil) 59 ⟨.other,1,8,(some [.val .nilFunc]),none⟩
 (.node (.node .nil 60 ⟨.ptr,1,8,(some [.val (.pointer none)]),none⟩
 .nil) 61 ⟨.other,1,8,(some [.val .nilFunc]),none⟩
 .nil))) 62 ⟨.other,1,8,(some [.val .nilFunc]),none⟩
 (.node (.node (.node (.node .nil 63 ⟨.other,1,8,(some [.val .nilFunc]),none⟩
 .nil) 64 ⟨.other,1,8,(some [.val .nilFunc]),none⟩
 .nil) 65 ⟨.slice 9,1,24,(some [.list .str []]),(some .str)⟩
 (.node (.node .nil 66 ⟨.struct [],0,0,(some []),none⟩
 .nil) 67 ⟨.struct [],0,0,(some []),none⟩
 .nil)) 68 ⟨.struct [],0,0,(some []),none⟩
 (.node (.node (.node .nil 69 ⟨.int .u32,1,4,(some [.int .u32 0]),none⟩
 .nil) 70 ⟨.struct [(0,68),(0,69)],1,4,(some [.int .u32 0]),none⟩
 .nil) 71 ⟨.struct [(0,68),(0,69)],1,4,(some [.int .u32 0]),none⟩
 (.node .nil 72 ⟨.struct [(0,21),(1,69)],2,8,(some [.int .i32 0,.int .u32 0]),none⟩
 .nil)))) 73 ⟨.struct [(0,21),(1,69)],2,8,(some [.int .i32 0,.int .u32 0]),none⟩
 (.node (.node (.node (.node (.node .nil 74 ⟨.struct [(0,67),(0,73)],2,8,(some [.int .i32 0,.int .u32 0]),none⟩
 .nil) 75 ⟨.struct [(0,67),(0,73)],2,8,(some [.int .i32 0,.int .u32 0]),none⟩
 .nil) 76 ⟨.struct [(0,67),(0,71),(1,75)],3,12,(some [.int .u32 0,.int .i32 0,.int .u32 0]),none⟩
 (.node (.node .nil 77 ⟨.struct [(0,67),(0,71),(1,75)],3,12,(some [.int .u32 0,.int .i32 0,.int .u32 0]),none⟩
 .nil) 78 ⟨.iface,1,16,(some [.val .nilIface]),none⟩
 .nil)) 79 ⟨.iface,1,16,(some [.val .nilIface]),none⟩
 (.node (.node (.node .nil 80 ⟨.struct [(0,77),(3,79),(4,65)],5,56,(some [.int .u32 0,.int .i32 0,.int .u32 0,.val .nilIface,.list .str []]),none⟩
 .nil) 81 ⟨.struct [(0,77),(3,79),(4,65)],5,56,(some [.int .u32 0,.int .i32 0,.int .u32 0,.val .nilIface,.list .str []]),none⟩
 .nil) 82 ⟨.other,1,8,(some [.val .nilFunc]),none⟩
 (.node .nil 83 ⟨.other,1,8,(some [.val .nilFunc]),none⟩
 .nil))) 84 ⟨.array 256 4,256,256,none,none⟩
 (.node (.node (.node (.node .nil 85 ⟨.array 256 4,256,256,none,none⟩
 .nil) 86 ⟨.other,1,0,none,none⟩
 .nil) 87 ⟨.other,1,8,(some [.val .nilFunc]),none⟩
 (.node (.node .nil 88 ⟨.other,1,8,(some [.val .nilFunc]),none⟩
 .nil) 89 ⟨.ptr,1,8,(some [.val (.pointer none)]),none⟩
 .nil)) 90 ⟨.other,1,8,(some [.val .nilFunc]),none⟩
 (.node (.node (.node .nil 91 ⟨.ptr,1,8,(some [.val (.pointer none)]),none⟩
 .nil) 92 ⟨.other,1,8,(some [.val .nilFunc]),none⟩
 .nil) 93 ⟨.other,1,0,none,none⟩
 (.node .nil 94 ⟨.other,1,8,(some [.val .nilFunc]),none⟩
 .nil)))))) 95 ⟨.other,1,8,(some [.val .nilFunc]),none⟩
 (.node (.node (.node (.node (.node (.node (.node .nil 96 ⟨.other,1,8,(some [.val .nilFunc]),none⟩
 .nil) 97 ⟨.int .u64,1,8,(some [.int .u64 0]),none⟩
 .nil) 98 ⟨.ptr,1,8,(some [.val (.pointer none)]),none⟩
 (.node (.node .nil 99 ⟨.other,1,8,(some [.val .nilFunc]),none⟩
 .nil) 100 ⟨.ptr,1,8,(some [.val (.pointer none)]),none⟩
 .nil)) 101 ⟨.other,1,8,(some [.val .nilFunc]),none⟩
 (.node (.node (.node .nil 102 ⟨.ptr,1,8,(some [.val (.pointer none)]),none⟩
 .nil) 103 ⟨.other,1,8,(some [.val .nilFunc]),none⟩
 .nil) 104 ⟨.ptr,1,8,(some [.val (.pointer none)]),none⟩
 (.node (.node .nil 105 ⟨.other,1,8,(some [.val .nilFunc]),none⟩
 .nil) 106 ⟨.array 256 5,256,256,none,none⟩
 .nil))) 107 ⟨.array 256 5,256,256,none,none⟩
 (.node (.node (.node (.node .nil 108 ⟨.ptr,1,8,(some [.val (.pointer none)]),none⟩
 .nil) 109 ⟨.array 256 50,256,6144,none,none⟩
 .nil) 110 ⟨.struct [(0,109),(256,65)],257,6168,none,none⟩
 (.node (.node .nil 111 ⟨.struct [(0,109),(256,65)],257,6168,none,none⟩
 .nil) 112 ⟨.ptr,1,8,(some [.val (.pointer none)]),none⟩
 .nil)) 113 ⟨.other,1,8,(some [.val .nilFunc]),none⟩
 (.node (.node (.node .nil 114 ⟨.other,1,0,none,none⟩
 .nil) 115 ⟨.other,1,8,(some [.val .nilFunc]),none⟩
 .nil) 116 ⟨.ptr,1,8,(some [.val (.pointer none)]),none⟩
 (.node .nil 117 ⟨.other,1,8,(some [.val .nilFunc]),none⟩
 .nil)))) 118 ⟨.other,1,8,(some [.val .nilFunc]),none⟩
 (.node (.node (.node (.node (.node .nil 119 ⟨.ptr,1,8,(some [.val (.pointer none)]),none⟩
 .nil) 120 ⟨.other,1,8,(some [.val .nilFunc]),none⟩
 .nil) 121 ⟨.struct [(0,119),(1,9)],2,24,(some [.val (.pointer none),.str []]),none⟩
 (.node (.node .nil 122 ⟨.struct [(0,119),(1,9)],2,24,(some [.val (.pointer none),.str []]),none⟩
 .nil) 123 ⟨.ptr,1,8,(some [.val (.pointer none)]),none⟩
 .nil)) 124 ⟨.slice 123,1,24,none,none⟩
 (.node (.node (.node .nil 125 ⟨.struct [(0,9),(1,3),(2,9),(3,123),(4,124)],5,72,none,none⟩
 .nil) 126 ⟨.struct [(0,9),(1,3),(2,9),(3,123),(4,124)],5,72,none,none⟩
 .nil) 127 ⟨.struct [(0,126),(5,3),(6,106)],262,336,none,none⟩
 (.node .nil 128 ⟨.struct [(0,126),(5,3),(6,106)],262,336,none,none⟩
 .nil))) 129 ⟨.other,1,8,(some [.val .nilFunc]),none⟩
 (.node (.node (.node (.node .nil 130 ⟨.struct [(0,5),(1,5)],2,2,(some [.int .u8 0,.int .u8 0]),none⟩
 .nil) 131 ⟨.struct [(0,5),(1,5)],2,2,(some [.int .u8 0,.int .u8 0]),none⟩
 .nil) 132 ⟨.array 16 131,32,32,(some [.int .u8 0,.int .u8 0,.int .u8 0,.int .u8 0,.int .u8 0,.int .u8 0,.int .u8 0,.int .u8 0,.int .u8 0,.int .u8 0,.int .u8 0,.int .u8 0,.int .u8 0,.int .u8 0,.int .u8 0,.int .u8 0,.int .u8 0,.int .u8 0,.int .u8 0,.int .u8 0,.int .u8 0,.int .u8 0,.int .u8 0,.int .u8 0,.int .u8 0,.int .u8 0,.int .u8 0,.int .u8 0,.int .u8 0,.int .u8 0,.int .u8 0,.int .u8 0]),none⟩
 (.node (.node .nil 133 ⟨.other,1,8,(some [.val .nilFunc]),none⟩
 .nil) 134 ⟨.ptr,1,8,(some [.val (.pointer none)]),none⟩
 .nil)) 135 ⟨.other,1,8,(some [.val .nilFunc]),none⟩
 (.node (.node (.node .nil 136 ⟨.ptr,1,8,(some [.val (.pointer none)]),none⟩
 .nil) 137 ⟨.other,1,8,(some [.val .nilFunc]),none⟩
 .nil) 138 ⟨.other,1,8,none,none⟩
 (.node .nil 139 ⟨.other,1,8,(some [.val .nilFunc]),none⟩
 .nil))))) 140 ⟨.other,1,8,(some [.val .nilFunc]),none⟩
 (.node (.node (.node (.node (.node (.node .nil 141 ⟨.slice 3,1,24,(some [.list .int []]),(some .int)⟩
 .nil) 142 ⟨.array 256 3,256,2048,none,none⟩
 .nil) 143 ⟨.struct [(0,9),(1,142),(257,141)],258,2088,none,none⟩
 (.node (.node .nil 144 ⟨.struct [(0,9),(1,142),(257,141)],258,2088,none,none⟩
 .nil) 145 ⟨.other,1,8,(some [.val .nilFunc]),none⟩
 .nil)) 146 ⟨.other,1,8,(some [.val .nilFunc]),none⟩
 (.node (.node (.node .nil 147 ⟨.other,1,8,(some [.val .nilFunc]),none⟩
 .nil) 148 ⟨.other,1,8,(some [.val .nilFunc]),none⟩
 .nil) 149 ⟨.other,1,8,(some [.val .nilFunc]),none⟩
 (.node (.node .nil 152 ⟨.array 0 16,0,0,(some []),none⟩
 .nil) 155 ⟨.other,1,8,(some [.val .nilFunc]),none⟩
 .nil))) 156 ⟨.int .u8,1,1,(some [.int .u8 0]),none⟩
 (.node (.node (.node (.node .nil 157 ⟨.int .u8,1,1,(some [.int .u8 0]),none⟩
 .nil) 158 ⟨.other,1,8,(some [.val .nilFunc]),none⟩
 .nil) 159 ⟨.ptr,1,8,(some [.val (.pointer none)]),none⟩
 (.node (.node .nil 160 ⟨.int .i32,1,4,(some [.int .i32 0]),none⟩
 .nil) 161 ⟨.int .i32,1,4,(some [.int .i32 0]),none⟩
 .nil)) 162 ⟨.struct [(0,12),(1,12),(2,69),(3,156),(4,5),(5,5),(6,157),(7,158),(8,159),(9,160),(10,161)],11,48,(some [.int .u64 0,.int .u64 0,.int .u32 0,.int .u8 0,.int .u8 0,.int .u8 0,.int .u8 0,.val .nilFunc,.val (.pointer none),.int .i32 0,.int .i32 0]),none⟩
 (.node (.node (.node .nil 163 ⟨.struct [(0,12),(1,12),(2,69),(3,156),(4,5),(5,5),(6,157),(7,158),(8,159),(9,160),(10,161)],11,48,(some [.int .u64 0,.int .u64 0,.int .u32 0,.int .u8 0,.int .u8 0,.int .u8 0,.int .u8 0,.val .nilFunc,.val (.pointer none),.int .i32 0,.int .i32 0]),none⟩
 .nil) 164 ⟨.other,1,8,(some [.val .nilFunc]),none⟩
 .nil) 165 ⟨.ptr,1,8,(some [.val (.pointer none)]),none⟩
 (.node .nil 166 ⟨.struct [(0,165),(1,50)],2,32,(some [.val (.pointer none),.list .byte []]),none⟩
 .nil)))) 167 ⟨.struct [(0,165),(1,50)],2,32,(some [.val (.pointer none),.list .byte []]),none⟩
 (.node (.node (.node (.node (.node .nil 168 ⟨.other,1,8,(some [.val .nilFunc]),none⟩
 .nil) 169 ⟨.other,1,8,(some [.val .nilFunc]),none⟩
 .nil) 170 ⟨.iface,1,16,(some [.val .nilIface]),none⟩
 (.node (.node .nil 171 ⟨.iface,1,16,(some [.val .nilIface]),none⟩
 .nil) 172 ⟨.other,1,0,none,none⟩
 .nil)) 173 ⟨.other,1,8,(some [.val .nilFunc]),none⟩
 (.node (.node (.node .nil 174 ⟨.other,1,8,(some [.val .nilFunc]),none⟩
 .nil) 175 ⟨.other,1,8,(some [.val .nilFunc]),none⟩
 .nil) 176 ⟨.slice 5,1,24,(some [.list .byte []]),(some .byte)⟩
 (.node .nil 177 ⟨.ptr,1,8,(some [.val (.pointer none)]),none⟩
 .nil))) 178 ⟨.iface,1,16,(some [.val .nilIface]),none⟩
 (.node (.node (.node (.node .nil 179 ⟨.iface,1,16,(some [.val .nilIface]),none⟩
 .nil) 180 ⟨.iface,1,16,(some [.val .nilIface]),none⟩
 .nil) 181 ⟨.iface,1,16,(some [.val .nilIface]),none⟩
 (.node (.node .nil 182 ⟨.other,1,8,(some [.val .nilFunc]),none⟩
 .nil) 183 ⟨.other,1,0,none,none⟩
 .nil)) 184 ⟨.other,1,8,(some [.val .nilFunc]),none⟩
 (.node (.node (.node .nil 185 ⟨.other,1,0,none,none⟩
 .nil) 186 ⟨.struct [(0,179)],1,16,(some [.val .nilIface]),none⟩
 .nil) 187 ⟨.struct [(0,179)],1,16,(some [.val .nilIface]),none⟩
 (.node .nil 188 ⟨.other,1,8,(some [.val .nilFunc]),none⟩
 .nil)))))))
def tab:Tab:=tabT.get
theorem zN:tab.fits Tryz.prog:=Tab.zds (by kernel_rfl)
theorem mixed:Tryz.prog.follows .mixedOrders=true:=by kernel_rfl
end Go.Proofs.YtlpmdnffdmdahaaGreatDoor
namespace Go.Ab
open Go Go.Sep
variable [Facts]
def wfI (n:Int):Prop:= -9223372036854775808≤n∧n≤9223372036854775807
def wfS {α:Type} (s:List α):Prop:=s.length≤140737488355328
def zbM (f:Fld):Prop:=wfS f.name∧wfS f.value
def wfHd (h:Hd):Prop:=wfS h.method∧wfS h.target∧wfI h.minor∧(wfS h.fields∧∀ f ∈ h.fields,zbM f)∧wfI h.length
def zcK (p:Prt):Prop:=wfS p.name∧wfS p.file∧wfS p.type∧wfS p.bytes
def wfZ:(u:U)→u.den→Prop
  |.byte,_=>True
  |.int,n=>wfI n
  |.str,(s:Str)=>wfS s
  |.fld,f=>zbM f
  |.bytes,(b:Str)=>wfS b
  |.hd,h=>wfHd h
  |.prt,p=>zcK p
  |.evt,(e:Evt)=>wfI e.kind∧wfHd e.head∧wfS e.bytes∧zcK e.part∧wfI e.code
  |.upl,(x:Upl)=>wfI x.id∧wfI x.size∧wfS x.note∧wfS x.bytes∧wfI x.sent
  |.ent,(e:Ent)=>wfI e.kind∧wfI e.id∧wfI e.n∧wfS e.text
  |.stp,(e:Stp)=>wfI e.kind∧wfI e.conn∧wfI e.n∧wfS e.bytes
  |.ask,(a:Ask)=>wfHd a.h∧wfS a.body
  |.cal,(c:Cal)=>wfI c.conn∧wfS c.b
  |.lst,(e:Lst)=>wfI e.op∧wfI e.n∧wfS e.b
  |.sst,(e:Sst)=>wfI e.op∧wfI e.id∧wfI e.n∧wfS e.text
  |.rpl,(r:Rpl)=>wfI r.status∧(wfS r.fields∧∀ f ∈ r.fields,zbM f)∧wfS r.body
  |.prw,p=>zcK p
  |.med,(m:Med)=>wfS m.word∧(wfS m.params∧∀ f ∈ m.params,zbM f)
  |_,_=>True
abbrev Small {H:Type} (Pr:Program) (t:TypeId) (d:DataW H):Prop:=(d.weights Pr t).all (· ≤reachBytes)=true
section
variable {H:Type} {hsh:TypeId × Value→H} {Pr:Program} {w:World} {hF:Holds w} {base:Nat} {spare:Nat→Bool} {held:Bool}
def uO (hsh:TypeId × Value→H) (Pr:Program) (w:World) (hF:Holds w) (base:Nat) (spare:Nat→Bool) (held:Bool) (t:TypeId) (Q:List P→Prop):Prop:=
  ∀ fuel cs y,DataW.trod hsh Pr w base spare held fuel t cs=some y→Small Pr t y.1→∃ ps,MPs (frzW w hF) ps cs∧Q ps
theorem uO.mono {t:TypeId} {Q Q':List P→Prop} (h:uO hsh Pr w hF base spare held t Q) (hq: ∀ ps,Q ps→Q' ps):uO hsh Pr w hF base spare held t Q':=by
  intro fuel cs y hy hs
  obtain⟨ps,h1,h2⟩:=h fuel cs y hy hs
  exact⟨ps,h1,hq _ h2⟩
def QU (u:U) (ps:List P):Prop:=∃ x:u.den,ps=enc alg u x∧wfZ u x
def QL (u:U) (ps:List P):Prop:=∃ l:List u.den,ps=[.list u l]∧wfS l∧∀ x ∈ l,wfZ u x
theorem TJ {n:Nat} (h:n≤reachBytes):n≤140737488355328:=Nat.le_trans h (by decide)
theorem op_str {t:TypeId} (ht:Pr.underlying t=some .string):uO hsh Pr w hF base spare held t (QU .str):=by
  intro fuel cs y h hs
  obtain⟨s,rfl,hy,hl⟩:=DataW.trod_string ht h
  have e:Sep.S s.data.toList=s:=by cases s;rfl
  refine⟨[.str s.data.toList],⟨by rw [← e];exact .str _ (by simpa using hl),trivial⟩,s.data.toList,rfl,?_⟩
  rw [hy] at hs
  simp only [Small,DataW.weights,List.all_cons,List.all_nil,Bool.and_true,decide_eq_true_eq] at hs
  exact TJ hs
def elemsOf:DataW H→List (DataW H)
  |.slice es _=>es
  |_=>[]
theorem Uo {α:Type} {t e:TypeId} {size:Nat} {R:Sep.Rel α} (ht:Pr.underlying t=some (.slice e)) (hs:Pr.cellsOf e=size) {fuel:Nat} {cs:List Value} {y:DataW H × List MemPlace}
    (h:DataW.trod hsh Pr w base spare held fuel t cs=some y) (he: ∀ n ci z,z.1 ∈ elemsOf y.1→DataW.trod hsh Pr w base spare held n e ci=some z→∃ x,R w ci x):
    ∃ xs,RSl size R w cs xs∧xs.length=(elemsOf y.1).length:=by
  rcases DataW.trod_slice ht h with⟨rfl,rfl⟩|⟨a,len,cap,elems,rest,n,_,rfl,rfl,_,hl,hm,hlen,hel,_,_⟩
  · exact⟨[],⟨_,[],rfl,⟨none,0,rfl,Nat.le_refl _,Nat.zero_le _,fun _=>rfl,by simp,fun j u h=>by simp at h⟩,fun i x h=>by simp at h⟩,rfl⟩
  · subst hs
    have each: ∀ i,i<len→∃ ci:List Value,ci.length=Pr.cellsOf e∧(∀ j u,ci[j]? =some u→w.cell? ((a.add (i * Pr.cellsOf e)).add j)=some u)∧∃ x,R w ci x:=by
      intro i hi
      have h1:=hel i hi
      rw [List.getElem?_eq_getElem (by omega),Option.bind_eq_some_iff] at h1
      obtain⟨ci,hci,hy⟩:=h1
      obtain⟨h2,h3⟩:=cells?_get hci
      exact⟨ci,h2,h3,he n ci _ (List.mem_map_of_mem (List.getElem_mem _)) hy⟩
    have all: ∀ m,m≤len→∃ (vs:List Value) (xs:List α),xs.length=m∧vs.length=m * Pr.cellsOf e∧(∀ j u,vs[j]? =some u→w.cell? (a.add j)=some u)∧∀ i x,xs[i]? =some x→R w ((vs.drop (i * Pr.cellsOf e)).take (Pr.cellsOf e)) x:=by
      intro m
      induction m with
      |zero=>intro _;exact⟨[],[],rfl,by simp,fun j u h=>by simp at h,fun i x h=>by simp at h⟩
      | succ m ih=>
        intro hm'
        obtain⟨vs,xs,h1,h2,h3,h4⟩:=ih (by omega)
        obtain⟨ci,c1,c2,x,c3⟩:=each m (by omega)
        refine⟨vs++ci,xs++[x],by simp [h1],by simp [h2,c1,Nat.succ_mul],fun j u hj=> ?_,fun i z hi=> ?_⟩
        · rcases Nat.lt_or_ge j vs.length with hj1|hj1
          · rw [List.getElem?_append_left hj1] at hj;exact h3 j u hj
          · rw [List.getElem?_append_right hj1] at hj
            have h5:=c2 _ _ hj
            rw [Addr.add_add,h2,show m * Pr.cellsOf e+(j - m * Pr.cellsOf e)=j by omega] at h5
            exact h5
        · rcases Nat.lt_or_ge i xs.length with hi1|hi1
          · rw [List.getElem?_append_left hi1] at hi
            have h5:=h4 i z hi
            have h6:i * Pr.cellsOf e+Pr.cellsOf e≤vs.length:=by rw [h2,← Nat.succ_mul];exact Nat.mul_le_mul_right _ (by omega)
            rw [List.drop_append_of_le_length (by omega),List.take_append_of_le_length (by simp;omega)]
            exact h5
          · rw [List.getElem?_append_right hi1] at hi
            have hi2:i=m:=by
              have:=(List.getElem?_eq_some_iff.1 hi).1
              simp at this;omega
            subst hi2
            rw [h1,Nat.sub_self] at hi
            simp at hi
            subst hi
            rw [← h2,List.drop_left,List.take_of_length_le (by omega)]
            exact c3
    obtain⟨vs,xs,h1,h2,h3,h4⟩:=all len (Nat.le_refl _)
    refine⟨xs,⟨_,vs,rfl,⟨some a,cap,by rw [h1],by omega,hm,(fun h=>by cases h),by rw [h1];exact h2,fun j u hj=> ?_⟩,h4⟩,by simp [elemsOf,h1,hlen]⟩
    have hsp:a.spot=none:=by
      cases hv:vs with
      |nil=>rw [hv] at hj;simp at hj
      | cons u0 r=>
        have:=h3 0 u0 (by rw [hv];rfl)
        rw [show a.add 0=a by simp [Addr.add]] at this
        exact zcO this
    exact⟨⟨a,rfl,hsp⟩,by rw [← sZ hsp];exact h3 j u hj⟩
theorem weightsAll_mem {e:TypeId}: ∀ {es:List (DataW H)} {d:DataW H},d ∈ es→∀ n ∈ d.weights Pr e,n ∈ DataW.weightsAll Pr e es
  | x::es,d,hd,n,hn=>by
    simp only [DataW.weightsAll,List.mem_append]
    rcases List.mem_cons.1 hd with rfl|hd
    · exact .inl hn
    · exact .inr (weightsAll_mem hd n hn)
theorem RZ {t e:TypeId} (ht:Pr.underlying t=some (.slice e)) {d z:DataW H} (h:Small Pr t d) (hz:z ∈ elemsOf d):Small Pr e z:=by
  cases d<;>simp only [elemsOf,List.not_mem_nil] at hz
  refine List.all_eq_true.2 fun n hn=>List.all_eq_true.1 h n ?_
  simp only [DataW.weights,ht,List.mem_cons,List.mem_append]
  exact .inr (.inl (weightsAll_mem hz n hn))
theorem Q9 {t e:TypeId} (ht:Pr.underlying t=some (.slice e)) (hb:Nat.blt 0 (Pr.bytesOf e)=true) {d:DataW H} (h:Small Pr t d):(elemsOf d).length≤140737488355328:=by
  cases d<;>simp only [elemsOf]<;>try exact Nat.zero_le _
  rename_i es ss
  have h1:=List.all_eq_true.1 h ((es.length+ss.length) * Pr.bytesOf e) (by simp [DataW.weights,ht])
  have hb:0<Pr.bytesOf e:=by simpa [Nat.blt_eq] using hb
  refine TJ (Nat.le_trans (Nat.le_trans (Nat.le_add_right _ ss.length) (Nat.le_mul_of_pos_right _ hb)) (by simpa using h1))
theorem op_list {t e:TypeId} {u:U} (ht:Pr.underlying t=some (.slice e)) (hc:Pr.cellsOf e=u.size) (hb:Nat.blt 0 (Pr.bytesOf e)=true) (he:uO hsh Pr w hF base spare held e (QU u)):
    uO hsh Pr w hF base spare held t (QL u):=by
  intro fuel cs y h hs
  obtain⟨l,hl,hlen⟩:=Uo (R:=fun _ cs (x:u.den)=>MPs (frzW w hF) (enc alg u x) cs∧wfZ u x) ht hc h (fun n ci z hz ht'=>by
    obtain⟨ps,h1,x,rfl,hx⟩:=he n ci z ht' (RZ ht hs hz)
    exact⟨x,h1,hx⟩)
  have hl':=hl
  obtain⟨v,vs,rfl,_,hx⟩:=hl
  refine⟨[.list u l],⟨zdl (fun _ _ h=>h.1) hl',trivial⟩,l,rfl,by unfold wfS;rw [hlen];exact Q9 ht hb hs,fun x hm=> ?_⟩
  obtain⟨i,hi⟩:=List.getElem?_of_mem hm
  exact(hx i x hi).2
def QAll:List (List P→Prop)→List P→Prop
  |[],ps=>ps=[]
  |Q::Qs,ps=>∃ a b,ps=a++b∧Q a∧QAll Qs b
def lays (Pr:Program):Nat→List Field→Nat→Bool
  |o,[],n=>Nat.beq o n
  |o,f::fs,n=>Nat.beq f.offset o&&lays Pr (o+Pr.cellsOf f.type) fs n
def Ui (hsh:TypeId × Value→H) (Pr:Program) (w:World) (hF:Holds w) (base:Nat) (spare:Nat→Bool) (held:Bool):List Field→List (List P→Prop)→Prop
  |[],[]=>True
  |f::fs,Q::Qs=>uO hsh Pr w hF base spare held f.type Q∧Ui hsh Pr w hF base spare held fs Qs
  |_,_=>False
theorem Ui.nil:Ui hsh Pr w hF base spare held [] []:=trivial
theorem Ui.cons {f:Field} {fs:List Field} {Q:List P→Prop} {Qs:List (List P→Prop)} (h:uO hsh Pr w hF base spare held f.type Q) (k:Ui hsh Pr w hF base spare held fs Qs):Ui hsh Pr w hF base spare held (f::fs) (Q::Qs):=⟨h,k⟩
theorem MPs.append {S:Frz}: ∀ {a b:List P} {x y:List Value},MPs S a x→MPs S b y→MPs S (a++b) (x++y)
  |[],_,[],_,_,h=>h
  |_::_,_,_::_,_,h,k=>⟨h.1,MPs.append h.2 k⟩
theorem Vp {cs:List Value}: ∀ (fs:List Field) (Qs:List (List P→Prop)) (o:Nat),lays Pr o fs cs.length=true→Ui hsh Pr w hF base spare held fs Qs→
    (∀ f ∈ fs,∃ n z,DataW.trod hsh Pr w base spare held n f.type ((cs.drop f.offset).take (Pr.cellsOf f.type))=some z∧Small Pr f.type z.1)→∃ ps,MPs (frzW w hF) ps (cs.drop o)∧QAll Qs ps
  | [],[],o,hl,_,_=>by
    have:=Nat.eq_of_beq_eq_true hl
    exact⟨[],by rw [List.drop_of_length_le (by omega)];trivial,rfl⟩
  | f::fs,Q::Qs,o,hl,hq,hz=>by
    simp only [lays,Bool.and_eq_true] at hl
    have ho:=Nat.eq_of_beq_eq_true hl.1
    obtain⟨n,z,h1,h2⟩:=hz f (by simp)
    rw [ho] at h1
    obtain⟨p1,m1,q1⟩:=hq.1 n _ z h1 h2
    obtain⟨p2,m2,q2⟩:=Vp fs Qs _ hl.2 hq.2 (fun g hg=>hz g (by simp [hg]))
    refine⟨p1++p2,?_,p1,p2,rfl,q1,q2⟩
    have:=m1.append m2
    rwa [← List.drop_drop,List.take_append_drop] at this
  |[],_::_,_,_,h,_=>h.elim
  |_::_,[],_,_,h,_=>h.elim
theorem op_struct {t:TypeId} {fs:Array Field} {Qs:List (List P→Prop)} (ht:Pr.underlying t=some (.struct fs)) (hl:lays Pr 0 fs.toList (Pr.cellsOf t)=true) (hq:Ui hsh Pr w hF base spare held fs.toList Qs):
    uO hsh Pr w hF base spare held t (QAll Qs):=by
  intro fuel cs y h hs
  obtain⟨xs,n,_,rfl,hcl,hxl,hf⟩:=DataW.trod_struct ht h
  have:=Vp fs.toList Qs 0 (by rw [hcl];exact hl) hq (fun f hfm=>by
    obtain⟨i,hi⟩:=List.getElem?_of_mem hfm
    have hi':fs[i]? =some f:=by simpa using hi
    have hlt:i<xs.length:=by rw [hxl];exact(Array.getElem?_eq_some_iff.1 hi').1
    refine⟨n,xs[i],by rw [hf i f hi',List.getElem?_eq_getElem hlt],List.all_eq_true.2 fun k hk=>List.all_eq_true.1 hs k ?_⟩
    simp only [DataW.weights,ht]
    exact DataW.weights_mem_each (j:=i) (t:=f.type) (by simp [hi']) (by simp [hlt]) k hk)
  simpa using this
theorem q_fld (ps:List P) (h:QAll [QU .str,QU .str] ps):QU .fld ps:=by
  obtain⟨_,_,rfl,⟨a,rfl,ha⟩,_,_,rfl,⟨b,rfl,hb⟩,rfl⟩:=h
  exact⟨(⟨a,b⟩:Fld),rfl,ha,hb⟩
theorem q_med (ps:List P) (h:QAll [QU .str,QL .fld] ps):QU .med ps:=by
  obtain⟨_,_,rfl,⟨a,rfl,ha⟩,_,_,rfl,⟨b,rfl,hb⟩,rfl⟩:=h
  exact⟨(⟨a,b⟩:Med),rfl,ha,hb⟩
theorem z_one {t:TypeId} {v:Value} {d:DataW H} {ps:List MemPlace} {Q:List P→Prop} (hr:v.oneCell'=true) (h:DataW.Trod hsh Pr w base spare held t v d ps) (hs:Small Pr t d) (ho:uO hsh Pr w hF base spare held t Q): ∃ qs,MPs (frzW w hF) qs [v]∧Q qs:=by
  obtain⟨fuel,hf⟩:=h
  have hc:v.cells.toList=[v]:=by cases v<;>first|rfl|cases hr
  rw [hc] at hf
  exact ho fuel _ _ hf hs
theorem z_agg {t:TypeId} {cs:Array Value} {d:DataW H} {ps:List MemPlace} {Q:List P→Prop} (h:DataW.Trod hsh Pr w base spare held t (.agg cs) d ps) (hs:Small Pr t d) (ho:uO hsh Pr w hF base spare held t Q): ∃ qs,MPs (frzW w hF) qs cs.toList∧Q qs:=by
  obtain⟨fuel,hf⟩:=h
  exact ho fuel _ _ hf hs
theorem md_agg {S:Frz} {cs:Array Value} {u:U} {x:u.den} (h:MPs S (enc alg u x) cs.toList):MD S [] (.v (.agg ((enc alg u x).map C.p))) (.agg cs):=⟨cs.toList,h.mcs,by simp⟩
theorem small_nth {ts:List TypeId} {ds:List (DataW H)} (h:(DataW.weightsEach Pr ts ds).all (· ≤reachBytes)=true) {j:Nat} {t:TypeId} {d:DataW H} (ht:ts[j]? =some t) (hd:ds[j]? =some d):Small Pr t d:=
  List.all_eq_true.2 fun n hn=>List.all_eq_true.1 h n (DataW.weights_mem_each ht hd n hn)
end
end Go.Ab
namespace Go.Proofs
open Go.Shelf
def Tryz.UF:Go.Shelf.Ren:=⟨fun|161=>45|231=>54|227=>55|233=>56|235=>57|228=>63|197=>64|151=>65|260=>76|152=>77|137=>51|119=>85|224=>67|225=>66|217=>59|266=>69|n=>n,fun|9=>9|4=>4|3=>3|5=>5|117=>86|116=>85|0=>0|124=>89|105=>93|21=>21|119=>106|46=>97|139=>132|138=>131|n=>n,fun|3=>1|4=>2|n=>n⟩
theorem Tryz.lays161:Go.Proofs.Lays.n161 Tryz.prog Tryz.UF:= {
  mixed:=by kernel_rfl
  f119:=Tryz.func85.trans (congrArg some (by kernel_rfl))
  f137:=Tryz.func51.trans (congrArg some (by kernel_rfl))
  f151:=Tryz.func65.trans (congrArg some (by kernel_rfl))
  f152:=Tryz.func77.trans (congrArg some (by kernel_rfl))
  f161:=Tryz.func45.trans (congrArg some (by kernel_rfl))
  f197:=Tryz.func64.trans (congrArg some (by kernel_rfl))
  f217:=Tryz.func59.trans (congrArg some (by kernel_rfl))
  f224:=Tryz.func67.trans (congrArg some (by kernel_rfl))
  f225:=Tryz.func66.trans (congrArg some (by kernel_rfl))
  f227:=Tryz.func55.trans (congrArg some (by kernel_rfl))
  f228:=Tryz.func63.trans (congrArg some (by kernel_rfl))
  f231:=Tryz.func54.trans (congrArg some (by kernel_rfl))
  f233:=Tryz.func56.trans (congrArg some (by kernel_rfl))
  f235:=Tryz.func57.trans (congrArg some (by kernel_rfl))
  f260:=Tryz.func76.trans (congrArg some (by kernel_rfl))
  f266:=Tryz.func69.trans (congrArg some (by kernel_rfl))
  t0:=Tryz.underlying0
  a0:=Tryz.isAgg0
  z0:=Tryz.sizeOf0
  v0:=Tryz.zeroValue0
  t3:=Tryz.underlying3
  a3:=Tryz.isAgg3
  z3:=Tryz.sizeOf3
  v3:=Tryz.zeroValue3
  t4:=Tryz.underlying4
  a4:=Tryz.isAgg4
  z4:=Tryz.sizeOf4
  v4:=Tryz.zeroValue4
  t5:=Tryz.underlying5
  a5:=Tryz.isAgg5
  z5:=Tryz.sizeOf5
  v5:=Tryz.zeroValue5
  t9:=Tryz.underlying9
  a9:=Tryz.isAgg9
  z9:=Tryz.sizeOf9
  v9:=Tryz.zeroValue9
  t21:=Tryz.underlying21
  a21:=Tryz.isAgg21
  z21:=Tryz.sizeOf21
  v21:=Tryz.zeroValue21
  t46:=Tryz.underlying97
  a46:=Tryz.isAgg97
  z46:=Tryz.sizeOf97
  v46:=Tryz.zeroValue97
  t105:=Tryz.underlying93
  a105:=Tryz.isAgg93
  z105:=Tryz.sizeOf93
  v105:=Tryz.zeroValue93
  t116:=Tryz.underlying85
  a116:=Tryz.isAgg85
  z116:=Tryz.sizeOf85
  t117:=Tryz.underlying86
  a117:=Tryz.isAgg86
  z117:=Tryz.sizeOf86
  v117:=Tryz.zeroValue86
  t119:=Tryz.underlying106
  a119:=Tryz.isAgg106
  z119:=Tryz.sizeOf106
  t124:=Tryz.underlying89
  a124:=Tryz.isAgg89
  z124:=Tryz.sizeOf89
  v124:=Tryz.zeroValue89
  t138:=Tryz.underlying131
  a138:=Tryz.isAgg131
  z138:=Tryz.sizeOf131
  v138:=Tryz.zeroValue131
  t139:=Tryz.underlying132
  a139:=Tryz.isAgg132
  z139:=Tryz.sizeOf132
  v139:=Tryz.zeroValue132
  g3:=by kernel_rfl
  g4:=by kernel_rfl}
def Tryz.UH:Go.Shelf.Ren:=⟨fun|137=>51|217=>59|266=>69|n=>n,fun|9=>9|5=>5|3=>3|n=>n,fun|n=>n⟩
theorem Tryz.lays137:Go.Proofs.Lays.n137 Tryz.prog Tryz.UH:= {
  mixed:=by kernel_rfl
  f137:=Tryz.func51.trans (congrArg some (by kernel_rfl))
  f217:=Tryz.func59.trans (congrArg some (by kernel_rfl))
  f266:=Tryz.func69.trans (congrArg some (by kernel_rfl))
  t3:=Tryz.underlying3
  a3:=Tryz.isAgg3
  z3:=Tryz.sizeOf3
  v3:=Tryz.zeroValue3
  t5:=Tryz.underlying5
  a5:=Tryz.isAgg5
  z5:=Tryz.sizeOf5
  v5:=Tryz.zeroValue5
  t9:=Tryz.underlying9
  a9:=Tryz.isAgg9
  z9:=Tryz.sizeOf9
  v9:=Tryz.zeroValue9}
def Tryz.UE:Go.Shelf.Ren:=⟨fun|219=>58|217=>59|225=>66|224=>67|267=>68|266=>69|314=>78|n=>n,fun|9=>9|3=>3|4=>4|5=>5|46=>97|146=>114|51=>69|n=>n,fun|1=>0|n=>n⟩
theorem Tryz.lays219:Go.Proofs.Lays.n219 Tryz.prog Tryz.UE:= {
  mixed:=by kernel_rfl
  f217:=Tryz.func59.trans (congrArg some (by kernel_rfl))
  f219:=Tryz.func58.trans (congrArg some (by kernel_rfl))
  f224:=Tryz.func67.trans (congrArg some (by kernel_rfl))
  f225:=Tryz.func66.trans (congrArg some (by kernel_rfl))
  f266:=Tryz.func69.trans (congrArg some (by kernel_rfl))
  f267:=Tryz.func68.trans (congrArg some (by kernel_rfl))
  f314:=Tryz.func78.trans (congrArg some (by kernel_rfl))
  t3:=Tryz.underlying3
  a3:=Tryz.isAgg3
  z3:=Tryz.sizeOf3
  v3:=Tryz.zeroValue3
  t4:=Tryz.underlying4
  a4:=Tryz.isAgg4
  z4:=Tryz.sizeOf4
  v4:=Tryz.zeroValue4
  t5:=Tryz.underlying5
  a5:=Tryz.isAgg5
  z5:=Tryz.sizeOf5
  v5:=Tryz.zeroValue5
  t9:=Tryz.underlying9
  a9:=Tryz.isAgg9
  z9:=Tryz.sizeOf9
  v9:=Tryz.zeroValue9
  t46:=Tryz.underlying97
  a46:=Tryz.isAgg97
  z46:=Tryz.sizeOf97
  v46:=Tryz.zeroValue97
  t51:=Tryz.underlying69
  a51:=Tryz.isAgg69
  z51:=Tryz.sizeOf69
  v51:=Tryz.zeroValue69
  t146:=Tryz.underlying114
  a146:=Tryz.isAgg114
  z146:=Tryz.sizeOf114
  v146:=Tryz.zeroValue114
  g1:=by kernel_rfl}
open Go.RowKit in
theorem Tryz.strings_IndexByte (s:ByteArray) (c:Int) (w:World):
    Calls Tryz.prog 51 #[.string s,.int .u8 c] w fun e w'=>e=.returned (.int .i64 (Lib.indexByte s.data.toList c.toNat.toUInt8))∧w'=w:=Any.strings_IndexByte Tryz.lays137 s c w
open Go.RowKit Go.Lib in
theorem Tryz.stringslite_Index_one (s:ByteArray) (c:UInt8) (w:World):
    Calls Tryz.prog 58 #[.string s,.string ⟨#[c]⟩] w fun e w'=>e=.returned (.int .i64 (Lib.indexByte s.data.toList c))∧w'=w:=Any.stringslite_Index_one Tryz.lays219 s c w
theorem Tryz.strings_TrimLeft_laid (s cutset:ByteArray) (w:World) (hcs:cutset.size<4294967281) (hascii: ∀ (j:Nat) b,cutset.data.toList[j]? =some b→b.toNat<128):
    Calls Tryz.prog 45 #[.string s,.string cutset] w fun e w'=>e=.returned (.string ⟨(Lib.trimLeftS s.data.toList cutset.data.toList).toArray⟩)∧Go.RowKit.Below w.heap.size w w':=Any.strings_TrimLeft_laid Tryz.lays161 (by kernel_rfl) s cutset w hcs hascii
end Go.Proofs
namespace Go.Ab
open Go Go.Sep
variable [Facts]
theorem U3 {w w':World} (h:RowKit.Below w.heap.size w w'):Keeps (fun k=>k<w.heap.size) w w':=⟨h.1,h.2,h.3,h.4,h.5⟩
theorem Spc.of_below {Pr:Program} {f:Nat} {args:List D} {hp:List HO} {d:D} (hf: ∃ fn,Pr.funcs[f]? =some fn∧(fn.name == "runtime.NumGoroutine")=false∧fn.body.isNone=false)
    (h: ∀ (S:Frz) (bs:List Value) (w:World) (vs:List Value),Facts.p w→MDs S bs args vs→∃ v,MD S bs d v∧Calls Pr f vs.toArray w fun e w'=>e=.returned v∧RowKit.Below w.heap.size w w'):Spc Pr f args hp (.ret d) hp:=by
  refine⟨hf,fun S K fr w vs hH hM hA=> ?_⟩
  obtain⟨v,hv,hc⟩:=h S _ w vs (At.frz hA).facts hM
  refine hc.mono fun e w' he=> ?_
  obtain⟨he,hb⟩:=he
  subst he
  exact⟨S,K,Frz.le.refl S,Ext.refl _,hH,hA.keep (U3 hb),hv⟩
end Go.Ab
namespace Go.Proofs.YtlpmdnffdmdahaaGreatDoor
open Go Go.Sep Go.Ab
set_option maxRecDepth 100000
theorem wW: ∀ (s:Str) (c:UInt8),-1≤Lib.indexByte s c∧Lib.indexByte s c<s.length
  |[],c=>by simp [Lib.indexByte]
  | b ::l,c=>by
    have:=wW l c
    unfold Lib.indexByte
    rw [List.length_cons]
    split
    · omega
    · split
      · omega
      · omega
theorem Qw (s:Str) (k:Int):Spc Tryz.prog 51 [.v (.one (.p (.str s))),.v (.one (.p (.int .u8 k)))] [] (.ret (.v (.one (.p (.int .i64 (Lib.indexByte s k.toNat.toUInt8)))))) []:=by
  refine Spc.of_below ⟨_,Tryz.func51,by kernel_rfl,by kernel_rfl⟩ fun S bs w vs _ hM=> ?_
  obtain⟨v,r,rfl⟩: ∃ v r,vs=v::r:=by cases vs with|nil=>exact hM.elim|cons v r=>exact⟨v,r,rfl⟩
  obtain⟨h1,hM⟩:=hM
  obtain⟨v2,r2,rfl⟩: ∃ v r2,r=v::r2:=by cases r with|nil=>exact hM.elim|cons v r=>exact⟨v,r,rfl⟩
  obtain⟨h2,hM⟩:=hM
  obtain rfl:r2=[]:=by cases r2 with|nil=>rfl|cons v r=>exact hM.elim
  cases h1 with
  | str _ hl1=>
    cases h2 with
    | int _ _=>
      refine⟨.int .i64 (Lib.indexByte s k.toNat.toUInt8),.int _ _,?_⟩
      refine(Tryz.strings_IndexByte (Sep.S s) k w).mono fun e w' h=> ?_
      obtain⟨he,rfl⟩:=h
      exact⟨he,RowKit.Below.refl _ _⟩
def wX (I:Alg) (args:List D) (hp:List HO):Option CT:=match args,hp with
  |[.v (.one (.p (.str s))),.v (.one (.p (.int .u8 k)))],[]=>(fun(s:Str) (k:Int)=>(some (.one ⟨I.hid (True),(.ret (.v (.one (.p (.int .i64 (I.hid (Lib.indexByte s k.toNat.toUInt8))))))),[]⟩):Option CT)) s k
  |_,_=>none
theorem Zp:yH Tryz.prog 51 (wX alg):=by
  intro args hp r h
  unfold wX at h
  split at h
  · cases h;exact fun hn=>Qw _ _
  · cases h
def VK:Know Tryz.prog:=⟨51,wX,Zp⟩
def VJ:Know Tryz.prog:=⟨51,fun I=>xh I (wX I),zH Zp⟩
theorem zdk (s:Str) (c:UInt8):Spc Tryz.prog 58 [.v (.one (.p (.str s))),.v (.one (.p (.str ([c]))))] [] (.ret (.v (.one (.p (.int .i64 (Lib.indexByte s c)))))) []:=by
  refine Spc.of_below ⟨_,Tryz.func58,by kernel_rfl,by kernel_rfl⟩ fun S bs w vs _ hM=> ?_
  obtain⟨v,r,rfl⟩: ∃ v r,vs=v::r:=by cases vs with|nil=>exact hM.elim|cons v r=>exact⟨v,r,rfl⟩
  obtain⟨h1,hM⟩:=hM
  obtain⟨v2,r2,rfl⟩: ∃ v r2,r=v::r2:=by cases r with|nil=>exact hM.elim|cons v r=>exact⟨v,r,rfl⟩
  obtain⟨h2,hM⟩:=hM
  obtain rfl:r2=[]:=by cases r2 with|nil=>rfl|cons v r=>exact hM.elim
  cases h1 with
  | str _ hl1=>
    cases h2 with
    | str _ _=>
      refine⟨.int .i64 (Lib.indexByte s c),.int _ _,?_⟩
      refine(Tryz.stringslite_Index_one (Sep.S s) c w).mono fun e w' h=> ?_
      obtain⟨he,rfl⟩:=h
      exact⟨he,RowKit.Below.refl _ _⟩
def qg (I:Alg) (args:List D) (hp:List HO):Option CT:=match args,hp with
  |[.v (.one (.p (.str s))),.v (.one (.p (.str ([c]))))],[]=>(fun(s:Str) (c:UInt8)=>(some (.one ⟨I.hid (True),(.ret (.v (.one (.p (.int .i64 (I.hid (Lib.indexByte s c))))))),[]⟩):Option CT)) s c
  |_,_=>none
theorem VL:yH Tryz.prog 58 (qg alg):=by
  intro args hp r h
  unfold qg at h
  split at h
  · cases h;exact fun hn=>zdk _ _
  · cases h
def zaS:Know Tryz.prog:=⟨58,qg,VL⟩
def zaR:Know Tryz.prog:=⟨58,fun I=>xh I (qg I),zH VL⟩
end Go.Proofs.YtlpmdnffdmdahaaGreatDoor
namespace Go.Proofs.YtlpmdnffdmdahaaGreatDoor
open Go Go.Sep Go.Ab
set_option maxRecDepth 100000
def lowK (k:Int):Int:=if 65≤k∧k≤90 then k+32 else k
def V4 (k:Int):Bool:=decide (48≤k∧k≤57)
def Yw (k:Int):Bool:=decide (97≤lowK k∧lowK k≤122)
def marks:Str:=[33,35,36,37,38,39,42,43,45,46,94,95,96,124,126]
def tokB (k:Int):Bool:=V4 k||(Yw k||decide (0≤Lib.indexByte marks k.toNat.toUInt8))
def rH (k:Int):Bool:=decide (k=9∨32≤k∧k≠127)
theorem zaL {k:Int} (h:0≤k∧k≤255):0≤lowK k∧lowK k≤255:=by unfold lowK;split<;>omega
theorem zes (k:Int):Spc Tryz.prog 49 [.v (.one (.p (.int .u8 k)))] [] (.ret (.v (.one (.p (.bool (V4 k)))))) []:=by
  refine spcG zN mixed Tryz.func49 (by kernel_rfl) { keep:=some [0,2]} [] (by kernel_rfl) ?_
  intro I X hI hX
  refine zJ (.br (I.ile 48 k) (.fin (.ret (.v (.one (.p (.bool (I.ile k 57)))))) []) (.fin (.ret (.v (.one (.p (.bool Bool.false))))) [])) (by kernel_rfl) ?_
  simp only [yg]
  subst hI
  simp only [nrmA,nrmB]
  unfold V4
  exact⟨fun h=>decide_eq_decide.2 (by omega),fun h=>(decide_eq_false (by omega)).symm⟩
def ZV (I:Alg) (args:List D) (hp:List HO):Option CT:=match args,hp with
  |[.v (.one (.p (.int .u8 k)))],[]=>(fun(k:Int)=>(some (.one ⟨I.hid (True),(.ret (.v (.one (.p (.bool (I.hid (V4 k))))))),[]⟩):Option CT)) k
  |_,_=>none
theorem Rx:yH Tryz.prog 49 (ZV alg):=by
  intro args hp r h
  unfold ZV at h
  split at h
  · cases h;exact fun hn=>zes _
  · cases h
def zcl:Know Tryz.prog:=⟨49,ZV,Rx⟩
def zck:Know Tryz.prog:=⟨49,fun I=>xh I (ZV I),zH Rx⟩
theorem zed (k:Int) (hneed:0≤k∧k≤255):Spc Tryz.prog 42 [.v (.one (.p (.int .u8 k)))] [] (.ret (.v (.one (.p (.int .u8 (lowK k)))))) []:=by
  refine spcG zN mixed Tryz.func42 (by kernel_rfl) { keep:=some [0,2]} [] (by kernel_rfl) ?_
  intro I X hI hX
  refine zJ (.br (I.ile 65 k) (.br (I.ile k 90) (.need (I.inr Go.IntKind.u8 (I.add k 32)) (.fin (.ret (.v (.one (.p (.int .u8 (I.add k 32)))))) [])) (.fin (.ret (.v (.one (.p (.int .u8 k))))) [])) (.fin (.ret (.v (.one (.p (.int .u8 k))))) [])) (by kernel_rfl) ?_
  simp only [yg]
  subst hI
  simp only [nrmA,nrmB]
  unfold lowK
  (repeat' (first|refine And.intro ?_ ?_|intro _))<;>first|omega|exact True.intro|exact False.elim ‹False›|skip
def ZR (I:Alg) (args:List D) (hp:List HO):Option CT:=match args,hp with
  |[.v (.one (.p (.int .u8 k)))],[]=>(fun(k:Int)=>(some (.one ⟨I.hid (0≤k∧k≤255),(.ret (.v (.one (.p (.int .u8 (I.hid (lowK k))))))),[]⟩):Option CT)) k
  |_,_=>none
theorem SG:yH Tryz.prog 42 (ZR alg):=by
  intro args hp r h
  unfold ZR at h
  split at h
  · cases h;exact fun hn=>zed _ hn
  · cases h
def Ws:Know Tryz.prog:=⟨42,ZR,SG⟩
def Wq:Know Tryz.prog:=⟨42,fun I=>xh I (ZR I),zH SG⟩
theorem zdi (k:Int) (hneed:0≤k∧k≤255):Spc Tryz.prog 50 [.v (.one (.p (.int .u8 k)))] [] (.ret (.v (.one (.p (.bool (Yw k)))))) []:=by
  refine spcG zN mixed Tryz.func50 (by kernel_rfl) { keep:=some [0,2]} [Ws,Wq] (by kernel_rfl) ?_
  intro I X hI hX
  refine zJ (let y0:=I.hid (α:=(Prop)) (And (LE.le (0:Int) k) (LE.le k (255:Int)));.need y0 (.br (I.ile 97 (I.hid (α:=Int) (lowK k))) (.need y0 (.fin (.ret (.v (.one (.p (.bool (I.ile (I.hid (α:=Int) (lowK k)) 122)))))) [])) (.fin (.ret (.v (.one (.p (.bool Bool.false))))) []))) (by kernel_rfl) ?_
  simp only [yg]
  subst hI
  simp only [nrmA,nrmB]
  unfold Yw
  (repeat' (first|refine And.intro ?_ ?_|intro _))<;>first|omega|exact True.intro|exact False.elim ‹False›|skip
  all_goals first|exact decide_eq_decide.2 (by omega)|exact(decide_eq_false (by omega)).symm|exact(decide_eq_true (by omega)).symm|(rw [show(k == 127)=decide (k=127) from rfl,← decide_not];exact decide_eq_decide.2 (by omega))
def qc (I:Alg) (args:List D) (hp:List HO):Option CT:=match args,hp with
  |[.v (.one (.p (.int .u8 k)))],[]=>(fun(k:Int)=>(some (.one ⟨I.hid (0≤k∧k≤255),(.ret (.v (.one (.p (.bool (I.hid (Yw k))))))),[]⟩):Option CT)) k
  |_,_=>none
theorem Vz:yH Tryz.prog 50 (qc alg):=by
  intro args hp r h
  unfold qc at h
  split at h
  · cases h;exact fun hn=>zdi _ hn
  · cases h
def zaO:Know Tryz.prog:=⟨50,qc,Vz⟩
def zaN:Know Tryz.prog:=⟨50,fun I=>xh I (qc I),zH Vz⟩
theorem zdG (k:Int) (hneed:0≤k∧k≤255):Spc Tryz.prog 41 [.v (.one (.p (.int .u8 k)))] [] (.ret (.v (.one (.p (.bool (tokB k)))))) []:=by
  refine spcG zN mixed Tryz.func41 (by kernel_rfl) { keep:=some [0,2]} [VK,VJ,zcl,zck,zaO,zaN] (by kernel_rfl) ?_
  intro I X hI hX
  refine zJ (.need (I.hid (α:=(Prop)) True) (.br (I.hid (α:=Bool) (V4 k)) (.fin (.ret (.v (.one (.p (.bool Bool.true))))) []) (.need (I.hid (α:=(Prop)) (And (LE.le (0:Int) k) (LE.le k (255:Int)))) (.br (I.hid (α:=Bool) (Yw k)) (.fin (.ret (.v (.one (.p (.bool Bool.true))))) []) (.need (I.hid (α:=(Prop)) True) (.fin (.ret (.v (.one (.p (.bool (I.ile 0 (I.hid (α:=Int) (Go.Lib.indexByte ([33,35,36,37,38,39,42,43,45,46,94,95,96,124,126]:Str) (Nat.toUInt8 (Int.toNat k)))))))))) [])))))) (by kernel_rfl) ?_
  simp only [yg]
  subst hI
  simp only [nrmA,nrmB]
  unfold tokB marks
  (repeat' (first|refine And.intro ?_ ?_|intro _))<;>first|omega|exact True.intro|exact False.elim ‹False›|skip
  all_goals simp [*]
def ZB (I:Alg) (args:List D) (hp:List HO):Option CT:=match args,hp with
  |[.v (.one (.p (.int .u8 k)))],[]=>(fun(k:Int)=>(some (.one ⟨I.hid (0≤k∧k≤255),(.ret (.v (.one (.p (.bool (I.hid (tokB k))))))),[]⟩):Option CT)) k
  |_,_=>none
theorem Tn:yH Tryz.prog 41 (ZB alg):=by
  intro args hp r h
  unfold ZB at h
  split at h
  · cases h;exact fun hn=>zdG _ hn
  · cases h
def vK:Know Tryz.prog:=⟨41,ZB,Tn⟩
def ru:Know Tryz.prog:=⟨41,fun I=>xh I (ZB I),zH Tn⟩
theorem zbN (k:Int):Spc Tryz.prog 32 [.v (.one (.p (.int .u8 k)))] [] (.ret (.v (.one (.p (.bool (rH k)))))) []:=by
  refine spcG zN mixed Tryz.func32 (by kernel_rfl) { keep:=some [0,2]} [] (by kernel_rfl) ?_
  intro I X hI hX
  refine zJ (.br (I.ieq k 9) (.fin (.ret (.v (.one (.p (.bool Bool.true))))) []) (.br (I.ile 32 k) (.fin (.ret (.v (.one (.p (.bool (I.bnot (I.ieq k 127))))))) []) (.fin (.ret (.v (.one (.p (.bool Bool.false))))) []))) (by kernel_rfl) ?_
  simp only [yg]
  subst hI
  simp only [nrmA,nrmB]
  unfold rH
  (repeat' (first|refine And.intro ?_ ?_|intro _))<;>first|omega|exact True.intro|exact False.elim ‹False›|skip
  all_goals first|exact decide_eq_decide.2 (by omega)|exact(decide_eq_false (by omega)).symm|exact(decide_eq_true (by omega)).symm|(rw [show(k == 127)=decide (k=127) from rfl,← decide_not];exact decide_eq_decide.2 (by omega))
def uP (I:Alg) (args:List D) (hp:List HO):Option CT:=match args,hp with
  |[.v (.one (.p (.int .u8 k)))],[]=>(fun(k:Int)=>(some (.one ⟨I.hid (True),(.ret (.v (.one (.p (.bool (I.hid (rH k))))))),[]⟩):Option CT)) k
  |_,_=>none
theorem Y4:yH Tryz.prog 32 (uP alg):=by
  intro args hp r h
  unfold uP at h
  split at h
  · cases h;exact fun hn=>zbN _
  · cases h
def qI:Know Tryz.prog:=⟨32,uP,Y4⟩
def RS:Know Tryz.prog:=⟨32,fun I=>xh I (uP I),zH Y4⟩
end Go.Proofs.YtlpmdnffdmdahaaGreatDoor
namespace Go.Proofs.YtlpmdnffdmdahaaGreatDoor
open Go Go.Sep Go.Ab
set_option maxRecDepth 100000
def tokA (s:Str):Bool:=s.all fun c=>tokB (c.toNat:Int)
def yc (s:Str):Bool:=s.all fun c=>rH (c.toNat:Int)
theorem wB (c:UInt8):0≤(c.toNat:Int)∧(c.toNat:Int)≤255:=by have:=c.toNat_lt;omega
theorem RG {p:UInt8→Bool} {s:Str} {i:Nat} (h:i<s.length):(s.drop i).all p=(p (s.getD i 0)&&(s.drop (i+1)).all p):=by
  rw [List.drop_eq_getElem_cons h,List.all_cons];simp [h]
theorem zdD (s:Str) (hneed:s.length≤1000000):Spc Tryz.prog 31 [.v (.one (.p (.str s))),.v (.one (.fn 41 []))] [] (.ret (.v (.one (.p (.bool (tokA s)))))) []:=by
  generalize hr:tokA s=r
  refine spcG zN mixed Tryz.func31 (by kernel_rfl) { keep:=some [0,1,4,5,7,8]} [vK] (by kernel_rfl) ?_
  intro I X hI hX
  refine zJ (.code 0 [1,0,1,0] ⟨[(8,(.v (.one (.p (.int .i64 0))))),(7,(.v (.one (.p (.int .i64 (I.len (α:=UInt8) s)))))),(4,(.v (.one (.p (.val (.bool .false)))))),(0,(.v (.one (.p (.str s))))),(1,(.v (.one (.fn 41 []))))],[],18,none⟩) (by kernel_rfl) ?_
  simp only [yg]
  refine yZ hI zN mixed [vK] hX [0,1,7,8] (fun(i:Nat)=>i≤s.length∧tokA (s.drop i)=r) (fun(i:Nat)=>⟨[(0,.v (.one (.p (.str s)))),(1,.v (.one (.fn 41 []))),(7,.v (.one (.p (.int .i64 ((I.len (α:=UInt8) s)))))),(8,.v (.one (.p (.int .i64 i))))],[],18,none⟩) (fun(i:Nat)=>s.length - i) 0 (by kernel_rfl) (by kernel_rfl) ?_ ?_
  · exact⟨Nat.zero_le _,hr⟩
  rintro i ⟨h1,h2⟩ A hA
  refine zJ (let y0:=I.b2i (I.get (α:=UInt8) s 0 (Nat.cast i));.br (I.ilt (Nat.cast i) (I.len (α:=UInt8) s)) (.need (I.inb (Nat.cast i) (I.len (α:=UInt8) s)) (.need (I.hid (α:=(Prop)) (And (LE.le (0:Int) y0) (LE.le y0 (255:Int)))) (.br (I.bnot (I.hid (α:=Bool) (tokB y0))) (.fin (.ret (.v (.one (.p (.bool Bool.false))))) []) (.need (I.inr Go.IntKind.i64 (I.add (Nat.cast i) 1)) (.need (A ⟨[(0,(.v (.one (.p (.str s))))),(1,(.v (.one (.fn 41 [])))),(7,(.v (.one (.p (.int .i64 (I.len (α:=UInt8) s)))))),(8,(.v (.one (.p (.int .i64 (I.add (Nat.cast i) 1))))))],[],18,none⟩) .qed))))) (.fin (.ret (.v (.one (.p (.bool Bool.true))))) [])) (by kernel_rfl) ?_
  simp only [yg]
  subst hI
  simp only [nrmA,nrmB]
  have hb:=wB (s.getD i 0)
  have hd:i<s.length→tokA (s.drop i)=(tokB (s.getD i 0).toNat&&tokA (s.drop (i+1))):=fun h=>RG h
  generalize s.getD i 0=x at *
  (repeat' (first|refine And.intro ?_ ?_|intro _))<;>first|omega|exact True.intro|exact False.elim ‹False›|skip
  all_goals first
    |(rw [← h2,hd (by omega)];simp [*];done)
    |(refine hA (i+1) ⟨by omega,?_⟩ (by omega);rw [← h2,hd (by omega)];simp [*];done)
    |(rw [← h2,List.drop_of_length_le (by omega)];rfl)
def qC (I:Alg) (args:List D) (hp:List HO):Option CT:=match args,hp with
  |[.v (.one (.p (.str s))),.v (.one (.fn 41 []))],[]=>(fun(s:Str)=>(some (.one ⟨I.hid (s.length≤1000000),(.ret (.v (.one (.p (.bool (I.hid (tokA s))))))),[]⟩):Option CT)) s
  |_,_=>none
theorem Uf:yH Tryz.prog 31 (qC alg):=by
  intro args hp r h
  unfold qC at h
  split at h
  · cases h;exact fun hn=>zdD _ hn
  · cases h
def qB:Know Tryz.prog:=⟨31,qC,Uf⟩
def qA:Know Tryz.prog:=⟨31,fun I=>xh I (qC I),zH Uf⟩
theorem zco (s:Str) (hneed:s.length≤1000000):Spc Tryz.prog 31 [.v (.one (.p (.str s))),.v (.one (.fn 32 []))] [] (.ret (.v (.one (.p (.bool (yc s)))))) []:=by
  generalize hr:yc s=r
  refine spcG zN mixed Tryz.func31 (by kernel_rfl) { keep:=some [0,1,4,5,7,8]} [qI,qB,qA] (by kernel_rfl) ?_
  intro I X hI hX
  refine zJ (.code 0 [1,0,1,0] ⟨[(8,(.v (.one (.p (.int .i64 0))))),(7,(.v (.one (.p (.int .i64 (I.len (α:=UInt8) s)))))),(4,(.v (.one (.p (.val (.bool .false)))))),(0,(.v (.one (.p (.str s))))),(1,(.v (.one (.fn 32 []))))],[],18,none⟩) (by kernel_rfl) ?_
  simp only [yg]
  refine yZ hI zN mixed [qI,qB,qA] hX [0,1,7,8] (fun(i:Nat)=>i≤s.length∧yc (s.drop i)=r) (fun(i:Nat)=>⟨[(0,.v (.one (.p (.str s)))),(1,.v (.one (.fn 32 []))),(7,.v (.one (.p (.int .i64 ((I.len (α:=UInt8) s)))))),(8,.v (.one (.p (.int .i64 i))))],[],18,none⟩) (fun(i:Nat)=>s.length - i) 0 (by kernel_rfl) (by kernel_rfl) ?_ ?_
  · exact⟨Nat.zero_le _,hr⟩
  rintro i ⟨h1,h2⟩ A hA
  refine zJ (.br (I.ilt (Nat.cast i) (I.len (α:=UInt8) s)) (.need (I.inb (Nat.cast i) (I.len (α:=UInt8) s)) (.need (I.hid (α:=(Prop)) True) (.br (I.bnot (I.hid (α:=Bool) (rH (I.b2i (I.get (α:=UInt8) s 0 (Nat.cast i)))))) (.fin (.ret (.v (.one (.p (.bool Bool.false))))) []) (.need (I.inr Go.IntKind.i64 (I.add (Nat.cast i) 1)) (.need (A ⟨[(0,(.v (.one (.p (.str s))))),(1,(.v (.one (.fn 32 [])))),(7,(.v (.one (.p (.int .i64 (I.len (α:=UInt8) s)))))),(8,(.v (.one (.p (.int .i64 (I.add (Nat.cast i) 1))))))],[],18,none⟩) .qed))))) (.fin (.ret (.v (.one (.p (.bool Bool.true))))) [])) (by kernel_rfl) ?_
  simp only [yg]
  subst hI
  simp only [nrmA,nrmB]
  have hb:=wB (s.getD i 0)
  have hd:i<s.length→yc (s.drop i)=(rH (s.getD i 0).toNat&&yc (s.drop (i+1))):=fun h=>RG h
  generalize s.getD i 0=x at *
  (repeat' (first|refine And.intro ?_ ?_|intro _))<;>first|omega|exact True.intro|exact False.elim ‹False›|skip
  all_goals first
    |(rw [← h2,hd (by omega)];simp [*];done)
    |(refine hA (i+1) ⟨by omega,?_⟩ (by omega);rw [← h2,hd (by omega)];simp [*];done)
    |(rw [← h2,List.drop_of_length_le (by omega)];rfl)
def tV (I:Alg) (args:List D) (hp:List HO):Option CT:=match args,hp with
  |[.v (.one (.p (.str s))),.v (.one (.fn 32 []))],[]=>(fun(s:Str)=>(some (.one ⟨I.hid (s.length≤1000000),(.ret (.v (.one (.p (.bool (I.hid (yc s))))))),[]⟩):Option CT)) s
  |_,_=>none
theorem XJ:yH Tryz.prog 31 (tV alg):=by
  intro args hp r h
  unfold tV at h
  split at h
  · cases h;exact fun hn=>zco _ hn
  · cases h
def XI:Know Tryz.prog:=⟨31,tV,XJ⟩
def XH:Know Tryz.prog:=⟨31,fun I=>xh I (tV I),zH XJ⟩
def yI (s:Str):Bool:=decide (s≠[])&&tokA s
theorem SN (s:Str) (hneed:s.length≤1000000):Spc Tryz.prog 22 [.v (.one (.p (.str s)))] [] (.ret (.v (.one (.p (.bool (yI s)))))) []:=by
  refine spcG zN mixed Tryz.func22 (by kernel_rfl) { keep:=some [0,2]} [vK,ru,qB,qA,XI,XH] (by kernel_rfl) ?_
  intro I X hI hX
  refine zJ (.br (I.bnot (I.seq s ([]:Str))) (.need (I.hid (α:=(Prop)) (LE.le (List.length s) 1000000)) (.fin (.ret (.v (.one (.p (.bool (I.hid (α:=Bool) (tokA s))))))) [])) (.fin (.ret (.v (.one (.p (.bool Bool.false))))) [])) (by kernel_rfl) ?_
  simp only [yg]
  subst hI
  simp only [nrmA,nrmB]
  unfold yI
  (repeat' (first|refine And.intro ?_ ?_|intro _))<;>first|omega|exact True.intro|exact False.elim ‹False›|skip
  all_goals simp [*]
def tH (I:Alg) (args:List D) (hp:List HO):Option CT:=match args,hp with
  |[.v (.one (.p (.str s)))],[]=>(fun(s:Str)=>(some (.one ⟨I.hid (s.length≤1000000),(.ret (.v (.one (.p (.bool (I.hid (yI s))))))),[]⟩):Option CT)) s
  |_,_=>none
theorem Xr:yH Tryz.prog 22 (tH alg):=by
  intro args hp r h
  unfold tH at h
  split at h
  · cases h;exact fun hn=>SN _ hn
  · cases h
def qV:Know Tryz.prog:=⟨22,tH,Xr⟩
def qU:Know Tryz.prog:=⟨22,fun I=>xh I (tH I),zH Xr⟩
theorem Qv (s:Str) (hneed:s.length≤1000000):Spc Tryz.prog 14 [.v (.one (.p (.str s)))] [] (.ret (.v (.one (.p (.bool (yc s)))))) []:=by
  refine spcG zN mixed Tryz.func14 (by kernel_rfl) { keep:=some [0,2]} [qI,RS,qB,qA,XI,XH] (by kernel_rfl) ?_
  intro I X hI hX
  refine zJ (.need (I.hid (α:=(Prop)) (LE.le (List.length s) 1000000)) (.fin (.ret (.v (.one (.p (.bool (I.hid (α:=Bool) (yc s))))))) [])) (by kernel_rfl) ?_
  simp only [yg]
  subst hI
  simp only [nrmA,nrmB]
  exact hneed
def wU (I:Alg) (args:List D) (hp:List HO):Option CT:=match args,hp with
  |[.v (.one (.p (.str s)))],[]=>(fun(s:Str)=>(some (.one ⟨I.hid (s.length≤1000000),(.ret (.v (.one (.p (.bool (I.hid (yc s))))))),[]⟩):Option CT)) s
  |_,_=>none
theorem Zn:yH Tryz.prog 14 (wU alg):=by
  intro args hp r h
  unfold wU at h
  split at h
  · cases h;exact fun hn=>Qv _ hn
  · cases h
def uI:Know Tryz.prog:=⟨14,wU,Zn⟩
def uH:Know Tryz.prog:=⟨14,fun I=>xh I (wU I),zH Zn⟩
end Go.Proofs.YtlpmdnffdmdahaaGreatDoor
namespace Go.Proofs.YtlpmdnffdmdahaaGreatDoor
open Go Go.Sep Go.Ab
set_option maxRecDepth 100000
def lowC (x:UInt8):UInt8:=if 65≤x.toNat∧x.toNat≤90 then x+32 else x
def lowS (s:Str):Str:=s.map lowC
theorem yY (s:Str):(lowS s).length=s.length:=by simp [lowS]
theorem Qp (x:UInt8):((lowC x).toNat:Int)=lowK x.toNat:=by
  unfold lowC lowK
  have:=x.toNat_lt
  split
  · rw [if_pos (by omega),UInt8.toNat_add]
    simp only [show(32:UInt8).toNat=32 from rfl]
    omega
  · rw [if_neg (by omega)]
theorem zdg (x:UInt8):UInt8.ofNat (lowK x.toNat).toNat=lowC x:=by
  rw [← Qp,Int.toNat_natCast,UInt8.ofNat_toNat]
theorem zdx (s:Str) (hneed:s.length≤1000000):Spc Tryz.prog 23 [.v (.one (.p (.str s)))] [] (.ret (.v (.one (.p (.str (lowS s)))))) []:=by
  refine spcG zN mixed Tryz.func23 (by kernel_rfl) { keep:=some [0,2,3,4,5,8,9,10]} [Ws,Wq] (by kernel_rfl) ?_
  intro I X hI hX
  refine zJ (.code 0 [1,1,0,1,0] ⟨[(10,(.v (.one (.p (.int .i64 0))))),(9,(.v (.one (.p (.int .i64 (I.len (α:=UInt8) s)))))),(8,(.v (.one (.row 0)))),(3,(.v (.one (.row 0)))),(2,(.v (.one (.p (.str ([]:Str)))))),(0,(.v (.one (.p (.str s)))))],[(.row .byte 5 s)],23,none⟩) (by kernel_rfl) ?_
  simp only [yg]
  refine yZ hI zN mixed [Ws,Wq] hX [0,3,8,9,10] (fun(g:Nat × Str)=>match g with|(i,b)=>i≤s.length∧b=lowS (s.take i)++s.drop i) (fun(g:Nat × Str)=>match g with|(i,b)=>⟨[(0,.v (.one (.p (.str s)))),(3,.v (.one (.row 0))),(8,.v (.one (.row 0))),(9,.v (.one (.p (.int .i64 ((I.len (α:=UInt8) s)))))),(10,.v (.one (.p (.int .i64 i))))],[.row .byte 5 b],23,none⟩) (fun(g:Nat × Str)=>match g with|(i,b)=>s.length - i) (0,s) (by kernel_rfl) (by kernel_rfl) ?_ ?_
  · exact⟨Nat.zero_le _,rfl⟩
  rintro⟨i,b⟩ ⟨h1,h2⟩ A hA
  simp only at hA
  refine zJ (let y0:=I.b2i (I.get (α:=UInt8) b 0 (Nat.cast i));let y1:=I.inb (Nat.cast i) (I.len (α:=UInt8) b);.br (I.ilt (Nat.cast i) (I.len (α:=UInt8) s)) (.need y1 (.need y1 (.need (I.hid (α:=(Prop)) (And (LE.le (0:Int) y0) (LE.le y0 (255:Int)))) (.need y1 (.need (I.inr Go.IntKind.u8 (I.hid (α:=Int) (lowK y0))) (.need y1 (.need (I.inr Go.IntKind.i64 (I.add (Nat.cast i) 1)) (.need (A ⟨[(0,(.v (.one (.p (.str s))))),(3,(.v (.one (.row 0)))),(8,(.v (.one (.row 0)))),(9,(.v (.one (.p (.int .i64 (I.len (α:=UInt8) s)))))),(10,(.v (.one (.p (.int .i64 (I.add (Nat.cast i) 1))))))],[(.row .byte 5 (I.set (α:=UInt8) b (Nat.cast i) (I.i2b (I.hid (α:=Int) (lowK y0)))))],23,none⟩) .qed)))))))) (.fin (.ret (.v (.one (.p (.str b))))) [])) (by kernel_rfl) ?_
  simp only [yg]
  subst hI
  simp only [nrmA,nrmB]
  have hlen:b.length=s.length:=by rw [h2,List.length_append,yY,List.length_take,List.length_drop];omega
  have hx:i<s.length→b.getD i 0=s.getD i 0:=fun h=>by
    rw [h2,List.getD_eq_getElem?_getD,List.getD_eq_getElem?_getD,List.getElem?_append_right (by rw [yY,List.length_take];omega),yY,List.length_take,List.getElem?_drop]
    congr 2
    omega
  have hset:i<s.length→b.set i (lowC (s.getD i 0))=lowS (s.take (i+1))++s.drop (i+1):=fun h=>by
    have e:(lowS (s.take i)).length=i:=by rw [yY,List.length_take];omega
    rw [h2,List.set_append_right _ _ (by omega),e,Nat.sub_self,List.drop_eq_getElem_cons h,List.set_cons_zero,List.take_succ_eq_append_getElem h,show s.getD i 0=s[i] by simp [h]]
    unfold lowS
    rw [List.map_append,List.append_assoc]
    rfl
  have hby:=wB (s.getD i 0)
  have hlk:=zaL hby
  refine⟨fun c=> ?_,fun c=> ?_⟩
  · rw [hx (by omega),zdg,hset (by omega)]
    exact⟨by omega,by omega,by omega,by omega,by omega,by omega,by omega,hA (i+1,_) ⟨by simp only;omega,rfl⟩ (by simp only;omega)⟩
  · rw [h2,List.drop_of_length_le (by omega),List.take_of_length_le (by omega),List.append_nil]
def qw (I:Alg) (args:List D) (hp:List HO):Option CT:=match args,hp with
  |[.v (.one (.p (.str s)))],[]=>(fun(s:Str)=>(some (.one ⟨I.hid (s.length≤1000000),(.ret (.v (.one (.p (.str (I.hid (lowS s))))))),[]⟩):Option CT)) s
  |_,_=>none
theorem V7:yH Tryz.prog 23 (qw alg):=by
  intro args hp r h
  unfold qw at h
  split at h
  · cases h;exact fun hn=>zdx _ hn
  · cases h
def xM:Know Tryz.prog:=⟨23,qw,V7⟩
def xK:Know Tryz.prog:=⟨23,fun I=>xh I (qw I),zH V7⟩
end Go.Proofs.YtlpmdnffdmdahaaGreatDoor
namespace Go.Proofs.YtlpmdnffdmdahaaGreatDoor
open Go Go.Sep Go.Ab
set_option maxRecDepth 100000
theorem QW {p:UInt8→Bool} {s:Str} {i:Nat} (h:i≤(s.takeWhile p).length):(i<s.length∧p (s.getD i 0)=true)↔i<(s.takeWhile p).length:=by
  induction s generalizing i with
  |nil=>simp
  | cons c r ih=>
    by_cases hc:p c=true
    · simp only [List.takeWhile_cons,hc,if_true,List.length_cons] at h ⊢
      cases i with
      |zero=>simp [hc]
      | succ i=>
        have:=ih (i:=i) (by omega)
        simp only [List.getD_cons_succ]
        constructor
        · rintro⟨h1,h2⟩;have:=this.1 ⟨by omega,h2⟩;omega
        · intro h1;have:=this.2 (by omega);exact⟨by omega,this.2⟩
    · simp only [List.takeWhile_cons,hc,Bool.false_eq_true,if_false,List.length_nil] at h ⊢
      have:i=0:=by omega
      subst this
      simp [hc]
theorem zcN (p:UInt8→Bool) (s:Str):s.take (s.takeWhile p).length=s.takeWhile p:=by
  induction s with
  |nil=>simp
  |cons c r ih=>by_cases hc:p c=true<;>simp [List.takeWhile_cons,hc,ih]
theorem drop_tw (p:UInt8→Bool) (s:Str):s.drop (s.takeWhile p).length=s.dropWhile p:=by
  induction s with
  |nil=>simp
  |cons c r ih=>by_cases hc:p c=true<;>simp [List.takeWhile_cons,List.dropWhile_cons,hc,ih]
theorem zdF (p:UInt8→Bool) (s:Str):(s.takeWhile p).length≤s.length:=(List.takeWhile_sublist p).length_le
theorem zer (p:UInt8→Bool) (s:Str):(s.dropWhile p).length≤s.length:=(List.dropWhile_sublist p).length_le
def isTk (c:UInt8):Bool:=tokB (c.toNat:Int)
def tokS (s:Str):Str:=s.takeWhile isTk
def tokE (s:Str):Str:=s.dropWhile isTk
theorem xG (s:Str):(tokS s).length≤s.length:=zdF _ _
theorem xH (s:Str):(tokE s).length≤s.length:=zer _ _
theorem zcM (s:Str):(tokS s).length+(tokE s).length=s.length:=by
  have:=congrArg List.length (List.takeWhile_append_dropWhile (p:=isTk) (l:=s))
  rw [List.length_append] at this;exact this
def skS (s:Str):Str:=Lib.trimLeftS s [32,9]
theorem xE (s:Str):(skS s).length≤s.length:=by
  unfold skS Lib.trimLeftS
  exact(List.dropWhile_sublist _).length_le
def zQ (s:Str) (c:UInt8):Bool:=s.head? == some c
theorem Xu {s:Str} {c:UInt8} (h:zQ s c=true):0<s.length:=by
  cases s with
  |nil=>simp [zQ] at h
  |cons a r=>simp
theorem Xv {s:Str} {c:UInt8}:zQ s c=true↔0<s.length∧s.getD 0 0=c:=by
  cases s with
  |nil=>simp [zQ]
  |cons a r=>simp [zQ]
theorem drop1 (s:Str):List.take (s.length - Int.toNat 1) (List.drop (Int.toNat 1) s)=s.drop 1:=by
  show List.take (s.length - 1) (List.drop 1 s)=s.drop 1
  exact List.take_of_length_le (by simp)
def quoF:Str→Option (Str × Str)
  |[]=>none
  |[x]=>if x=34 then some ([],[]) else none
  |x::y::r=>if x=34 then some ([],y::r) else if x=92 then(quoF r).map (fun p=>(y::p.1,p.2)) else(quoF (y::r)).map (fun p=>(x::p.1,p.2))
def quoV (s:Str):Str:=match quoF s with|some p=>p.1|none=>[]
def quoR (s:Str):Str:=match quoF s with|some p=>p.2|none=>[]
theorem ZJ: ∀ (s:Str) (p:Str × Str),quoF s=some p→p.1.length+p.2.length<s.length
  |[],p,h=>by simp [quoF] at h
  | [x],p,h=>by
    simp only [quoF] at h
    split at h
    · cases h;simp
    · cases h
  | x ::y::r,p,h=>by
    simp only [quoF] at h
    split at h
    · cases h;simp
    · split at h
      · rw [Option.map_eq_some_iff] at h
        obtain⟨q,hq,rfl⟩:=h
        have:=ZJ r q hq
        simp only [List.length_cons];omega
      · rw [Option.map_eq_some_iff] at h
        obtain⟨q,hq,rfl⟩:=h
        have:=ZJ (y::r) q hq
        simp only [List.length_cons] at this ⊢;omega
theorem zb1 (s:Str):(quoR s).length≤s.length:=by
  unfold quoR
  split
  · rename_i p h;have:=ZJ _ _ h;omega
  · simp
theorem zb0 (s:Str):(quoV s).length≤s.length:=by
  unfold quoV
  split
  · rename_i p h;have:=ZJ _ _ h;omega
  · simp
def parM (s:Str):Int × Fld × Str:=
  if tokS s=[] then(5,⟨[],[]⟩,tokE s)
  else if zQ (tokE s) 61=false then(5,⟨[],[]⟩,tokE s)
  else if zQ ((tokE s).drop 1) 34=true then
    if(quoF ((tokE s).drop 2)).isSome=true then(0,⟨lowS (tokS s),quoV ((tokE s).drop 2)⟩,quoR ((tokE s).drop 2)) else(14,⟨[],[]⟩,[])
  else if tokS ((tokE s).drop 1)=[] then(5,⟨[],[]⟩,tokE ((tokE s).drop 1))
  else(0,⟨lowS (tokS s),tokS ((tokE s).drop 1)⟩,tokE ((tokE s).drop 1))
theorem XY (s:Str):(parM s).2.2.length≤s.length∧(parM s).2.1.name.length≤s.length∧(parM s).2.1.value.length≤s.length:=by
  have h1:=xH s
  have h2:=xH ((tokE s).drop 1)
  have h3:=zb1 ((tokE s).drop 2)
  have h4:=zb0 ((tokE s).drop 2)
  have h5:=xG s
  have h6:=xG ((tokE s).drop 1)
  simp only [List.length_drop] at h2 h3 h4 h6
  unfold parM
  repeat' split
  all_goals simp only [List.length_nil,yY];omega
def getP (l:List Fld) (n:Str):Str × Bool:=match l.find? (fun f=>f.name == n) with|some f=>(f.value,true)|none=>([],false)
def medL:Nat→Str→List Fld→Int × List Fld × Str
  |0,s,ps=>(5,ps,s)
  | n +1,s,ps=>
    if zQ s 59=true then
      if(parM (skS (s.drop 1))).1≠0 then((parM (skS (s.drop 1))).1,ps,(parM (skS (s.drop 1))).2.2)
      else if(getP ps (parM (skS (s.drop 1))).2.1.name).2=true then(9,ps,(parM (skS (s.drop 1))).2.2)
      else if ps.length=8 then(8,ps,(parM (skS (s.drop 1))).2.2)
      else medL n (skS (parM (skS (s.drop 1))).2.2) (ps++[(parM (skS (s.drop 1))).2.1])
    else if s=[] then(0,ps,s) else(5,ps,s)
def medB (w:Str) (s:Str):Int × Med × Str:=((medL ((skS s).length+1) (skS s) []).1,⟨w,(medL ((skS s).length+1) (skS s) []).2.1⟩,(medL ((skS s).length+1) (skS s) []).2.2)
def medA (s:Str):Int × Med × Str:=
  if tokS s=[] then(5,⟨[],[]⟩,tokE s)
  else if zQ (tokE s) 47=true then
    if tokS ((tokE s).drop 1)=[] then(5,⟨[],[]⟩,tokE ((tokE s).drop 1))
    else medB (lowS (tokS s)++([47]++lowS (tokS ((tokE s).drop 1)))) (tokE ((tokE s).drop 1))
  else medB (lowS (tokS s)) (tokE s)
def yu (s:Str):Int × Med × Str:=medA (skS s)
def zI (s:Str):Med × Int:=if yc s=false then(⟨[],[]⟩,3) else if(yu s).1=0 then((yu s).2.1,0) else(⟨[],[]⟩,(yu s).1)
theorem Vj (s:Str):(parM s).1=0∨(parM s).1=5∨(parM s).1=14:=by
  unfold parM
  repeat' split
  all_goals simp
def ixP (l:List Fld) (n:Str):Int:=if l.findIdx (fun f=>f.name == n)<l.length then(l.findIdx (fun f=>f.name == n):Int) else -1
theorem zaZ (l:List Fld) (n:Str):getP l n=if 0≤ixP l n then((l.getD (ixP l n).toNat ⟨[],[]⟩).value,true) else([],false):=by
  unfold getP ixP
  rw [List.find?_eq_getElem?_findIdx]
  by_cases h:l.findIdx (fun f=>f.name == n)<l.length
  · rw [if_pos h,if_pos (by omega),List.getElem?_eq_getElem h]
    simp [List.getD_eq_getElem?_getD,h]
  · rw [if_neg h,if_neg (by omega),List.getElem?_eq_none (by omega)]
end Go.Proofs.YtlpmdnffdmdahaaGreatDoor
namespace Go.Proofs.YtlpmdnffdmdahaaGreatDoor
open Go Go.Sep Go.Ab
set_option maxRecDepth 100000
theorem QX (s:Str):Spc Tryz.prog 45 [.v (.one (.p (.str s))),.v (.one (.p (.str ([32,9]))))] [] (.ret (.v (.one (.p (.str ((skS s))))))) []:=by
  refine Spc.of_below ⟨_,Tryz.func45,by kernel_rfl,by kernel_rfl⟩ fun S bs w vs _ hM=> ?_
  obtain⟨v,r,rfl⟩: ∃ v r,vs=v::r:=by cases vs with|nil=>exact hM.elim|cons v r=>exact⟨v,r,rfl⟩
  obtain⟨h1,hM⟩:=hM
  obtain⟨v2,r2,rfl⟩: ∃ v r2,r=v::r2:=by cases r with|nil=>exact hM.elim|cons v r=>exact⟨v,r,rfl⟩
  obtain⟨h2,hM⟩:=hM
  obtain rfl:r2=[]:=by cases r2 with|nil=>rfl|cons v r=>exact hM.elim
  cases h1 with
  | str _ hl1=>
    cases h2 with
    | str _ hl2=>
      refine⟨.string (Sep.S (skS s)),.str _ (Nat.le_trans (xE _) hl1),?_⟩
      exact Tryz.strings_TrimLeft_laid (Sep.S s) (Sep.S [32,9]) w (by decide) (fun j b hb=>by
        have:=List.mem_of_getElem? hb
        rcases(by simpa [Sep.S] using this:b=32∨b=9) with rfl|rfl<;>decide)
def vJ (I:Alg) (args:List D) (hp:List HO):Option CT:=match args,hp with
  |[.v (.one (.p (.str s))),.v (.one (.p (.str ([32,9]))))],[]=>(fun(s:Str)=>(some (.one ⟨I.hid (True),(.ret (.v (.one (.p (.str (I.hid ((skS s)))))))),[]⟩):Option CT)) s
  |_,_=>none
theorem Z5:yH Tryz.prog 45 (vJ alg):=by
  intro args hp r h
  unfold vJ at h
  split at h
  · cases h;exact fun hn=>QX _
  · cases h
def Ul:Know Tryz.prog:=⟨45,vJ,Z5⟩
def Uk:Know Tryz.prog:=⟨45,fun I=>xh I (vJ I),zH Z5⟩
theorem zc6 (b:Bool) (c:Int) (hneed:b=false):Spc Tryz.prog 37 [.v (.one (.p (.bool b))),.v (.one (.p (.int .i64 c)))] [] (.ret (.tup [])) []:=by
  refine spcG zN mixed Tryz.func37 (by kernel_rfl) { keep:=some [0,1]} [] (by kernel_rfl) ?_
  intro I X hI hX
  refine zJ (.br b (.fin (.pan (.ifc 39 .false [(.int .i64 c)])) []) (.fin (.ret (.tup [])) [])) (by kernel_rfl) ?_
  simp only [yg]
  subst hI
  simp only [nrmA,nrmB]
  (repeat' (first|refine And.intro ?_ ?_|intro _))<;>first|omega|exact True.intro|exact False.elim ‹False›|skip
  all_goals simp_all
theorem zc5 (b:Bool) (c:Int) (hneed:b=true):Spc Tryz.prog 37 [.v (.one (.p (.bool b))),.v (.one (.p (.int .i64 c)))] [] (.pan (.ifc 39 false [(.int .i64 c)])) []:=by
  refine spcG zN mixed Tryz.func37 (by kernel_rfl) { keep:=some [0,1]} [] (by kernel_rfl) ?_
  intro I X hI hX
  refine zJ (.br b (.fin (.pan (.ifc 39 .false [(.int .i64 c)])) []) (.fin (.ret (.tup [])) [])) (by kernel_rfl) ?_
  simp only [yg]
  subst hI
  simp only [nrmA,nrmB]
  (repeat' (first|refine And.intro ?_ ?_|intro _))<;>first|omega|exact True.intro|exact False.elim ‹False›|skip
  all_goals simp_all
def ZQ (I:Alg) (args:List D) (hp:List HO):Option CT:=match args,hp with
  |[.v (.one (.p (.bool b))),.v (.one (.p (.int .i64 c)))],[]=>(fun(b:Bool) (c:Int)=>(some (.br (I.hid (b)) (.one ⟨I.hid (b=true),(.pan (.ifc 39 false [(.int .i64 c)])),[]⟩) (.one ⟨I.hid (b=false),(.ret (.tup [])),[]⟩)):Option CT)) b c
  |_,_=>none
theorem Sr:yH Tryz.prog 37 (ZQ alg):=by
  intro args hp r h
  unfold ZQ at h
  split at h
  · cases h;exact⟨fun _ hn=>zc5 _ _ hn,fun _ hn=>zc6 _ _ hn⟩
  · cases h
def yX:Know Tryz.prog:=⟨37,ZQ,Sr⟩
def yV:Know Tryz.prog:=⟨37,fun I=>xh I (ZQ I),zH Sr⟩
theorem zb4 (s:Str):Spc Tryz.prog 33 [.v (.one (.ptr 0 0))] [.pack [.obj 43 [(.p (.str s))]]] (.ret (.tup [])) [.pack [.obj 43 [(.p (.str ((skS s))))]]]:=by
  refine spcG zN mixed Tryz.func33 (by kernel_rfl) { keep:=some [0]} [Ul,Uk] (by kernel_rfl) ?_
  intro I X hI hX
  refine zJ (.need (I.hid (α:=(Prop)) True) (.fin (.ret (.tup [])) [(.pack [(.obj 43 [(.p (.str (I.hid (α:=Str) (skS s))))])])])) (by kernel_rfl) ?_
  simp only [yg]
  subst hI
  simp only [nrmA,nrmB,nrlB,reduceCtorEq,HO.pack.injEq,HO.obj.injEq]
  try trivial
def tq (I:Alg) (args:List D) (hp:List HO):Option CT:=match args,hp with
  |[.v (.one (.ptr 0 0))],[.pack [.obj 43 [(.p (.str s))]]]=>(fun(s:Str)=>(some (.one ⟨I.hid (True),(.ret (.tup [])),[.pack [.obj 43 [(.p (.str (I.hid ((skS s)))))]]]⟩):Option CT)) s
  |_,_=>none
theorem Xk:yH Tryz.prog 33 (tq alg):=by
  intro args hp r h
  unfold tq at h
  split at h
  · cases h;exact fun hn=>zb4 _
  · cases h
def uZ:Know Tryz.prog:=⟨33,tq,Xk⟩
def uY:Know Tryz.prog:=⟨33,fun I=>xh I (tq I),zH Xk⟩
theorem zd1 (s:Str) (k:Int) (hneed:0≤k∧k≤255):Spc Tryz.prog 35 [.v (.one (.ptr 0 0)),.v (.one (.p (.int .u8 k)))] [.pack [.obj 43 [(.p (.str s))]]] (.ret (.v (.one (.p (.bool ((zQ s (UInt8.ofNat k.toNat)))))))) [.pack [.obj 43 [(.p (.str ((if zQ s (UInt8.ofNat k.toNat)=true then s.drop 1 else s))))]]]:=by
  generalize hr:zQ s (UInt8.ofNat k.toNat)=r
  refine spcG zN mixed Tryz.func35 (by kernel_rfl) { keep:=some [0,1,4,5]} [] (by kernel_rfl) ?_
  intro I X hI hX
  refine zJ (let y0:=I.ieq (I.b2i (I.get (α:=UInt8) s 0 0)) k;let y1:HO:=.pack [(.obj 43 [(.p (.str s))])];.br (I.bnot (I.seq s ([]:Str))) (.need (I.inb 0 (I.len (α:=UInt8) s)) (.br y0 (.need (I.cutb 1 (I.len (α:=UInt8) s) (I.len (α:=UInt8) s)) (.fin (.ret (.v (.one (.p (.bool y0))))) [(.pack [(.obj 43 [(.p (.str (I.cut (α:=UInt8) s 1 (I.len (α:=UInt8) s))))])])])) (.fin (.ret (.v (.one (.p (.bool y0))))) [y1]))) (.fin (.ret (.v (.one (.p (.bool Bool.false))))) [y1])) (by kernel_rfl) ?_
  simp only [yg]
  subst hI
  simp only [nrmA,nrmB,nrlB,reduceCtorEq,HO.pack.injEq,HO.obj.injEq]
  have hk:((UInt8.ofNat k.toNat).toNat:Int)=k:=by rw [UInt8.toNat_ofNat',Nat.mod_eq_of_lt (by omega)];omega
  have hk2: ∀ c:UInt8,(c.toNat:Int)=k↔c=UInt8.ofNat k.toNat:=fun c=>⟨fun h=>by rw [← h];simp,fun h=>by rw [h];exact hk⟩
  rw [drop1]
  have hs:s=[]↔s.length=0:=List.length_eq_zero_iff.symm
  rw [hs]
  cases r with
  | true=>
    obtain⟨h1,h2⟩:=Xv.1 hr
    have hkk:=(hk2 _).2 h2
    rw [hkk]
    (repeat' (first|refine And.intro ?_ ?_|intro _))<;>first|omega|exact True.intro|exact False.elim ‹False›|skip
    all_goals first|omega|(simp;done)|(simp_all;done)
  | false=>
    have h1:0<s.length→¬ ((s.getD 0 0).toNat:Int)=k:=fun h q=>by rw [Xv.2 ⟨h,(hk2 _).1 q⟩] at hr;cases hr
    (repeat' (first|refine And.intro ?_ ?_|intro _))<;>first|omega|exact True.intro|exact False.elim ‹False›|skip
    all_goals first|omega|(simp;done)|(exfalso;exact h1 (by omega) ‹_›)|(have:=h1 (by omega);simp_all;done)|trace_state
def ZO (I:Alg) (args:List D) (hp:List HO):Option CT:=match args,hp with
  |[.v (.one (.ptr 0 0)),.v (.one (.p (.int .u8 k)))],[.pack [.obj 43 [(.p (.str s))]]]=>(fun(s:Str) (k:Int)=>(some (.one ⟨I.hid (0≤k∧k≤255),(.ret (.v (.one (.p (.bool (I.hid ((zQ s (UInt8.ofNat k.toNat))))))))),[.pack [.obj 43 [(.p (.str (I.hid ((if zQ s (UInt8.ofNat k.toNat)=true then s.drop 1 else s)))))]]]⟩):Option CT)) s k
  |_,_=>none
theorem Sj:yH Tryz.prog 35 (ZO alg):=by
  intro args hp r h
  unfold ZO at h
  split at h
  · cases h;exact fun hn=>zd1 _ _ hn
  · cases h
def uX:Know Tryz.prog:=⟨35,ZO,Sj⟩
def uV:Know Tryz.prog:=⟨35,fun I=>xh I (ZO I),zH Sj⟩
theorem zdV (s:Str) (hneed:s.length≤1000000∧¬ tokS s=[]):Spc Tryz.prog 34 [.v (.one (.ptr 0 0))] [.pack [.obj 43 [(.p (.str s))]]] (.ret (.v (.one (.p (.str ((tokS s))))))) [.pack [.obj 43 [(.p (.str ((tokE s))))]]]:=by
  obtain⟨hl,hne⟩:=hneed
  refine spcG zN mixed Tryz.func34 (by kernel_rfl) { keep:=some [0,2,3,4]} [vK,ru,yX,yV] (by kernel_rfl) ?_
  intro I X hI hX
  refine zJ (.code 0 [1,1,0,0] ⟨[(3,(.v (.one (.p (.int .i64 0))))),(2,(.v (.one (.p (.str ([]:Str)))))),(0,(.v (.one (.ptr 0 0))))],[(.pack [(.obj 43 [(.p (.str s))])])],42,none⟩) (by kernel_rfl) ?_
  simp only [yg]
  refine yZ hI zN mixed [vK,ru,yX,yV] hX [0,3] (fun(i:Nat)=>i≤(tokS s).length) (fun(i:Nat)=>⟨[(0,.v (.one (.ptr 0 0))),(3,.v (.one (.p (.int .i64 i))))],[.pack [.obj 43 [(.p (.str s))]]],42,none⟩) (fun(i:Nat)=>s.length - i) 0 (by kernel_rfl) (by kernel_rfl) ?_ ?_
  · exact Nat.zero_le _
  rintro i h1 A hA
  refine zJ (let y7:=I.cut (α:=UInt8) s 0 (Int.ofNat i);let y0:=I.seq y7 ([]:Str);let y1:HO:=.pack [(.obj 43 [(.p (.str (I.cut (α:=UInt8) s (Int.ofNat i) (I.len (α:=UInt8) s))))])];let y2:=I.b2i (I.get (α:=UInt8) s 0 (Nat.cast i));let y3:=I.cutb (Int.ofNat i) (I.len (α:=UInt8) s) (I.len (α:=UInt8) s);let y4:=I.cutb 0 (Int.ofNat i) (I.len (α:=UInt8) s);let y5:=I.hid (α:=(Prop)) (Eq y0 Bool.false);let y6:=I.hid (α:=(Prop)) (Eq y0 Bool.true);.br (I.ilt (Nat.cast i) (I.len (α:=UInt8) s)) (.need (I.inb (Nat.cast i) (I.len (α:=UInt8) s)) (.need (I.hid (α:=(Prop)) (And (LE.le (0:Int) y2) (LE.le y2 (255:Int)))) (.br (I.hid (α:=Bool) (tokB y2)) (.need (I.inr Go.IntKind.i64 (I.add (Nat.cast i) 1)) (.need (A ⟨[(0,(.v (.one (.ptr 0 0)))),(3,(.v (.one (.p (.int .i64 (I.add (Nat.cast i) 1))))))],[(.pack [(.obj 43 [(.p (.str s))])])],42,none⟩) .qed)) (.need y4 (.need y3 (.br (I.hid (α:=Bool) y0) (.need y6 (.fin (.pan (.ifc 39 .false [(.int .i64 5)])) [y1])) (.need y5 (.fin (.ret (.v (.one (.p (.str y7))))) [y1])))))))) (.need y4 (.need y3 (.br (I.hid (α:=Bool) y0) (.need y6 (.fin (.pan (.ifc 39 .false [(.int .i64 5)])) [y1])) (.need y5 (.fin (.ret (.v (.one (.p (.str y7))))) [y1])))))) (by kernel_rfl) ?_
  simp only [yg]
  subst hI
  simp only [nrmA,nrmB,nrlB,reduceCtorEq,HO.pack.injEq,HO.obj.injEq]
  have hb:=wB (s.getD i 0)
  have hs:=QW (p:=isTk) (s:=s) h1
  have hle:=xG s
  have ht:=zcN isTk s
  have hd:=drop_tw isTk s
  unfold isTk at hs
  change _↔i<(tokS s).length at hs
  change s.take (tokS s).length=tokS s at ht
  change s.drop (tokS s).length=tokE s at hd
  have hlen:=zcM s
  have hend: ¬ i<(tokS s).length→i=(tokS s).length:=fun h=>by omega
  generalize s.getD i 0=x at *
  have hgo:i<(tokS s).length→A ⟨[(0,.v (.one (.ptr 0 0))),(3,.v (.one (.p (.int .i64 (((i:Int)+1))))))],[.pack [.obj 43 [(.p (.str s))]]],42,none⟩:=fun h=>hA (i+1) (by omega) (by omega)
  by_cases hi:i<(tokS s).length
  · have hi2:=hs.2 hi
    clear hs hend ht hd hA
    (repeat' (first|refine And.intro ?_ ?_|intro _))<;>first|omega|exact True.intro|exact False.elim ‹False›|skip
    all_goals first
      |omega
      |exact hgo hi
      |(exfalso;simp_all;done)
  · have hx:i<s.length→tokB (x.toNat:Int)=true→False:=fun a b=>hi (hs.1 ⟨a,b⟩)
    have hi2:=hend hi
    clear hs hend hA hgo
    subst hi2
    rw [ht]
    have hcut:List.take (s.length - (tokS s).length) (List.drop (tokS s).length s)=tokE s:=by rw [hd];exact List.take_of_length_le (by omega)
    rw [hcut]
    (repeat' (first|refine And.intro ?_ ?_|intro _))<;>first|omega|exact True.intro|exact False.elim ‹False›|skip
    all_goals first
      |omega
      |(exfalso;exact hx (by omega) ‹_›)
      |(exfalso;exact hne ‹_›)
      |(simp [hne];done)
theorem zdU (s:Str) (hneed:s.length≤1000000∧tokS s=[]):Spc Tryz.prog 34 [.v (.one (.ptr 0 0))] [.pack [.obj 43 [(.p (.str s))]]] (.pan (.ifc 39 false [(.int .i64 5)])) [.pack [.obj 43 [(.p (.str ((tokE s))))]]]:=by
  obtain⟨hl,hne⟩:=hneed
  refine spcG zN mixed Tryz.func34 (by kernel_rfl) { keep:=some [0,2,3,4]} [vK,ru,yX,yV] (by kernel_rfl) ?_
  intro I X hI hX
  refine zJ (.code 0 [1,1,0,0] ⟨[(3,(.v (.one (.p (.int .i64 0))))),(2,(.v (.one (.p (.str ([]:Str)))))),(0,(.v (.one (.ptr 0 0))))],[(.pack [(.obj 43 [(.p (.str s))])])],42,none⟩) (by kernel_rfl) ?_
  simp only [yg]
  refine yZ hI zN mixed [vK,ru,yX,yV] hX [0,3] (fun(i:Nat)=>i≤(tokS s).length) (fun(i:Nat)=>⟨[(0,.v (.one (.ptr 0 0))),(3,.v (.one (.p (.int .i64 i))))],[.pack [.obj 43 [(.p (.str s))]]],42,none⟩) (fun(i:Nat)=>s.length - i) 0 (by kernel_rfl) (by kernel_rfl) ?_ ?_
  · exact Nat.zero_le _
  rintro i h1 A hA
  refine zJ (let y7:=I.cut (α:=UInt8) s 0 (Int.ofNat i);let y0:=I.seq y7 ([]:Str);let y1:HO:=.pack [(.obj 43 [(.p (.str (I.cut (α:=UInt8) s (Int.ofNat i) (I.len (α:=UInt8) s))))])];let y2:=I.b2i (I.get (α:=UInt8) s 0 (Nat.cast i));let y3:=I.cutb (Int.ofNat i) (I.len (α:=UInt8) s) (I.len (α:=UInt8) s);let y4:=I.cutb 0 (Int.ofNat i) (I.len (α:=UInt8) s);let y5:=I.hid (α:=(Prop)) (Eq y0 Bool.false);let y6:=I.hid (α:=(Prop)) (Eq y0 Bool.true);.br (I.ilt (Nat.cast i) (I.len (α:=UInt8) s)) (.need (I.inb (Nat.cast i) (I.len (α:=UInt8) s)) (.need (I.hid (α:=(Prop)) (And (LE.le (0:Int) y2) (LE.le y2 (255:Int)))) (.br (I.hid (α:=Bool) (tokB y2)) (.need (I.inr Go.IntKind.i64 (I.add (Nat.cast i) 1)) (.need (A ⟨[(0,(.v (.one (.ptr 0 0)))),(3,(.v (.one (.p (.int .i64 (I.add (Nat.cast i) 1))))))],[(.pack [(.obj 43 [(.p (.str s))])])],42,none⟩) .qed)) (.need y4 (.need y3 (.br (I.hid (α:=Bool) y0) (.need y6 (.fin (.pan (.ifc 39 .false [(.int .i64 5)])) [y1])) (.need y5 (.fin (.ret (.v (.one (.p (.str y7))))) [y1])))))))) (.need y4 (.need y3 (.br (I.hid (α:=Bool) y0) (.need y6 (.fin (.pan (.ifc 39 .false [(.int .i64 5)])) [y1])) (.need y5 (.fin (.ret (.v (.one (.p (.str y7))))) [y1])))))) (by kernel_rfl) ?_
  simp only [yg]
  subst hI
  simp only [nrmA,nrmB,nrlB,reduceCtorEq,HO.pack.injEq,HO.obj.injEq]
  have hb:=wB (s.getD i 0)
  have hs:=QW (p:=isTk) (s:=s) h1
  have hd:=drop_tw isTk s
  unfold isTk at hs
  change _↔i<(tokS s).length at hs
  change s.drop (tokS s).length=tokE s at hd
  rw [hne] at h1 hs hd
  simp only [List.length_nil] at h1 hs hd
  have h0:i=0:=by omega
  subst h0
  generalize s.getD 0 0=x at *
  have hx:0<s.length→tokB (x.toNat:Int)=true→False:=fun a b=>absurd (hs.1 ⟨a,b⟩) (by omega)
  have hcut:List.take (s.length - 0) (List.drop 0 s)=tokE s:=by rw [hd];exact List.take_of_length_le (by have:=xH s;omega)
  clear hs hA
  simp only [Int.toNat_natCast,List.take_zero,hcut] at *
  (repeat' (first|refine And.intro ?_ ?_|intro _))<;>first|omega|exact True.intro|exact False.elim ‹False›|skip
  all_goals first
    |omega
    |(exfalso;exact hx (by omega) ‹_›)
    |(exfalso;rename_i hq;exact hq rfl)
    |(simp;done)
def XZ (I:Alg) (args:List D) (hp:List HO):Option CT:=match args,hp with
  |[.v (.one (.ptr 0 0))],[.pack [.obj 43 [(.p (.str s))]]]=>(fun(s:Str)=>(some (.br (I.hid (decide (tokS s=[]))) (.one ⟨I.hid (s.length≤1000000∧tokS s=[]),(.pan (.ifc 39 false [(.int .i64 5)])),[.pack [.obj 43 [(.p (.str (I.hid ((tokE s)))))]]]⟩) (.one ⟨I.hid (s.length≤1000000∧¬ tokS s=[]),(.ret (.v (.one (.p (.str (I.hid ((tokS s)))))))),[.pack [.obj 43 [(.p (.str (I.hid ((tokE s)))))]]]⟩)):Option CT)) s
  |_,_=>none
theorem zao:yH Tryz.prog 34 (XZ alg):=by
  intro args hp r h
  unfold XZ at h
  split at h
  · cases h;exact⟨fun _ hn=>zdU _ hn,fun _ hn=>zdV _ hn⟩
  · cases h
def qP:Know Tryz.prog:=⟨34,XZ,zao⟩
def qO:Know Tryz.prog:=⟨34,fun I=>xh I (XZ I),zH zao⟩
theorem zdY (s:Str) (hneed:s.length≤1000000∧(quoF s).isSome=true):Spc Tryz.prog 46 [.v (.one (.ptr 0 0))] [.pack [.obj 43 [(.p (.str s))]]] (.ret (.v (.one (.p (.str ((quoV s))))))) [.pack [.obj 43 [(.p (.str ((quoR s))))]]]:=by
  obtain⟨hl,hne⟩:=hneed
  refine spcG zN mixed Tryz.func46 (by kernel_rfl) { nr:=[3],keep:=some [0,2,3,4]} [yX,yV] (by kernel_rfl) ?_
  intro I X hI hX
  refine zJ (.code 0 [1,1,0] ⟨[(3,(.v (.one (.row 1)))),(2,(.v (.one (.p (.str ([]:Str)))))),(0,(.v (.one (.ptr 0 0))))],[(.pack [(.obj 43 [(.p (.str s))])]),(.row .byte 5 ([]:Str))],53,none⟩) (by kernel_rfl) ?_
  simp only [yg]
  refine yZ hI zN mixed [yX,yV] hX [0,3] (fun(g:Str × Str)=>match g with|(b,t)=>b.length+t.length≤s.length∧quoF s=(quoF t).map (fun p=>(b++p.1,p.2))) (fun(g:Str × Str)=>match g with|(b,t)=>⟨[(0,.v (.one (.ptr 0 0))),(3,.v (.one (.row 1)))],[.pack [.obj 43 [(.p (.str t))]],.row .byte 5 b],53,none⟩) (fun(g:Str × Str)=>match g with|(b,t)=>t.length) ([],s) (by kernel_rfl) (by kernel_rfl) ?_ ?_
  · exact⟨by simp,by simp⟩
  rintro⟨b,t⟩ ⟨h1,h2⟩ A hA
  refine zJ (let y0:=I.cut (α:=UInt8) t 1 (I.len (α:=UInt8) t);let y1:=I.b2i (I.get (α:=UInt8) t 0 0);let y2:=I.b2i (I.get (α:=UInt8) y0 0 0);let y3:HO:=.pack [(.obj 43 [(.p (.str y0))])];.br (I.hid (α:=Bool) (I.seq t ([]:Str))) (.need (I.hid (α:=(Prop)) (Eq (I.seq t ([]:Str)) Bool.true)) (.fin (.pan (.ifc 39 .false [(.int .i64 14)])) [(.pack [(.obj 43 [(.p (.str t))])])])) (.need (I.hid (α:=(Prop)) (Eq (I.seq t ([]:Str)) Bool.false)) (.need (I.inb 0 (I.len (α:=UInt8) t)) (.need (I.cutb 1 (I.len (α:=UInt8) t) (I.len (α:=UInt8) t)) (.br (I.ieq y1 34) (.fin (.ret (.v (.one (.p (.str b))))) [y3]) (.br (I.ieq y1 92) (.br (I.hid (α:=Bool) (I.seq y0 ([]:Str))) (.need (I.hid (α:=(Prop)) (Eq (I.seq y0 ([]:Str)) Bool.true)) (.fin (.pan (.ifc 39 .false [(.int .i64 14)])) [y3])) (.need (I.hid (α:=(Prop)) (Eq (I.seq y0 ([]:Str)) Bool.false)) (.need (I.inb 0 (I.len (α:=UInt8) y0)) (.need (I.cutb 1 (I.len (α:=UInt8) y0) (I.len (α:=UInt8) y0)) (.need (I.inr Go.IntKind.u8 y2) (.need (I.few (I.add (I.len (α:=UInt8) b) (I.len (α:=UInt8) ([(I.i2b y2)]:Str))) 140737488355328) (.need (A ⟨[(0,(.v (.one (.ptr 0 0)))),(3,(.v (.one (.row 1))))],[(.pack [(.obj 43 [(.p (.str (I.cut (α:=UInt8) y0 1 (I.len (α:=UInt8) y0))))])]),(.row .byte 5 (I.app (α:=UInt8) b ([(I.i2b y2)]:Str)))],53,none⟩) .qed))))))) (.need (I.inr Go.IntKind.u8 y1) (.need (I.few (I.add (I.len (α:=UInt8) b) (I.len (α:=UInt8) ([(I.i2b y1)]:Str))) 140737488355328) (.need (A ⟨[(0,(.v (.one (.ptr 0 0)))),(3,(.v (.one (.row 1))))],[y3,(.row .byte 5 (I.app (α:=UInt8) b ([(I.i2b y1)]:Str)))],53,none⟩) .qed))))))))) (by kernel_rfl) ?_
  simp only [yg]
  subst hI
  simp only [nrmA,nrmB,nrlB,reduceCtorEq,HO.pack.injEq,HO.obj.injEq]
  have hb:=wB (t.getD 0 0)
  rw [drop1]
  have hq: ∀ r:Str × Str,quoF s=some r→True:=fun _ _=>trivial
  cases t with
  | nil=>
    simp only [quoF,Option.map_none] at h2
    (repeat' (first|refine And.intro ?_ ?_|intro _))<;>first|omega|exact True.intro|exact False.elim ‹False›|skip
    all_goals first
      |omega
      |(simp_all;done)
  |cons x t=>
  cases t with
  | nil=>
    simp only [quoF] at h2
    have h34:((x.toNat:Int)=34)↔x=34:=vz x 34
    have h92:((x.toNat:Int)=92)↔x=92:=vz x 92
    simp only [List.getD_cons_zero,h34,h92,List.drop_succ_cons,List.drop_zero,List.length_cons,List.length_nil] at *
    have hgo: ¬ x=34→A ⟨[(0,.v (.one (.ptr 0 0))),(3,.v (.one (.row 1)))],[.pack [.obj 43 [(.p (.str ([])))]],.row .byte 5 ((b++[x]))],53,none⟩:=fun h=>hA (b++[x],[]) ⟨by simp;omega,by rw [h2,if_neg h];rfl⟩ (by simp)
    have hv:x=34→quoV s=b∧quoR s=[]:=fun h=>by unfold quoV quoR;rw [h2,if_pos h];simp
    clear hA
    (repeat' (first|refine And.intro ?_ ?_|intro _))<;>first|omega|exact True.intro|exact False.elim ‹False›|skip
    all_goals first
      |omega
      |exact(hv ‹_›).1.symm
      |exact(hv ‹_›).2.symm
      |exact hgo ‹_›
      |(simp_all;done)
  | cons y t=>
    simp only [quoF] at h2
    have h34:((x.toNat:Int)=34)↔x=34:=vz x 34
    have h92:((x.toNat:Int)=92)↔x=92:=vz x 92
    have hy:=wB y
    have hyt:List.take (t.length+1 - Int.toNat 1) (List.drop (Int.toNat 1) (y::t))=t:=by simpa using drop1 (y::t)
    simp only [List.getD_cons_zero,h34,h92,List.drop_succ_cons,List.drop_zero,List.length_cons] at *
    have hgoY: ¬ x=34→x=92→A ⟨[(0,.v (.one (.ptr 0 0))),(3,.v (.one (.row 1)))],[.pack [.obj 43 [(.p (.str t))]],.row .byte 5 ((b++[y]))],53,none⟩:=fun h k=>hA (b++[y],t) ⟨by simp;omega,by rw [h2,if_neg h,if_pos k,Option.map_map];congr 1;funext p;simp⟩ (by simp;omega)
    have hgoX: ¬ x=34→¬ x=92→A ⟨[(0,.v (.one (.ptr 0 0))),(3,.v (.one (.row 1)))],[.pack [.obj 43 [(.p (.str ((y::t))))]],.row .byte 5 ((b++[x]))],53,none⟩:=fun h k=>hA (b++[x],y::t) ⟨by simp;omega,by rw [h2,if_neg h,if_neg k,Option.map_map];congr 1;funext p;simp⟩ (by simp)
    have hv:x=34→quoV s=b∧quoR s=y::t:=fun h=>by unfold quoV quoR;rw [h2,if_pos h];simp
    clear hA
    simp only [List.length_nil,Nat.zero_add]
    first|rw [hyt]|skip
    (repeat' (first|refine And.intro ?_ ?_|intro _))<;>first|omega|exact True.intro|exact False.elim ‹False›|skip
    all_goals first
      |omega
      |exact(hv ‹_›).1.symm
      |exact(hv ‹_›).2.symm
      |exact hgoX ‹_› ‹_›
      |exact hgoY ‹_› ‹_›
      |(simp_all;done)
theorem zdX (s:Str) (hneed:s.length≤1000000∧(quoF s).isSome=false):Spc Tryz.prog 46 [.v (.one (.ptr 0 0))] [.pack [.obj 43 [(.p (.str s))]]] (.pan (.ifc 39 false [(.int .i64 14)])) [.pack [.obj 43 [(.p (.str ([])))]]]:=by
  obtain⟨hl,hne⟩:=hneed
  refine spcG zN mixed Tryz.func46 (by kernel_rfl) { nr:=[3],keep:=some [0,2,3,4]} [yX,yV] (by kernel_rfl) ?_
  intro I X hI hX
  refine zJ (.code 0 [1,1,0] ⟨[(3,(.v (.one (.row 1)))),(2,(.v (.one (.p (.str ([]:Str)))))),(0,(.v (.one (.ptr 0 0))))],[(.pack [(.obj 43 [(.p (.str s))])]),(.row .byte 5 ([]:Str))],53,none⟩) (by kernel_rfl) ?_
  simp only [yg]
  refine yZ hI zN mixed [yX,yV] hX [0,3] (fun(g:Str × Str)=>match g with|(b,t)=>b.length+t.length≤s.length∧quoF s=(quoF t).map (fun p=>(b++p.1,p.2))) (fun(g:Str × Str)=>match g with|(b,t)=>⟨[(0,.v (.one (.ptr 0 0))),(3,.v (.one (.row 1)))],[.pack [.obj 43 [(.p (.str t))]],.row .byte 5 b],53,none⟩) (fun(g:Str × Str)=>match g with|(b,t)=>t.length) ([],s) (by kernel_rfl) (by kernel_rfl) ?_ ?_
  · exact⟨by simp,by simp⟩
  rintro⟨b,t⟩ ⟨h1,h2⟩ A hA
  refine zJ (let y0:=I.cut (α:=UInt8) t 1 (I.len (α:=UInt8) t);let y1:=I.b2i (I.get (α:=UInt8) t 0 0);let y2:=I.b2i (I.get (α:=UInt8) y0 0 0);let y3:HO:=.pack [(.obj 43 [(.p (.str y0))])];.br (I.hid (α:=Bool) (I.seq t ([]:Str))) (.need (I.hid (α:=(Prop)) (Eq (I.seq t ([]:Str)) Bool.true)) (.fin (.pan (.ifc 39 .false [(.int .i64 14)])) [(.pack [(.obj 43 [(.p (.str t))])])])) (.need (I.hid (α:=(Prop)) (Eq (I.seq t ([]:Str)) Bool.false)) (.need (I.inb 0 (I.len (α:=UInt8) t)) (.need (I.cutb 1 (I.len (α:=UInt8) t) (I.len (α:=UInt8) t)) (.br (I.ieq y1 34) (.fin (.ret (.v (.one (.p (.str b))))) [y3]) (.br (I.ieq y1 92) (.br (I.hid (α:=Bool) (I.seq y0 ([]:Str))) (.need (I.hid (α:=(Prop)) (Eq (I.seq y0 ([]:Str)) Bool.true)) (.fin (.pan (.ifc 39 .false [(.int .i64 14)])) [y3])) (.need (I.hid (α:=(Prop)) (Eq (I.seq y0 ([]:Str)) Bool.false)) (.need (I.inb 0 (I.len (α:=UInt8) y0)) (.need (I.cutb 1 (I.len (α:=UInt8) y0) (I.len (α:=UInt8) y0)) (.need (I.inr Go.IntKind.u8 y2) (.need (I.few (I.add (I.len (α:=UInt8) b) (I.len (α:=UInt8) ([(I.i2b y2)]:Str))) 140737488355328) (.need (A ⟨[(0,(.v (.one (.ptr 0 0)))),(3,(.v (.one (.row 1))))],[(.pack [(.obj 43 [(.p (.str (I.cut (α:=UInt8) y0 1 (I.len (α:=UInt8) y0))))])]),(.row .byte 5 (I.app (α:=UInt8) b ([(I.i2b y2)]:Str)))],53,none⟩) .qed))))))) (.need (I.inr Go.IntKind.u8 y1) (.need (I.few (I.add (I.len (α:=UInt8) b) (I.len (α:=UInt8) ([(I.i2b y1)]:Str))) 140737488355328) (.need (A ⟨[(0,(.v (.one (.ptr 0 0)))),(3,(.v (.one (.row 1))))],[y3,(.row .byte 5 (I.app (α:=UInt8) b ([(I.i2b y1)]:Str)))],53,none⟩) .qed))))))))) (by kernel_rfl) ?_
  simp only [yg]
  subst hI
  simp only [nrmA,nrmB,nrlB,reduceCtorEq,HO.pack.injEq,HO.obj.injEq]
  have hb:=wB (t.getD 0 0)
  rw [drop1]
  have hq: ∀ r:Str × Str,quoF s=some r→True:=fun _ _=>trivial
  cases t with
  | nil=>
    simp only [quoF,Option.map_none] at h2
    (repeat' (first|refine And.intro ?_ ?_|intro _))<;>first|omega|exact True.intro|exact False.elim ‹False›|skip
    all_goals first
      |omega
      |(simp_all;done)
  |cons x t=>
  cases t with
  | nil=>
    simp only [quoF] at h2
    have h34:((x.toNat:Int)=34)↔x=34:=vz x 34
    have h92:((x.toNat:Int)=92)↔x=92:=vz x 92
    simp only [List.getD_cons_zero,h34,h92,List.drop_succ_cons,List.drop_zero,List.length_cons,List.length_nil] at *
    have hgo: ¬ x=34→A ⟨[(0,.v (.one (.ptr 0 0))),(3,.v (.one (.row 1)))],[.pack [.obj 43 [(.p (.str ([])))]],.row .byte 5 ((b++[x]))],53,none⟩:=fun h=>hA (b++[x],[]) ⟨by simp;omega,by rw [h2,if_neg h];rfl⟩ (by simp)
    have hv:x=34→quoV s=b∧quoR s=[]:=fun h=>by unfold quoV quoR;rw [h2,if_pos h];simp
    clear hA
    (repeat' (first|refine And.intro ?_ ?_|intro _))<;>first|omega|exact True.intro|exact False.elim ‹False›|skip
    all_goals first
      |omega
      |exact(hv ‹_›).1.symm
      |exact(hv ‹_›).2.symm
      |exact hgo ‹_›
      |(simp_all;done)
  | cons y t=>
    simp only [quoF] at h2
    have h34:((x.toNat:Int)=34)↔x=34:=vz x 34
    have h92:((x.toNat:Int)=92)↔x=92:=vz x 92
    have hy:=wB y
    have hyt:List.take (t.length+1 - Int.toNat 1) (List.drop (Int.toNat 1) (y::t))=t:=by simpa using drop1 (y::t)
    simp only [List.getD_cons_zero,h34,h92,List.drop_succ_cons,List.drop_zero,List.length_cons] at *
    have hgoY: ¬ x=34→x=92→A ⟨[(0,.v (.one (.ptr 0 0))),(3,.v (.one (.row 1)))],[.pack [.obj 43 [(.p (.str t))]],.row .byte 5 ((b++[y]))],53,none⟩:=fun h k=>hA (b++[y],t) ⟨by simp;omega,by rw [h2,if_neg h,if_pos k,Option.map_map];congr 1;funext p;simp⟩ (by simp;omega)
    have hgoX: ¬ x=34→¬ x=92→A ⟨[(0,.v (.one (.ptr 0 0))),(3,.v (.one (.row 1)))],[.pack [.obj 43 [(.p (.str ((y::t))))]],.row .byte 5 ((b++[x]))],53,none⟩:=fun h k=>hA (b++[x],y::t) ⟨by simp;omega,by rw [h2,if_neg h,if_neg k,Option.map_map];congr 1;funext p;simp⟩ (by simp)
    have hv:x=34→quoV s=b∧quoR s=y::t:=fun h=>by unfold quoV quoR;rw [h2,if_pos h];simp
    clear hA
    simp only [List.length_nil,Nat.zero_add]
    first|rw [hyt]|skip
    (repeat' (first|refine And.intro ?_ ?_|intro _))<;>first|omega|exact True.intro|exact False.elim ‹False›|skip
    all_goals first
      |omega
      |exact(hv ‹_›).1.symm
      |exact(hv ‹_›).2.symm
      |exact hgoX ‹_› ‹_›
      |exact hgoY ‹_› ‹_›
      |(simp_all;done)
def X0 (I:Alg) (args:List D) (hp:List HO):Option CT:=match args,hp with
  |[.v (.one (.ptr 0 0))],[.pack [.obj 43 [(.p (.str s))]]]=>(fun(s:Str)=>(some (.br (I.hid ((quoF s).isSome)) (.one ⟨I.hid (s.length≤1000000∧(quoF s).isSome=true),(.ret (.v (.one (.p (.str (I.hid ((quoV s)))))))),[.pack [.obj 43 [(.p (.str (I.hid ((quoR s)))))]]]⟩) (.one ⟨I.hid (s.length≤1000000∧(quoF s).isSome=false),(.pan (.ifc 39 false [(.int .i64 14)])),[.pack [.obj 43 [(.p (.str (I.hid ([]))))]]]⟩)):Option CT)) s
  |_,_=>none
theorem zas:yH Tryz.prog 46 (X0 alg):=by
  intro args hp r h
  unfold X0 at h
  split at h
  · cases h;exact⟨fun _ hn=>zdY _ hn,fun _ hn=>zdX _ hn⟩
  · cases h
def zar:Know Tryz.prog:=⟨46,X0,zas⟩
def zaq:Know Tryz.prog:=⟨46,fun I=>xh I (X0 I),zH zas⟩
theorem zd0 (s:Str) (hneed:s.length≤1000000∧(parM s).1=0):Spc Tryz.prog 36 [.v (.one (.ptr 0 0))] [.pack [.obj 43 [(.p (.str s))]]] (.ret (.v (.agg [(.p (.str ((parM s).2.1.name))),(.p (.str ((parM s).2.1.value)))]))) [.pack [.obj 43 [(.p (.str ((parM s).2.2)))]]]:=by
  obtain⟨hl,hc⟩:=hneed
  generalize hr:parM s=r at hc
  obtain⟨c,⟨n,v⟩,z⟩:=r
  simp only at hc
  subst hc
  refine spcG zN mixed Tryz.func36 (by kernel_rfl) { keep:=some [0,2,3]} [xM,xK,yX,yV,uX,uV,qP,qO,zar,zaq] (by kernel_rfl) ?_
  intro I X hI hX
  refine zJ (let y2:=I.hid (α:=Str) (ite (Eq (zQ (I.hid (α:=Str) (tokE s)) (UInt8.ofNat (Int.toNat (61:Int)))) Bool.true) (List.drop 1 (I.hid (α:=Str) (tokE s))) (I.hid (α:=Str) (tokE s)));let y0:=I.hid (α:=Str) (ite (Eq (zQ y2 (UInt8.ofNat (Int.toNat (34:Int)))) Bool.true) (List.drop 1 y2) y2);let y1:=I.bnot (I.hid (α:=Bool) (zQ (I.hid (α:=Str) (tokE s)) (UInt8.ofNat (Int.toNat (61:Int)))));let y3:HO:=.pack [(.obj 43 [(.p (.str (I.hid (α:=Str) (tokE y0))))])];let y4:=I.hid (α:=Str) (lowS (I.hid (α:=Str) (tokS s)));.br (I.hid (α:=Bool) (Decidable.decide (Eq (tokS s) ([]:Str)))) (.need (I.hid (α:=(Prop)) (And (LE.le (List.length s) 1000000) (Eq (tokS s) ([]:Str)))) (.fin (.pan (.ifc 39 .false [(.int .i64 5)])) [(.pack [(.obj 43 [(.p (.str (I.hid (α:=Str) (tokE s))))])])])) (.need (I.hid (α:=(Prop)) (And (LE.le (List.length s) 1000000) (Not (Eq (tokS s) ([]:Str))))) (.need (I.hid (α:=(Prop)) (LE.le (List.length (I.hid (α:=Str) (tokS s))) 1000000)) (.need (I.hid (α:=(Prop)) (And (LE.le (0:Int) (61:Int)) (LE.le (61:Int) (255:Int)))) (.br (I.hid (α:=Bool) y1) (.need (I.hid (α:=(Prop)) (Eq y1 Bool.true)) (.fin (.pan (.ifc 39 .false [(.int .i64 5)])) [(.pack [(.obj 43 [(.p (.str y2))])])])) (.need (I.hid (α:=(Prop)) (Eq y1 Bool.false)) (.need (I.hid (α:=(Prop)) (And (LE.le (0:Int) (34:Int)) (LE.le (34:Int) (255:Int)))) (.br (I.hid (α:=Bool) (zQ y2 (UInt8.ofNat (Int.toNat (34:Int))))) (.br (I.hid (α:=Bool) (Option.isSome (quoF y0))) (.need (I.hid (α:=(Prop)) (And (LE.le (List.length y0) 1000000) (Eq (Option.isSome (quoF y0)) Bool.true))) (.fin (.ret (.v (.agg [(.p (.str y4)),(.p (.str (I.hid (α:=Str) (quoV y0))))]))) [(.pack [(.obj 43 [(.p (.str (I.hid (α:=Str) (quoR y0))))])])])) (.need (I.hid (α:=(Prop)) (And (LE.le (List.length y0) 1000000) (Eq (Option.isSome (quoF y0)) Bool.false))) (.fin (.pan (.ifc 39 .false [(.int .i64 14)])) [(.pack [(.obj 43 [(.p (.str (I.hid (α:=Str) ([]:Str))))])])]))) (.br (I.hid (α:=Bool) (Decidable.decide (Eq (tokS y0) ([]:Str)))) (.need (I.hid (α:=(Prop)) (And (LE.le (List.length y0) 1000000) (Eq (tokS y0) ([]:Str)))) (.fin (.pan (.ifc 39 .false [(.int .i64 5)])) [y3])) (.need (I.hid (α:=(Prop)) (And (LE.le (List.length y0) 1000000) (Not (Eq (tokS y0) ([]:Str))))) (.fin (.ret (.v (.agg [(.p (.str y4)),(.p (.str (I.hid (α:=Str) (tokS y0))))]))) [y3]))))))))))) (by kernel_rfl) ?_
  simp only [yg]
  subst hI
  simp only [nrmA,nrmB,nrlB,reduceCtorEq,HO.pack.injEq,HO.obj.injEq]
  unfold parM at hr
  have hl1:=xG s
  have hl2:=xH s
  simp only [show UInt8.ofNat (Int.toNat 61)=61 from rfl,show UInt8.ofNat (Int.toNat 34)=34 from rfl] at *
  (repeat' (first|refine And.intro ?_ ?_|intro _))<;>first|omega|exact True.intro|exact False.elim ‹False›|skip
  all_goals first
    |omega
    |(simp_all;done)
    |(simp_all;omega)
theorem zdZ (s:Str) (hneed:s.length≤1000000∧¬ (parM s).1=0):Spc Tryz.prog 36 [.v (.one (.ptr 0 0))] [.pack [.obj 43 [(.p (.str s))]]] (.pan (.ifc 39 false [(.int .i64 ((parM s).1))])) [.pack [.obj 43 [(.p (.str ((parM s).2.2)))]]]:=by
  obtain⟨hl,hc⟩:=hneed
  generalize hr:parM s=r at hc
  obtain⟨c,⟨n,v⟩,z⟩:=r
  simp only at hc
  refine spcG zN mixed Tryz.func36 (by kernel_rfl) { keep:=some [0,2,3]} [xM,xK,yX,yV,uX,uV,qP,qO,zar,zaq] (by kernel_rfl) ?_
  intro I X hI hX
  refine zJ (let y2:=I.hid (α:=Str) (ite (Eq (zQ (I.hid (α:=Str) (tokE s)) (UInt8.ofNat (Int.toNat (61:Int)))) Bool.true) (List.drop 1 (I.hid (α:=Str) (tokE s))) (I.hid (α:=Str) (tokE s)));let y0:=I.hid (α:=Str) (ite (Eq (zQ y2 (UInt8.ofNat (Int.toNat (34:Int)))) Bool.true) (List.drop 1 y2) y2);let y1:=I.bnot (I.hid (α:=Bool) (zQ (I.hid (α:=Str) (tokE s)) (UInt8.ofNat (Int.toNat (61:Int)))));let y3:HO:=.pack [(.obj 43 [(.p (.str (I.hid (α:=Str) (tokE y0))))])];let y4:=I.hid (α:=Str) (lowS (I.hid (α:=Str) (tokS s)));.br (I.hid (α:=Bool) (Decidable.decide (Eq (tokS s) ([]:Str)))) (.need (I.hid (α:=(Prop)) (And (LE.le (List.length s) 1000000) (Eq (tokS s) ([]:Str)))) (.fin (.pan (.ifc 39 .false [(.int .i64 5)])) [(.pack [(.obj 43 [(.p (.str (I.hid (α:=Str) (tokE s))))])])])) (.need (I.hid (α:=(Prop)) (And (LE.le (List.length s) 1000000) (Not (Eq (tokS s) ([]:Str))))) (.need (I.hid (α:=(Prop)) (LE.le (List.length (I.hid (α:=Str) (tokS s))) 1000000)) (.need (I.hid (α:=(Prop)) (And (LE.le (0:Int) (61:Int)) (LE.le (61:Int) (255:Int)))) (.br (I.hid (α:=Bool) y1) (.need (I.hid (α:=(Prop)) (Eq y1 Bool.true)) (.fin (.pan (.ifc 39 .false [(.int .i64 5)])) [(.pack [(.obj 43 [(.p (.str y2))])])])) (.need (I.hid (α:=(Prop)) (Eq y1 Bool.false)) (.need (I.hid (α:=(Prop)) (And (LE.le (0:Int) (34:Int)) (LE.le (34:Int) (255:Int)))) (.br (I.hid (α:=Bool) (zQ y2 (UInt8.ofNat (Int.toNat (34:Int))))) (.br (I.hid (α:=Bool) (Option.isSome (quoF y0))) (.need (I.hid (α:=(Prop)) (And (LE.le (List.length y0) 1000000) (Eq (Option.isSome (quoF y0)) Bool.true))) (.fin (.ret (.v (.agg [(.p (.str y4)),(.p (.str (I.hid (α:=Str) (quoV y0))))]))) [(.pack [(.obj 43 [(.p (.str (I.hid (α:=Str) (quoR y0))))])])])) (.need (I.hid (α:=(Prop)) (And (LE.le (List.length y0) 1000000) (Eq (Option.isSome (quoF y0)) Bool.false))) (.fin (.pan (.ifc 39 .false [(.int .i64 14)])) [(.pack [(.obj 43 [(.p (.str (I.hid (α:=Str) ([]:Str))))])])]))) (.br (I.hid (α:=Bool) (Decidable.decide (Eq (tokS y0) ([]:Str)))) (.need (I.hid (α:=(Prop)) (And (LE.le (List.length y0) 1000000) (Eq (tokS y0) ([]:Str)))) (.fin (.pan (.ifc 39 .false [(.int .i64 5)])) [y3])) (.need (I.hid (α:=(Prop)) (And (LE.le (List.length y0) 1000000) (Not (Eq (tokS y0) ([]:Str))))) (.fin (.ret (.v (.agg [(.p (.str y4)),(.p (.str (I.hid (α:=Str) (tokS y0))))]))) [y3]))))))))))) (by kernel_rfl) ?_
  simp only [yg]
  subst hI
  simp only [nrmA,nrmB,nrlB,reduceCtorEq,HO.pack.injEq,HO.obj.injEq]
  unfold parM at hr
  have hl1:=xG s
  have hl2:=xH s
  simp only [show UInt8.ofNat (Int.toNat 61)=61 from rfl,show UInt8.ofNat (Int.toNat 34)=34 from rfl] at *
  (repeat' (first|refine And.intro ?_ ?_|intro _))<;>first|omega|exact True.intro|exact False.elim ‹False›|skip
  all_goals first
    |omega
    |(simp_all;done)
    |(simp_all;omega)
    |(by_cases hq:tokS (List.drop 1 (tokE s))=[]<;>simp_all;done)
def X6 (I:Alg) (args:List D) (hp:List HO):Option CT:=match args,hp with
  |[.v (.one (.ptr 0 0))],[.pack [.obj 43 [(.p (.str s))]]]=>(fun(s:Str)=>(some (.br (I.hid (decide ((parM s).1=0))) (.one ⟨I.hid (s.length≤1000000∧(parM s).1=0),(.ret (.v (.agg [(.p (.str (I.hid ((parM s).2.1.name)))),(.p (.str (I.hid ((parM s).2.1.value))))]))),[.pack [.obj 43 [(.p (.str (I.hid ((parM s).2.2))))]]]⟩) (.one ⟨I.hid (s.length≤1000000∧¬ (parM s).1=0),(.pan (.ifc 39 false [(.int .i64 (I.hid ((parM s).1)))])),[.pack [.obj 43 [(.p (.str (I.hid ((parM s).2.2))))]]]⟩)):Option CT)) s
  |_,_=>none
theorem zat:yH Tryz.prog 36 (X6 alg):=by
  intro args hp r h
  unfold X6 at h
  split at h
  · cases h;exact⟨fun _ hn=>zd0 _ hn,fun _ hn=>zdZ _ hn⟩
  · cases h
def X5:Know Tryz.prog:=⟨36,X6,zat⟩
def X3:Know Tryz.prog:=⟨36,fun I=>xh I (X6 I),zH zat⟩
end Go.Proofs.YtlpmdnffdmdahaaGreatDoor
namespace Go.Proofs.YtlpmdnffdmdahaaGreatDoor
open Go Go.Sep Go.Ab
set_option maxRecDepth 100000
theorem zd6 (a b n:Str):Spc Tryz.prog 30 [.v (.agg [(.p (.str a)),(.p (.str b))]),.v (.one (.ptr 0 0))] [.pack [.obj 9 [(.p (.str n))]]] (.ret (.v (.one (.p (.bool ((a == n))))))) [.pack [.obj 9 [(.p (.str n))]]]:=by
  refine spcG zN mixed Tryz.func30 (by kernel_rfl) { keep:=some [0,1,2,3]} [] (by kernel_rfl) ?_
  intro I X hI hX
  refine zJ (.fin (.ret (.v (.one (.p (.bool (I.seq a n)))))) [(.pack [(.obj 9 [(.p (.str n))])])]) (by kernel_rfl) ?_
  simp only [yg]
  subst hI
  simp only [nrmA,nrmB,nrlB,reduceCtorEq,HO.pack.injEq,HO.obj.injEq]
  try trivial
def ZP (I:Alg) (args:List D) (hp:List HO):Option CT:=match args,hp with
  |[.v (.agg [(.p (.str a)),(.p (.str b))]),.v (.one (.ptr 0 0))],[.pack [.obj 9 [(.p (.str n))]]]=>(fun(a b n:Str)=>(some (.one ⟨I.hid (True),(.ret (.v (.one (.p (.bool (I.hid ((a == n)))))))),[.pack [.obj 9 [(.p (.str n))]]]⟩):Option CT)) a b n
  |_,_=>none
theorem Sm:yH Tryz.prog 30 (ZP alg):=by
  intro args hp r h
  unfold ZP at h
  split at h
  · cases h;exact fun hn=>zd6 _ _ _
  · cases h
def Wh:Know Tryz.prog:=⟨30,ZP,Sm⟩
def zb3:Know Tryz.prog:=⟨30,fun I=>xh I (ZP I),zH Sm⟩
set_option maxHeartbeats 1000000 in
theorem pIx_ (l:List Fld) (n:Str) (hneed:l.length≤1000000):Spc Tryz.prog 29 [.v (.one (.p (.list .fld l))),.v (.one (.fn 30 [.ptr 0 0]))] [.pack [.obj 9 [(.p (.str n))]]] (.ret (.v (.one (.p (.int .i64 ((ixP l n))))))) [.pack [.obj 9 [(.p (.str n))]]]:=by
  refine spcG zN mixed Tryz.func29 (by kernel_rfl) { keep:=some [0,1,4,5,7,8]} [Wh] (by kernel_rfl) ?_
  intro I X hI hX
  refine zJ (.code 0 [1,0,1,0] ⟨[(8,(.v (.one (.p (.int .i64 0))))),(7,(.v (.one (.p (.int .i64 (I.len (α:=Fld) l)))))),(4,(.v (.one (.p (.int .i64 0))))),(0,(.v (.one (.p (.list .fld l))))),(1,(.v (.one (.fn 30 [(.ptr 0 0)]))))],[(.pack [(.obj 9 [(.p (.str n))])])],19,none⟩) (by kernel_rfl) ?_
  simp only [yg]
  refine yZ hI zN mixed [Wh] hX [0,1,7,8] (fun(i:Nat)=>i≤l.length∧i≤l.findIdx (fun f=>f.name == n)) (fun(i:Nat)=>⟨[(0,.v (.one (.p (.list .fld l)))),(1,.v (.one (.fn 30 [.ptr 0 0]))),(7,.v (.one (.p (.int .i64 ((I.len (α:=Fld) l)))))),(8,.v (.one (.p (.int .i64 i))))],[.pack [.obj 9 [(.p (.str n))]]],19,none⟩) (fun(i:Nat)=>l.length - i) 0 (by kernel_rfl) (by kernel_rfl) ?_ ?_
  · exact⟨Nat.zero_le _,Nat.zero_le _⟩
  rintro i ⟨h1,h2⟩ A hA
  refine zJ (let y0:HO:=.pack [(.obj 9 [(.p (.str n))])];let y1:=I.inb (Nat.cast i) (I.len (α:=Fld) l);.br (I.ilt (Nat.cast i) (I.len (α:=Fld) l)) (.need y1 (.need y1 (.need (I.hid (α:=(Prop)) True) (.br (I.hid (α:=Bool) (BEq.beq (Fld.name (I.get (α:=Fld) l (Fld.mk ([]:Str) ([]:Str)) (Nat.cast i))) n)) (.fin (.ret (.v (.one (.p (.int .i64 (Nat.cast i)))))) [y0]) (.need (I.inr Go.IntKind.i64 (I.add (Nat.cast i) 1)) (.need (A ⟨[(0,(.v (.one (.p (.list .fld l))))),(1,(.v (.one (.fn 30 [(.ptr 0 0)])))),(7,(.v (.one (.p (.int .i64 (I.len (α:=Fld) l)))))),(8,(.v (.one (.p (.int .i64 (I.add (Nat.cast i) 1))))))],[y0],19,none⟩) .qed)))))) (.fin (.ret (.v (.one (.p (.int .i64 (Neg.neg (1:Int))))))) [y0])) (by kernel_rfl) ?_
  simp only [yg]
  subst hI
  simp only [nrmA,nrmB,nrlB,reduceCtorEq,HO.pack.injEq,HO.obj.injEq]
  have hfl:l.findIdx (fun f=>f.name == n)≤l.length:=List.findIdx_le_length
  have hyes:i<l.length→(l.getD i ⟨[],[]⟩).name=n→ixP l n=i:=fun h hid=>by
    have h0:l.findIdx (fun f=>f.name == n)≤i:=by
      refine Nat.le_of_not_lt fun hlt=> ?_
      have:=List.not_of_lt_findIdx hlt
      rw [List.getD_eq_getElem?_getD,List.getElem?_eq_getElem h] at hid
      simp only [Option.getD_some] at hid
      rw [hid] at this;simp at this
    unfold ixP
    rw [if_pos (by omega)];omega
  have hno:i<l.length→¬ (l.getD i ⟨[],[]⟩).name=n→i+1≤l.findIdx (fun f=>f.name == n):=fun h hid=>by
    refine Nat.lt_of_le_of_ne h2 fun e=>hid ?_
    have hlt:l.findIdx (fun f=>f.name == n)<l.length:=by omega
    have:=List.findIdx_getElem (xs:=l) (p:=fun f=>f.name == n) (w:=hlt)
    have h9:l.getD i ⟨[],[]⟩=l[l.findIdx (fun f=>f.name == n)]:=by simp [e,List.getD_eq_getElem?_getD,hlt]
    rw [h9];simpa using this
  have hend: ¬ i<l.length→ixP l n= -1:=fun h=>by unfold ixP;rw [if_neg (by omega)]
  generalize l.getD i ⟨[],[]⟩=x at *
  (repeat' (first|refine And.intro ?_ ?_|intro _))<;>first|omega|exact True.intro|exact False.elim ‹False›|skip
  all_goals first
    |omega
    |(exact(hyes (by omega) ‹_›).symm)
    |(exact hA (i+1) ⟨by omega,hno (by omega) ‹_›⟩ (by omega))
    |(exact(hend (by omega)).symm)
def Sl (I:Alg) (args:List D) (hp:List HO):Option CT:=match args,hp with
  |[.v (.one (.p (.list .fld l))),.v (.one (.fn 30 [.ptr 0 0]))],[.pack [.obj 9 [(.p (.str n))]]]=>(fun(l:List Fld) (n:Str)=>(some (.one ⟨I.hid (l.length≤1000000),(.ret (.v (.one (.p (.int .i64 (I.hid ((ixP l n)))))))),[.pack [.obj 9 [(.p (.str n))]]]⟩):Option CT)) l n
  |_,_=>none
theorem zcv:yH Tryz.prog 29 (Sl alg):=by
  intro args hp r h
  unfold Sl at h
  split at h
  · cases h;exact fun hn=>pIx_ _ _ hn
  · cases h
def zd5:Know Tryz.prog:=⟨29,Sl,zcv⟩
def zd4:Know Tryz.prog:=⟨29,fun I=>xh I (Sl I),zH zcv⟩
theorem zei (l:List Fld) (n:Str): -1≤ixP l n∧ixP l n<l.length:=by unfold ixP;split<;>omega
theorem zeG (w:Str) (l:List Fld) (n:Str) (hneed:l.length≤1000000):Spc Tryz.prog 11 [.v (.agg [(.p (.str w)),(.p (.list .fld l))]),.v (.one (.p (.str n)))] [] (.ret (.tup [(.one (.p (.str ((getP l n).1)))),(.one (.p (.bool ((getP l n).2))))])) []:=by
  rw [zaZ]
  have hx:=zei l n
  refine spcG zN mixed Tryz.func11 (by kernel_rfl) { keep:=some [0,1,2,3,4,5,6]} [Wh,zb3,zd5,zd4] (by kernel_rfl) ?_
  intro I X hI hX
  refine zJ (let y0:=I.inb (I.hid (α:=Int) (ixP l n)) (I.len (α:=Fld) l);.need (I.hid (α:=(Prop)) (LE.le (List.length l) 1000000)) (.br (I.ilt (I.hid (α:=Int) (ixP l n)) 0) (.fin (.ret (.tup [(.one (.p (.str ([]:Str)))),(.one (.p (.bool Bool.false)))])) []) (.need y0 (.need y0 (.fin (.ret (.tup [(.one (.p (.str (Fld.value (I.get (α:=Fld) l (Fld.mk ([]:Str) ([]:Str)) (I.hid (α:=Int) (ixP l n))))))),(.one (.p (.bool Bool.true)))])) []))))) (by kernel_rfl) ?_
  simp only [yg]
  subst hI
  simp only [nrmA,nrmB]
  (repeat' (first|refine And.intro ?_ ?_|intro _))<;>first|omega|exact True.intro|exact False.elim ‹False›|skip
  all_goals first
    |omega
    |(rw [if_pos (by omega)])
    |(rw [if_neg (by omega)])
def X9 (I:Alg) (args:List D) (hp:List HO):Option CT:=match args,hp with
  |[.v (.agg [(.p (.str w)),(.p (.list .fld l))]),.v (.one (.p (.str n)))],[]=>(fun(w:Str) (l:List Fld) (n:Str)=>(some (.one ⟨I.hid (l.length≤1000000),(.ret (.tup [(.one (.p (.str (I.hid ((getP l n).1))))),(.one (.p (.bool (I.hid ((getP l n).2)))))])),[]⟩):Option CT)) w l n
  |_,_=>none
theorem zaw:yH Tryz.prog 11 (X9 alg):=by
  intro args hp r h
  unfold X9 at h
  split at h
  · cases h;exact fun hn=>zeG _ _ _ hn
  · cases h
def Yn:Know Tryz.prog:=⟨11,X9,zaw⟩
def Ym:Know Tryz.prog:=⟨11,fun I=>xh I (X9 I),zH zaw⟩
def cfgM:Cfg:= { sl:=[⟨24,1,.fld,some 37⟩]}
set_option maxHeartbeats 4000000 in
theorem zd3 (s:Str) (hneed:s.length≤1000000∧(yu s).1=0):Spc Tryz.prog 16 [.v (.one (.ptr 0 0))] [.pack [.obj 43 [(.p (.str s))]]] (.ret (.v (.agg [(.p (.str ((yu s).2.1.word))),(.p (.list .fld ((yu s).2.1.params)))]))) [.pack [.obj 43 [(.p (.str ((yu s).2.2)))]]]:=by
  obtain⟨hl,hc⟩:=hneed
  generalize hr:yu s=r at hc
  obtain⟨c,⟨w,ps⟩,z⟩:=r
  simp only at hc
  subst hc
  refine spcG zN mixed Tryz.func16 (by kernel_rfl) { cfgM with lend:=[11],keep:=some [0,2,3,4,6]} [xM,xK,yX,yV,uZ,uY,uX,uV,qP,qO,X5,X3,Yn,Ym] (by kernel_rfl) ?_
  intro I X hI hX
  refine zJ (let y11:=I.hid (α:=Str) (tokE (I.hid (α:=Str) (skS s)));let y0:=I.hid (α:=Str) (ite (Eq (zQ y11 (UInt8.ofNat (Int.toNat (47:Int)))) Bool.true) (List.drop 1 y11) y11);let y12:=I.hid (α:=Str) (tokS (I.hid (α:=Str) (skS s)));let y1:=I.few (I.add (I.len (α:=UInt8) (I.hid (α:=Str) (lowS y12))) (I.len (α:=UInt8) (I.app (α:=UInt8) ([47]:Str) (I.hid (α:=Str) (lowS (I.hid (α:=Str) (tokS y0))))))) 1000000000;let y2:HO:=.obj 24 [(.p (.str (I.app (α:=UInt8) (I.hid (α:=Str) (lowS y12)) (I.app (α:=UInt8) ([47]:Str) (I.hid (α:=Str) (lowS (I.hid (α:=Str) (tokS y0)))))))),.nilS];let y3:=I.few (I.add (I.len (α:=UInt8) ([47]:Str)) (I.len (α:=UInt8) (I.hid (α:=Str) (lowS (I.hid (α:=Str) (tokS y0)))))) 1000000000;let y4:HO:=.pack [(.obj 43 [(.p (.str (I.hid (α:=Str) (skS (I.hid (α:=Str) (tokE y0))))))])];let y5:=I.hid (α:=(Prop)) (LE.le (List.length (I.hid (α:=Str) (tokS y0))) 1000000);let y6:HO:=.obj 24 [(.p (.str ([]:Str))),.nilS];let y7:=I.hid (α:=(Prop)) (And (LE.le (List.length y0) 1000000) (Not (Eq (tokS y0) ([]:Str))));let y8:=I.hid (α:=(Prop)) (And (LE.le (List.length y0) 1000000) (Eq (tokS y0) ([]:Str)));let y9:=I.hid (α:=Bool) (Decidable.decide (Eq (tokS y0) ([]:Str)));let y10:HO:=.pack [(.obj 43 [(.p (.str (I.hid (α:=Str) (tokE y0))))])];.need (I.hid (α:=(Prop)) True) (.br (I.hid (α:=Bool) (Decidable.decide (Eq (tokS (I.hid (α:=Str) (skS s))) ([]:Str)))) (.need (I.hid (α:=(Prop)) (And (LE.le (List.length (I.hid (α:=Str) (skS s))) 1000000) (Eq (tokS (I.hid (α:=Str) (skS s))) ([]:Str)))) (.fin (.pan (.ifc 39 .false [(.int .i64 5)])) [(.pack [(.obj 43 [(.p (.str y11))])])])) (.need (I.hid (α:=(Prop)) (And (LE.le (List.length (I.hid (α:=Str) (skS s))) 1000000) (Not (Eq (tokS (I.hid (α:=Str) (skS s))) ([]:Str))))) (.need (I.hid (α:=(Prop)) (LE.le (List.length y12) 1000000)) (.need (I.hid (α:=(Prop)) (And (LE.le (0:Int) (47:Int)) (LE.le (47:Int) (255:Int)))) (.br (I.hid (α:=Bool) (zQ y11 (UInt8.ofNat (Int.toNat (47:Int))))) (.both (.br y9 (.need y8 (.fin (.pan (.ifc 39 .false [(.int .i64 5)])) [y10])) (.need y7 (.need y5 (.need y3 (.need y1 (.need (I.hid (α:=(Prop)) True) (.code 0 [1,1,1,1,0,1,0] ⟨[(3,(.v (.one (.ptr 2 0)))),(2,(.v (.one (.ptr 1 0)))),(0,(.v (.one (.ptr 0 0))))],[y4,y6,y2],60,none⟩))))))) (.br y9 (.need y8 (.fin (.pan (.ifc 39 .false [(.int .i64 5)])) [y10])) (.need y7 (.both (.need y5 (.need y3 (.need y1 (.need (I.hid (α:=(Prop)) True) (.code 0 [1,1,1,1,0,1,0] ⟨[(3,(.v (.one (.ptr 2 0)))),(2,(.v (.one (.ptr 1 0)))),(0,(.v (.one (.ptr 0 0))))],[y4,y6,y2],60,none⟩))))) (.need y5 (.need y3 (.need y1 (.need (I.hid (α:=(Prop)) True) (.code 0 [1,1,1,1,0,1,0] ⟨[(3,(.v (.one (.ptr 2 0)))),(2,(.v (.one (.ptr 1 0)))),(0,(.v (.one (.ptr 0 0))))],[y4,y6,y2],60,none⟩))))))))) (.need (I.hid (α:=(Prop)) True) (.code 0 [1,1,1,1,0,1,0] ⟨[(3,(.v (.one (.ptr 2 0)))),(2,(.v (.one (.ptr 1 0)))),(0,(.v (.one (.ptr 0 0))))],[(.pack [(.obj 43 [(.p (.str (I.hid (α:=Str) (skS y0))))])]),y6,(.obj 24 [(.p (.str (I.hid (α:=Str) (lowS y12)))),.nilS])],60,none⟩)))))))) (by kernel_rfl) ?_
  simp only [yg]
  have hh: ∀ {α:Type} (x:α),I.hid x=x:=by subst hI;intros;rfl
  have key : ∀ (w0 t0:Str),t0.length≤1000000→((medL (t0.length+1) t0 []).1,(⟨w0,(medL (t0.length+1) t0 []).2.1⟩:Med),(medL (t0.length+1) t0 []).2.2)=(0,⟨w,ps⟩,z)→Ok Tryz.prog X (fun o h=>o=AOut.ret (D.v (V0.agg [C.p (P.str w),C.p (P.list U.fld ps)]))∧h=[HO.pack [HO.obj 43 [C.p (P.str z)]]]) (leaf I tab { cfgM with lend:=[11],keep:=some [0,2,3,4,6]} [⟨uo Tryz.f16,finK I tab { cfgM with lend:=[11],keep:=some [0,2,3,4,6]} 1 Tryz.f16⟩] 0 [1,1,1,1,0,1,0] ⟨[(3,.v (.one (.ptr 2 0))),(2,.v (.one (.ptr 1 0))),(0,.v (.one (.ptr 0 0)))],[.pack [.obj 43 [(.p (.str t0))]],.obj 24 [(.p (.str ([]))),.nilS],.obj 24 [(.p (.str w0)),.nilS]],60,none⟩):=by
    intro w0 t0 ht0 hm
    simp only [Prod.mk.injEq,Med.mk.injEq] at hm
    obtain⟨hm1,⟨rfl,hm2⟩,hm3⟩:=hm
    refine yZ hI zN mixed [xM,xK,yX,yV,uZ,uY,uX,uV,qP,qO,X5,X3,Yn,Ym] hX [0,2,3] (fun(g:Str × List Fld)=>match g with|(t,l)=>t.length≤1000000∧l.length≤8∧∃ n,t.length<n∧medL n t l=(0,ps,z)) (fun(g:Str × List Fld)=>match g with|(t,l)=>⟨[(0,.v (.one (.ptr 0 0))),(2,.v (.one (.ptr 1 0))),(3,.v (.one (.ptr 2 0)))],[.pack [.obj 43 [(.p (.str t))]],.pack [.obj 24 [(.p (.str ([]))),(.row 1)],.row .fld 37 ([])],.pack [.obj 24 [(.p (.str w0)),(.row 1)],.row .fld 37 l]],60,none⟩) (fun(g:Str × List Fld)=>match g with|(t,l)=>t.length) (t0,[]) (by kernel_rfl) (by kernel_rfl) ?_ ?_
    · exact⟨ht0,by simp,t0.length+1,by omega,by rw [← hm1,← hm2,← hm3]⟩
    rintro⟨t,l⟩ ⟨ht,hl8,n,hn,hm⟩ A hA
    clear hm1 hm2 hm3 hr
    simp only at hA
    refine zJ (let y0:=I.hid (α:=Str) (ite (Eq (zQ t (UInt8.ofNat (Int.toNat (59:Int)))) Bool.true) (List.drop 1 t) t);let y1:=I.hid (α:=Str) (Fld.name (Prod.fst (Prod.snd (parM (I.hid (α:=Str) (skS y0))))));let y2:=I.hid (α:=Str) (Prod.snd (Prod.snd (parM (I.hid (α:=Str) (skS y0)))));let y3:=I.hid (α:=Str) (Fld.value (Prod.fst (Prod.snd (parM (I.hid (α:=Str) (skS y0))))));let y4:=I.hid (α:=Bool) (Prod.snd (getP l y1));let y5:HO:=.pack [(.obj 43 [(.p (.str y2))])];let y6:HO:=.pack [(.obj 43 [(.p (.str y0))])];.need (I.hid (α:=(Prop)) (And (LE.le (0:Int) (59:Int)) (LE.le (59:Int) (255:Int)))) (.br (I.hid (α:=Bool) (zQ t (UInt8.ofNat (Int.toNat (59:Int))))) (.need (I.hid (α:=(Prop)) True) (.br (I.hid (α:=Bool) (Decidable.decide (Eq (Prod.fst (parM (I.hid (α:=Str) (skS y0)))) (0:Int)))) (.need (I.hid (α:=(Prop)) (And (LE.le (List.length (I.hid (α:=Str) (skS y0))) 1000000) (Eq (Prod.fst (parM (I.hid (α:=Str) (skS y0)))) (0:Int)))) (.need (I.hid (α:=(Prop)) (LE.le (List.length l) 1000000)) (.br (I.hid (α:=Bool) y4) (.need (I.hid (α:=(Prop)) (Eq y4 Bool.true)) (.fin (.pan (.ifc 39 .false [(.int .i64 9)])) [y5])) (.need (I.hid (α:=(Prop)) (Eq y4 Bool.false)) (.br (I.hid (α:=Bool) (I.ieq (I.len (α:=Fld) l) 8)) (.need (I.hid (α:=(Prop)) (Eq (I.ieq (I.len (α:=Fld) l) 8) Bool.true)) (.fin (.pan (.ifc 39 .false [(.int .i64 8)])) [y5])) (.need (I.hid (α:=(Prop)) (Eq (I.ieq (I.len (α:=Fld) l) 8) Bool.false)) (.need (I.few (I.add (I.len (α:=Fld) l) (I.len (α:=Fld) ([(Fld.mk y1 y3)]:List Fld))) 100000000) (.need (I.hid (α:=(Prop)) True) (.need (A ⟨[(0,(.v (.one (.ptr 0 0)))),(2,(.v (.one (.ptr 1 0)))),(3,(.v (.one (.ptr 2 0))))],[(.pack [(.obj 43 [(.p (.str (I.hid (α:=Str) (skS y2))))])]),(.pack [(.obj 24 [(.p (.str ([]:Str))),(.row 1)]),(.row .fld 37 ([]:List Fld))]),(.pack [(.obj 24 [(.p (.str w0)),(.row 1)]),(.row .fld 37 (I.app (α:=Fld) l ([(Fld.mk y1 y3)]:List Fld)))])],60,none⟩) .qed))))))))) (.need (I.hid (α:=(Prop)) (And (LE.le (List.length (I.hid (α:=Str) (skS y0))) 1000000) (Not (Eq (Prod.fst (parM (I.hid (α:=Str) (skS y0)))) (0:Int))))) (.fin (.pan (.ifc 39 .false [(.int .i64 (I.hid (α:=Int) (Prod.fst (parM (I.hid (α:=Str) (skS y0))))))])) [y5])))) (.br (I.hid (α:=Bool) (I.bnot (I.seq y0 ([]:Str)))) (.need (I.hid (α:=(Prop)) (Eq (I.bnot (I.seq y0 ([]:Str))) Bool.true)) (.fin (.pan (.ifc 39 .false [(.int .i64 5)])) [y6])) (.need (I.hid (α:=(Prop)) (Eq (I.bnot (I.seq y0 ([]:Str))) Bool.false)) (.fin (.ret (.v (.agg [(.p (.str w0)),(.p (.list .fld l))]))) [y6]))))) (by kernel_rfl) ?_
    simp only [yg]
    cases n with
    |zero=>omega
    |succ n=>
    simp only [medL] at hm
    have hgo:=hA (skS (parM (skS (t.drop 1))).2.2,l++[(parM (skS (t.drop 1))).2.1])
    have hpl:=XY (skS (t.drop 1))
    have hpc:=Vj (skS (t.drop 1))
    have hsl:=xE (t.drop 1)
    have hsr:=xE (parM (skS (t.drop 1))).2.2
    rw [List.length_drop] at hsl
    clear hA
    simp only [hh,show UInt8.ofNat (Int.toNat 59)=59 from rfl]
    subst hI
    by_cases h59:zQ t 59=true
    · have hpos:=Xu h59
      simp only [h59,if_true] at hm ⊢
      have hgo2:(parM (skS (t.drop 1))).1=0→(getP l (parM (skS (t.drop 1))).2.1.name).2=false→¬ l.length=8→_:=fun h1 h2 h3=>hgo ⟨by simp only;omega,by simp only [List.length_append,List.length_cons,List.length_nil];omega,n,by simp only;omega,by
        rw [if_neg (fun h=>h h1),if_neg (by rw [h2];exact Bool.false_ne_true),if_neg h3] at hm;exact hm⟩ (by simp only;omega)
      clear hgo
      simp only at hgo2
      generalize parM (skS (t.drop 1))=p at *
      obtain⟨pc,⟨pn,pv⟩,pr⟩:=p
      simp only at hgo2 hm hpl hpc hsl hsr ⊢
      simp only [nrmA,nrmB,nrlB,reduceCtorEq,List.length_cons,List.length_nil]
      (repeat' (first|refine And.intro ?_ ?_|intro _))<;>first|omega|exact True.intro|exact False.elim ‹False›|skip
      all_goals first
        |omega
        |assumption
        | (by_cases hpz:pc=0
           · exact hpz
           · rw [if_pos hpz] at hm;simp only [Prod.mk.injEq] at hm;exact hm.1)
        |exact hgo2 ‹_› ‹_› (by omega)
        |(exfalso;rw [if_neg (fun h=>h ‹pc=0›),if_neg (by rw [‹(getP l pn).2=false›];exact Bool.false_ne_true),if_pos (by omega)] at hm;simp_all;done)
        |(rw [if_neg (fun h=>h ‹pc=0›),if_neg (by rw [‹(getP l pn).2=false›];exact Bool.false_ne_true),if_pos (by omega)] at hm;simp_all;done)
        |(exfalso;simp_all;done)
        |(simp_all;done)
    · have h59:zQ t 59=false:=by simpa using h59
      simp only [h59,Bool.false_eq_true,if_false] at hm ⊢
      simp only [nrmA,nrmB,nrlB,reduceCtorEq,List.length_cons,List.length_nil]
      (repeat' (first|refine And.intro ?_ ?_|intro _))<;>first|omega|exact True.intro|exact False.elim ‹False›|skip
      all_goals first
        |omega
        |(exfalso;simp_all;done)
        |(simp_all;done)
        |(by_cases hte:t=[]<;>simp_all;done)
  have hl1:=xE s
  have hl2:=xH (skS s)
  have hl3:=xG (skS s)
  simp only [hh,show UInt8.ofNat (Int.toNat 47)=47 from rfl,decide_eq_true_eq,decide_eq_false_iff_not]
  unfold yu medA at hr
  generalize skS s=t at *
  have hl4:=xG ((tokE t).drop 1)
  have hl5:=xH ((tokE t).drop 1)
  rw [List.length_drop] at hl4 hl5
  (repeat' (first|refine And.intro ?_ ?_|intro _))
  all_goals try first|trivial|assumption|omega|(exfalso;simp_all;done)|(subst hI;(try(simp only [nrmA,nrmB,nrlB,reduceCtorEq,List.length_cons,List.length_nil,yY]))<;>first|omega|(simp_all [yY];done)|(simp_all [yY];omega))
  all_goals(have happ: ∀ a b:Str,I.app (α:=UInt8) a b=a++b:=by subst hI;intros;rfl)
  all_goals try simp only [happ]
  all_goals first
    | (rename_i q1 q2 q3
       rw [if_neg q1,if_pos q2] at hr
       simp only [q2,if_true] at q3 ⊢
       rw [if_neg q3] at hr
       have hsk:=xE (tokE ((tokE t).drop 1))
       exact key _ _ (by omega) hr)
    | (rename_i q1 q2
       rw [if_neg q1,if_neg (by simp [q2])] at hr
       simp only [q2,Bool.false_eq_true,if_false] at ⊢
       have hsk:=xE (tokE t)
       exact key _ _ (by omega) hr)
set_option maxHeartbeats 4000000 in
theorem zd2 (s:Str) (hneed:s.length≤1000000∧¬ (yu s).1=0):Spc Tryz.prog 16 [.v (.one (.ptr 0 0))] [.pack [.obj 43 [(.p (.str s))]]] (.pan (.ifc 39 false [(.int .i64 ((yu s).1))])) [.pack [.obj 43 [(.p (.str ((yu s).2.2)))]]]:=by
  obtain⟨hl,hc⟩:=hneed
  generalize hr:yu s=r at hc
  obtain⟨c,⟨w,ps⟩,z⟩:=r
  simp only at hc
  refine spcG zN mixed Tryz.func16 (by kernel_rfl) { cfgM with lend:=[11],keep:=some [0,2,3,4,6]} [xM,xK,yX,yV,uZ,uY,uX,uV,qP,qO,X5,X3,Yn,Ym] (by kernel_rfl) ?_
  intro I X hI hX
  refine zJ (let y11:=I.hid (α:=Str) (tokE (I.hid (α:=Str) (skS s)));let y0:=I.hid (α:=Str) (ite (Eq (zQ y11 (UInt8.ofNat (Int.toNat (47:Int)))) Bool.true) (List.drop 1 y11) y11);let y12:=I.hid (α:=Str) (tokS (I.hid (α:=Str) (skS s)));let y1:=I.few (I.add (I.len (α:=UInt8) (I.hid (α:=Str) (lowS y12))) (I.len (α:=UInt8) (I.app (α:=UInt8) ([47]:Str) (I.hid (α:=Str) (lowS (I.hid (α:=Str) (tokS y0))))))) 1000000000;let y2:HO:=.obj 24 [(.p (.str (I.app (α:=UInt8) (I.hid (α:=Str) (lowS y12)) (I.app (α:=UInt8) ([47]:Str) (I.hid (α:=Str) (lowS (I.hid (α:=Str) (tokS y0)))))))),.nilS];let y3:=I.few (I.add (I.len (α:=UInt8) ([47]:Str)) (I.len (α:=UInt8) (I.hid (α:=Str) (lowS (I.hid (α:=Str) (tokS y0)))))) 1000000000;let y4:HO:=.pack [(.obj 43 [(.p (.str (I.hid (α:=Str) (skS (I.hid (α:=Str) (tokE y0))))))])];let y5:=I.hid (α:=(Prop)) (LE.le (List.length (I.hid (α:=Str) (tokS y0))) 1000000);let y6:HO:=.obj 24 [(.p (.str ([]:Str))),.nilS];let y7:=I.hid (α:=(Prop)) (And (LE.le (List.length y0) 1000000) (Not (Eq (tokS y0) ([]:Str))));let y8:=I.hid (α:=(Prop)) (And (LE.le (List.length y0) 1000000) (Eq (tokS y0) ([]:Str)));let y9:=I.hid (α:=Bool) (Decidable.decide (Eq (tokS y0) ([]:Str)));let y10:HO:=.pack [(.obj 43 [(.p (.str (I.hid (α:=Str) (tokE y0))))])];.need (I.hid (α:=(Prop)) True) (.br (I.hid (α:=Bool) (Decidable.decide (Eq (tokS (I.hid (α:=Str) (skS s))) ([]:Str)))) (.need (I.hid (α:=(Prop)) (And (LE.le (List.length (I.hid (α:=Str) (skS s))) 1000000) (Eq (tokS (I.hid (α:=Str) (skS s))) ([]:Str)))) (.fin (.pan (.ifc 39 .false [(.int .i64 5)])) [(.pack [(.obj 43 [(.p (.str y11))])])])) (.need (I.hid (α:=(Prop)) (And (LE.le (List.length (I.hid (α:=Str) (skS s))) 1000000) (Not (Eq (tokS (I.hid (α:=Str) (skS s))) ([]:Str))))) (.need (I.hid (α:=(Prop)) (LE.le (List.length y12) 1000000)) (.need (I.hid (α:=(Prop)) (And (LE.le (0:Int) (47:Int)) (LE.le (47:Int) (255:Int)))) (.br (I.hid (α:=Bool) (zQ y11 (UInt8.ofNat (Int.toNat (47:Int))))) (.both (.br y9 (.need y8 (.fin (.pan (.ifc 39 .false [(.int .i64 5)])) [y10])) (.need y7 (.need y5 (.need y3 (.need y1 (.need (I.hid (α:=(Prop)) True) (.code 0 [1,1,1,1,0,1,0] ⟨[(3,(.v (.one (.ptr 2 0)))),(2,(.v (.one (.ptr 1 0)))),(0,(.v (.one (.ptr 0 0))))],[y4,y6,y2],60,none⟩))))))) (.br y9 (.need y8 (.fin (.pan (.ifc 39 .false [(.int .i64 5)])) [y10])) (.need y7 (.both (.need y5 (.need y3 (.need y1 (.need (I.hid (α:=(Prop)) True) (.code 0 [1,1,1,1,0,1,0] ⟨[(3,(.v (.one (.ptr 2 0)))),(2,(.v (.one (.ptr 1 0)))),(0,(.v (.one (.ptr 0 0))))],[y4,y6,y2],60,none⟩))))) (.need y5 (.need y3 (.need y1 (.need (I.hid (α:=(Prop)) True) (.code 0 [1,1,1,1,0,1,0] ⟨[(3,(.v (.one (.ptr 2 0)))),(2,(.v (.one (.ptr 1 0)))),(0,(.v (.one (.ptr 0 0))))],[y4,y6,y2],60,none⟩))))))))) (.need (I.hid (α:=(Prop)) True) (.code 0 [1,1,1,1,0,1,0] ⟨[(3,(.v (.one (.ptr 2 0)))),(2,(.v (.one (.ptr 1 0)))),(0,(.v (.one (.ptr 0 0))))],[(.pack [(.obj 43 [(.p (.str (I.hid (α:=Str) (skS y0))))])]),y6,(.obj 24 [(.p (.str (I.hid (α:=Str) (lowS y12)))),.nilS])],60,none⟩)))))))) (by kernel_rfl) ?_
  simp only [yg]
  have hh: ∀ {α:Type} (x:α),I.hid x=x:=by subst hI;intros;rfl
  have key : ∀ (w0 t0:Str),t0.length≤1000000→((medL (t0.length+1) t0 []).1,(⟨w0,(medL (t0.length+1) t0 []).2.1⟩:Med),(medL (t0.length+1) t0 []).2.2)=(c,⟨w,ps⟩,z)→Ok Tryz.prog X (fun o h=>o=AOut.pan (C.ifc 39 false [P.int IntKind.i64 c])∧h=[HO.pack [HO.obj 43 [C.p (P.str z)]]]) (leaf I tab { cfgM with lend:=[11],keep:=some [0,2,3,4,6]} [⟨uo Tryz.f16,finK I tab { cfgM with lend:=[11],keep:=some [0,2,3,4,6]} 1 Tryz.f16⟩] 0 [1,1,1,1,0,1,0] ⟨[(3,.v (.one (.ptr 2 0))),(2,.v (.one (.ptr 1 0))),(0,.v (.one (.ptr 0 0)))],[.pack [.obj 43 [(.p (.str t0))]],.obj 24 [(.p (.str ([]))),.nilS],.obj 24 [(.p (.str w0)),.nilS]],60,none⟩):=by
    intro w0 t0 ht0 hm
    simp only [Prod.mk.injEq,Med.mk.injEq] at hm
    obtain⟨hm1,⟨rfl,hm2⟩,hm3⟩:=hm
    refine yZ hI zN mixed [xM,xK,yX,yV,uZ,uY,uX,uV,qP,qO,X5,X3,Yn,Ym] hX [0,2,3] (fun(g:Str × List Fld)=>match g with|(t,l)=>t.length≤1000000∧l.length≤8∧∃ n,t.length<n∧medL n t l=(c,ps,z)) (fun(g:Str × List Fld)=>match g with|(t,l)=>⟨[(0,.v (.one (.ptr 0 0))),(2,.v (.one (.ptr 1 0))),(3,.v (.one (.ptr 2 0)))],[.pack [.obj 43 [(.p (.str t))]],.pack [.obj 24 [(.p (.str ([]))),(.row 1)],.row .fld 37 ([])],.pack [.obj 24 [(.p (.str w0)),(.row 1)],.row .fld 37 l]],60,none⟩) (fun(g:Str × List Fld)=>match g with|(t,l)=>t.length) (t0,[]) (by kernel_rfl) (by kernel_rfl) ?_ ?_
    · exact⟨ht0,by simp,t0.length+1,by omega,by rw [← hm1,← hm2,← hm3]⟩
    rintro⟨t,l⟩ ⟨ht,hl8,n,hn,hm⟩ A hA
    clear hm1 hm2 hm3 hr
    simp only at hA
    refine zJ (let y0:=I.hid (α:=Str) (ite (Eq (zQ t (UInt8.ofNat (Int.toNat (59:Int)))) Bool.true) (List.drop 1 t) t);let y1:=I.hid (α:=Str) (Fld.name (Prod.fst (Prod.snd (parM (I.hid (α:=Str) (skS y0))))));let y2:=I.hid (α:=Str) (Prod.snd (Prod.snd (parM (I.hid (α:=Str) (skS y0)))));let y3:=I.hid (α:=Str) (Fld.value (Prod.fst (Prod.snd (parM (I.hid (α:=Str) (skS y0))))));let y4:=I.hid (α:=Bool) (Prod.snd (getP l y1));let y5:HO:=.pack [(.obj 43 [(.p (.str y2))])];let y6:HO:=.pack [(.obj 43 [(.p (.str y0))])];.need (I.hid (α:=(Prop)) (And (LE.le (0:Int) (59:Int)) (LE.le (59:Int) (255:Int)))) (.br (I.hid (α:=Bool) (zQ t (UInt8.ofNat (Int.toNat (59:Int))))) (.need (I.hid (α:=(Prop)) True) (.br (I.hid (α:=Bool) (Decidable.decide (Eq (Prod.fst (parM (I.hid (α:=Str) (skS y0)))) (0:Int)))) (.need (I.hid (α:=(Prop)) (And (LE.le (List.length (I.hid (α:=Str) (skS y0))) 1000000) (Eq (Prod.fst (parM (I.hid (α:=Str) (skS y0)))) (0:Int)))) (.need (I.hid (α:=(Prop)) (LE.le (List.length l) 1000000)) (.br (I.hid (α:=Bool) y4) (.need (I.hid (α:=(Prop)) (Eq y4 Bool.true)) (.fin (.pan (.ifc 39 .false [(.int .i64 9)])) [y5])) (.need (I.hid (α:=(Prop)) (Eq y4 Bool.false)) (.br (I.hid (α:=Bool) (I.ieq (I.len (α:=Fld) l) 8)) (.need (I.hid (α:=(Prop)) (Eq (I.ieq (I.len (α:=Fld) l) 8) Bool.true)) (.fin (.pan (.ifc 39 .false [(.int .i64 8)])) [y5])) (.need (I.hid (α:=(Prop)) (Eq (I.ieq (I.len (α:=Fld) l) 8) Bool.false)) (.need (I.few (I.add (I.len (α:=Fld) l) (I.len (α:=Fld) ([(Fld.mk y1 y3)]:List Fld))) 100000000) (.need (I.hid (α:=(Prop)) True) (.need (A ⟨[(0,(.v (.one (.ptr 0 0)))),(2,(.v (.one (.ptr 1 0)))),(3,(.v (.one (.ptr 2 0))))],[(.pack [(.obj 43 [(.p (.str (I.hid (α:=Str) (skS y2))))])]),(.pack [(.obj 24 [(.p (.str ([]:Str))),(.row 1)]),(.row .fld 37 ([]:List Fld))]),(.pack [(.obj 24 [(.p (.str w0)),(.row 1)]),(.row .fld 37 (I.app (α:=Fld) l ([(Fld.mk y1 y3)]:List Fld)))])],60,none⟩) .qed))))))))) (.need (I.hid (α:=(Prop)) (And (LE.le (List.length (I.hid (α:=Str) (skS y0))) 1000000) (Not (Eq (Prod.fst (parM (I.hid (α:=Str) (skS y0)))) (0:Int))))) (.fin (.pan (.ifc 39 .false [(.int .i64 (I.hid (α:=Int) (Prod.fst (parM (I.hid (α:=Str) (skS y0))))))])) [y5])))) (.br (I.hid (α:=Bool) (I.bnot (I.seq y0 ([]:Str)))) (.need (I.hid (α:=(Prop)) (Eq (I.bnot (I.seq y0 ([]:Str))) Bool.true)) (.fin (.pan (.ifc 39 .false [(.int .i64 5)])) [y6])) (.need (I.hid (α:=(Prop)) (Eq (I.bnot (I.seq y0 ([]:Str))) Bool.false)) (.fin (.ret (.v (.agg [(.p (.str w0)),(.p (.list .fld l))]))) [y6]))))) (by kernel_rfl) ?_
    simp only [yg]
    cases n with
    |zero=>omega
    |succ n=>
    simp only [medL] at hm
    have hgo:=hA (skS (parM (skS (t.drop 1))).2.2,l++[(parM (skS (t.drop 1))).2.1])
    have hpl:=XY (skS (t.drop 1))
    have hpc:=Vj (skS (t.drop 1))
    have hsl:=xE (t.drop 1)
    have hsr:=xE (parM (skS (t.drop 1))).2.2
    rw [List.length_drop] at hsl
    clear hA
    simp only [hh,show UInt8.ofNat (Int.toNat 59)=59 from rfl]
    subst hI
    by_cases h59:zQ t 59=true
    · have hpos:=Xu h59
      simp only [h59,if_true] at hm ⊢
      have hgo2:(parM (skS (t.drop 1))).1=0→(getP l (parM (skS (t.drop 1))).2.1.name).2=false→¬ l.length=8→_:=fun h1 h2 h3=>hgo ⟨by simp only;omega,by simp only [List.length_append,List.length_cons,List.length_nil];omega,n,by simp only;omega,by
        rw [if_neg (fun h=>h h1),if_neg (by rw [h2];exact Bool.false_ne_true),if_neg h3] at hm;exact hm⟩ (by simp only;omega)
      clear hgo
      simp only at hgo2
      generalize parM (skS (t.drop 1))=p at *
      obtain⟨pc,⟨pn,pv⟩,pr⟩:=p
      simp only at hgo2 hm hpl hpc hsl hsr ⊢
      simp only [nrmA,nrmB,nrlB,reduceCtorEq,List.length_cons,List.length_nil]
      (repeat' (first|refine And.intro ?_ ?_|intro _))<;>first|omega|exact True.intro|exact False.elim ‹False›|skip
      all_goals first
        |omega
        |assumption
        | (by_cases hpz:pc=0
           · exact hpz
           · rw [if_pos hpz] at hm;simp only [Prod.mk.injEq] at hm;exact hm.1)
        |exact hgo2 ‹_› ‹_› (by omega)
        |(exfalso;rw [if_neg (fun h=>h ‹pc=0›),if_neg (by rw [‹(getP l pn).2=false›];exact Bool.false_ne_true),if_pos (by omega)] at hm;simp_all;done)
        |(rw [if_neg (fun h=>h ‹pc=0›),if_neg (by rw [‹(getP l pn).2=false›];exact Bool.false_ne_true),if_pos (by omega)] at hm;simp_all;done)
        |(exfalso;simp_all;done)
        |(simp_all;done)
    · have h59:zQ t 59=false:=by simpa using h59
      simp only [h59,Bool.false_eq_true,if_false] at hm ⊢
      simp only [nrmA,nrmB,nrlB,reduceCtorEq,List.length_cons,List.length_nil]
      (repeat' (first|refine And.intro ?_ ?_|intro _))<;>first|omega|exact True.intro|exact False.elim ‹False›|skip
      all_goals first
        |omega
        |(exfalso;simp_all;done)
        |(simp_all;done)
        |(by_cases hte:t=[]<;>simp_all;done)
  have hl1:=xE s
  have hl2:=xH (skS s)
  have hl3:=xG (skS s)
  simp only [hh,show UInt8.ofNat (Int.toNat 47)=47 from rfl,decide_eq_true_eq,decide_eq_false_iff_not]
  unfold yu medA at hr
  generalize skS s=t at *
  have hl4:=xG ((tokE t).drop 1)
  have hl5:=xH ((tokE t).drop 1)
  rw [List.length_drop] at hl4 hl5
  (repeat' (first|refine And.intro ?_ ?_|intro _))
  all_goals try first|trivial|assumption|omega|(exfalso;simp_all;done)|(subst hI;(try(simp only [nrmA,nrmB,nrlB,reduceCtorEq,List.length_cons,List.length_nil,yY]))<;>first|omega|(simp_all [yY];done)|(simp_all [yY];omega))
  all_goals(have happ: ∀ a b:Str,I.app (α:=UInt8) a b=a++b:=by subst hI;intros;rfl)
  all_goals try simp only [happ]
  all_goals first
    | (rename_i q1 q2 q3
       rw [if_neg q1,if_pos q2] at hr
       simp only [q2,if_true] at q3 ⊢
       rw [if_neg q3] at hr
       have hsk:=xE (tokE ((tokE t).drop 1))
       exact key _ _ (by omega) hr)
    | (rename_i q1 q2
       rw [if_neg q1,if_neg (by simp [q2])] at hr
       simp only [q2,Bool.false_eq_true,if_false] at ⊢
       have hsk:=xE (tokE t)
       exact key _ _ (by omega) hr)
def X7 (I:Alg) (args:List D) (hp:List HO):Option CT:=match args,hp with
  |[.v (.one (.ptr 0 0))],[.pack [.obj 43 [(.p (.str s))]]]=>(fun(s:Str)=>(some (.br (I.hid (decide ((yu s).1=0))) (.one ⟨I.hid (s.length≤1000000∧(yu s).1=0),(.ret (.v (.agg [(.p (.str (I.hid ((yu s).2.1.word)))),(.p (.list .fld (I.hid ((yu s).2.1.params))))]))),[.pack [.obj 43 [(.p (.str (I.hid ((yu s).2.2))))]]]⟩) (.one ⟨I.hid (s.length≤1000000∧¬ (yu s).1=0),(.pan (.ifc 39 false [(.int .i64 (I.hid ((yu s).1)))])),[.pack [.obj 43 [(.p (.str (I.hid ((yu s).2.2))))]]]⟩)):Option CT)) s
  |_,_=>none
theorem zau:yH Tryz.prog 16 (X7 alg):=by
  intro args hp r h
  unfold X7 at h
  split at h
  · cases h;exact⟨fun _ hn=>zd3 _ hn,fun _ hn=>zd2 _ hn⟩
  · cases h
def zc2:Know Tryz.prog:=⟨16,X7,zau⟩
def zc1:Know Tryz.prog:=⟨16,fun I=>xh I (X7 I),zH zau⟩
end Go.Proofs.YtlpmdnffdmdahaaGreatDoor
namespace Go.Proofs.YtlpmdnffdmdahaaGreatDoor
open Go Go.Sep Go.Ab
set_option maxRecDepth 100000
theorem zd8 (w:Str) (l:List Fld) (n:Int) (s:Str):SpcD Tryz.prog 15 [.ptr 0 0,.ptr 1 0] .ret [.obj 24 [.p (.str w),.p (.list .fld l)],.obj 3 [.p (.int .i64 n)],.pack [.obj 43 [.p (.str s)]]] .ret [.obj 24 [.p (.str w),.p (.list .fld l)],.obj 3 [.p (.int .i64 n)],.obj 43 [.p (.str s)]]:=by
  refine Y7 zN mixed Tryz.func15 (by kernel_rfl) { flat:=true} [] (rest:=_) rfl (by kernel_rfl) ?_
  intro I X hI hX
  refine zJ (.fin (.ret (.tup [])) [(.obj 24 [(.p (.str w)),(.p (.list .fld l))]),(.obj 3 [(.p (.int .i64 n))]),(.obj 43 [(.p (.str s))])]) (by kernel_rfl) ?_
  simp only [yg]
  try trivial
theorem zd7 (w:Str) (n k:Int) (s:Str):SpcD Tryz.prog 15 [.ptr 0 0,.ptr 1 0] (.pan (.ifc 39 false [.int .i64 k])) [.obj 24 [.p (.str w),.nilS],.obj 3 [.p (.int .i64 n)],.pack [.obj 43 [.p (.str s)]]] .ret [.obj 24 [.p (.str []),.nilS],.obj 3 [.p (.int .i64 k)],.obj 43 [.p (.str s)]]:=by
  refine Y7 zN mixed Tryz.func15 (by kernel_rfl) { flat:=true} [] (rest:=_) rfl (by kernel_rfl) ?_
  intro I X hI hX
  refine zJ (.fin (.ret (.tup [])) [(.obj 24 [(.p (.str ([]:Str))),.nilS]),(.obj 3 [(.p (.int .i64 k))]),(.obj 43 [(.p (.str s))])]) (by kernel_rfl) ?_
  simp only [yg]
  try trivial
def zeH:Door Tryz.prog where
  g:=15
  c :=fun _ m caps hp=>match m,caps,hp with
    |.ret,[.ptr 0 0,.ptr 1 0],[.obj 24 [.p (.str w),.p (.list .fld l)],.obj 3 [.p (.int .i64 n)],.pack [.obj 43 [.p (.str s)]]]=>some (True,.ret,[.obj 24 [.p (.str w),.p (.list .fld l)],.obj 3 [.p (.int .i64 n)],.obj 43 [.p (.str s)]])
    |.pan (.ifc 39 false [.int .i64 k]),[.ptr 0 0,.ptr 1 0],[.obj 24 [.p (.str w),.nilS],.obj 3 [.p (.int .i64 n)],.pack [.obj 43 [.p (.str s)]]]=>some (True,.ret,[.obj 24 [.p (.str []),.nilS],.obj 3 [.p (.int .i64 k)],.obj 43 [.p (.str s)]])
    |_,_,_=>none
  ok:=by
    intro m caps hp p m' hp' h _
    split at h
    · cases h;exact zd8 _ _ _ _
    · cases h;exact zd7 _ _ _ _
    · cases h
theorem zc0 (s:Str) (hneed:s.length≤1000000):Spc Tryz.prog 7 [.v (.one (.p (.str s)))] [] (.ret (.tup [(.agg [(.p (.str ((zI s).1.word))),(.p (.list .fld ((zI s).1.params)))]),(.one (.p (.int .i64 ((zI s).2))))])) []:=by
  generalize hr:zI s=r
  obtain⟨⟨w,ps⟩,c⟩:=r
  unfold zI at hr
  refine zeD zN mixed Tryz.func7 (by kernel_rfl) { cfgM with keep:=some [0,2,3,4]} [uI,uH,zc2,zc1] zeH (by kernel_rfl) ?_
  intro I X hI hX
  refine zJ (.need (I.hid (α:=(Prop)) (LE.le (List.length s) 1000000)) (.br (I.bnot (I.hid (α:=Bool) (yc s))) (.fin (.ret (.tup [(.agg [(.p (.str ([]:Str))),(.p (.list .fld ([]:List Fld)))]),(.one (.p (.int .i64 3)))])) []) (.br (I.hid (α:=Bool) (Decidable.decide (Eq (Prod.fst (yu s)) (0:Int)))) (.need (I.hid (α:=(Prop)) (And (LE.le (List.length s) 1000000) (Eq (Prod.fst (yu s)) (0:Int)))) (.need True (.fin (.ret (.tup [(.agg [(.p (.str (I.hid (α:=Str) (Go.Ab.Med.word (Prod.fst (Prod.snd (yu s))))))),(.p (.list .fld (I.hid (α:=(List Fld)) (Go.Ab.Med.params (Prod.fst (Prod.snd (yu s)))))))]),(.one (.p (.int .i64 0)))])) []))) (.need (I.hid (α:=(Prop)) (And (LE.le (List.length s) 1000000) (Not (Eq (Prod.fst (yu s)) (0:Int))))) (.need True (.fin (.ret (.tup [(.agg [(.p (.str ([]:Str))),(.p (.list .fld ([]:List Fld)))]),(.one (.p (.int .i64 (I.hid (α:=Int) (Prod.fst (yu s))))))])) [])))))) (by kernel_rfl) ?_
  simp only [yg]
  subst hI
  simp only [nrmA,nrmB,nrlB,reduceCtorEq,V0.agg.injEq]
  (repeat' (first|refine And.intro ?_ ?_|intro _))<;>first|omega|exact True.intro|exact False.elim ‹False›|skip
  all_goals first|(simp_all;done)|trace_state
def rV (I:Alg) (args:List D) (hp:List HO):Option CT:=match args,hp with
  |[.v (.one (.p (.str s)))],[]=>(fun(s:Str)=>(some (.one ⟨I.hid (s.length≤1000000),(.ret (.tup [(.agg [(.p (.str (I.hid ((zI s).1.word)))),(.p (.list .fld (I.hid ((zI s).1.params))))]),(.one (.p (.int .i64 (I.hid ((zI s).2)))))])),[]⟩):Option CT)) s
  |_,_=>none
theorem Vo:yH Tryz.prog 7 (rV alg):=by
  intro args hp r h
  unfold rV at h
  split at h
  · cases h;exact fun hn=>zc0 _ hn
  · cases h
def Vm:Know Tryz.prog:=⟨7,rV,Vo⟩
def Vl:Know Tryz.prog:=⟨7,fun I=>xh I (rV I),zH Vo⟩
end Go.Proofs.YtlpmdnffdmdahaaGreatDoor
namespace Go.Proofs.YtlpmdnffdmdahaaGreatDoor
open Go Go.Sep Go.Ab
set_option maxRecDepth 100000
def medS (n:Nat) (l:List Fld) (x:Int × Fld × Str):Int × List Fld × Str:=
  if x.1≠0 then(x.1,l,x.2.2) else if(getP l x.2.1.name).2=true then(9,l,x.2.2) else if l.length=8 then(8,l,x.2.2) else medL n (skS x.2.2) (l++[x.2.1])
theorem zaI (n:Nat) (s:Str) (l:List Fld):medL (n+1) s l=if zQ s 59=true then medS n l (parM (skS (s.drop 1))) else if s=[] then(0,l,s) else(5,l,s):=rfl
theorem zcX {x:UInt8} (r:Str) (h:x=34):quoF (x::r)=some ([],r):=by
  subst h;cases r<;>simp [quoF]
theorem zcW {x:UInt8} (y:UInt8) (r:Str) (h:x=92):quoF (x::y::r)=(quoF r).map (fun p=>(y::p.1,p.2)):=by
  subst h;simp [quoF]
theorem zdR {x:UInt8} (r:Str) (h: ¬ x=34) (k: ¬ x=92):quoF (x::r)=(quoF r).map (fun p=>(x::p.1,p.2)):=by
  cases r<;>simp [quoF,h,k]
end Go.Proofs.YtlpmdnffdmdahaaGreatDoor
namespace Go.Proofs.YtlpmdnffdmdahaaGreatDoor
open Go Go.Sep Go.Ab
set_option maxRecDepth 100000
end Go.Proofs.YtlpmdnffdmdahaaGreatDoor
namespace Go.Proofs.YtlpmdnffdmdahaaGreatDoor
open Go Go.Sep Go.Ab
set_option maxRecDepth 100000
def cutB (s:Str) (c:UInt8):Str × Str × Bool:=
  if 0≤Lib.indexByte s c then(s.take (Lib.indexByte s c).toNat,s.drop ((Lib.indexByte s c).toNat+1),true) else(s,[],false)
theorem zcm (s:Str) (c:UInt8):(cutB s c).1.length≤s.length∧(cutB s c).2.1.length≤s.length:=by
  unfold cutB
  split
  · simp only [List.length_take,List.length_drop];omega
  · simp
theorem zdJ (s:Str) (c:UInt8) (hneed:s.length≤1000000):Spc Tryz.prog 48 [.v (.one (.p (.str s))),.v (.one (.p (.str ([c]))))] [] (.ret (.tup [(.one (.p (.str ((cutB s c).1)))),(.one (.p (.str ((cutB s c).2.1)))),(.one (.p (.bool ((cutB s c).2.2))))])) []:=by
  generalize hr:cutB s c=r
  obtain⟨a,b,d⟩:=r
  refine spcG zN mixed Tryz.func48 (by kernel_rfl) { keep:=some [0,1,4,5,6,7]} [zaS,zaR] (by kernel_rfl) ?_
  intro I X hI hX
  refine zJ (let y0:=I.hid (α:=Int) (Go.Lib.indexByte s c);let y1:=I.add y0 (I.len (α:=UInt8) ([c]:Str));.need (I.hid (α:=(Prop)) True) (.br (I.ile 0 y0) (.need (I.cutb 0 y0 (I.len (α:=UInt8) s)) (.need (I.inr Go.IntKind.i64 y1) (.need (I.cutb y1 (I.len (α:=UInt8) s) (I.len (α:=UInt8) s)) (.fin (.ret (.tup [(.one (.p (.str (I.cut (α:=UInt8) s 0 y0)))),(.one (.p (.str (I.cut (α:=UInt8) s y1 (I.len (α:=UInt8) s))))),(.one (.p (.bool Bool.true)))])) [])))) (.fin (.ret (.tup [(.one (.p (.str s))),(.one (.p (.str ([]:Str)))),(.one (.p (.bool Bool.false)))])) []))) (by kernel_rfl) ?_
  simp only [yg]
  subst hI
  simp only [nrmA,nrmB]
  have hx:=wW s c
  simp only [List.length_cons,List.length_nil]
  refine⟨fun h=> ?_,fun h=> ?_⟩
  · rw [cutB,if_pos h] at hr
    simp only [Prod.mk.injEq] at hr
    obtain⟨rfl,rfl,rfl⟩:=hr
    refine⟨by omega,by omega,by omega,?_⟩
    rw [show(Lib.indexByte s c+((0+1:Nat):Int)).toNat=(Lib.indexByte s c).toNat+1 by omega]
    have e:List.take (s.length - ((Lib.indexByte s c).toNat+1)) (List.drop ((Lib.indexByte s c).toNat+1) s)=List.drop ((Lib.indexByte s c).toNat+1) s:=List.take_of_length_le (by rw [List.length_drop];exact Nat.le_refl _)
    rw [e]
  · rw [cutB,if_neg h] at hr
    simp only [Prod.mk.injEq] at hr
    obtain⟨rfl,rfl,rfl⟩:=hr
    rfl
def ZF (I:Alg) (args:List D) (hp:List HO):Option CT:=match args,hp with
  |[.v (.one (.p (.str s))),.v (.one (.p (.str ([c]))))],[]=>(fun(s:Str) (c:UInt8)=>(some (.one ⟨I.hid (s.length≤1000000),(.ret (.tup [(.one (.p (.str (I.hid ((cutB s c).1))))),(.one (.p (.str (I.hid ((cutB s c).2.1))))),(.one (.p (.bool (I.hid ((cutB s c).2.2)))))])),[]⟩):Option CT)) s c
  |_,_=>none
theorem TA:yH Tryz.prog 48 (ZF alg):=by
  intro args hp r h
  unfold ZF at h
  split at h
  · cases h;exact fun hn=>zdJ _ _ hn
  · cases h
def zbS:Know Tryz.prog:=⟨48,ZF,TA⟩
def zbR:Know Tryz.prog:=⟨48,fun I=>xh I (ZF I),zH TA⟩
theorem zeE (s:Str) (c:UInt8) (hneed:s.length≤1000000):Spc Tryz.prog 40 [.v (.one (.p (.str s))),.v (.one (.p (.str ([c]))))] [] (.ret (.tup [(.one (.p (.str ((cutB s c).1)))),(.one (.p (.str ((cutB s c).2.1)))),(.one (.p (.bool ((cutB s c).2.2))))])) []:=by
  refine spcG zN mixed Tryz.func40 (by kernel_rfl) { keep:=some [0,1,4,5,6]} [zbS,zbR] (by kernel_rfl) ?_
  intro I X hI hX
  refine zJ (.need (I.hid (α:=(Prop)) (LE.le (List.length s) 1000000)) (.fin (.ret (.tup [(.one (.p (.str (I.hid (α:=Str) (Prod.fst (cutB s c)))))),(.one (.p (.str (I.hid (α:=Str) (Prod.fst (Prod.snd (cutB s c))))))),(.one (.p (.bool (I.hid (α:=Bool) (Prod.snd (Prod.snd (cutB s c)))))))])) [])) (by kernel_rfl) ?_
  simp only [yg]
  subst hI
  simp only [nrmA,nrmB]
  exact hneed
def XQ (I:Alg) (args:List D) (hp:List HO):Option CT:=match args,hp with
  |[.v (.one (.p (.str s))),.v (.one (.p (.str ([c]))))],[]=>(fun(s:Str) (c:UInt8)=>(some (.one ⟨I.hid (s.length≤1000000),(.ret (.tup [(.one (.p (.str (I.hid ((cutB s c).1))))),(.one (.p (.str (I.hid ((cutB s c).2.1))))),(.one (.p (.bool (I.hid ((cutB s c).2.2)))))])),[]⟩):Option CT)) s c
  |_,_=>none
theorem zah:yH Tryz.prog 40 (XQ alg):=by
  intro args hp r h
  unfold XQ at h
  split at h
  · cases h;exact fun hn=>zeE _ _ hn
  · cases h
def zcU:Know Tryz.prog:=⟨40,XQ,zah⟩
def zcT:Know Tryz.prog:=⟨40,fun I=>xh I (XQ I),zH zah⟩
end Go.Proofs.YtlpmdnffdmdahaaGreatDoor
namespace Go.Proofs.YtlpmdnffdmdahaaGreatDoor
open Go Go.Sep Go.Ab
set_option maxRecDepth 100000
end Go.Proofs.YtlpmdnffdmdahaaGreatDoor
namespace Go.Proofs.YtlpmdnffdmdahaaGreatDoor
open Go Go.Sep Go.Ab
set_option maxRecDepth 100000
theorem zdr {x y:Fld} (h1:x.name=y.name) (h2:x.value=y.value):x=y:=by cases x;cases y;simp_all
end Go.Proofs.YtlpmdnffdmdahaaGreatDoor
namespace Go.Proofs.YtlpmdnffdmdahaaGreatDoor
open Go Go.Sep Go.Ab
set_option maxRecDepth 100000
def mdB (a:Str) (l:List Fld) (b:Str) (m:List Fld):Bool:=decide ((⟨a,l⟩:Med)=⟨b,m⟩)
theorem zcj {l m:List Fld} {i:Nat} (d:Fld) (h1:i<l.length) (h2:i<m.length):(decide (l.drop i=m.drop i))=(decide (l.getD i d=m.getD i d)&&decide (l.drop (i+1)=m.drop (i+1))):=by
  have e1:l.getD i d=l[i]:=by simp [h1]
  have e2:m.getD i d=m[i]:=by simp [h2]
  rw [e1,e2,Bool.eq_iff_iff,Bool.and_eq_true,decide_eq_true_iff,decide_eq_true_iff,decide_eq_true_iff,List.drop_eq_getElem_cons h1,List.drop_eq_getElem_cons h2,List.cons.injEq]
theorem zcS (a:Str) (l:List Fld) (b:Str) (m:List Fld) (hneed:l.length≤100000000∧m.length≤100000000):Spc Tryz.prog 13 [.v (.agg [(.p (.str a)),(.p (.list .fld l))]),.v (.agg [(.p (.str b)),(.p (.list .fld m))])] [] (.ret (.v (.one (.p (.bool ((mdB a l b m))))))) []:=by
  obtain⟨hl,hm⟩:=hneed
  generalize hr:mdB a l b m=r
  have e1: ¬ a=b→r=false:=fun h=>by rw [← hr];exact decide_eq_false fun e=>h (congrArg Med.word e)
  have e2: ¬ l.length=m.length→r=false:=fun h=>by rw [← hr];exact decide_eq_false fun e=>h (congrArg (fun x:Med=>x.params.length) e)
  have e3:a=b→r=decide (l.drop 0=m.drop 0):=fun h=>by
    rw [← hr,h]
    unfold mdB
    rw [Bool.eq_iff_iff,decide_eq_true_iff,decide_eq_true_iff]
    exact⟨fun e=>congrArg Med.params e,fun e=>by rw [show l=m from e]⟩
  clear hr
  refine spcG zN mixed Tryz.func13 (by kernel_rfl) { keep:=some [0,1,2,3,4,5]} [] (by kernel_rfl) ?_
  intro I X hI hX
  refine zJ (.br (I.bnot (I.seq a b)) (.fin (.ret (.v (.one (.p (.bool Bool.false))))) []) (.br (I.bnot (I.ieq (I.len (α:=Fld) l) (I.len (α:=Fld) m))) (.fin (.ret (.v (.one (.p (.bool Bool.false))))) []) (.code 0 [1,1,0,1,0] ⟨[(5,(.v (.one (.p (.int .i64 0))))),(4,(.v (.one (.p (.val (.bool .false)))))),(3,(.v (.one (.ptr 1 0)))),(2,(.v (.one (.ptr 0 0)))),(0,(.v (.agg [(.p (.str a)),(.p (.list .fld l))]))),(1,(.v (.agg [(.p (.str b)),(.p (.list .fld m))])))],[(.obj 24 [(.p (.str a)),(.p (.list .fld l))]),(.obj 24 [(.p (.str b)),(.p (.list .fld m))])],38,none⟩))) (by kernel_rfl) ?_
  simp only [yg]
  (repeat' (first|refine And.intro ?_ ?_|intro _))
  all_goals try(subst hI;(simp only [nrmA,nrmB,nrlB,reduceCtorEq] at *);first|done|trivial|exact(e1 ‹_›).symm|exact(e2 (by omega)).symm)
  have hlm:l.length=m.length:=by
    subst hI
    simp only [nrmA,nrmB,nrlB,reduceCtorEq] at *
    omega
  have hr2:r=decide (l.drop 0=m.drop 0):=by
    subst hI
    simp only [nrmA,nrmB,nrlB,reduceCtorEq] at *
    exact e3 ‹_›
  refine yZ hI zN mixed [] hX [2,3,5] (fun(i:Nat)=>i≤l.length∧r=decide (l.drop i=m.drop i)) (fun(i:Nat)=>⟨[(2,.v (.one (.ptr 0 0))),(3,.v (.one (.ptr 1 0))),(5,.v (.one (.p (.int .i64 i))))],[.pack [.obj 24 [(.p (.str a)),(.p (.list .fld l))]],.pack [.obj 24 [(.p (.str b)),(.p (.list .fld m))]]],38,none⟩) (fun(i:Nat)=>l.length - i) 0 (by kernel_rfl) (by kernel_rfl) ?_ ?_
  · exact⟨Nat.zero_le _,hr2⟩
  rintro i ⟨h1,h2⟩ A hA
  refine zJ (let y0:=I.get (α:=Fld) l (Fld.mk ([]:Str) ([]:Str)) (Nat.cast i);let y1:=I.get (α:=Fld) m (Fld.mk ([]:Str) ([]:Str)) (Nat.cast i);let y2:=I.inb (Nat.cast i) (I.len (α:=Fld) l);let y3:=I.inb (Nat.cast i) (I.len (α:=Fld) m);.br (I.ilt (Nat.cast i) (I.len (α:=Fld) l)) (.need y2 (.need y2 (.need y3 (.need y3 (.br (I.bnot (I.ban (I.seq (Fld.name y0) (Fld.name y1)) (I.seq (Fld.value y0) (Fld.value y1)))) (.fin (.ret (.v (.one (.p (.bool Bool.false))))) []) (.need (I.inr Go.IntKind.i64 (I.add (Nat.cast i) 1)) (.need (A ⟨[(2,(.v (.one (.ptr 0 0)))),(3,(.v (.one (.ptr 1 0)))),(5,(.v (.one (.p (.int .i64 (I.add (Nat.cast i) 1))))))],[(.pack [(.obj 24 [(.p (.str a)),(.p (.list .fld l))])]),(.pack [(.obj 24 [(.p (.str b)),(.p (.list .fld m))])])],38,none⟩) .qed))))))) (.fin (.ret (.v (.one (.p (.bool Bool.true))))) [])) (by kernel_rfl) ?_
  simp only [yg]
  subst hI
  simp only [nrmA,nrmB,nrlB,reduceCtorEq,HO.pack.injEq,HO.obj.injEq]
  have hd:i<l.length→_:=fun h=>zcj (l:=l) (m:=m) (i:=i) ⟨[],[]⟩ h (by omega)
  have hend: ¬ i<l.length→r=true:=fun h=>by
    rw [h2,List.drop_of_length_le (by omega),List.drop_of_length_le (by omega)];simp
  generalize l.getD i ⟨[],[]⟩=x at *
  generalize m.getD i ⟨[],[]⟩=y at *
  have hx: ¬ x=y→i<l.length→r=false:=fun h hi=>by rw [h2,hd hi,decide_eq_false h,Bool.false_and]
  have hy:x=y→i<l.length→r=decide (l.drop (i+1)=m.drop (i+1)):=fun h hi=>by rw [h2,hd hi,decide_eq_true h,Bool.true_and]
  (repeat' (first|refine And.intro ?_ ?_|intro _))<;>first|omega|exact True.intro|exact False.elim ‹False›|skip
  all_goals first
    |omega
    |(exact(hx (by rintro rfl;simp_all) (by omega)).symm)
    |(rw [hx (by rintro rfl;simp_all) (by omega)])
    |exact hA (i+1) ⟨by omega,hy (zdr (by simp_all) (by simp_all)) (by omega)⟩ (by omega)
    |(rw [hend (by omega)])
def rJ (I:Alg) (args:List D) (hp:List HO):Option CT:=match args,hp with
  |[.v (.agg [(.p (.str a)),(.p (.list .fld l))]),.v (.agg [(.p (.str b)),(.p (.list .fld m))])],[]=>(fun(a:Str) (l:List Fld) (b:Str) (m:List Fld)=>(some (.one ⟨I.hid (l.length≤100000000∧m.length≤100000000),(.ret (.v (.one (.p (.bool (I.hid ((mdB a l b m)))))))),[]⟩):Option CT)) a l b m
  |_,_=>none
theorem Ve:yH Tryz.prog 13 (rJ alg):=by
  intro args hp r h
  unfold rJ at h
  split at h
  · cases h;exact fun hn=>zcS _ _ _ _ hn
  · cases h
def zaf:Know Tryz.prog:=⟨13,rJ,Ve⟩
def zae:Know Tryz.prog:=⟨13,fun I=>xh I (rJ I),zH Ve⟩
end Go.Proofs.YtlpmdnffdmdahaaGreatDoor
namespace Go.Proofs.YtlpmdnffdmdahaaGreatDoor
set_option maxRecDepth 100000
open Go Go.Sep
theorem Xl (w:World):(callFunc 86 #[]).run Tryz.prog w=.ok (.value (.tuple #[])) w:=run_call_mark0 Tryz.func86 (by kernel_rfl) (by kernel_rfl) (by kernel_rfl) .disable (by kernel_rfl) w
theorem Vq (w:World):(callFunc 88 #[]).run Tryz.prog w=.ok (.value (.tuple #[])) w:=run_call_mark0 Tryz.func88 (by kernel_rfl) (by kernel_rfl) (by kernel_rfl) .enable (by kernel_rfl) w
theorem Qj (a:Addr) (w:World):(callFunc 89 #[.pointer (some a)]).run Tryz.prog w=.ok (.value (.tuple #[])) w:=run_call_marked Tryz.func89 (by kernel_rfl) (by kernel_rfl) (by kernel_rfl) .acquire (by kernel_rfl) a w
theorem Qi (a:Addr) (w:World):(callFunc 91 #[.pointer (some a)]).run Tryz.prog w=.ok (.value (.tuple #[])) w:=run_call_marked Tryz.func91 (by kernel_rfl) (by kernel_rfl) (by kernel_rfl) .releaseMerge (by kernel_rfl) a w
theorem zb5 (a:Addr) (x:Value) (u:FrameMode) (w:World) (hc:w.cell? a=some x) (hz:w.frozen? a=false):
    CallsD Tryz.prog 73 #[.pointer (some a),.bool true] u w fun e u' w'=>u'=u∧(e=.returned (.tuple #[])∧w'=w.drew.setCell a (.int .u32 1)):=by
  have hc':w.drew.cell? a=some x:=by go_simp
  have hz':w.drew.frozen? a=false:=by go_simp
  have hst:=run_call_store (P:=Tryz.prog) Tryz.func81 (by kernel_rfl) (by kernel_rfl) (by kernel_rfl) (by kernel_rfl) (k:=.u32) (y:=1) hc' hz'
  go_enter_d Tryz.func73,Tryz.ntmps73
  go_wp2
  go_region_calls
  all_goals(go_end0;exact⟨rfl,rfl⟩)
theorem zaC (a:Addr) (u:FrameMode) (w:World) (hc:w.cell? a=some (.int .i32 1)) (hz:w.frozen? a=false):
    CallsD Tryz.prog 72 #[.pointer (some a)] u w fun e u' w'=>u'=u∧(e=.returned (.tuple #[])∧w'=w.setCell a (.int .i32 0)):=by
  have hd:=Xl
  have he:=Vq
  have hr:=Qi
  have hadd:=run_call_add (P:=Tryz.prog) Tryz.func92 (by kernel_rfl) (by kernel_rfl) (by kernel_rfl) .i32 (by kernel_rfl) (y:= -1) (s:=0) hc hz (by simp [go_sem];rfl)
  have hcv:=run_convert_to_unsafe (P:=Tryz.prog) (src:=134) (dst:=138) Tryz.underlying134 Tryz.underlying138 (by kernel_rfl) hc
  go_enter_d Tryz.func72,Tryz.ntmps72
  go_wp2
  go_end0
  go_wp2
  go_end0
  exact⟨rfl,rfl⟩
theorem zc7 (a:Addr) (w:World) (hc:w.cell? a=some (.int .i32 0)) (hz:w.frozen? a=false):
    Calls Tryz.prog 71 #[.pointer (some a)] w fun e w'=>e=.returned (.tuple #[])∧w'=w.setCell a (.int .i32 1):=by
  have hd:=Xl
  have he:=Vq
  have ha:=Qj
  have hcas:=run_call_cas_hit (P:=Tryz.prog) Tryz.func87 (by kernel_rfl) (by kernel_rfl) (by kernel_rfl) .i32 (by kernel_rfl) (y:=1) hc hz
  have hc':(w.setCell a (.int .i32 1)).cell? a=some (.int .i32 1):=World.cell?_setCell_same w a _ hc
  have hcv:=run_convert_to_unsafe (P:=Tryz.prog) (src:=134) (dst:=138) Tryz.underlying134 Tryz.underlying138 (by kernel_rfl) hc'
  go_enter Tryz.func71,Tryz.ntmps71
  go_wp2
  first|go_end0|(simp only [Exit.inBlock,Exit.then];refine bodyPost_ret (results_none rfl _ _ _) rfl ?_)|refine bodyPost_ret (results_none rfl _ _ _) rfl ?_
  go_wp2
  go_end0
  exact⟨rfl,rfl⟩
end Go.Proofs.YtlpmdnffdmdahaaGreatDoor
namespace Go.Proofs.YtlpmdnffdmdahaaGreatDoor
open Go
theorem sz_5:(Tryz.prog.info? 5).map (·.size)=some 1:=by kernel_rfl
theorem in_5:(Tryz.prog.info? 5).map (fun i=>(i.zero,i.size,i.bytes))=some (some (.int .u8 0),1,1):=by kernel_rfl
theorem sz_9:(Tryz.prog.info? 9).map (·.size)=some 1:=by kernel_rfl
theorem in_9:(Tryz.prog.info? 9).map (fun i=>(i.zero,i.size,i.bytes))=some (some (.string ⟨#[]⟩),1,16):=by kernel_rfl
theorem tZ:(Tryz.prog.info? 50).map (·.size)=some 1:=by kernel_rfl
theorem uq:(Tryz.prog.info? 65).map (·.size)=some 1:=by kernel_rfl
theorem zdH:(Tryz.prog.info? 79).map (·.size)=some 1:=by kernel_rfl
end Go.Proofs.YtlpmdnffdmdahaaGreatDoor
namespace Go.Proofs.YtlpmdnffdmdahaaGreatDoor
open Go Go.RowKit Go.Sep
set_option maxRecDepth 100000
theorem putS (a:Act) (d:Tmp) (v:Value):a.put (some d) v= { a with tmps:=a.tmps.setIfInBounds d v}:=rfl
theorem putN (a:Act) (v:Value):a.put none v=a:=rfl
theorem putL:type_of% (And.intro putS <| And.intro putN <| And.intro (@List.setIfInBounds_toArray Value) <| And.intro (@List.set_cons_succ Value) (@List.set_cons_zero Value)):=And.intro putS <| And.intro putN <| And.intro (@List.setIfInBounds_toArray Value) <| And.intro (@List.set_cons_succ Value) (@List.set_cons_zero Value)
set_option maxHeartbeats 4000000 in
theorem zb7 (ao:Option Addr) (cap:Nat) (xs:List Value) (h1: ∀ v ∈ xs,v.oneCell'=true) (l:List Chunk) (w:World) (H:At w (rowC 9 1 (.slice ao 4 cap) 4 xs::l)):
    Calls Tryz.prog 43 #[.slice ao 4 cap] w fun e w'=>∃ b ao' cap',e=.returned (.pointer (some ⟨b,0,none⟩))∧
      At w' (objC b 81 [.int .u32 0,.int .i32 0,.int .u32 0,.nilIface,.slice ao' 4 cap']::rowC 9 1 (.slice ao' 4 cap') 4 xs::l):=by
  replace H:=H.nilRow 9 1
  go_enter Tryz.func43,Tryz.ntmps43
  go_wp2_with (first | ((with_reducible show wpList _ _ _ (⟨_,.call _,_,_,_,_⟩::_) _ _);refine xk Tryz.underlying65 Tryz.underlying65 (fun k h=>by cases h) in_9 rfl rfl rfl (by first|with_reducible exact H|with_reducible exact H.p1|with_reducible exact H.p2|with_reducible exact H.p3|with_reducible exact H.p4|with_reducible exact H.p5|with_reducible exact H.p6|exact H|exact H.p1|exact H.p2|exact H.p3|exact H.p4|exact H.p5|exact H.p6) (Rd.src (by first|with_reducible exact H.rd|with_reducible exact H.p1.rd|with_reducible exact H.p2.rd|with_reducible exact H.p3.rd|with_reducible exact H.p4.rd|with_reducible exact H.p5.rd|with_reducible exact H.p6.rd|exact H.rd|exact H.p1.rd|exact H.p2.rd|exact H.p3.rd|exact H.p4.rd|exact H.p5.rd|exact H.p6.rd)) (by first|assumption|simp [Value.oneCell']) (by omega) (by omega) rfl ?_;intro ao9 cap9 w9 hc9 H1;replace H:=H1;clear H1;simp only [Act.put,List.setIfInBounds_toArray,List.set_cons_succ,List.set_cons_zero])
                                        |((with_reducible show wpList _ _ _ (⟨_,.box _ _,_,_,_,_⟩::_) _ _);refine zcI (T:=81) rfl [_,_,_,_,_] rfl H rfl ?_;intro b11 w11 H1;replace H:=H1;clear H1;simp only [Act.put,List.setIfInBounds_toArray,List.set_cons_succ,List.set_cons_zero]))
  go_ret
  exact⟨_,_,_,rfl,(At.sub (by repeat(first|with_reducible exact Sub.refl _|with_reducible exact Sub.nil _|with_reducible refine Sub.c0 ?_|with_reducible refine Sub.c1 ?_|with_reducible refine Sub.c2 ?_|with_reducible refine Sub.c3 ?_|with_reducible refine Sub.c4 ?_|with_reducible refine Sub.c5 ?_|with_reducible refine Sub.c6 ?_|refine Sub.c0 ?_|refine Sub.c1 ?_|refine Sub.c2 ?_|refine Sub.c3 ?_|refine Sub.c4 ?_|refine Sub.c5 ?_|refine Sub.c6 ?_|with_reducible refine Sub.drop ?_)) H)⟩
def nils:List Value:=List.replicate 256 (.slice none 0 0)
def bs0 (x:Value):List Value:=nils++[x]
theorem sW (x:Value):(bs0 x).length=257:=by simp [bs0,nils]
theorem zbn (x v:Value):(bs0 x).set 256 v=bs0 v:=by
  unfold bs0
  rw [List.set_append_right _ _ (by simp [nils])]
  simp [nils]
theorem zdA:(Tryz.prog.info? 111).map (fun i=>(i.zero.map (fun z=>z.cells),i.size))=some (some (bs0 (.slice none 0 0)).toArray,257):=by kernel_rfl
theorem WJ: ∃ i z,Tryz.prog.info? 111=some i∧i.zero=some z∧z.cells=(bs0 (.slice none 0 0)).toArray∧i.size=257:=by
  have h:=zdA
  cases hi:Tryz.prog.info? 111 with
  |none=>rw [hi] at h;cases h
  | some i=>
    rw [hi] at h
    simp only [Option.map_some,Option.some.injEq,Prod.mk.injEq] at h
    cases hz:i.zero with
    |none=>rw [hz] at h;simp at h
    |some z=>rw [hz] at h;simp only [Option.map_some,Option.some.injEq] at h;exact⟨i,z,rfl,hz,h.1,h.2⟩
theorem zbm (x:Value) (hx:x.cells= #[x]) (w:World):(Instr.build 111 #[(1,x)]).run Tryz.prog w=.ok (.agg (bs0 x).toArray) w:=by
  obtain⟨i,z,hi,hz,hc,hs⟩:=WJ
  have hu:=Tryz.underlying111
  have h1:(Tryz.prog.info? 109).map (·.size)=some 256:=by kernel_rfl
  have h2:(Tryz.prog.info? 65).map (·.size)=some 1:=by kernel_rfl
  obtain⟨i1,hi1,hs1⟩: ∃ i,Tryz.prog.info? 109=some i∧i.size=256:=by
    cases h:Tryz.prog.info? 109 with
    |none=>rw [h] at h1;cases h1
    |some i=>rw [h] at h1;exact⟨i,rfl,by simpa using h1⟩
  obtain⟨i2,hi2,hs2⟩: ∃ i,Tryz.prog.info? 65=some i∧i.size=1:=by
    cases h:Tryz.prog.info? 65 with
    |none=>rw [h] at h2;cases h2
    |some i=>rw [h] at h2;exact⟨i,rfl,by simpa using h2⟩
  have hfill:Instr.fill ([(0,256),(256,1)][·]?) (bs0 (.slice none 0 0)).toArray [(1,x)]=some (bs0 x).toArray:=by
    unfold Instr.fill
    simp only [List.getElem?_cons_succ,List.getElem?_cons_zero,hx,List.size_toArray,List.length_cons,List.length_nil,sW]
    rw [if_neg (by decide)]
    simp only [Instr.fill,Option.some.injEq]
    have:(Array.foldl (fun cs y=>match y with|(c,j)=>cs.setIfInBounds (256+j) c) (bs0 (.slice none 0 0)).toArray (#[x]:Array Value).zipIdx)=(bs0 (.slice none 0 0)).toArray.setIfInBounds 256 x:=by simp
    rw [this]
    simp [bs0,nils]
  simp only [Instr.build,zeroValue,typeInfo,sizeOf,run_underlying hu,Sem.run_bind,Sem.run_pure,Result.andThen_ok]
  simp [hi,hz,hc,hi1,hs1,hi2,hs2,hfill]
section
variable {P:Program} {w:World} {ops:Array Oper} {rest:List Oper} {a:Act} {Q:Exit→Act→World→Prop} {dst:Option Tmp} {ty:TypeId} {pos:String} {af:Array Edge} {gd:Option (Nat × Bool)}
theorem QM {T E : TypeId} {x y : Operand} {l : List Chunk} (ht : P.underlying T =some (.slice E)) {z:Value} {bytes:Nat} (hinfo:(P.info? E).map (fun i=>(i.zero,i.size,i.bytes))=some (some z,1,bytes)) (hzc:z.cells= #[z]) (n c:Nat) {k1 k2:IntKind} {m1 m2:Int}
    (hx:a.eval x=.int k1 m1) (hy:a.eval y=.int k2 m2) (e1:m1=n) (e2:m2=c) (hnc:n≤c) (hb:bytes * c≤281474976710656) (hm:c≤maxLen) (H:At w l)
    (hw:Region.wanted ⟨dst,.makeSlice T x y,ty,pos,af,gd⟩ (yielded ops a.tmps)=true)
    (h: ∀ ao w',At w' (rowC E 1 (.slice ao n c) n (List.replicate n z)::l)→wpList P ops Q rest (a.put dst (.slice ao n c)) w'):wpList P ops Q (⟨dst,.makeSlice T x y,ty,pos,af,gd⟩::rest) a w:=by
  obtain⟨i,hi,hz⟩:=Option.map_eq_some_iff.1 hinfo
  simp only [Prod.mk.injEq] at hz
  obtain⟨hz0,hz1,hz2⟩:=hz
  subst e1 e2
  have hr := run_make (P := P) w T E i z ht hi hz0 k1 k2 n c (by omega) (by omega) (by have:((i.bytes * c:Nat):Int)≤281474976710656:=by rw [hz2];omega
                                                                                       rwa [Int.natCast_mul] at this) (by unfold maxLen at hm;omega)
  rw [hz1,Nat.mul_one,hzc] at hr
  simp only [Int.toNat_natCast] at hr
  have hA:At (w.alloc (.cells (madeCells #[z] c) E)) (rowC E 1 (.slice (some ⟨w.heap.size,0,none⟩) n c) n (List.replicate n z)::l):=
    H.new (A':=fun k=>k=w.heap.size) ⟨fun k=>⟨fun h=>by rw [h];rfl,fun h=>by cases h;rfl⟩,by simp,.inr ⟨w.heap.size,c,madeCells #[z] c,(0,0),rfl,heap_alloc_new w _,xq _,hnc,hm,by simp [size_madeCells],by rw [vP,Nat.mul_one,List.take_replicate,Nat.min_eq_left hnc]⟩⟩ (fun k h=>by omega) (xO w _)
  exact zf hw (by simp only [execOp,hx,hy,Sem.run_bind,hr,Result.andThen_ok,Sem.run_pure]) (h _ _ hA)
theorem zcG {y:Operand} {x:Value} (hy:a.eval y=x) (hx:x.cells= #[x]) (hw:Region.wanted ⟨dst,.build 111 #[(1,y)],ty,pos,af,gd⟩ (yielded ops a.tmps)=true)
    (h:wpList Tryz.prog ops Q rest (a.put dst (.agg (bs0 x).toArray)) w):wpList Tryz.prog ops Q (⟨dst,.build 111 #[(1,y)],ty,pos,af,gd⟩::rest) a w:=by
  refine zf hw (v:=.agg (bs0 x).toArray) (w':=w) ?_ h
  have:=zbm x hx w
  simp only [execOp,List.map_toArray,List.map_cons,List.map_nil,hy,Sem.run_bind,this,Result.andThen_ok,Sem.run_pure]
theorem RN {l:List Chunk} (H:At w l) (hw:Region.wanted ⟨dst,.alloc 111,ty,pos,af,gd⟩ (yielded ops a.tmps)=true)
    (h: ∀ b w',At w' (objC b 111 (bs0 (.slice none 0 0))::l)→wpList Tryz.prog ops Q rest (a.put dst (.pointer (some ⟨b,0,none⟩))) w'):wpList Tryz.prog ops Q (⟨dst,.alloc 111,ty,pos,af,gd⟩::rest) a w:=by
  obtain⟨i,z,hi,hz,hc,hs⟩:=WJ
  exact QO hi hz _ hc H hw h
theorem RJ {x y:Operand} {b:Nat} {v:Value} {l:List Chunk} (hx:a.eval x=.pointer (some ⟨b,0,none⟩)) (hy:a.eval y=.agg (bs0 v).toArray) (h1:v.oneCell'=true) (H:At w (objC b 111 (bs0 (.slice none 0 0))::l))
    (hw:Region.wanted ⟨dst,.store 111 x y,ty,pos,af,gd⟩ (yielded ops a.tmps)=true)
    (h: ∀ w',At w' (objC b 111 (bs0 v)::l)→wpList Tryz.prog ops Q rest (a.put dst undef) w'):wpList Tryz.prog ops Q (⟨dst,.store 111 x y,ty,pos,af,gd⟩::rest) a w:=by
  obtain⟨i,z,hi,hz,hc,hs⟩:=WJ
  have hst:=zW Tryz.prog b 0 111 (0,0) (bs0 v) 0 _ w H.obj (xq _) (by simp [sW]) (by
    intro u hu
    rcases List.mem_append.1 hu with hu|hu
    · rw [List.eq_of_mem_replicate hu];rfl
    · rw [List.mem_singleton.1 hu];exact h1)
  have e:((bs0 (.slice none 0 0)).toArray.toList.take (0+0)++bs0 v++(bs0 (.slice none 0 0)).toArray.toList.drop (0+0+(bs0 v).length))=bs0 v:=by
    have hl:List.drop (bs0 v).length (bs0 (.slice none 0 0))=[]:=List.drop_eq_nil_of_le (by rw [sW,sW];exact Nat.le_refl _)
    simp [hl]
  rw [e] at hst
  refine XK hw (w':=w.setRow b (bs0 v).toArray) ?_ (h _ ?_)
  · have:(Instr.storeAt 111 (.pointer (some ⟨b,0,none⟩)) (.agg (bs0 v).toArray)).run Tryz.prog w=.ok () (w.setRow b (bs0 v).toArray):=by
      have hsz:(Value.agg (bs0 v).toArray).cells.size=257:=by show(bs0 v).toArray.size=257;simp [sW]
      have hcl:(Value.agg (bs0 v).toArray).cells.toList=bs0 v:=rfl
      simp only [Instr.storeAt,Instr.sureAddr,storeVar,Sem.run_bind,Sem.run_pure,Result.andThen_ok,sizeOf,typeInfo]
      simp [hi,hs,hsz,hcl,hst]
    simp only [execOp,hx,hy,Sem.run_bind,this,Result.andThen_ok,Sem.run_pure]
  · exact H.step fun A hA=>⟨A,⟨hA.1,setRow_heap w b _ _ _ _ hA.2⟩,fun _ h=>.inl h,(yM w b _).mono fun k hk e=>hk.2 ((hA.1 k).2 e)⟩
end
end Go.Proofs.YtlpmdnffdmdahaaGreatDoor
