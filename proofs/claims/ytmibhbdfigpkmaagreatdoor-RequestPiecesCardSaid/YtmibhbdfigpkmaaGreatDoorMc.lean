/- Texts of this proof, one behind the other: AbP AbO ShpR Tab Laid Wrap InZ Shelf Lib ChrA ChrB ChrC LnL Fnd FldA ChrD ChkL FldB FldG FldD FldE ReqL ReqP LnA ChkA ChkI FldP ChrN ReqB Num ReqA Splt Pfx. -/
import Derived.Deep.LoopGhost
import Derived.Recover
import Derived.KernelRfl
import Derived.Test.YtmibhbdfigpkmaaGreatDoorProg
import Derived.WalkKit
import Derived.Lib.ItoaNum
import Derived.Lib.LaidTab
import Derived.Shelf.Vars
import Derived.HandedShaped
import Derived.WideShapes
import Derived.ChangeArms
import Derived.SizedLaws
import Derived.Shelf.Strings.SlTrimAscii
import Derived.Shelf.Strings.Trim
import Derived.Shelf.Small.Utf8
import Derived.Shelf.Small.Strs
import Derived.Shelf.Strconv.Itoa0
import Derived.Shelf.Strconv.Itoa1
import Derived.Shelf.LaysM
import Derived.Shelf.Strconv.Itoa2
import Derived.Shelf.Strconv.Itoa3
import Derived.Shelf.Strings.Search1
import Derived.Shelf.Strings.Search2
import Derived.Shelf.Strings.Search3
import Derived.Shelf.Strings.Cut
import Derived.Shelf.Strings.Count
import Derived.Shelf.Strings.Shaped
import Derived.Shelf.Strings.Prefix
import Derived.Shelf.Strings.Split
import Derived.Shelf.Strings.Runes
import Derived.Shelf.Strings.IndexAny
import Derived.Shelf.Strings.AsciiSet
import Derived.Shelf.Strings.IndexAnyAll
import Derived.Shelf.Unicode.DecodeSlow
import Derived.Below
import Derived.Lib.Split
import Derived.Lib.SplitLaws
import Derived.Test.YtmibhbdfigpkmaaGreatDoorMb
set_option linter.all false
namespace Go.Ab
open Go Go.Sep
variable [Facts]
theorem Qk {α:Type} (x:α):alg.hid x=x:=rfl
theorem zdX (k:IntKind) (x y:Int):alg.shl k x y=k.wrap (x * 2 ^ (min y.toNat k.bits)):=rfl
theorem zdW (x y:Int):alg.shr x y=x.fdiv (2 ^ (min y.toNat 64)):=rfl
theorem za1 (op:BinOp) (k:IntKind) (x y:Int):alg.bits op k x y=k.wrap (match op with
    |.and=>(BitVec.ofInt k.bits x&&& BitVec.ofInt k.bits y).toNat
    |.or=>(BitVec.ofInt k.bits x|||BitVec.ofInt k.bits y).toNat
    |_=>(BitVec.ofInt k.bits x ^^^ BitVec.ofInt k.bits y).toNat:Nat):=rfl
theorem zdb:IntKind.i64.min= -9223372036854775808:=by decide
theorem zdc:IntKind.i64.max=9223372036854775807:=by decide
theorem ze1:IntKind.u8.min=0:=by decide
theorem ze2:IntKind.u8.max=255:=by decide
theorem UU (c:UInt8):UInt8.ofNat ((c.toNat:Int)).toNat=c:=by simp
theorem zdO (c d:UInt8):((c.toNat:Int)=(d.toNat:Int))↔c=d:=by
  constructor
  · intro h;exact UInt8.toNat_inj.1 (by omega)
  · intro h;rw [h]
structure CR where
  need:Prop
  out:AOut
  hp:List HO
inductive CT where
  |one (r:CR)
  |br (b:Bool) (t f:CT)
def CT.Good (Pr:Program) (f:Nat) (args:List D) (hp:List HO):CT→Prop
  |.one r=>r.need→Spc Pr f args hp r.out r.hp
  |.br b t e=>(b=true→t.Good Pr f args hp)∧(b=false→e.Good Pr f args hp)
def CT.map (g:CR→CR):CT→CT
  |.one r=>.one (g r)
  |.br b t e=>.br b (t.map g) (e.map g)
def CT.mapO (g:CR→Option CR):CT→Option CT
  |.one r=>match g r with|some r=>some (.one r)|none=>none
  |.br b t e=>match t.mapO g,e.mapO g with|some t,some e=>some (.br b t e)|_,_=>none
def CT.tree (k:CR→Tree):CT→Tree
  |.one r=>k r
  |.br b t e=>.br b (t.tree k) (e.tree k)
theorem CT.Good.map {Pr:Program} {f f':Nat} {args args':List D} {hp hp':List HO} {g:CR→CR} (h: ∀ r:CR,(r.need→Spc Pr f args hp r.out r.hp)→(g r).need→Spc Pr f' args' hp' (g r).out (g r).hp): ∀ {c:CT},c.Good Pr f args hp→(c.map g).Good Pr f' args' hp'
  |.one r,hc=>h r hc
  |.br _ _ _,hc=>⟨fun e=>CT.Good.map h (hc.1 e),fun e=>CT.Good.map h (hc.2 e)⟩
theorem CT.Good.mapO {Pr:Program} {f f':Nat} {args args':List D} {hp hp':List HO} {g:CR→Option CR} (h: ∀ r r':CR,g r=some r'→(r.need→Spc Pr f args hp r.out r.hp)→r'.need→Spc Pr f' args' hp' r'.out r'.hp): ∀ {c c':CT},c.mapO g=some c'→c.Good Pr f args hp→c'.Good Pr f' args' hp'
  | .one r,c',e,hc=>by
    simp only [CT.mapO] at e
    split at e
    · rename_i r' hr;cases e;exact h r r' hr hc
    · cases e
  | .br b t f,c',e,hc=>by
    simp only [CT.mapO] at e
    split at e
    · rename_i t' f' ht hf;cases e;exact⟨fun e=>CT.Good.mapO h ht (hc.1 e),fun e=>CT.Good.mapO h hf (hc.2 e)⟩
    · cases e
structure Know (Pr:Program) where
  f:Nat
  c:Alg→List D→List HO→Option CT
  ok: ∀ args hp r,c alg args hp=some r→r.Good Pr f args hp
def ze4:List D→List Nat
  |[]=>[]
  |d::ds=>zeA d++ze4 ds
def Vg (hp:List HO) (args:List D):List Nat:=gather hp 60 (ze4 args) []
def frameC (c:List D→List HO→Option CT) (args:List D) (hp:List HO):Option CT:=
  match wC (Vg hp args) hp with
  |none=>none
  | some (os,hpr)=>match c (args.map (D.ren fun q=>idx q (Vg hp args) 0)) (os.map (HO.ren fun q=>idx q (Vg hp args) 0)) with
    |none=>none
    |some r=>some (r.map fun r=>⟨r.need,r.out.ren (ZJ (Vg hp args) hp.length),vO (ZJ (Vg hp args) hp.length) (Vg hp args) r.hp hpr⟩)
def Xi (I:Alg) (c:List D→List HO→Option CT):Nat→List D→List HO→Option CT
  |0,args,hp=>frameC c args hp
  | n + 1,args,hp=>match nth hp n with
    | some (.row u E l)=>(match Xi I c n (args.map (D.frz I n u l)) (setN (hp.map (HO.frz I n u l)) n .gone) with
      | some r=>r.mapO fun r=>(match noLA r.out,UY r.hp with
        |true,true=>some ⟨r.need,r.out,setN r.hp n (.row u E l)⟩
        |_,_=>none)
      |none=>none)
    |_=>Xi I c n args hp
def zL (I:Alg) (c:List D→List HO→Option CT) (args:List D) (hp:List HO):Option CT:=Xi I c hp.length args hp
def ask {Pr:Program} (I:Alg):List (Know Pr)→Nat→List D→List HO→Option CT
  |[],_,_,_=>none
  | k::r,f,args,hp=>match Nat.beq k.f f with
    |true=>(match frameC (k.c I) args hp with|some x=>some x|none=>ask I r f args hp)
    |false=>ask I r f args hp
def drive (q:Nat→List D→List HO→Option CT):Tree→Tree
  |.need p t=>.need p (drive q t)
  |.br b t f=>.br b (drive q t) (drive q f)
  | .call f args hp k=>WQ hp fun hp=>match q f args hp with
    |some r=>r.tree fun r=>.need r.need (WQ r.hp fun h=>drive q (k r.out h))
    |none=>.call f args hp fun o h=>drive q (k o h)
  |.code c st k=>.code c st k
  |.fin o hp=>.fin o hp
  |.both t f=>.both (drive q t) (drive q f)
  |.qed=>.qed
  |.stop n=>.stop n
def zI (Pr:Program) (f:Nat) (c:List D→List HO→Option CT):Prop:=∀ args hp r,c args hp=some r→r.Good Pr f args hp
section
variable {Pr:Program} {T:Tab} {X:Ctx} {G:AOut→List HO→Prop} {a:Act} {w:World}
theorem Xq {f:Nat} {c:List D→List HO→Option CT} (h:zI Pr f c):zI Pr f (frameC c):=by
  intro args hp r hr
  unfold frameC at hr
  split at hr
  · cases hr
  · rename_i os hpr ht
    split at hr
    · cases hr
    · rename_i r0 hc
      cases hr
      exact CT.Good.map (g:=fun r=>⟨r.need,r.out.ren (ZJ (Vg hp args) hp.length),vO (ZJ (Vg hp args) hp.length) (Vg hp args) r.hp hpr⟩) (fun r hs hn=>(hs hn).frame _ ht rfl rfl) (h _ _ _ hc)
theorem uP {f:Nat} {c:List D→List HO→Option CT} (h:zI Pr f c): ∀ n,zI Pr f (Xi alg c n)
  |0=>Xq h
  | n + 1 =>by
    intro args hp r hr
    unfold Xi at hr
    split at hr
    · rename_i u E l ho
      rw [zW] at ho
      split at hr
      · rename_i r0 hc
        refine CT.Good.mapO (fun r r' hrr hs hn=> ?_) hr (uP h n _ _ _ hc)
        split at hrr
        · rename_i h1 h2
          cases hrr
          exact Spc.zgK (hs hn) ho rfl rfl h1 h2
        · cases hrr
      · cases hr
    · exact uP h n _ _ _ hr
theorem zf {f:Nat} {c:List D→List HO→Option CT} (h:zI Pr f c):zI Pr f (zL alg c):=fun args hp=>uP h hp.length args hp
theorem Zm: ∀ {kn:List (Know Pr)} {f:Nat},zI Pr f (ask alg kn f)
  |[],f=>fun args hp r hr=>by cases hr
  | k ::r,f=>fun args hp x hr=>by
    unfold ask at hr
    split at hr
    · rename_i hb
      obtain rfl:=Nat.eq_of_beq_eq_true hb
      split at hr
      · rename_i y hy;cases hr;exact Xq k.ok args hp _ hy
      · exact Zm args hp x hr
    · exact Zm args hp x hr
theorem CT.yY {f:Nat} {args:List D} {hp:List HO} {k:AOut→List HO→Tree} {k':AOut→List HO→Tree} (ih: ∀ o h,(k' o h).ok Pr X G→(k o h).ok Pr X G): ∀ {c:CT},c.Good Pr f args hp→(c.tree fun r=>.need r.need (k' r.out r.hp)).ok Pr X G→∃ out hp',Spc Pr f args hp out hp'∧(k out hp').ok Pr X G
  |.one r,hc,h=>⟨r.out,r.hp,hc h.1,ih _ _ h.2⟩
  | .br b t e,hc,h=>by
    cases b with
    |true=>exact CT.yY ih (hc.1 rfl) (h.1 rfl)
    |false=>exact CT.yY ih (hc.2 rfl) (h.2 rfl)
theorem VN {q:Nat→List D→List HO→Option CT} (hq: ∀ f,zI Pr f (q f)): ∀ {t:Tree},(drive q t).ok Pr X G→t.ok Pr X G:=by
  intro t
  induction t with
  |need p t ih=>exact fun h=>⟨h.1,ih h.2⟩
  |br b t f ih1 ih2=>exact fun h=>⟨fun e=>ih1 (h.1 e),fun e=>ih2 (h.2 e)⟩
  | call f args hp k ih=>
    intro h
    simp only [drive,Xt] at h
    split at h
    · rename_i r hr;exact CT.yY (k':=fun o h=>drive q (k o h)) (fun o h=>ih o h) (hq f args hp r hr) h
    · obtain⟨o,hp',h1,h2⟩:=h;exact⟨o,hp',h1,ih _ _ h2⟩
  |code c st k ih=>exact fun h=>h
  |fin o hp=>exact fun h=>h
  |both t f ih1 ih2=>exact fun h=>⟨ih1 h.1,ih2 h.2⟩
  |qed=>exact fun h=>h
  |stop n=>exact fun h=>h
structure Rt where
  B:Code
  K:AEx→St→Tree
def zaU (fn:Func):Code:=match fn.body with|some c=>c|none=>.skip
def loopBody:Code→Code
  |.loop b=>b
  |c=>c
def cAt:List Nat→Code→Code
  |[],c=>c
  | n::p,c=>match c with
    |.seq a b=>(match n with|0=>cAt p a|_=>cAt p b)
    |.cond _ t e=>(match n with|0=>cAt p t|_=>cAt p e)
    |.block _ b=>cAt p b
    |c=>c
def kAt (I:Alg) (T:Tab) (cfg:Cfg):List Nat→Code→(AEx→St→Tree)→AEx→St→Tree
  |[],_,K=>K
  | n ::p,c,K=>match c with
    |.seq a b=>(match n with|0=>kAt I T cfg p a (fun e st=>match e with|.normal=>vc I T cfg b K st|e=>K e st)|_=>kAt I T cfg p b K)
    |.cond _ t e=>(match n with|0=>kAt I T cfg p t K|_=>kAt I T cfg p e K)
    | .block id b=>kAt I T cfg p b (fun e st=>match e with
      |.exit j=>(match Nat.beq j id with|true=>K .normal st|false=>K (.exit j) st)
      |e=>K e st)
    |_=>K
def rtAt:Nat→List Rt→Rt
  |_,[]=>⟨.skip,fun _ _=>.stop 50⟩
  |0,r::_=>r
  |n+1,_::l=>rtAt n l
def leaf (I:Alg) (T:Tab) (cfg:Cfg) (R:List Rt) (i:Nat) (p:List Nat) (st:St):Tree:=
  .code (cAt p (rtAt i R).B) st (kAt I T cfg p (rtAt i R).B (rtAt i R).K)
def zgQ (I:Alg) (T:Tab) (cfg:Cfg) (c:Code) (K:AEx→St→Tree) (st:St):Tree:=
  match c with
  |.region _ ops draw=>regT I T cfg ops draw K (st.tidy cfg.keep)
  |c=>vc I T cfg c K st
def go (I:Alg) (T:Tab) (cfg:Cfg) (kn:List (Know Pr)) (R:List Rt) (i:Nat) (p:List Nat) (st:St):Tree:=
  drive (ask I kn) (zgQ I T cfg (cAt p (rtAt i R).B) (kAt I T cfg p (rtAt i R).B (rtAt i R).K) st)
def cutM (cfg:Cfg) (k0:Nat) (dom:List Nat) (st:St):Option St:=St.cut cfg.fsl k0 dom (rP cfg.mv st)
def zgy (cfg:Cfg) (k0:Nat) (dom:List Nat) (A:St→Prop) (k:AEx→St→Tree):AEx→St→Tree:=fun e st=>
  match e with
  |.normal=>(match cutM cfg k0 dom st with|some s=>.need (A s) .qed|none=>.stop 19)
  |e=>k e st
def round (I:Alg) (T:Tab) (cfg:Cfg) (k0:Nat) (dom:List Nat) (A:St→Prop) (R:List Rt) (i:Nat) (p:List Nat):Rt:=
  ⟨loopBody (cAt p (rtAt i R).B),zgy cfg k0 dom A (kAt I T cfg p (rtAt i R).B (rtAt i R).K)⟩
inductive PT where
  |need (p:Prop) (t:PT)
  |br (b:Bool) (t f:PT)
  |code (i:Nat) (p:List Nat) (st:St)
  |fin (o:AOut) (hp:List HO)
  |both (t f:PT)
  |qed
  |stop (n:Nat)
def PT.inst (I:Alg) (T:Tab) (cfg:Cfg) (R:List Rt):PT→Tree
  |.need p t=>.need p (t.inst I T cfg R)
  |.br b t f=>.br b (t.inst I T cfg R) (f.inst I T cfg R)
  |.code i p st=>leaf I T cfg R i p st
  |.fin o hp=>.fin o hp
  |.both t f=>.both (t.inst I T cfg R) (f.inst I T cfg R)
  |.qed=>.qed
  |.stop n=>.stop n
theorem zi {I:Alg} {cfg:Cfg} {kn:List (Know Pr)} {R:List Rt} {i:Nat} {p:List Nat} {st:St} (pt:PT) (h:go I T cfg kn R i p st=pt.inst I T cfg R) (k:Ok Pr X G (pt.inst I T cfg R)):Ok Pr X G (go I T cfg kn R i p st):=h▸k
theorem Ti {I:Alg} {cfg:Cfg} {R:List Rt} {p:Prop} {t:PT}:Ok Pr X G (PT.inst I T cfg R (.need p t))↔p∧Ok Pr X G (t.inst I T cfg R):=zfL
theorem zc7 {I:Alg} {cfg:Cfg} {R:List Rt} {b:Bool} {t f:PT}:Ok Pr X G (PT.inst I T cfg R (.br b t f))↔(b=true→Ok Pr X G (t.inst I T cfg R))∧(b=false→Ok Pr X G (f.inst I T cfg R)):=zhf
theorem Tm {I:Alg} {cfg:Cfg} {R:List Rt} {t f:PT}:Ok Pr X G (PT.inst I T cfg R (.both t f))↔Ok Pr X G (t.inst I T cfg R)∧Ok Pr X G (f.inst I T cfg R):=zfM
theorem zao {I:Alg} {cfg:Cfg} {R:List Rt} {o:AOut} {hp:List HO}:Ok Pr X G (PT.inst I T cfg R (.fin o hp))↔G o hp:=zgE
theorem zan {I:Alg} {cfg:Cfg} {R:List Rt}:Ok Pr X G (PT.inst I T cfg R .qed)↔True:=zgD
theorem Tf {I:Alg} {cfg:Cfg} {R:List Rt} {n:Nat}:Ok Pr X G (PT.inst I T cfg R (.stop n))↔False:=zfK
theorem Tj {I:Alg} {cfg:Cfg} {R:List Rt} {i:Nat} {p:List Nat} {st:St}:Ok Pr X G (PT.inst I T cfg R (.code i p st))↔Ok Pr X G (leaf I T cfg R i p st):=Iff.rfl
def VB (cfg:Cfg):Code→Bool
  |.region id _ _=>memN id cfg.seam
  |_=>false
theorem spcG {P:Program} {T:Tab} (hT:T.fits P) (hm:P.follows .mixedOrders=true) {f:Nat} {fn:Func} (hf:P.funcs[f]? =some fn) (hn:(fn.name == "runtime.NumGoroutine")=false) (cfg:Cfg) (kn:List (Know P)) {args:List D} {hp:List HO} {out:AOut} {hp':List HO}
    (hb:(fn.body.isSome&& !VB cfg (zaU fn)&&Nat.ble args.length fn.ntmps)=true)
    (h: ∀ (I:Alg) (X:Ctx),I=alg→X.bs0.length=hp.length→Ok P X (fun o h=>o=out∧h=hp') (go I T cfg kn [⟨zaU fn,finK I T cfg hp.length fn⟩] 0 [] { env:=zdv 0 args,hp:=hp,n:=fn.ntmps})):Spc P f args hp out hp':=by
  simp only [Bool.and_eq_true,Bool.not_eq_true'] at hb
  refine za5 hT hm hf hn (cfg:=cfg) hb.1.1 hb.2 fun I X hI hX=> ?_
  subst hI
  have h1:=(h alg X rfl hX).out
  have h2:=VN (fun f=>Zm) h1
  have hs:=hb.1.2
  unfold funT
  unfold zaU at h2 hs
  cases hbd:fn.body with
  |none=>rw [hbd] at hb;cases hb.1.1
  | some c=>
    rw [hbd] at h2 hs
    simp only [rtAt,cAt,kAt] at h2
    simp only at hs ⊢
    cases c<;>first|exact h2|skip
    simp only [VB] at hs
    simp only [vc,hs]
    exact h2
theorem Xn (hT:T.fits Pr) (hm:Pr.follows .mixedOrders=true) {cfg:Cfg} {c:Code} {K:AEx→St→Tree} {st:St} (h:(zgQ alg T cfg c K st).ok Pr X G) (hn:Now X st a w):c.wp Pr (Post X fun e st'=>(K e st').ok Pr X G) a w:=by
  cases c with
  |region id ops draw=>exact Wl hT hm h (hn.tidy cfg.keep)
  |_=>exact Qo hT hm (cfg:=cfg) h hn
theorem ZH {cfg:Cfg} {k0:Nat} (hk:X.bs0.length=k0) {dom:List Nat} {st s:St} (hc:cutM cfg k0 dom st=some s) (hn:Now X st a w):Now X s a w:=by
  obtain⟨S,K,hH,hE⟩:=hn
  obtain⟨K',h1,h2⟩:=vV cfg.mv hH hE
  exact zdA hk hc ⟨S,K',h1,h2⟩
theorem yE {I:Alg} (hI:I=alg) (hT:T.fits Pr) (hm:Pr.follows .mixedOrders=true) {cfg:Cfg} (kn:List (Know Pr)) {R:List Rt} {i:Nat} {p:List Nat} {st:St} {k0:Nat} (hk:X.bs0.length=k0) (dom:List Nat) {ι:Type} (Inv:ι→Prop) (Iv:ι→St) (μ:ι→Nat) (g0:ι)
    (hc:(match cAt p (rtAt i R).B with|.loop b=> !VB cfg b|_=>false)=true) (h0:cutM cfg k0 dom st=some (Iv g0)) (hg0:Inv g0)
    (hr: ∀ (g:ι),Inv g→∀ (A:St→Prop),(∀ g',Inv g'→μ g'<μ g→A (Iv g'))→Ok Pr X G (go I T cfg kn (round I T cfg k0 dom A R i p::R) 0 [] (Iv g))):Ok Pr X G (leaf I T cfg R i p st):=by
  subst hI
  constructor
  unfold leaf
  intro S K a w hH hE
  obtain⟨b,hb⟩: ∃ b,cAt p (rtAt i R).B=.loop b:=by
    cases h:cAt p (rtAt i R).B<;>rw [h] at hc<;>first|exact⟨_,rfl⟩|cases hc
  rw [hb]
  refine wp_loop_ghost (fun n a w=>∃ g,Inv g∧μ g=n∧Now X (Iv g) a w) (μ g0) ⟨g0,hg0,rfl,ZH hk h0 ⟨S,K,hH,hE⟩⟩ ?_
  rintro n a w ⟨g,hg,rfl,hn⟩
  have h1:=(hr g hg (fun s=>∃ g',Inv g'∧μ g'<μ g∧s=Iv g') (fun g' hi hl=>⟨g',hi,hl,rfl⟩)).out
  have h2:=VN (fun f=>Zm) h1
  simp only [rtAt,cAt,kAt,round,hb,loopBody] at h2
  refine wp_mono (Xn hT hm h2 hn) fun e a' w' hq=> ?_
  obtain⟨e',st',h1,S',K',hH',hE',hem⟩:=hq
  generalize kAt alg T cfg p (rtAt i R).B (rtAt i R).K=k at h1
  have keep: ∀ {e:Exit} {e':AEx},(∀ (h:e'=.normal),False)→EM S' (K'.map CO.base) e e'→(k e' st').ok Pr X G→Post X (fun e st'=>(k e st').ok Pr X G) e a' w':=fun {e e'} _ hem h=>⟨e',st',h,S',K',hH',hE',hem⟩
  cases e' with
  | normal=>
    cases e with
    | normal=>
      have h1:((match cutM cfg k0 dom st' with|some s=>Tree.need (∃ g',Inv g'∧μ g'<μ g∧s=Iv g') .qed|none=>.stop 19):Tree).ok Pr X G:=h1
      split at h1
      · rename_i s hs
        obtain⟨⟨g',hi,hlt,rfl⟩,_⟩:=h1
        exact⟨μ g',hlt,g',hi,rfl,ZH hk hs ⟨S',K',hH',hE'⟩⟩
      · exact h1.elim
    |exit i=>exact hem.elim
    |goto l=>exact hem.elim
    |ret=>exact hem.elim
    |panic ch=>exact hem.elim
    |outgrown=>exact hem.elim
  | exit j=>cases e with
    |exit i=>exact keep (fun h=>by cases h) hem h1
    |normal=>exact hem.elim
    |goto l=>exact hem.elim
    |ret=>exact hem.elim
    |panic ch=>exact hem.elim
    |outgrown=>exact hem.elim
  | ret=>cases e with
    |ret=>exact keep (fun h=>by cases h) hem h1
    |normal=>exact hem.elim
    |goto l=>exact hem.elim
    |exit j=>exact hem.elim
    |panic ch=>exact hem.elim
    |outgrown=>exact hem.elim
  | pan c=>cases e with
    |panic ch=>exact keep (fun h=>by cases h) hem h1
    |normal=>exact hem.elim
    |goto l=>exact hem.elim
    |exit j=>exact hem.elim
    |ret=>exact hem.elim
    |outgrown=>exact hem.elim
theorem seam {I:Alg} (hI:I=alg) (hT:T.fits Pr) (hm:Pr.follows .mixedOrders=true) {cfg:Cfg} (kn:List (Know Pr)) {R:List Rt} {i:Nat} {p:List Nat} {st:St} {k0:Nat} (hk:X.bs0.length=k0) (dom:List Nat) (st1:St)
    (h0:cutM cfg k0 dom st=some st1) (hr:Ok Pr X G (go I T cfg kn R i p st1)):Ok Pr X G (leaf I T cfg R i p st):=by
  subst hI
  constructor
  intro S K a w hH hE
  exact Xn hT hm (VN (fun f=>Zm) hr.out) (ZH hk h0 ⟨S,K,hH,hE⟩)
end
inductive AM where
  |ret
  |pan (c:C)
def AM.out:AM→AEx
  |.ret=>.ret
  |.pan c=>.pan c
section
variable {Pr:Program} {T:Tab} {a:Act} {w:World}
end
theorem nrmA:type_of% (And.intro @Qm <| And.intro @zdZ <| And.intro @xW <| And.intro @uh <| And.intro @Qi <| And.intro @Qh <| And.intro @zdY <| And.intro @za0 <| And.intro @V7 <| And.intro @V8 <| And.intro @V9 <| And.intro @Ua <| And.intro @ZL <| And.intro @um <| And.intro @XJ <| And.intro @Ql <| And.intro @XH <| And.intro @yc <| And.intro @rY <| And.intro @xU <| And.intro @Ub <| And.intro @Qg <| And.intro @XI <| And.intro @Qj <| And.intro @uj <| And.intro @Zu <| And.intro @sU <| And.intro @ul <| And.intro @V6 <| And.intro @ZK <| And.intro @Qk <| And.intro @zdX <| And.intro @zdW <| @za1):=And.intro @Qm <| And.intro @zdZ <| And.intro @xW <| And.intro @uh <| And.intro @Qi <| And.intro @Qh <| And.intro @zdY <| And.intro @za0 <| And.intro @V7 <| And.intro @V8 <| And.intro @V9 <| And.intro @Ua <| And.intro @ZL <| And.intro @um <| And.intro @XJ <| And.intro @Ql <| And.intro @XH <| And.intro @yc <| And.intro @rY <| And.intro @xU <| And.intro @Ub <| And.intro @Qg <| And.intro @XI <| And.intro @Qj <| And.intro @uj <| And.intro @Zu <| And.intro @sU <| And.intro @ul <| And.intro @V6 <| And.intro @ZK <| And.intro @Qk <| And.intro @zdX <| And.intro @zdW <| @za1
theorem nrmB:type_of% (And.intro @decide_eq_true_eq <| And.intro @decide_eq_false_iff_not <| And.intro @beq_iff_eq.{0} <| And.intro @beq_eq_false_iff_ne.{0} <| And.intro @Bool.not_eq_true' <| And.intro @Bool.not_eq_false' <| And.intro @Bool.and_eq_true <| And.intro @Bool.and_true <| And.intro @Bool.true_and <| And.intro @and_true <| And.intro @true_and <| And.intro @ne_eq.{1} <| And.intro @Int.toNat_zero <| And.intro @Nat.sub_zero <| And.intro @List.drop_zero.{0} <| And.intro @zdb <| And.intro @zdc <| And.intro @ze1 <| And.intro @ze2 <| And.intro @UU <| And.intro @zdO <| And.intro @Int.toNat_natCast <| And.intro @Int.ofNat_eq_natCast <| And.intro @UInt8.ofNat_toNat <| And.intro @AOut.ret.injEq <| And.intro @AOut.pan.injEq <| And.intro @C.ifc.injEq <| And.intro @D.v.injEq <| And.intro @D.tup.injEq <| And.intro @V0.one.injEq <| And.intro @C.p.injEq <| And.intro @P.bool.injEq <| And.intro @P.int.injEq <| And.intro @P.str.injEq <| And.intro @Bool.false_eq_true <| And.intro @Bool.true_eq_false <| And.intro @imp_false <| And.intro @Decidable.not_not <| And.intro @not_true_eq_false <| @not_false_eq_true):=And.intro @decide_eq_true_eq <| And.intro @decide_eq_false_iff_not <| And.intro @beq_iff_eq.{0} <| And.intro @beq_eq_false_iff_ne.{0} <| And.intro @Bool.not_eq_true' <| And.intro @Bool.not_eq_false' <| And.intro @Bool.and_eq_true <| And.intro @Bool.and_true <| And.intro @Bool.true_and <| And.intro @and_true <| And.intro @true_and <| And.intro @ne_eq.{1} <| And.intro @Int.toNat_zero <| And.intro @Nat.sub_zero <| And.intro @List.drop_zero.{0} <| And.intro @zdb <| And.intro @zdc <| And.intro @ze1 <| And.intro @ze2 <| And.intro @UU <| And.intro @zdO <| And.intro @Int.toNat_natCast <| And.intro @Int.ofNat_eq_natCast <| And.intro @UInt8.ofNat_toNat <| And.intro @AOut.ret.injEq <| And.intro @AOut.pan.injEq <| And.intro @C.ifc.injEq <| And.intro @D.v.injEq <| And.intro @D.tup.injEq <| And.intro @V0.one.injEq <| And.intro @C.p.injEq <| And.intro @P.bool.injEq <| And.intro @P.int.injEq <| And.intro @P.str.injEq <| And.intro @Bool.false_eq_true <| And.intro @Bool.true_eq_false <| And.intro @imp_false <| And.intro @Decidable.not_not <| And.intro @not_true_eq_false <| @not_false_eq_true
theorem nrlB:type_of% (And.intro @List.cons.injEq.{0} <| And.intro @P.list.injEq <| And.intro @HO.row.injEq <| And.intro @heq_eq_eq.{1} <| And.intro @false_and <| @and_false):=And.intro @List.cons.injEq.{0} <| And.intro @P.list.injEq <| And.intro @HO.row.injEq <| And.intro @heq_eq_eq.{1} <| And.intro @false_and <| @and_false
theorem zC:type_of% (And.intro @Ti <| And.intro @zc7 <| And.intro @Tm <| And.intro @zao <| And.intro @zan <| And.intro @Tf <| @Tj):=And.intro @Ti <| And.intro @zc7 <| And.intro @Tm <| And.intro @zao <| And.intro @zan <| And.intro @Tf <| @Tj
end Go.Ab
namespace Go.Ab
open Go Go.Sep Go.RowKit
variable [Facts]
def Holds (W:World):Prop:=∀ w:World,(∀ (k:Nat) (o:Obj),W.heap[k]? =some o→w.heap[k]? =some o)→Facts.p w
def frzW (W:World) (hF:Holds W):Frz:=⟨fun k=>W.heap[k]?,W.os,W.tape,W.output,fun w hw=>hF w hw.2.2.2⟩
theorem tabIs_of {Pr:Program} {W w:World} (h: ∀ (k:Nat) (o:Obj),W.heap[k]? =some o→w.heap[k]? =some o) {name:String} {cs:Array Value} (hv:W.var? Pr name=some cs):w.var? Pr name=some cs:=by
  unfold World.var? at hv ⊢
  cases hg:Pr.globalNamed name with
  |none=>rw [hg] at hv;cases hv
  | some g=>
    rw [hg] at hv
    simp only [Option.bind_some] at hv ⊢
    split at hv
    · rename_i cs' t f hc;rw [h _ _ hc];exact hv
    · cases hv
theorem zf3 (W:World) (hF:Holds W):At W [frzC (frzW W hF)]:=
  ⟨fun k=>(W.heap[k]?).isSome=true,fun k=>(W.heap[k]?).isSome=true,fun _=>False,fun k=>by simp,fun _ _ h=>h,⟨fun _=>Iff.rfl,rfl,rfl,rfl,fun _ _ h=>h⟩,fun _ h=>h⟩
theorem WM {W w:World} {hF:Holds W} (h:(frzW W hF).on w):Below W.heap.size W w:=by
  obtain⟨h1,h2,h3,h4⟩:=h
  have hb: ∀ k,k<W.heap.size→w.heap[k]? =W.heap[k]? :=fun k hk=>by
    have:W.heap[k]? =some W.heap[k]:=by simp [hk]
    rw [h4 k _ this,this]
  refine⟨h1,h2,h3,?_,hb⟩
  rcases Nat.lt_or_ge w.heap.size W.heap.size with hlt|hge
  · have:=hb w.heap.size hlt
    simp at this
    omega
  · exact hge
theorem zf2 {W:World} {hF:Holds W} {size:Nat} {v:Value} {n:Nat} {cs:List Value} (h:Rd W size v n cs):RdS (frzW W hF) size v n cs:=by
  intro w hw
  obtain⟨ao,cap,e,h1,h2,h4,h3,hc⟩:=h
  refine⟨ao,cap,e,h1,h2,h4,h3,fun j u hu=> ?_⟩
  obtain⟨hs,hcell⟩:=hc j u hu
  exact⟨hs,((WM hw).cell (block_lt hcell)).trans hcell⟩
theorem Spc.law {Pr:Program} {f:Nat} {args:List D} {hp':List HO} {W:World} {hF:Holds W} {vs:List Value} (h:Spc Pr f args [] (.ret (.v (.one (.p (.bool true))))) hp') (ha:MDs (frzW W hF) [] args vs):
    Calls Pr f vs.toArray W fun e w'=>e=.returned (.bool true)∧Below W.heap.size W w':=by
  refine(h.2 (frzW W hF) [] [] W vs ⟨rfl,fun i o c h=>by simp at h⟩ ha (zf3 W hF)).mono fun e w' he=> ?_
  obtain⟨S',K',hle,_,_,hat,ho⟩:=he
  refine⟨?_,WM ((At.frz hat).mono hle)⟩
  cases e with
  |returned v=>cases ho;rfl
  |panicked ch=>exact ho.elim
  |outgrown=>exact ho.elim
theorem zfW {W:World} {hF:Holds W} {v:Value} {u:U} {R:Sep.Rel u.den} (hR: ∀ cs x,R W cs x→MPs (frzW W hF) (enc alg u x) cs) {xs:List u.den} (h:RSl u.size R W [v] xs):MD (frzW W hF) [] (.v (.one (.p (.list u xs)))) v:=by
  obtain⟨v',vs,e,hr,hx⟩:=h
  cases e
  have hlen:=hr.len
  obtain⟨ao,cap,rfl,_⟩:=id hr
  refine MP.list u xs ao cap vs hlen (zf2 hr) fun i x j p v hi hj hv=> ?_
  have hm:=hR _ _ (hx i x hi)
  obtain⟨v',h1,h2⟩:=hm.get hj
  rw [List.getElem?_take] at h1
  split at h1
  · rw [List.getElem?_drop,hv] at h1
    cases h1;exact h2
  · cases h1
theorem zfX {W:World} {hF:Holds W} {cs:List Value} {x:UInt8} (h:zeZ W cs x):MPs (frzW W hF) (enc alg .byte x) cs:=by
  rw [show cs=[bv x] from h];exact⟨.int _ _,trivial⟩
end Go.Ab
namespace Go.Proofs.YtmibhbdfigpkmaaGreatDoor
open Go Go.Ab
def lnS (l:Ln):HO:=.pack [.obj 82 [.row 1,.p (.bool l.cr),.p (.int .i64 l.code)],.row .byte 5 l.b]
def chS (c:Ch):HO:=.pack [.obj 98 [.ptr 1 0,.p (.int .i64 c.pos),.p (.int .i64 c.left),.p (.int .i64 c.all),.p (.int .i64 c.tails),.p (.int .i64 c.code)],lnS c.ln]
def rqS:Rq→List HO
  |⟨ln,p,⟨m,t,mi,f,le⟩,n,none,true,out⟩=>[.obj 57 [.ptr 1 0,.p (.int .i64 p),.p (.str m),.p (.str t),.p (.int .i64 mi),.row 2,.p (.int .i64 le),.p (.int .i64 n),.p (.val (.pointer none)),.row 3],lnS ln,.row .fld 51 f,.row .evt 32 out]
  |⟨ln,p,⟨m,t,mi,f,le⟩,n,some c,true,out⟩=>[.obj 57 [.ptr 1 0,.p (.int .i64 p),.p (.str m),.p (.str t),.p (.int .i64 mi),.row 2,.p (.int .i64 le),.p (.int .i64 n),.ptr 3 0,.row 4],lnS ln,.row .fld 51 f,chS c,.row .evt 32 out]
  |⟨ln,p,⟨m,t,mi,f,le⟩,n,none,false,out⟩=>[.obj 57 [.ptr 1 0,.p (.int .i64 p),.p (.str m),.p (.str t),.p (.int .i64 mi),.p (.list .fld f),.p (.int .i64 le),.p (.int .i64 n),.p (.val (.pointer none)),.row 2],lnS ln,.row .evt 32 out]
  |⟨ln,p,⟨m,t,mi,f,le⟩,n,some c,false,out⟩=>[.obj 57 [.ptr 1 0,.p (.int .i64 p),.p (.str m),.p (.str t),.p (.int .i64 mi),.p (.list .fld f),.p (.int .i64 le),.p (.int .i64 n),.ptr 2 0,.row 3],lnS ln,chS c,.row .evt 32 out]
def shapes:Gh→List HO
  |.rq q=>rqS q
  |_=>[]
def lnU:HO→Option Ln
  |.pack [.obj t [.row 1,.p (.bool cr),.p (.int .i64 co)],.row .byte e b]=>match Nat.beq t 82,Nat.beq e 5 with|true,true=>some ⟨b,cr,co⟩|_,_=>none
  |_=>none
theorem U1 {o:HO} {l:Ln} (h:lnU o=some l):o=lnS l:=by
  unfold lnU at h
  split at h
  · split at h
    · rename_i h1 h2;cases h;rw [Nat.eq_of_beq_eq_true h1,Nat.eq_of_beq_eq_true h2];rfl
    · cases h
  · cases h
def chU:HO→Option Ch
  |.pack [.obj t [.ptr 1 0,.p (.int .i64 p),.p (.int .i64 l),.p (.int .i64 a),.p (.int .i64 tl),.p (.int .i64 co)],o]=>match Nat.beq t 98,lnU o with|true,some ln=>some ⟨ln,p,l,a,tl,co⟩|_,_=>none
  |_=>none
theorem zff {o:HO} {l:Ch} (h:chU o=some l):o=chS l:=by
  unfold chU at h
  split at h
  · split at h
    · rename_i h1 h2;cases h;rw [Nat.eq_of_beq_eq_true h1,U1 h2];rfl
    · cases h
  · cases h
def evU:HO→Option (List Evt)
  |.row .evt e l=>match Nat.beq e 32 with|true=>some l|false=>none
  |_=>none
theorem zaE {o:HO} {l:List Evt} (h:evU o=some l):o=.row .evt 32 l:=by
  unfold evU at h
  split at h
  · split at h
    · rename_i h1;cases h;rw [Nat.eq_of_beq_eq_true h1]
    · cases h
  · cases h
def flU:HO→Option (List Fld)
  |.row .fld e l=>match Nat.beq e 51 with|true=>some l|false=>none
  |_=>none
theorem zfa {o:HO} {l:List Fld} (h:flU o=some l):o=.row .fld 51 l:=by
  unfold flU at h
  split at h
  · split at h
    · rename_i h1;cases h;rw [Nat.eq_of_beq_eq_true h1]
    · cases h
  · cases h
def rqU:List HO→Option Rq
  | .obj t [.ptr 1 0,.p (.int .i64 p),.p (.str m),.p (.str tg),.p (.int .i64 mi),.row 2,.p (.int .i64 le),.p (.int .i64 n),.p (.val (.pointer none)),.row 3]::r=>(match Nat.beq t 57,r with
    |true,[a,b,c]=>(match lnU a,flU b,evU c with|some ln,some f,some out=>some ⟨ln,p,⟨m,tg,mi,f,le⟩,n,none,true,out⟩|_,_,_=>none)
    |_,_=>none)
  | .obj t [.ptr 1 0,.p (.int .i64 p),.p (.str m),.p (.str tg),.p (.int .i64 mi),.row 2,.p (.int .i64 le),.p (.int .i64 n),.ptr 3 0,.row 4]::r=>(match Nat.beq t 57,r with
    |true,[a,b,c,d]=>(match lnU a,flU b,chU c,evU d with|some ln,some f,some ck,some out=>some ⟨ln,p,⟨m,tg,mi,f,le⟩,n,some ck,true,out⟩|_,_,_,_=>none)
    |_,_=>none)
  | .obj t [.ptr 1 0,.p (.int .i64 p),.p (.str m),.p (.str tg),.p (.int .i64 mi),.p (.list .fld f),.p (.int .i64 le),.p (.int .i64 n),.p (.val (.pointer none)),.row 2]::r=>(match Nat.beq t 57,r with
    |true,[a,c]=>(match lnU a,evU c with|some ln,some out=>some ⟨ln,p,⟨m,tg,mi,f,le⟩,n,none,false,out⟩|_,_=>none)
    |_,_=>none)
  | .obj t [.ptr 1 0,.p (.int .i64 p),.p (.str m),.p (.str tg),.p (.int .i64 mi),.p (.list .fld f),.p (.int .i64 le),.p (.int .i64 n),.ptr 2 0,.row 3]::r=>(match Nat.beq t 57,r with
    |true,[a,c,d]=>(match lnU a,chU c,evU d with|some ln,some ck,some out=>some ⟨ln,p,⟨m,tg,mi,f,le⟩,n,some ck,false,out⟩|_,_,_=>none)
    |_,_=>none)
  |_=>none
theorem zgr {l:List HO} {q:Rq} (h:rqU l=some q):l=rqS q:=by
  unfold rqU at h
  split at h
  · split at h
    · rename_i h1;split at h
      · rename_i h2 h3 h4;cases h;rw [Nat.eq_of_beq_eq_true h1,U1 h2,zfa h3,zaE h4];rfl
      · cases h
    · cases h
  · split at h
    · rename_i h1;split at h
      · rename_i h2 h3 h5 h4;cases h;rw [Nat.eq_of_beq_eq_true h1,U1 h2,zfa h3,zff h5,zaE h4];rfl
      · cases h
    · cases h
  · split at h
    · rename_i h1;split at h
      · rename_i h2 h4;cases h;rw [Nat.eq_of_beq_eq_true h1,U1 h2,zaE h4];rfl
      · cases h
    · cases h
  · split at h
    · rename_i h1;split at h
      · rename_i h2 h5 h4;cases h;rw [Nat.eq_of_beq_eq_true h1,U1 h2,zff h5,zaE h4];rfl
      · cases h
    · cases h
  · cases h
def shapeOf (l:List HO):Option Gh:=match rqU l with
  |some q=>some (.rq q)
  |none=>none
theorem za7 (l:List HO) (g:Gh) (h:shapeOf l=some g):shapes g=l:=by
  unfold shapeOf at h
  split at h
  · rename_i q hq;cases h;exact(zgr hq).symm
  · cases h
end Go.Proofs.YtmibhbdfigpkmaaGreatDoor
namespace Go.Proofs.YtmibhbdfigpkmaaGreatDoor
open Go Go.Ab
instance facts:Facts:= { p:=fun w=>Lib.TabIs Tryz.prog w "internal/strconv.uint64pow10" .u64 Lib.pow10Tab∧∃ m:Int,w.cell? ⟨0,0,none⟩=some (.int .i64 m),sh:=shapes,ab:=shapeOf,abok:=za7}
def tabT:TT:=
 (.node (.node (.node (.node (.node (.node (.node (.node .nil 0 ⟨.other,1,0,none,none⟩
 .nil) 1 ⟨.other,1,8,(some [.val .nilFunc]),none⟩
 .nil) 2 ⟨.int .i64,1,8,(some [.int .i64 0]),none⟩
 (.node .nil 3 ⟨.int .i64,1,8,(some [.int .i64 0]),none⟩
 .nil)) 4 ⟨.bool,1,1,(some [.bool false]),none⟩
 (.node (.node (.node .nil 5 ⟨.int .u8,1,1,(some [.int .u8 0]),none⟩
 .nil) 6 ⟨.int .u8,1,1,(some [.int .u8 0]),none⟩
 .nil) 9 ⟨.str,1,16,(some [.str []]),none⟩
 (.node .nil 10 ⟨.str,1,16,(some [.str []]),none⟩
 .nil))) 11 ⟨.str,1,16,(some [.str []]),none⟩
 (.node (.node (.node (.node .nil 12 ⟨.int .u64,1,8,(some [.int .u64 0]),none⟩
 .nil) 15 ⟨.ptr,1,8,(some [.val (.pointer none)]),none⟩
 .nil) 16 ⟨.ptr,1,8,(some [.val (.pointer none)]),none⟩
 (.node .nil 17 ⟨.ptr,1,8,(some [.val (.pointer none)]),none⟩
 .nil)) 20 ⟨.iface,1,16,(some [.val .nilIface]),none⟩
 (.node (.node (.node .nil 21 ⟨.int .i32,1,4,(some [.int .i32 0]),none⟩
 .nil) 22 ⟨.slice 5,1,24,(some [.list .byte []]),(some .byte)⟩
 .nil) 23 ⟨.slice 51,1,24,(some [.list .fld []]),(some .fld)⟩
 (.node .nil 24 ⟨.struct [(0,9),(1,9),(2,3),(3,23),(4,3)],5,72,(some [.str [],.str [],.int .i64 0,.list .fld [],.int .i64 0]),none⟩
 .nil)))) 25 ⟨.struct [(0,9),(1,9),(2,3),(3,23),(4,3)],5,72,(some [.str [],.str [],.int .i64 0,.list .fld [],.int .i64 0]),none⟩
 (.node (.node (.node (.node (.node .nil 26 ⟨.slice 32,1,24,(some [.list .evt []]),(some .evt)⟩
 .nil) 27 ⟨.other,1,8,(some [.val .nilFunc]),none⟩
 .nil) 28 ⟨.other,1,8,(some [.val .nilFunc]),none⟩
 (.node .nil 29 ⟨.struct [(0,9),(1,9),(2,9),(3,22)],4,72,(some [.str [],.str [],.str [],.list .byte []]),none⟩
 .nil)) 30 ⟨.struct [(0,9),(1,9),(2,9),(3,22)],4,72,(some [.str [],.str [],.str [],.list .byte []]),none⟩
 (.node (.node (.node .nil 31 ⟨.struct [(0,3),(1,25),(6,22),(7,30),(11,3)],12,184,(some [.int .i64 0,.str [],.str [],.int .i64 0,.list .fld [],.int .i64 0,.list .byte [],.str [],.str [],.str [],.list .byte [],.int .i64 0]),none⟩
 .nil) 32 ⟨.struct [(0,3),(1,25),(6,22),(7,30),(11,3)],12,184,(some [.int .i64 0,.str [],.str [],.int .i64 0,.list .fld [],.int .i64 0,.list .byte [],.str [],.str [],.str [],.list .byte [],.int .i64 0]),none⟩
 .nil) 33 ⟨.ptr,1,8,(some [.val (.pointer none)]),none⟩
 (.node .nil 34 ⟨.other,1,8,(some [.val .nilFunc]),none⟩
 .nil))) 35 ⟨.other,1,8,(some [.val .nilFunc]),none⟩
 (.node (.node (.node (.node .nil 36 ⟨.other,1,0,none,none⟩
 .nil) 37 ⟨.other,1,8,(some [.val .nilFunc]),none⟩
 .nil) 38 ⟨.other,1,8,(some [.val .nilFunc]),none⟩
 (.node .nil 39 ⟨.other,1,0,none,none⟩
 .nil)) 40 ⟨.other,1,8,(some [.val .nilFunc]),none⟩
 (.node (.node .nil 41 ⟨.other,1,8,(some [.val .nilFunc]),none⟩
 .nil) 42 ⟨.other,1,8,(some [.val .nilFunc]),none⟩
 (.node .nil 43 ⟨.other,1,8,(some [.val .nilFunc]),none⟩
 .nil))))) 44 ⟨.slice 3,1,24,(some [.list .int []]),(some .int)⟩
 (.node (.node (.node (.node (.node (.node .nil 45 ⟨.slice 22,1,24,(some [.list .bytes []]),(some .bytes)⟩
 .nil) 46 ⟨.other,1,8,(some [.val .nilFunc]),none⟩
 .nil) 47 ⟨.other,1,8,(some [.val .nilFunc]),none⟩
 (.node .nil 48 ⟨.slice 25,1,24,(some [.list .hd []]),(some .hd)⟩
 .nil)) 49 ⟨.other,1,8,(some [.val .nilFunc]),none⟩
 (.node (.node (.node .nil 50 ⟨.struct [(0,9),(1,9)],2,32,(some [.str [],.str []]),none⟩
 .nil) 51 ⟨.struct [(0,9),(1,9)],2,32,(some [.str [],.str []]),none⟩
 .nil) 52 ⟨.other,1,8,(some [.val .nilFunc]),none⟩
 (.node .nil 53 ⟨.ptr,1,8,(some [.val (.pointer none)]),none⟩
 .nil))) 54 ⟨.other,1,8,(some [.val .nilFunc]),none⟩
 (.node (.node (.node (.node .nil 55 ⟨.ptr,1,8,(some [.val (.pointer none)]),none⟩
 .nil) 56 ⟨.struct [(0,53),(1,3),(2,25),(7,3),(8,55),(9,26)],10,128,(some [.val (.pointer none),.int .i64 0,.str [],.str [],.int .i64 0,.list .fld [],.int .i64 0,.int .i64 0,.val (.pointer none),.list .evt []]),none⟩
 .nil) 57 ⟨.struct [(0,53),(1,3),(2,25),(7,3),(8,55),(9,26)],10,128,(some [.val (.pointer none),.int .i64 0,.str [],.str [],.int .i64 0,.list .fld [],.int .i64 0,.int .i64 0,.val (.pointer none),.list .evt []]),none⟩
 (.node .nil 58 ⟨.other,1,8,(some [.val .nilFunc]),none⟩
 .nil)) 59 ⟨.other,1,8,(some [.val .nilFunc]),none⟩
 (.node (.node (.node .nil 60 ⟨.other,1,0,none,none⟩
 .nil) 61 ⟨.other,1,8,(some [.val .nilFunc]),none⟩
 .nil) 62 ⟨.other,1,0,none,none⟩
 (.node .nil 63 ⟨.other,1,8,(some [.val .nilFunc]),none⟩
 .nil)))) 64 ⟨.other,1,0,none,none⟩
 (.node (.node (.node (.node (.node .nil 65 ⟨.other,1,8,(some [.val .nilFunc]),none⟩
 .nil) 66 ⟨.other,1,0,none,none⟩
 .nil) 67 ⟨.other,1,8,(some [.val .nilFunc]),none⟩
 (.node .nil 68 ⟨.other,1,0,none,none⟩
 .nil)) 69 ⟨.other,1,8,(some [.val .nilFunc]),none⟩
 (.node (.node (.node .nil 70 ⟨.other,1,8,(some [.val .nilFunc]),none⟩
 .nil) 71 ⟨.other,1,8,(some [.val .nilFunc]),none⟩
 .nil) 72 ⟨.other,1,8,(some [.val .nilFunc]),none⟩
 (.node .nil 73 ⟨.other,1,8,(some [.val .nilFunc]),none⟩
 .nil))) 74 ⟨.slice 9,1,24,(some [.list .str []]),(some .str)⟩
 (.node (.node (.node (.node .nil 75 ⟨.other,1,8,(some [.val .nilFunc]),none⟩
 .nil) 76 ⟨.other,1,0,none,none⟩
 .nil) 77 ⟨.other,1,8,(some [.val .nilFunc]),none⟩
 (.node .nil 78 ⟨.other,1,8,(some [.val .nilFunc]),none⟩
 .nil)) 79 ⟨.other,1,8,(some [.val .nilFunc]),none⟩
 (.node (.node .nil 80 ⟨.int .u64,1,8,(some [.int .u64 0]),none⟩
 .nil) 81 ⟨.struct [(0,22),(1,4),(2,3)],3,40,(some [.list .byte [],.bool false,.int .i64 0]),none⟩
 (.node .nil 82 ⟨.struct [(0,22),(1,4),(2,3)],3,40,(some [.list .byte [],.bool false,.int .i64 0]),none⟩
 .nil)))))) 83 ⟨.other,1,8,(some [.val .nilFunc]),none⟩
 (.node (.node (.node (.node (.node (.node (.node .nil 84 ⟨.other,1,0,none,none⟩
 .nil) 85 ⟨.other,1,8,(some [.val .nilFunc]),none⟩
 .nil) 86 ⟨.other,1,8,(some [.val .nilFunc]),none⟩
 (.node .nil 87 ⟨.other,1,0,none,none⟩
 .nil)) 88 ⟨.other,1,8,(some [.val .nilFunc]),none⟩
 (.node (.node (.node .nil 89 ⟨.other,1,8,(some [.val .nilFunc]),none⟩
 .nil) 90 ⟨.other,1,8,(some [.val .nilFunc]),none⟩
 .nil) 91 ⟨.other,1,8,(some [.val .nilFunc]),none⟩
 (.node .nil 92 ⟨.other,1,0,none,none⟩
 .nil))) 93 ⟨.other,1,8,(some [.val .nilFunc]),none⟩
 (.node (.node (.node (.node .nil 94 ⟨.other,1,8,(some [.val .nilFunc]),none⟩
 .nil) 95 ⟨.other,1,8,(some [.val .nilFunc]),none⟩
 .nil) 96 ⟨.other,1,8,(some [.val .nilFunc]),none⟩
 (.node .nil 97 ⟨.struct [(0,53),(1,3),(2,3),(3,3),(4,3),(5,3)],6,48,(some [.val (.pointer none),.int .i64 0,.int .i64 0,.int .i64 0,.int .i64 0,.int .i64 0]),none⟩
 .nil)) 98 ⟨.struct [(0,53),(1,3),(2,3),(3,3),(4,3),(5,3)],6,48,(some [.val (.pointer none),.int .i64 0,.int .i64 0,.int .i64 0,.int .i64 0,.int .i64 0]),none⟩
 (.node (.node (.node .nil 99 ⟨.other,1,8,(some [.val .nilFunc]),none⟩
 .nil) 100 ⟨.other,1,8,(some [.val .nilFunc]),none⟩
 .nil) 101 ⟨.other,1,8,(some [.val .nilFunc]),none⟩
 (.node .nil 102 ⟨.other,1,8,(some [.val .nilFunc]),none⟩
 .nil)))) 103 ⟨.other,1,8,(some [.val .nilFunc]),none⟩
 (.node (.node (.node (.node (.node .nil 104 ⟨.other,1,8,(some [.val .nilFunc]),none⟩
 .nil) 105 ⟨.other,1,8,(some [.val .nilFunc]),none⟩
 .nil) 106 ⟨.other,1,8,(some [.val .nilFunc]),none⟩
 (.node .nil 107 ⟨.array 256 4,256,256,none,none⟩
 .nil)) 108 ⟨.array 256 4,256,256,none,none⟩
 (.node (.node (.node .nil 109 ⟨.other,1,0,none,none⟩
 .nil) 110 ⟨.other,1,8,(some [.val .nilFunc]),none⟩
 .nil) 111 ⟨.other,1,8,(some [.val .nilFunc]),none⟩
 (.node .nil 112 ⟨.other,1,8,(some [.val .nilFunc]),none⟩
 .nil))) 113 ⟨.other,1,8,(some [.val .nilFunc]),none⟩
 (.node (.node (.node (.node .nil 114 ⟨.other,1,8,(some [.val .nilFunc]),none⟩
 .nil) 115 ⟨.other,1,8,(some [.val .nilFunc]),none⟩
 .nil) 116 ⟨.other,1,8,(some [.val .nilFunc]),none⟩
 (.node .nil 117 ⟨.other,1,0,none,none⟩
 .nil)) 118 ⟨.other,1,8,(some [.val .nilFunc]),none⟩
 (.node (.node .nil 119 ⟨.other,1,8,(some [.val .nilFunc]),none⟩
 .nil) 120 ⟨.other,1,8,(some [.val .nilFunc]),none⟩
 (.node .nil 121 ⟨.ptr,1,8,(some [.val (.pointer none)]),none⟩
 .nil))))) 122 ⟨.other,1,8,(some [.val .nilFunc]),none⟩
 (.node (.node (.node (.node (.node (.node .nil 123 ⟨.other,1,8,(some [.val .nilFunc]),none⟩
 .nil) 124 ⟨.array 24 5,24,24,(some [.int .u8 0,.int .u8 0,.int .u8 0,.int .u8 0,.int .u8 0,.int .u8 0,.int .u8 0,.int .u8 0,.int .u8 0,.int .u8 0,.int .u8 0,.int .u8 0,.int .u8 0,.int .u8 0,.int .u8 0,.int .u8 0,.int .u8 0,.int .u8 0,.int .u8 0,.int .u8 0,.int .u8 0,.int .u8 0,.int .u8 0,.int .u8 0]),none⟩
 .nil) 125 ⟨.int .u64,1,8,(some [.int .u64 0]),none⟩
 (.node .nil 126 ⟨.other,1,8,(some [.val .nilFunc]),none⟩
 .nil)) 127 ⟨.other,1,8,(some [.val .nilFunc]),none⟩
 (.node (.node (.node .nil 128 ⟨.other,1,0,none,none⟩
 .nil) 129 ⟨.other,1,8,(some [.val .nilFunc]),none⟩
 .nil) 130 ⟨.other,1,8,(some [.val .nilFunc]),none⟩
 (.node .nil 131 ⟨.other,1,0,none,none⟩
 .nil))) 132 ⟨.other,1,8,(some [.val .nilFunc]),none⟩
 (.node (.node (.node (.node .nil 133 ⟨.other,1,8,(some [.val .nilFunc]),none⟩
 .nil) 134 ⟨.other,1,8,(some [.val .nilFunc]),none⟩
 .nil) 135 ⟨.array 20 125,20,160,(some [.int .u64 0,.int .u64 0,.int .u64 0,.int .u64 0,.int .u64 0,.int .u64 0,.int .u64 0,.int .u64 0,.int .u64 0,.int .u64 0,.int .u64 0,.int .u64 0,.int .u64 0,.int .u64 0,.int .u64 0,.int .u64 0,.int .u64 0,.int .u64 0,.int .u64 0,.int .u64 0]),none⟩
 (.node .nil 136 ⟨.int .u32,1,4,(some [.int .u32 0]),none⟩
 .nil)) 137 ⟨.array 65 5,65,65,(some [.int .u8 0,.int .u8 0,.int .u8 0,.int .u8 0,.int .u8 0,.int .u8 0,.int .u8 0,.int .u8 0,.int .u8 0,.int .u8 0,.int .u8 0,.int .u8 0,.int .u8 0,.int .u8 0,.int .u8 0,.int .u8 0,.int .u8 0,.int .u8 0,.int .u8 0,.int .u8 0,.int .u8 0,.int .u8 0,.int .u8 0,.int .u8 0,.int .u8 0,.int .u8 0,.int .u8 0,.int .u8 0,.int .u8 0,.int .u8 0,.int .u8 0,.int .u8 0,.int .u8 0,.int .u8 0,.int .u8 0,.int .u8 0,.int .u8 0,.int .u8 0,.int .u8 0,.int .u8 0,.int .u8 0,.int .u8 0,.int .u8 0,.int .u8 0,.int .u8 0,.int .u8 0,.int .u8 0,.int .u8 0,.int .u8 0,.int .u8 0,.int .u8 0,.int .u8 0,.int .u8 0,.int .u8 0,.int .u8 0,.int .u8 0,.int .u8 0,.int .u8 0,.int .u8 0,.int .u8 0,.int .u8 0,.int .u8 0,.int .u8 0,.int .u8 0,.int .u8 0]),none⟩
 (.node (.node (.node .nil 138 ⟨.other,1,8,(some [.val .nilFunc]),none⟩
 .nil) 139 ⟨.other,1,8,(some [.val .nilFunc]),none⟩
 .nil) 140 ⟨.other,1,8,(some [.val .nilFunc]),none⟩
 (.node .nil 141 ⟨.other,1,8,(some [.val .nilFunc]),none⟩
 .nil)))) 142 ⟨.array 256 5,256,256,none,none⟩
 (.node (.node (.node (.node (.node .nil 143 ⟨.struct [(0,5),(1,5)],2,2,(some [.int .u8 0,.int .u8 0]),none⟩
 .nil) 144 ⟨.struct [(0,5),(1,5)],2,2,(some [.int .u8 0,.int .u8 0]),none⟩
 .nil) 145 ⟨.array 16 144,32,32,(some [.int .u8 0,.int .u8 0,.int .u8 0,.int .u8 0,.int .u8 0,.int .u8 0,.int .u8 0,.int .u8 0,.int .u8 0,.int .u8 0,.int .u8 0,.int .u8 0,.int .u8 0,.int .u8 0,.int .u8 0,.int .u8 0,.int .u8 0,.int .u8 0,.int .u8 0,.int .u8 0,.int .u8 0,.int .u8 0,.int .u8 0,.int .u8 0,.int .u8 0,.int .u8 0,.int .u8 0,.int .u8 0,.int .u8 0,.int .u8 0,.int .u8 0,.int .u8 0]),none⟩
 (.node .nil 146 ⟨.array 32 5,32,32,(some [.int .u8 0,.int .u8 0,.int .u8 0,.int .u8 0,.int .u8 0,.int .u8 0,.int .u8 0,.int .u8 0,.int .u8 0,.int .u8 0,.int .u8 0,.int .u8 0,.int .u8 0,.int .u8 0,.int .u8 0,.int .u8 0,.int .u8 0,.int .u8 0,.int .u8 0,.int .u8 0,.int .u8 0,.int .u8 0,.int .u8 0,.int .u8 0,.int .u8 0,.int .u8 0,.int .u8 0,.int .u8 0,.int .u8 0,.int .u8 0,.int .u8 0,.int .u8 0]),none⟩
 .nil)) 147 ⟨.array 64 5,64,64,(some [.int .u8 0,.int .u8 0,.int .u8 0,.int .u8 0,.int .u8 0,.int .u8 0,.int .u8 0,.int .u8 0,.int .u8 0,.int .u8 0,.int .u8 0,.int .u8 0,.int .u8 0,.int .u8 0,.int .u8 0,.int .u8 0,.int .u8 0,.int .u8 0,.int .u8 0,.int .u8 0,.int .u8 0,.int .u8 0,.int .u8 0,.int .u8 0,.int .u8 0,.int .u8 0,.int .u8 0,.int .u8 0,.int .u8 0,.int .u8 0,.int .u8 0,.int .u8 0,.int .u8 0,.int .u8 0,.int .u8 0,.int .u8 0,.int .u8 0,.int .u8 0,.int .u8 0,.int .u8 0,.int .u8 0,.int .u8 0,.int .u8 0,.int .u8 0,.int .u8 0,.int .u8 0,.int .u8 0,.int .u8 0,.int .u8 0,.int .u8 0,.int .u8 0,.int .u8 0,.int .u8 0,.int .u8 0,.int .u8 0,.int .u8 0,.int .u8 0,.int .u8 0,.int .u8 0,.int .u8 0,.int .u8 0,.int .u8 0,.int .u8 0,.int .u8 0]),none⟩
 (.node (.node (.node .nil 148 ⟨.other,1,0,none,none⟩
 .nil) 149 ⟨.other,1,8,(some [.val .nilFunc]),none⟩
 .nil) 150 ⟨.other,1,8,(some [.val .nilFunc]),none⟩
 (.node .nil 153 ⟨.array 0 16,0,0,(some []),none⟩
 .nil))) 156 ⟨.int .u8,1,1,(some [.int .u8 0]),none⟩
 (.node (.node (.node (.node .nil 157 ⟨.int .u8,1,1,(some [.int .u8 0]),none⟩
 .nil) 158 ⟨.other,1,8,(some [.val .nilFunc]),none⟩
 .nil) 159 ⟨.ptr,1,8,(some [.val (.pointer none)]),none⟩
 (.node .nil 160 ⟨.int .i32,1,4,(some [.int .i32 0]),none⟩
 .nil)) 161 ⟨.int .i32,1,4,(some [.int .i32 0]),none⟩
 (.node (.node .nil 162 ⟨.struct [(0,12),(1,12),(2,136),(3,156),(4,5),(5,5),(6,157),(7,158),(8,159),(9,160),(10,161)],11,48,(some [.int .u64 0,.int .u64 0,.int .u32 0,.int .u8 0,.int .u8 0,.int .u8 0,.int .u8 0,.val .nilFunc,.val (.pointer none),.int .i32 0,.int .i32 0]),none⟩
 .nil) 163 ⟨.struct [(0,12),(1,12),(2,136),(3,156),(4,5),(5,5),(6,157),(7,158),(8,159),(9,160),(10,161)],11,48,(some [.int .u64 0,.int .u64 0,.int .u32 0,.int .u8 0,.int .u8 0,.int .u8 0,.int .u8 0,.val .nilFunc,.val (.pointer none),.int .i32 0,.int .i32 0]),none⟩
 (.node .nil 164 ⟨.other,1,8,none,none⟩
 .nil)))))))
def tab:Tab:=tabT.get
theorem zx:tab.fits Tryz.prog:=Tab.zf5 (by kernel_rfl)
theorem mixed:Tryz.prog.follows .mixedOrders=true:=by kernel_rfl
end Go.Proofs.YtmibhbdfigpkmaaGreatDoor
namespace Go.Ab
open Go
theorem laid_tail {P:Program} {x:String × DataW Unit} {rest:List (String × DataW Unit)} {w:World} (h:laidMet P (x::rest) w):laidMet P rest w:=by
  obtain⟨ps,⟨g,t,cs,fuel,p,q,h1,h2,h3,h4,h5,rfl⟩,hn,hc⟩:=h
  exact⟨q,h5,(List.nodup_append.1 hn).2.1,fun b off hm=>hc b off (List.mem_append_right _ hm)⟩
theorem pow10_of {P:Program} {W:World} {d:DataW Unit} {rest:List (String × DataW Unit)} (g t e:Nat) (hd:d=Lib.tabData .u64 Lib.pow10Tab)
    (hg:P.globalNamed "internal/strconv.uint64pow10" =some g) (hty:(P.globals[g]?).map (·.type)=some t) (ht:P.underlying t=some (.array 20 e)) (he:P.underlying e=some (.int .u64)) (hce:P.cellsOf e=1) (hct:P.cellsOf t=20)
    (h:laidMet P (("internal/strconv.uint64pow10",d)::rest) W):Lib.TabIs P W "internal/strconv.uint64pow10" .u64 Lib.pow10Tab:=by
  subst hd
  exact Lib.tabIs_of_head hg hty ht he hce hct h
end Go.Ab
namespace Go.Ab
open Go Go.Sep
variable {H:Type} {enc:TypeId × Value→H}
theorem retShaped {a:Assume} {C:Checked} {os:Os} {f:FuncId} {fn:Func} {s:ChangeSpec} {conds:List PathCond} {apart fresh handsOn again:Bool} {X:World→Array Value→Prop}
    (hX: ∀ (w w':World) (args:Array Value),w.heap=w'.heap→X w args→X w' args)
    (own:ownKnob C.prog.godebug=none) (started:os.Started) (noInit:C.prog.inits.idxOf? f=none) (hfn:C.prog.funcs[f]? =some fn)
    (witness: ∃ (w:World) (tape:Tape) (i:Input),w.os=os∧(w.forCall tape i).Shaped C.prog∧i.vars=[]∧Input.okWide C.prog (w.forCall tape i) .any w.heap.size f i∧
      ((s.pre enc C.prog fn conds apart (w.forCall tape i).memory i.args∧X (w.forCall tape i).memory i.args)∧sizedMet enc C.prog fn (OpenSpec.ofChange s) apart (w.forCall tape i).memory i.args)∧a.holds C.prog (lone (Frame.enter C.prog f i.args .normal) [] (w.forCall tape i)))
    (contract: ∀ (W:World) (base:Nat) (args:Array Value) (ds gs:List (DataW H)) (before:List MemPlace),
      (∀ (j:Nat) t v,fn.params[j]? =some t→args[j]? =some v→Value.okWide C.prog W .any base t v)→
      DataW.Whole enc C.prog fn.params.toList s.vars apart W args.toList ds gs before→
      conds.all (PathCond.test C.prog ⟨fn.params.toList,ds,s.plain.varTypes C.prog,gs⟩)=true→
      (DataW.weightsEach C.prog (fn.params.toList++s.plain.varTypes C.prog) (ds++gs)).all (· ≤reachBytes)=true→X W args→W.ShapedOpen C.prog→
      a.holds C.prog (lone (Frame.enter C.prog f args .normal) [] W)→
      Calls C.prog f args W fun e W'=>∃ v,e=.returned v∧s.post enc C.prog fn apart fresh handsOn again W args v W'):
    ReturnsInHanded a C os f .any (fun w args=>(s.pre enc C.prog fn conds apart w args∧X w args)∧sizedMet enc C.prog fn (OpenSpec.ofChange s) apart w args) (s.post enc C.prog fn apart fresh handsOn again):=by
  refine returnsInHanded_of_calls own started noInit witness ?_
  intro w tape i _ hsh _ hok hpre hholds
  obtain⟨_,_,_,fn',hfn',_,_,_,_,hval⟩:=hok
  have e:fn'=fn:=Option.some.inj (hfn'.symm.trans hfn)
  subst e
  obtain⟨⟨⟨ds,gs,before,hw,hc⟩,hx⟩,hz⟩:=hpre
  have hw':=DataW.Whole.of_heap (w':=w.forCall tape i) (by rfl) hw
  refine(contract (w.forCall tape i) w.heap.size i.args ds gs before hval hw' hc (hz.weights hw) (hX _ _ _ (by rfl) hx) hsh hholds).mono fun e W' ⟨v,he,hp⟩=> ?_
  subst he
  exact ChangeSpec.post_blind hp
theorem cell_re {W w:World} (h: ∀ (k:Nat) (o:Obj),W.heap[k]? =some o→w.heap[k]? =some o) {a:Addr} (e: ∃ m,W.cell? a=some (.int .i64 m)): ∃ m,w.cell? a=some (.int .i64 m):=by
  obtain⟨m,e⟩:=e
  refine⟨m,?_⟩
  unfold World.cell? at e ⊢
  cases ho:W.heap[a.block]? with
  |none=>rw [ho] at e;simp at e
  |some o=>rw [h _ _ ho];rw [ho] at e;exact e
end Go.Ab
namespace Go.Ab
open Go Go.Sep
variable [Facts]
def wfI (n:Int):Prop:= -9223372036854775808≤n∧n≤9223372036854775807
theorem zgl {n:Int} (h:(Lit.int .i64 n).wf=true):wfI n:=by
  simp only [Lit.wf,Bool.and_eq_true,decide_eq_true_eq] at h
  have h1:IntKind.i64.min= -9223372036854775808:=by decide
  have h2:IntKind.i64.max=9223372036854775807:=by decide
  rw [h1,h2] at h;exact h
def wfS {α:Type} (s:List α):Prop:=s.length≤140737488355328
def zd6 (f:Fld):Prop:=wfS f.name∧wfS f.value
def wfHd (h:Hd):Prop:=wfS h.method∧wfS h.target∧wfI h.minor∧(wfS h.fields∧∀ f ∈ h.fields,zd6 f)∧wfI h.length
def zgk (p:Prt):Prop:=wfS p.name∧wfS p.file∧wfS p.type∧wfS p.bytes
def wfZ:(u:U)→u.den→Prop
  |.byte,_=>True
  |.int,n=>wfI n
  |.str,(s:Str)=>wfS s
  |.fld,f=>zd6 f
  |.bytes,(b:Str)=>wfS b
  |.hd,h=>wfHd h
  |.prt,p=>zgk p
  |.evt,(e:Evt)=>wfI e.kind∧wfHd e.head∧wfS e.bytes∧zgk e.part∧wfI e.code
  |.upl,(x:Upl)=>wfI x.id∧wfI x.size∧wfS x.note∧wfS x.bytes∧wfI x.sent
  |.ent,(e:Ent)=>wfI e.kind∧wfI e.id∧wfI e.n∧wfS e.text
  |.stp,(e:Stp)=>wfI e.kind∧wfI e.conn∧wfI e.n∧wfS e.bytes
  |.ask,(a:Ask)=>wfHd a.h∧wfS a.body
  |.cal,(c:Cal)=>wfI c.conn∧wfS c.b
  |.lst,(e:Lst)=>wfI e.op∧wfI e.n∧wfS e.b
  |.sst,(e:Sst)=>wfI e.op∧wfI e.id∧wfI e.n∧wfS e.text
  |.rpl,(r:Rpl)=>wfI r.status∧(wfS r.fields∧∀ f ∈ r.fields,zd6 f)∧wfS r.body
  |.med,(m:Med)=>wfS m.word∧(wfS m.params∧∀ f ∈ m.params,zd6 f)
  |_,_=>True
abbrev Small {H:Type} (Pr:Program) (t:TypeId) (d:DataW H):Prop:=(d.weights Pr t).all (· ≤reachBytes)=true
section
variable {H:Type} {hsh:TypeId × Value→H} {Pr:Program} {w:World} {hF:Holds w} {base:Nat} {spare:Nat→Bool} {held:Bool}
def rJ (hsh:TypeId × Value→H) (Pr:Program) (w:World) (hF:Holds w) (base:Nat) (spare:Nat→Bool) (held:Bool) (t:TypeId) (Q:List P→Prop):Prop:=
  ∀ fuel cs y,DataW.trod hsh Pr w base spare held fuel t cs=some y→Small Pr t y.1→∃ ps,MPs (frzW w hF) ps cs∧Q ps
theorem rJ.mono {t:TypeId} {Q Q':List P→Prop} (h:rJ hsh Pr w hF base spare held t Q) (hq: ∀ ps,Q ps→Q' ps):rJ hsh Pr w hF base spare held t Q':=by
  intro fuel cs y hy hs
  obtain⟨ps,h1,h2⟩:=h fuel cs y hy hs
  exact⟨ps,h1,hq _ h2⟩
def QU (u:U) (ps:List P):Prop:=∃ x:u.den,ps=enc alg u x∧wfZ u x
def QL (u:U) (ps:List P):Prop:=∃ l:List u.den,ps=[.list u l]∧wfS l∧∀ x ∈ l,wfZ u x
theorem op_int {t:TypeId} (ht:Pr.underlying t=some (.int .i64)):rJ hsh Pr w hF base spare held t (QU .int):=by
  intro fuel cs y h _
  obtain⟨n,rfl,hn⟩:=zcN ht fuel cs y h
  exact⟨[.int .i64 n],⟨.int _ _,trivial⟩,n,rfl,zgl hn⟩
theorem op_byte {t:TypeId} (ht:Pr.underlying t=some (.int .u8)):rJ hsh Pr w hF base spare held t (QU .byte):=by
  intro fuel cs y h _
  obtain⟨c,hc⟩:=zbm ht fuel cs y h
  exact⟨enc alg .byte c,zfX hc,c,rfl,trivial⟩
theorem zeB {n:Nat} (h:n≤reachBytes):n≤140737488355328:=Nat.le_trans h (by decide)
def elemsOf:DataW H→List (DataW H)
  |.slice es _=>es
  |_=>[]
theorem SI {α:Type} {t e:TypeId} {size:Nat} {R:Sep.Rel α} (ht:Pr.underlying t=some (.slice e)) (hs:Pr.cellsOf e=size) {fuel:Nat} {cs:List Value} {y:DataW H × List MemPlace}
    (h:DataW.trod hsh Pr w base spare held fuel t cs=some y) (he: ∀ n ci z,z.1 ∈ elemsOf y.1→DataW.trod hsh Pr w base spare held n e ci=some z→∃ x,R w ci x):
    ∃ xs,RSl size R w cs xs∧xs.length=(elemsOf y.1).length:=by
  rcases DataW.trod_slice ht h with⟨rfl,rfl⟩|⟨a,len,cap,elems,rest,n,_,rfl,rfl,_,hl,hm,hlen,hel,_,_⟩
  · exact⟨[],⟨_,[],rfl,⟨none,0,rfl,Nat.le_refl _,Nat.zero_le _,fun _=>rfl,by simp,fun j u h=>by simp at h⟩,fun i x h=>by simp at h⟩,rfl⟩
  · subst hs
    have each: ∀ i,i<len→∃ ci:List Value,ci.length=Pr.cellsOf e∧(∀ j u,ci[j]? =some u→w.cell? ((a.add (i * Pr.cellsOf e)).add j)=some u)∧∃ x,R w ci x:=by
      intro i hi
      have h1:=hel i hi
      rw [List.getElem?_eq_getElem (by omega),Option.bind_eq_some_iff] at h1
      obtain⟨ci,hci,hy⟩:=h1
      obtain⟨h2,h3⟩:=cells?_get hci
      exact⟨ci,h2,h3,he n ci _ (List.mem_map_of_mem (List.getElem_mem _)) hy⟩
    have all: ∀ m,m≤len→∃ (vs:List Value) (xs:List α),xs.length=m∧vs.length=m * Pr.cellsOf e∧(∀ j u,vs[j]? =some u→w.cell? (a.add j)=some u)∧∀ i x,xs[i]? =some x→R w ((vs.drop (i * Pr.cellsOf e)).take (Pr.cellsOf e)) x:=by
      intro m
      induction m with
      |zero=>intro _;exact⟨[],[],rfl,by simp,fun j u h=>by simp at h,fun i x h=>by simp at h⟩
      | succ m ih=>
        intro hm'
        obtain⟨vs,xs,h1,h2,h3,h4⟩:=ih (by omega)
        obtain⟨ci,c1,c2,x,c3⟩:=each m (by omega)
        refine⟨vs++ci,xs++[x],by simp [h1],by simp [h2,c1,Nat.succ_mul],fun j u hj=> ?_,fun i z hi=> ?_⟩
        · rcases Nat.lt_or_ge j vs.length with hj1|hj1
          · rw [List.getElem?_append_left hj1] at hj;exact h3 j u hj
          · rw [List.getElem?_append_right hj1] at hj
            have h5:=c2 _ _ hj
            rw [Addr.add_add,h2,show m * Pr.cellsOf e+(j - m * Pr.cellsOf e)=j by omega] at h5
            exact h5
        · rcases Nat.lt_or_ge i xs.length with hi1|hi1
          · rw [List.getElem?_append_left hi1] at hi
            have h5:=h4 i z hi
            have h6:i * Pr.cellsOf e+Pr.cellsOf e≤vs.length:=by rw [h2,← Nat.succ_mul];exact Nat.mul_le_mul_right _ (by omega)
            rw [List.drop_append_of_le_length (by omega),List.take_append_of_le_length (by simp;omega)]
            exact h5
          · rw [List.getElem?_append_right hi1] at hi
            have hi2:i=m:=by
              have:=(List.getElem?_eq_some_iff.1 hi).1
              simp at this;omega
            subst hi2
            rw [h1,Nat.sub_self] at hi
            simp at hi
            subst hi
            rw [← h2,List.drop_left,List.take_of_length_le (by omega)]
            exact c3
    obtain⟨vs,xs,h1,h2,h3,h4⟩:=all len (Nat.le_refl _)
    refine⟨xs,⟨_,vs,rfl,⟨some a,cap,by rw [h1],by omega,hm,(fun h=>by cases h),by rw [h1];exact h2,fun j u hj=> ?_⟩,h4⟩,by simp [elemsOf,h1,hlen]⟩
    have hsp:a.spot=none:=by
      cases hv:vs with
      |nil=>rw [hv] at hj;simp at hj
      | cons u0 r=>
        have:=h3 0 u0 (by rw [hv];rfl)
        rw [show a.add 0=a by simp [Addr.add]] at this
        exact zfp this
    exact⟨⟨a,rfl,hsp⟩,by rw [← ZM hsp];exact h3 j u hj⟩
theorem weightsAll_mem {e:TypeId}: ∀ {es:List (DataW H)} {d:DataW H},d ∈ es→∀ n ∈ d.weights Pr e,n ∈ DataW.weightsAll Pr e es
  | x::es,d,hd,n,hn=>by
    simp only [DataW.weightsAll,List.mem_append]
    rcases List.mem_cons.1 hd with rfl|hd
    · exact .inl hn
    · exact .inr (weightsAll_mem hd n hn)
theorem za6 {t e:TypeId} (ht:Pr.underlying t=some (.slice e)) {d z:DataW H} (h:Small Pr t d) (hz:z ∈ elemsOf d):Small Pr e z:=by
  cases d<;>simp only [elemsOf,List.not_mem_nil] at hz
  refine List.all_eq_true.2 fun n hn=>List.all_eq_true.1 h n ?_
  simp only [DataW.weights,ht,List.mem_cons,List.mem_append]
  exact .inr (.inl (weightsAll_mem hz n hn))
theorem zb3 {t e:TypeId} (ht:Pr.underlying t=some (.slice e)) (hb:Nat.blt 0 (Pr.bytesOf e)=true) {d:DataW H} (h:Small Pr t d):(elemsOf d).length≤140737488355328:=by
  cases d<;>simp only [elemsOf]<;>try exact Nat.zero_le _
  rename_i es ss
  have h1:=List.all_eq_true.1 h ((es.length+ss.length) * Pr.bytesOf e) (by simp [DataW.weights,ht])
  have hb:0<Pr.bytesOf e:=by simpa [Nat.blt_eq] using hb
  refine zeB (Nat.le_trans (Nat.le_trans (Nat.le_add_right _ ss.length) (Nat.le_mul_of_pos_right _ hb)) (by simpa using h1))
theorem op_list {t e:TypeId} {u:U} (ht:Pr.underlying t=some (.slice e)) (hc:Pr.cellsOf e=u.size) (hb:Nat.blt 0 (Pr.bytesOf e)=true) (he:rJ hsh Pr w hF base spare held e (QU u)):
    rJ hsh Pr w hF base spare held t (QL u):=by
  intro fuel cs y h hs
  obtain⟨l,hl,hlen⟩:=SI (R:=fun _ cs (x:u.den)=>MPs (frzW w hF) (enc alg u x) cs∧wfZ u x) ht hc h (fun n ci z hz ht'=>by
    obtain⟨ps,h1,x,rfl,hx⟩:=he n ci z ht' (za6 ht hs hz)
    exact⟨x,h1,hx⟩)
  have hl':=hl
  obtain⟨v,vs,rfl,_,hx⟩:=hl
  refine⟨[.list u l],⟨zfW (fun _ _ h=>h.1) hl',trivial⟩,l,rfl,by unfold wfS;rw [hlen];exact zb3 ht hb hs,fun x hm=> ?_⟩
  obtain⟨i,hi⟩:=List.getElem?_of_mem hm
  exact(hx i x hi).2
def zbQ (hsh:TypeId × Value→H) (Pr:Program) (w:World) (hF:Holds w) (base:Nat) (spare:Nat→Bool) (held:Bool):List Field→List (List P→Prop)→Prop
  |[],[]=>True
  |f::fs,Q::Qs=>rJ hsh Pr w hF base spare held f.type Q∧zbQ hsh Pr w hF base spare held fs Qs
  |_,_=>False
theorem zbQ.nil:zbQ hsh Pr w hF base spare held [] []:=trivial
theorem zbQ.cons {f:Field} {fs:List Field} {Q:List P→Prop} {Qs:List (List P→Prop)} (h:rJ hsh Pr w hF base spare held f.type Q) (k:zbQ hsh Pr w hF base spare held fs Qs):zbQ hsh Pr w hF base spare held (f::fs) (Q::Qs):=⟨h,k⟩
theorem MPs.append {S:Frz}: ∀ {a b:List P} {x y:List Value},MPs S a x→MPs S b y→MPs S (a++b) (x++y)
  |[],_,[],_,_,h=>h
  |_::_,_,_::_,_,h,k=>⟨h.1,MPs.append h.2 k⟩
theorem z_one {t:TypeId} {v:Value} {d:DataW H} {ps:List MemPlace} {Q:List P→Prop} (hr:v.oneCell'=true) (h:DataW.Trod hsh Pr w base spare held t v d ps) (hs:Small Pr t d) (ho:rJ hsh Pr w hF base spare held t Q): ∃ qs,MPs (frzW w hF) qs [v]∧Q qs:=by
  obtain⟨fuel,hf⟩:=h
  have hc:v.cells.toList=[v]:=by cases v<;>first|rfl|cases hr
  rw [hc] at hf
  exact ho fuel _ _ hf hs
theorem small_nth {ts:List TypeId} {ds:List (DataW H)} (h:(DataW.weightsEach Pr ts ds).all (· ≤reachBytes)=true) {j:Nat} {t:TypeId} {d:DataW H} (ht:ts[j]? =some t) (hd:ds[j]? =some d):Small Pr t d:=
  List.all_eq_true.2 fun n hn=>List.all_eq_true.1 h n (DataW.weights_mem_each ht hd n hn)
end
end Go.Ab
namespace Go.Proofs
open Go.Shelf
def Tryz.Ro:Go.Shelf.Ren:=⟨fun|160=>83|232=>96|231=>95|227=>80|234=>98|233=>97|236=>100|235=>99|228=>81|271=>113|151=>112|197=>111|120=>124|152=>78|260=>123|137=>77|119=>92|224=>93|225=>94|217=>91|266=>110|n=>n,fun|9=>9|4=>4|3=>3|5=>5|117=>109|116=>108|0=>0|124=>121|21=>21|105=>131|46=>80|119=>142|139=>145|138=>144|n=>n,fun|3=>2|4=>3|n=>n⟩
theorem Tryz.lays160:Go.Proofs.Lays.n160 Tryz.prog Tryz.Ro:= {
  mixed:=by kernel_rfl
  f119:=Tryz.func92.trans (congrArg some (by kernel_rfl))
  f120:=Tryz.func124.trans (congrArg some (by kernel_rfl))
  f137:=Tryz.func77.trans (congrArg some (by kernel_rfl))
  f151:=Tryz.func112.trans (congrArg some (by kernel_rfl))
  f152:=Tryz.func78.trans (congrArg some (by kernel_rfl))
  f160:=Tryz.func83.trans (congrArg some (by kernel_rfl))
  f197:=Tryz.func111.trans (congrArg some (by kernel_rfl))
  f217:=Tryz.func91.trans (congrArg some (by kernel_rfl))
  f224:=Tryz.func93.trans (congrArg some (by kernel_rfl))
  f225:=Tryz.func94.trans (congrArg some (by kernel_rfl))
  f227:=Tryz.func80.trans (congrArg some (by kernel_rfl))
  f228:=Tryz.func81.trans (congrArg some (by kernel_rfl))
  f231:=Tryz.func95.trans (congrArg some (by kernel_rfl))
  f232:=Tryz.func96.trans (congrArg some (by kernel_rfl))
  f233:=Tryz.func97.trans (congrArg some (by kernel_rfl))
  f234:=Tryz.func98.trans (congrArg some (by kernel_rfl))
  f235:=Tryz.func99.trans (congrArg some (by kernel_rfl))
  f236:=Tryz.func100.trans (congrArg some (by kernel_rfl))
  f260:=Tryz.func123.trans (congrArg some (by kernel_rfl))
  f266:=Tryz.func110.trans (congrArg some (by kernel_rfl))
  f271:=Tryz.func113.trans (congrArg some (by kernel_rfl))
  t0:=Tryz.underlying0
  a0:=Tryz.isAgg0
  z0:=Tryz.sizeOf0
  v0:=Tryz.zeroValue0
  t3:=Tryz.underlying3
  a3:=Tryz.isAgg3
  z3:=Tryz.sizeOf3
  v3:=Tryz.zeroValue3
  t4:=Tryz.underlying4
  a4:=Tryz.isAgg4
  z4:=Tryz.sizeOf4
  v4:=Tryz.zeroValue4
  t5:=Tryz.underlying5
  a5:=Tryz.isAgg5
  z5:=Tryz.sizeOf5
  v5:=Tryz.zeroValue5
  t9:=Tryz.underlying9
  a9:=Tryz.isAgg9
  z9:=Tryz.sizeOf9
  v9:=Tryz.zeroValue9
  t21:=Tryz.underlying21
  a21:=Tryz.isAgg21
  z21:=Tryz.sizeOf21
  v21:=Tryz.zeroValue21
  t46:=Tryz.underlying80
  a46:=Tryz.isAgg80
  z46:=Tryz.sizeOf80
  v46:=Tryz.zeroValue80
  t105:=Tryz.underlying131
  a105:=Tryz.isAgg131
  z105:=Tryz.sizeOf131
  v105:=Tryz.zeroValue131
  t116:=Tryz.underlying108
  a116:=Tryz.isAgg108
  z116:=Tryz.sizeOf108
  t117:=Tryz.underlying109
  a117:=Tryz.isAgg109
  z117:=Tryz.sizeOf109
  v117:=Tryz.zeroValue109
  t119:=Tryz.underlying142
  a119:=Tryz.isAgg142
  z119:=Tryz.sizeOf142
  t124:=Tryz.underlying121
  a124:=Tryz.isAgg121
  z124:=Tryz.sizeOf121
  v124:=Tryz.zeroValue121
  t138:=Tryz.underlying144
  a138:=Tryz.isAgg144
  z138:=Tryz.sizeOf144
  v138:=Tryz.zeroValue144
  t139:=Tryz.underlying145
  a139:=Tryz.isAgg145
  z139:=Tryz.sizeOf145
  v139:=Tryz.zeroValue145
  g3:=by kernel_rfl
  g4:=by kernel_rfl}
def Tryz.Rw:Go.Shelf.Ren:=⟨fun|137=>77|217=>91|266=>110|n=>n,fun|9=>9|5=>5|3=>3|n=>n,fun|n=>n⟩
theorem Tryz.lays137:Go.Proofs.Lays.n137 Tryz.prog Tryz.Rw:= {
  mixed:=by kernel_rfl
  f137:=Tryz.func77.trans (congrArg some (by kernel_rfl))
  f217:=Tryz.func91.trans (congrArg some (by kernel_rfl))
  f266:=Tryz.func110.trans (congrArg some (by kernel_rfl))
  t3:=Tryz.underlying3
  a3:=Tryz.isAgg3
  z3:=Tryz.sizeOf3
  v3:=Tryz.zeroValue3
  t5:=Tryz.underlying5
  a5:=Tryz.isAgg5
  z5:=Tryz.sizeOf5
  v5:=Tryz.zeroValue5
  t9:=Tryz.underlying9
  a9:=Tryz.isAgg9
  z9:=Tryz.sizeOf9
  v9:=Tryz.zeroValue9}
def Tryz.U7:Go.Shelf.Ren:=⟨fun|171=>39|243=>65|246=>84|283=>101|284=>102|285=>103|286=>104|129=>115|317=>114|318=>116|319=>117|320=>118|337=>125|338=>126|n=>n,fun|3=>3|9=>9|2=>2|4=>4|171=>124|0=>0|53=>125|37=>22|5=>5|173=>128|212=>135|51=>136|20=>20|213=>137|46=>80|232=>146|233=>147|n=>n,fun|17=>1|18=>4|19=>5|n=>n⟩
theorem Tryz.laysM171:Go.Proofs.LaysM.n171 Tryz.prog Tryz.U7:= {
  mixed:=by kernel_rfl
  f129:=Tryz.func115.trans (congrArg some (by kernel_rfl))
  f171:=Tryz.func39.trans (congrArg some (by kernel_rfl))
  f243:=Tryz.func65.trans (congrArg some (by kernel_rfl))
  f246:=Tryz.func84.trans (congrArg some (by kernel_rfl))
  f283:=Tryz.func101.trans (congrArg some (by kernel_rfl))
  f284:=Tryz.func102.trans (congrArg some (by kernel_rfl))
  f285:=Tryz.func103.trans (congrArg some (by kernel_rfl))
  f286:=Tryz.func104.trans (congrArg some (by kernel_rfl))
  f317:=Tryz.func114.trans (congrArg some (by kernel_rfl))
  f318:=Tryz.func116.trans (congrArg some (by kernel_rfl))
  f319:=Tryz.func117.trans (congrArg some (by kernel_rfl))
  f320:=Tryz.func118.trans (congrArg some (by kernel_rfl))
  f337:=Tryz.func125.trans (congrArg some (by kernel_rfl))
  f338:=Tryz.func126.trans (congrArg some (by kernel_rfl))
  t0:=Tryz.underlying0
  a0:=Tryz.isAgg0
  z0:=Tryz.sizeOf0
  v0:=Tryz.zeroValue0
  t2:=Tryz.underlying2
  a2:=Tryz.isAgg2
  z2:=Tryz.sizeOf2
  v2:=Tryz.zeroValue2
  t3:=Tryz.underlying3
  a3:=Tryz.isAgg3
  z3:=Tryz.sizeOf3
  v3:=Tryz.zeroValue3
  t4:=Tryz.underlying4
  a4:=Tryz.isAgg4
  z4:=Tryz.sizeOf4
  v4:=Tryz.zeroValue4
  t5:=Tryz.underlying5
  a5:=Tryz.isAgg5
  z5:=Tryz.sizeOf5
  v5:=Tryz.zeroValue5
  t9:=Tryz.underlying9
  a9:=Tryz.isAgg9
  z9:=Tryz.sizeOf9
  v9:=Tryz.zeroValue9
  t20:=Tryz.underlying20
  a20:=Tryz.isAgg20
  z20:=Tryz.sizeOf20
  v20:=Tryz.zeroValue20
  t37:=Tryz.underlying22
  a37:=Tryz.isAgg22
  z37:=Tryz.sizeOf22
  v37:=Tryz.zeroValue22
  t46:=Tryz.underlying80
  a46:=Tryz.isAgg80
  z46:=Tryz.sizeOf80
  v46:=Tryz.zeroValue80
  t51:=Tryz.underlying136
  a51:=Tryz.isAgg136
  z51:=Tryz.sizeOf136
  v51:=Tryz.zeroValue136
  t53:=Tryz.underlying125
  a53:=Tryz.isAgg125
  z53:=Tryz.sizeOf125
  v53:=Tryz.zeroValue125
  t171:=Tryz.underlying124
  a171:=Tryz.isAgg124
  z171:=Tryz.sizeOf124
  v171:=Tryz.zeroValue124
  t173:=Tryz.underlying128
  a173:=Tryz.isAgg128
  z173:=Tryz.sizeOf128
  v173:=Tryz.zeroValue128
  t212:=Tryz.underlying135
  a212:=Tryz.isAgg135
  z212:=Tryz.sizeOf135
  v212:=Tryz.zeroValue135
  t213:=Tryz.underlying137
  a213:=Tryz.isAgg137
  z213:=Tryz.sizeOf137
  t232:=Tryz.underlying146
  a232:=Tryz.isAgg146
  z232:=Tryz.sizeOf146
  v232:=Tryz.zeroValue146
  t233:=Tryz.underlying147
  a233:=Tryz.isAgg147
  z233:=Tryz.sizeOf147
  v233:=Tryz.zeroValue147
  g17:=by kernel_rfl
  g18:=by kernel_rfl
  g19:=by kernel_rfl
  i0:=by kernel_rfl
  i2:=by kernel_rfl
  i3:=by kernel_rfl
  i4:=by kernel_rfl
  i5:=by kernel_rfl
  i9:=by kernel_rfl
  i20:=by kernel_rfl
  i37:=by kernel_rfl
  i46:=by kernel_rfl
  i51:=by kernel_rfl
  i53:=by kernel_rfl
  i171:=by kernel_rfl
  i173:=by kernel_rfl
  i212:=by kernel_rfl
  i232:=by kernel_rfl
  i233:=by kernel_rfl
  m17:=by kernel_rfl
  m18:=by kernel_rfl
  m19:=by kernel_rfl}
def Tryz.Rn:Go.Shelf.Ren:=⟨fun|219=>122|217=>91|225=>94|224=>93|267=>130|266=>110|314=>131|n=>n,fun|9=>9|3=>3|4=>4|5=>5|46=>80|146=>148|51=>136|n=>n,fun|1=>0|n=>n⟩
theorem Tryz.lays219:Go.Proofs.Lays.n219 Tryz.prog Tryz.Rn:= {
  mixed:=by kernel_rfl
  f217:=Tryz.func91.trans (congrArg some (by kernel_rfl))
  f219:=Tryz.func122.trans (congrArg some (by kernel_rfl))
  f224:=Tryz.func93.trans (congrArg some (by kernel_rfl))
  f225:=Tryz.func94.trans (congrArg some (by kernel_rfl))
  f266:=Tryz.func110.trans (congrArg some (by kernel_rfl))
  f267:=Tryz.func130.trans (congrArg some (by kernel_rfl))
  f314:=Tryz.func131.trans (congrArg some (by kernel_rfl))
  t3:=Tryz.underlying3
  a3:=Tryz.isAgg3
  z3:=Tryz.sizeOf3
  v3:=Tryz.zeroValue3
  t4:=Tryz.underlying4
  a4:=Tryz.isAgg4
  z4:=Tryz.sizeOf4
  v4:=Tryz.zeroValue4
  t5:=Tryz.underlying5
  a5:=Tryz.isAgg5
  z5:=Tryz.sizeOf5
  v5:=Tryz.zeroValue5
  t9:=Tryz.underlying9
  a9:=Tryz.isAgg9
  z9:=Tryz.sizeOf9
  v9:=Tryz.zeroValue9
  t46:=Tryz.underlying80
  a46:=Tryz.isAgg80
  z46:=Tryz.sizeOf80
  v46:=Tryz.zeroValue80
  t51:=Tryz.underlying136
  a51:=Tryz.isAgg136
  z51:=Tryz.sizeOf136
  v51:=Tryz.zeroValue136
  t146:=Tryz.underlying148
  a146:=Tryz.isAgg148
  z146:=Tryz.sizeOf148
  v146:=Tryz.zeroValue148
  g1:=by kernel_rfl}
def Tryz.Ru:Go.Shelf.Ren:=⟨fun|144=>87|143=>107|219=>122|217=>91|225=>94|224=>93|267=>130|266=>110|314=>131|n=>n,fun|9=>9|4=>4|3=>3|5=>5|46=>80|146=>148|51=>136|n=>n,fun|1=>0|n=>n⟩
theorem Tryz.lays144:Go.Proofs.Lays.n144 Tryz.prog Tryz.Ru:= {
  mixed:=by kernel_rfl
  f143:=Tryz.func107.trans (congrArg some (by kernel_rfl))
  f144:=Tryz.func87.trans (congrArg some (by kernel_rfl))
  f217:=Tryz.func91.trans (congrArg some (by kernel_rfl))
  f219:=Tryz.func122.trans (congrArg some (by kernel_rfl))
  f224:=Tryz.func93.trans (congrArg some (by kernel_rfl))
  f225:=Tryz.func94.trans (congrArg some (by kernel_rfl))
  f266:=Tryz.func110.trans (congrArg some (by kernel_rfl))
  f267:=Tryz.func130.trans (congrArg some (by kernel_rfl))
  f314:=Tryz.func131.trans (congrArg some (by kernel_rfl))
  t3:=Tryz.underlying3
  a3:=Tryz.isAgg3
  z3:=Tryz.sizeOf3
  v3:=Tryz.zeroValue3
  t4:=Tryz.underlying4
  a4:=Tryz.isAgg4
  z4:=Tryz.sizeOf4
  v4:=Tryz.zeroValue4
  t5:=Tryz.underlying5
  a5:=Tryz.isAgg5
  z5:=Tryz.sizeOf5
  v5:=Tryz.zeroValue5
  t9:=Tryz.underlying9
  a9:=Tryz.isAgg9
  z9:=Tryz.sizeOf9
  v9:=Tryz.zeroValue9
  t46:=Tryz.underlying80
  a46:=Tryz.isAgg80
  z46:=Tryz.sizeOf80
  v46:=Tryz.zeroValue80
  t51:=Tryz.underlying136
  a51:=Tryz.isAgg136
  z51:=Tryz.sizeOf136
  v51:=Tryz.zeroValue136
  t146:=Tryz.underlying148
  a146:=Tryz.isAgg148
  z146:=Tryz.sizeOf148
  v146:=Tryz.zeroValue148
  g1:=by kernel_rfl}
def Tryz.lays99_ren:Go.Shelf.Ren:=⟨fun|99=>33|206=>60|n=>n,fun|9=>9|4=>4|3=>3|n=>n,fun|n=>n⟩
theorem Tryz.lays99:Go.Proofs.Lays.n99 Tryz.prog Tryz.lays99_ren:= {
  mixed:=by kernel_rfl
  f99:=Tryz.func33.trans (congrArg some (by kernel_rfl))
  f206:=Tryz.func60.trans (congrArg some (by kernel_rfl))
  t3:=Tryz.underlying3
  a3:=Tryz.isAgg3
  z3:=Tryz.sizeOf3
  v3:=Tryz.zeroValue3
  t4:=Tryz.underlying4
  a4:=Tryz.isAgg4
  z4:=Tryz.sizeOf4
  v4:=Tryz.zeroValue4
  t9:=Tryz.underlying9
  a9:=Tryz.isAgg9
  z9:=Tryz.sizeOf9
  v9:=Tryz.zeroValue9}
def Tryz.lays146_ren:Go.Shelf.Ren:=⟨fun|146=>86|221=>106|268=>120|138=>121|143=>107|195=>128|197=>111|218=>129|219=>122|260=>123|217=>91|225=>94|224=>93|267=>130|266=>110|314=>131|n=>n,fun|9=>9|31=>74|3=>3|4=>4|0=>0|105=>131|21=>21|5=>5|46=>80|119=>142|139=>145|138=>144|146=>148|51=>136|n=>n,fun|1=>0|3=>2|4=>3|n=>n⟩
theorem Tryz.lays146:Go.Proofs.Lays.n146 Tryz.prog Tryz.lays146_ren:= {
  mixed:=by kernel_rfl
  f138:=Tryz.func121.trans (congrArg some (by kernel_rfl))
  f143:=Tryz.func107.trans (congrArg some (by kernel_rfl))
  f146:=Tryz.func86.trans (congrArg some (by kernel_rfl))
  f195:=Tryz.func128.trans (congrArg some (by kernel_rfl))
  f197:=Tryz.func111.trans (congrArg some (by kernel_rfl))
  f217:=Tryz.func91.trans (congrArg some (by kernel_rfl))
  f218:=Tryz.func129.trans (congrArg some (by kernel_rfl))
  f219:=Tryz.func122.trans (congrArg some (by kernel_rfl))
  f221:=Tryz.func106.trans (congrArg some (by kernel_rfl))
  f224:=Tryz.func93.trans (congrArg some (by kernel_rfl))
  f225:=Tryz.func94.trans (congrArg some (by kernel_rfl))
  f260:=Tryz.func123.trans (congrArg some (by kernel_rfl))
  f266:=Tryz.func110.trans (congrArg some (by kernel_rfl))
  f267:=Tryz.func130.trans (congrArg some (by kernel_rfl))
  f268:=Tryz.func120.trans (congrArg some (by kernel_rfl))
  f314:=Tryz.func131.trans (congrArg some (by kernel_rfl))
  t0:=Tryz.underlying0
  a0:=Tryz.isAgg0
  z0:=Tryz.sizeOf0
  v0:=Tryz.zeroValue0
  t3:=Tryz.underlying3
  a3:=Tryz.isAgg3
  z3:=Tryz.sizeOf3
  v3:=Tryz.zeroValue3
  t4:=Tryz.underlying4
  a4:=Tryz.isAgg4
  z4:=Tryz.sizeOf4
  v4:=Tryz.zeroValue4
  t5:=Tryz.underlying5
  a5:=Tryz.isAgg5
  z5:=Tryz.sizeOf5
  v5:=Tryz.zeroValue5
  t9:=Tryz.underlying9
  a9:=Tryz.isAgg9
  z9:=Tryz.sizeOf9
  v9:=Tryz.zeroValue9
  t21:=Tryz.underlying21
  a21:=Tryz.isAgg21
  z21:=Tryz.sizeOf21
  v21:=Tryz.zeroValue21
  t31:=Tryz.underlying74
  a31:=Tryz.isAgg74
  z31:=Tryz.sizeOf74
  v31:=Tryz.zeroValue74
  t46:=Tryz.underlying80
  a46:=Tryz.isAgg80
  z46:=Tryz.sizeOf80
  v46:=Tryz.zeroValue80
  t51:=Tryz.underlying136
  a51:=Tryz.isAgg136
  z51:=Tryz.sizeOf136
  v51:=Tryz.zeroValue136
  t105:=Tryz.underlying131
  a105:=Tryz.isAgg131
  z105:=Tryz.sizeOf131
  v105:=Tryz.zeroValue131
  t119:=Tryz.underlying142
  a119:=Tryz.isAgg142
  z119:=Tryz.sizeOf142
  t138:=Tryz.underlying144
  a138:=Tryz.isAgg144
  z138:=Tryz.sizeOf144
  v138:=Tryz.zeroValue144
  t139:=Tryz.underlying145
  a139:=Tryz.isAgg145
  z139:=Tryz.sizeOf145
  v139:=Tryz.zeroValue145
  t146:=Tryz.underlying148
  a146:=Tryz.isAgg148
  z146:=Tryz.sizeOf148
  v146:=Tryz.zeroValue148
  g1:=by kernel_rfl
  g3:=by kernel_rfl
  g4:=by kernel_rfl}
def Tryz.lays150_ren:Go.Shelf.Ren:=⟨fun|150=>34|153=>61|152=>78|226=>79|227=>80|228=>81|137=>77|119=>92|224=>93|225=>94|217=>91|266=>110|n=>n,fun|9=>9|4=>4|3=>3|5=>5|21=>21|117=>109|116=>108|0=>0|46=>80|124=>121|n=>n,fun|n=>n⟩
theorem Tryz.lays150:Go.Proofs.Lays.n150 Tryz.prog Tryz.lays150_ren:= {
  mixed:=by kernel_rfl
  f119:=Tryz.func92.trans (congrArg some (by kernel_rfl))
  f137:=Tryz.func77.trans (congrArg some (by kernel_rfl))
  f150:=Tryz.func34.trans (congrArg some (by kernel_rfl))
  f152:=Tryz.func78.trans (congrArg some (by kernel_rfl))
  f153:=Tryz.func61.trans (congrArg some (by kernel_rfl))
  f217:=Tryz.func91.trans (congrArg some (by kernel_rfl))
  f224:=Tryz.func93.trans (congrArg some (by kernel_rfl))
  f225:=Tryz.func94.trans (congrArg some (by kernel_rfl))
  f226:=Tryz.func79.trans (congrArg some (by kernel_rfl))
  f227:=Tryz.func80.trans (congrArg some (by kernel_rfl))
  f228:=Tryz.func81.trans (congrArg some (by kernel_rfl))
  f266:=Tryz.func110.trans (congrArg some (by kernel_rfl))
  t0:=Tryz.underlying0
  a0:=Tryz.isAgg0
  z0:=Tryz.sizeOf0
  v0:=Tryz.zeroValue0
  t3:=Tryz.underlying3
  a3:=Tryz.isAgg3
  z3:=Tryz.sizeOf3
  v3:=Tryz.zeroValue3
  t4:=Tryz.underlying4
  a4:=Tryz.isAgg4
  z4:=Tryz.sizeOf4
  v4:=Tryz.zeroValue4
  t5:=Tryz.underlying5
  a5:=Tryz.isAgg5
  z5:=Tryz.sizeOf5
  v5:=Tryz.zeroValue5
  t9:=Tryz.underlying9
  a9:=Tryz.isAgg9
  z9:=Tryz.sizeOf9
  v9:=Tryz.zeroValue9
  t21:=Tryz.underlying21
  a21:=Tryz.isAgg21
  z21:=Tryz.sizeOf21
  v21:=Tryz.zeroValue21
  t46:=Tryz.underlying80
  a46:=Tryz.isAgg80
  z46:=Tryz.sizeOf80
  v46:=Tryz.zeroValue80
  t116:=Tryz.underlying108
  a116:=Tryz.isAgg108
  z116:=Tryz.sizeOf108
  t117:=Tryz.underlying109
  a117:=Tryz.isAgg109
  z117:=Tryz.sizeOf109
  v117:=Tryz.zeroValue109
  t124:=Tryz.underlying121
  a124:=Tryz.isAgg121
  z124:=Tryz.sizeOf121
  v124:=Tryz.zeroValue121}
open Go.RowKit in
theorem Tryz.strings_IndexByte (s:ByteArray) (c:Int) (w:World):
    Calls Tryz.prog 77 #[.string s,.int .u8 c] w fun e w'=>e=.returned (.int .i64 (Lib.indexByte s.data.toList c.toNat.toUInt8))∧w'=w:=Any.strings_IndexByte Tryz.lays137 s c w
open Go.RowKit Go.Sort Go.Lib in
theorem Tryz.strconv_Itoa (n:Int) (h0: -9223372036854775808≤n) (h1:n≤9223372036854775807) (w:World) (htab:Lib.TabIs Tryz.prog w "internal/strconv.uint64pow10" .u64 Lib.pow10Tab):
    Calls Tryz.prog 39 #[.int .i64 n] w fun e w'=>e=.returned (.string ⟨(Lib.itoa n).toArray⟩)∧∃ k os,w'=grow (w.drewN k) os:=Any.strconv_Itoa Tryz.laysM171 n h0 h1 w htab
open Go.RowKit Go.Lib in
theorem Tryz.stringslite_Index_one (s:ByteArray) (c:UInt8) (w:World):
    Calls Tryz.prog 122 #[.string s,.string ⟨#[c]⟩] w fun e w'=>e=.returned (.int .i64 (Lib.indexByte s.data.toList c))∧w'=w:=Any.stringslite_Index_one Tryz.lays219 s c w
open Go.RowKit Go.Lib in
theorem Tryz.strings_Contains_one (s:ByteArray) (c:UInt8) (w:World):
    Calls Tryz.prog 87 #[.string s,.string ⟨#[c]⟩] w fun e w'=>e=.returned (.bool (decide (0≤Lib.indexByte s.data.toList c)))∧w'=w:=Any.strings_Contains_one Tryz.lays144 s c w
open Go.RowKit Go.Lib in
theorem Tryz.strings_HasPrefix (s p:ByteArray) (w:World):
    Calls Tryz.prog 33 #[.string s,.string p] w fun e w'=>e=.returned (.bool (Lib.hasPrefix s.data.toList p.data.toList))∧w'=w:=Any.strings_HasPrefix Tryz.lays99 s p w
open Go.RowKit Go.Lib in
theorem Tryz.strings_Split (s sep:ByteArray) (m:Int) (w:World) (hs:s.size<4294967281) (hm:w.cell? ⟨0,0,none⟩=some (.int .i64 m)) (h1:1≤sep.size):
    Calls Tryz.prog 86 #[.string s,.string sep] w fun e w'=>
      e=.returned (.slice (some ⟨w.heap.size,0,none⟩) (Lib.countB s sep+1) (Lib.countB s sep+1))∧w'=w.alloc (.cells ((Lib.splitB sep 0 (Lib.countB s sep) s).map Value.string).toArray 9):=Any.strings_Split Tryz.lays146 (by kernel_rfl) s sep m w hs hm h1
open Go.RowKit Go.Lib in
theorem Tryz.strings_ContainsAny (hv116: ∀ w,(zeroValue 108).run Tryz.prog w=.ok (.agg (Array.replicate 256 (.bool false))) w) (s chars:ByteArray) (w:World) (hs:s.size<4294967281) (hcs:chars.size<4294967281) (has: ∀ (j:Nat) b,s.data.toList[j]? =some b→b.toNat<128) (hac: ∀ (j:Nat) b,chars.data.toList[j]? =some b→b.toNat<128):
    Calls Tryz.prog 34 #[.string s,.string chars] w fun e w'=>e=.returned (.bool (Lib.containsAny s.data.toList chars.data.toList))∧Below w.heap.size w w':=Any.strings_ContainsAny Tryz.lays150 hv116 (by kernel_rfl) s chars w hs hcs has hac
theorem Tryz.strings_Trim_laid (s cutset:ByteArray) (w:World) (hs:s.size≤9223372036854775807) (hcs:cutset.size<4294967281) (hascii: ∀ (j:Nat) b,cutset.data.toList[j]? =some b→b.toNat<128):
    Calls Tryz.prog 83 #[.string s,.string cutset] w fun e w'=>e=.returned (.string ⟨(Lib.trimS s.data.toList cutset.data.toList).toArray⟩)∧Go.RowKit.Below w.heap.size w w':=Any.strings_Trim_laid Tryz.lays160 (by kernel_rfl) s cutset w hs hcs hascii
end Go.Proofs
namespace Go.Ab
open Go Go.Sep
variable [Facts]
theorem Qb {w w':World} (h:RowKit.Below w.heap.size w w'):Keeps (fun k=>k<w.heap.size) w w':=⟨h.1,h.2,h.3,h.4,h.5⟩
theorem Spc.of_below {Pr:Program} {f:Nat} {args:List D} {hp:List HO} {d:D} (hf: ∃ fn,Pr.funcs[f]? =some fn∧(fn.name == "runtime.NumGoroutine")=false∧fn.body.isNone=false)
    (h: ∀ (S:Frz) (bs:List Value) (w:World) (vs:List Value),Facts.p w→MDs S bs args vs→∃ v,MD S bs d v∧Calls Pr f vs.toArray w fun e w'=>e=.returned v∧RowKit.Below w.heap.size w w'):Spc Pr f args hp (.ret d) hp:=by
  refine⟨hf,fun S K fr w vs hH hM hA=> ?_⟩
  obtain⟨v,hv,hc⟩:=h S _ w vs (At.frz hA).facts hM
  refine hc.mono fun e w' he=> ?_
  obtain⟨he,hb⟩:=he
  subst he
  exact⟨S,K,Frz.le.refl S,Ext.refl _,hH,hA.keep (Qb hb),hv⟩
end Go.Ab
namespace Go.Proofs.YtmibhbdfigpkmaaGreatDoor
open Go Go.Sep Go.Ab
set_option maxRecDepth 100000
theorem Qu (s cs:Str):(Lib.trimS s cs).length≤s.length:=by
  unfold Lib.trimS Lib.trimLeftS Lib.trimRightS
  refine Nat.le_trans (List.dropWhile_sublist _).length_le ?_
  rw [List.length_reverse]
  exact Nat.le_trans (List.dropWhile_sublist _).length_le (by rw [List.length_reverse];exact Nat.le_refl _)
theorem uS: ∀ (s:Str) (c:UInt8),-1≤Lib.indexByte s c∧Lib.indexByte s c<s.length
  |[],c=>by simp [Lib.indexByte]
  | b ::l,c=>by
    have:=uS l c
    unfold Lib.indexByte
    rw [List.length_cons]
    split
    · omega
    · split
      · omega
      · omega
theorem zg7 (s:Str):Spc Tryz.prog 83 [.v (.one (.p (.str s))),.v (.one (.p (.str ([32,9]))))] [] (.ret (.v (.one (.p (.str (Lib.trimS s [32,9])))))) []:=by
  refine Spc.of_below ⟨_,Tryz.func83,by kernel_rfl,by kernel_rfl⟩ fun S bs w vs _ hM=> ?_
  obtain⟨v,r,rfl⟩: ∃ v r,vs=v::r:=by cases vs with|nil=>exact hM.elim|cons v r=>exact⟨v,r,rfl⟩
  obtain⟨h1,hM⟩:=hM
  obtain⟨v2,r2,rfl⟩: ∃ v r2,r=v::r2:=by cases r with|nil=>exact hM.elim|cons v r=>exact⟨v,r,rfl⟩
  obtain⟨h2,hM⟩:=hM
  obtain rfl:r2=[]:=by cases r2 with|nil=>rfl|cons v r=>exact hM.elim
  cases h1 with
  | str _ hl1=>
    cases h2 with
    | str _ hl2=>
      refine⟨.string (Sep.S (Lib.trimS s [32,9])),.str _ (Nat.le_trans (Qu _ _) hl1),?_⟩
      exact Tryz.strings_Trim_laid (Sep.S s) (Sep.S [32,9]) w (by have:=hl1;unfold maxLen at this;exact this) (by decide) (fun j b hb=>by
        have:=List.mem_of_getElem? hb
        rcases(by simpa [Sep.S] using this:b=32∨b=9) with rfl|rfl<;>decide)
def W9 (I:Alg) (args:List D) (hp:List HO):Option CT:=match args,hp with
  |[.v (.one (.p (.str s))),.v (.one (.p (.str ([32,9]))))],[]=>(fun(s:Str)=>(some (.one ⟨I.hid (True),(.ret (.v (.one (.p (.str (I.hid (Lib.trimS s [32,9]))))))),[]⟩):Option CT)) s
  |_,_=>none
theorem zbU:zI Tryz.prog 83 (W9 alg):=by
  intro args hp r h
  unfold W9 at h
  split at h
  · cases h;exact fun hn=>zg7 _
  · cases h
def zfn:Know Tryz.prog:=⟨83,W9,zbU⟩
def zfm:Know Tryz.prog:=⟨83,fun I=>zL I (W9 I),zf zbU⟩
theorem zbA (s:Str) (k:Int):Spc Tryz.prog 77 [.v (.one (.p (.str s))),.v (.one (.p (.int .u8 k)))] [] (.ret (.v (.one (.p (.int .i64 (Lib.indexByte s k.toNat.toUInt8)))))) []:=by
  refine Spc.of_below ⟨_,Tryz.func77,by kernel_rfl,by kernel_rfl⟩ fun S bs w vs _ hM=> ?_
  obtain⟨v,r,rfl⟩: ∃ v r,vs=v::r:=by cases vs with|nil=>exact hM.elim|cons v r=>exact⟨v,r,rfl⟩
  obtain⟨h1,hM⟩:=hM
  obtain⟨v2,r2,rfl⟩: ∃ v r2,r=v::r2:=by cases r with|nil=>exact hM.elim|cons v r=>exact⟨v,r,rfl⟩
  obtain⟨h2,hM⟩:=hM
  obtain rfl:r2=[]:=by cases r2 with|nil=>rfl|cons v r=>exact hM.elim
  cases h1 with
  | str _ hl1=>
    cases h2 with
    | int _ _=>
      refine⟨.int .i64 (Lib.indexByte s k.toNat.toUInt8),.int _ _,?_⟩
      refine(Tryz.strings_IndexByte (Sep.S s) k w).mono fun e w' h=> ?_
      obtain⟨he,rfl⟩:=h
      exact⟨he,RowKit.Below.refl _ _⟩
def wX (I:Alg) (args:List D) (hp:List HO):Option CT:=match args,hp with
  |[.v (.one (.p (.str s))),.v (.one (.p (.int .u8 k)))],[]=>(fun(s:Str) (k:Int)=>(some (.one ⟨I.hid (True),(.ret (.v (.one (.p (.int .i64 (I.hid (Lib.indexByte s k.toNat.toUInt8))))))),[]⟩):Option CT)) s k
  |_,_=>none
theorem ZY:zI Tryz.prog 77 (wX alg):=by
  intro args hp r h
  unfold wX at h
  split at h
  · cases h;exact fun hn=>zbA _ _
  · cases h
def Tv:Know Tryz.prog:=⟨77,wX,ZY⟩
def Tt:Know Tryz.prog:=⟨77,fun I=>zL I (wX I),zf ZY⟩
theorem zfV (s:Str) (c:UInt8):Spc Tryz.prog 122 [.v (.one (.p (.str s))),.v (.one (.p (.str ([c]))))] [] (.ret (.v (.one (.p (.int .i64 (Lib.indexByte s c)))))) []:=by
  refine Spc.of_below ⟨_,Tryz.func122,by kernel_rfl,by kernel_rfl⟩ fun S bs w vs _ hM=> ?_
  obtain⟨v,r,rfl⟩: ∃ v r,vs=v::r:=by cases vs with|nil=>exact hM.elim|cons v r=>exact⟨v,r,rfl⟩
  obtain⟨h1,hM⟩:=hM
  obtain⟨v2,r2,rfl⟩: ∃ v r2,r=v::r2:=by cases r with|nil=>exact hM.elim|cons v r=>exact⟨v,r,rfl⟩
  obtain⟨h2,hM⟩:=hM
  obtain rfl:r2=[]:=by cases r2 with|nil=>rfl|cons v r=>exact hM.elim
  cases h1 with
  | str _ hl1=>
    cases h2 with
    | str _ _=>
      refine⟨.int .i64 (Lib.indexByte s c),.int _ _,?_⟩
      refine(Tryz.stringslite_Index_one (Sep.S s) c w).mono fun e w' h=> ?_
      obtain⟨he,rfl⟩:=h
      exact⟨he,RowKit.Below.refl _ _⟩
def qX (I:Alg) (args:List D) (hp:List HO):Option CT:=match args,hp with
  |[.v (.one (.p (.str s))),.v (.one (.p (.str ([c]))))],[]=>(fun(s:Str) (c:UInt8)=>(some (.one ⟨I.hid (True),(.ret (.v (.one (.p (.int .i64 (I.hid (Lib.indexByte s c))))))),[]⟩):Option CT)) s c
  |_,_=>none
theorem Tz:zI Tryz.prog 122 (qX alg):=by
  intro args hp r h
  unfold qX at h
  split at h
  · cases h;exact fun hn=>zfV _ _
  · cases h
def zc9:Know Tryz.prog:=⟨122,qX,Tz⟩
def zc8:Know Tryz.prog:=⟨122,fun I=>zL I (qX I),zf Tz⟩
end Go.Proofs.YtmibhbdfigpkmaaGreatDoor
namespace Go.Proofs.YtmibhbdfigpkmaaGreatDoor
open Go Go.Sep Go.Ab
set_option maxRecDepth 100000
def lowK (k:Int):Int:=if 65≤k∧k≤90 then k+32 else k
def rE (k:Int):Bool:=decide (48≤k∧k≤57)
def vF (k:Int):Bool:=decide (97≤lowK k∧lowK k≤122)
def marks:Str:=[33,35,36,37,38,39,42,43,45,46,94,95,96,124,126]
def tokB (k:Int):Bool:=rE k||(vF k||decide (0≤Lib.indexByte marks k.toNat.toUInt8))
def Uk (k:Int):Bool:=decide (k=9∨32≤k∧k≠127)
def hexK (k:Int):Int:=if rE k then k - 48 else if vF k&&decide (lowK k≤102) then lowK k - 97+10 else -1
theorem wrap64 (n:Int) (h: -9223372036854775808≤n∧n≤9223372036854775807):IntKind.i64.wrap n=n:=by
  unfold IntKind.wrap
  simp only [show IntKind.i64.signed=true by decide,show IntKind.i64.bits=64 by decide]
  split<;>simp_all<;>omega
theorem zcX {k:Int} (h:0≤k∧k≤255):0≤lowK k∧lowK k≤255:=by unfold lowK;split<;>omega
theorem zgV (k:Int):Spc Tryz.prog 75 [.v (.one (.p (.int .u8 k)))] [] (.ret (.v (.one (.p (.bool (rE k)))))) []:=by
  refine spcG zx mixed Tryz.func75 (by kernel_rfl) { keep:=some [0,2]} [] (by kernel_rfl) ?_
  intro I X hI hX
  refine zi (.br (I.ile 48 k) (.fin (.ret (.v (.one (.p (.bool (I.ile k 57)))))) []) (.fin (.ret (.v (.one (.p (.bool Bool.false))))) [])) (by kernel_rfl) ?_
  simp only [zC]
  subst hI
  simp only [nrmA,nrmB]
  unfold rE
  exact⟨fun h=>decide_eq_decide.2 (by omega),fun h=>(decide_eq_false (by omega)).symm⟩
def YE (I:Alg) (args:List D) (hp:List HO):Option CT:=match args,hp with
  |[.v (.one (.p (.int .u8 k)))],[]=>(fun(k:Int)=>(some (.one ⟨I.hid (True),(.ret (.v (.one (.p (.bool (I.hid (rE k))))))),[]⟩):Option CT)) k
  |_,_=>none
theorem zaJ:zI Tryz.prog 75 (YE alg):=by
  intro args hp r h
  unfold YE at h
  split at h
  · cases h;exact fun hn=>zgV _
  · cases h
def zaI:Know Tryz.prog:=⟨75,YE,zaJ⟩
def zaH:Know Tryz.prog:=⟨75,fun I=>zL I (YE I),zf zaJ⟩
theorem zgG (k:Int) (hneed:0≤k∧k≤255):Spc Tryz.prog 82 [.v (.one (.p (.int .u8 k)))] [] (.ret (.v (.one (.p (.int .u8 (lowK k)))))) []:=by
  refine spcG zx mixed Tryz.func82 (by kernel_rfl) { keep:=some [0,2]} [] (by kernel_rfl) ?_
  intro I X hI hX
  refine zi (.br (I.ile 65 k) (.br (I.ile k 90) (.need (I.inr Go.IntKind.u8 (I.add k 32)) (.fin (.ret (.v (.one (.p (.int .u8 (I.add k 32)))))) [])) (.fin (.ret (.v (.one (.p (.int .u8 k))))) [])) (.fin (.ret (.v (.one (.p (.int .u8 k))))) [])) (by kernel_rfl) ?_
  simp only [zC]
  subst hI
  simp only [nrmA,nrmB]
  unfold lowK
  (repeat' (first|refine And.intro ?_ ?_|intro _))<;>first|omega|exact True.intro|exact False.elim ‹False›|skip
def Yz (I:Alg) (args:List D) (hp:List HO):Option CT:=match args,hp with
  |[.v (.one (.p (.int .u8 k)))],[]=>(fun(k:Int)=>(some (.one ⟨I.hid (0≤k∧k≤255),(.ret (.v (.one (.p (.int .u8 (I.hid (lowK k))))))),[]⟩):Option CT)) k
  |_,_=>none
theorem zae:zI Tryz.prog 82 (Yz alg):=by
  intro args hp r h
  unfold Yz at h
  split at h
  · cases h;exact fun hn=>zgG _ hn
  · cases h
def Yy:Know Tryz.prog:=⟨82,Yz,zae⟩
def Yx:Know Tryz.prog:=⟨82,fun I=>zL I (Yz I),zf zae⟩
theorem zfT (k:Int) (hneed:0≤k∧k≤255):Spc Tryz.prog 76 [.v (.one (.p (.int .u8 k)))] [] (.ret (.v (.one (.p (.bool (vF k)))))) []:=by
  refine spcG zx mixed Tryz.func76 (by kernel_rfl) { keep:=some [0,2]} [Yy,Yx] (by kernel_rfl) ?_
  intro I X hI hX
  refine zi (let y0:=I.hid (α:=(Prop)) (And (LE.le (0:Int) k) (LE.le k (255:Int)));.need y0 (.br (I.ile 97 (I.hid (α:=Int) (lowK k))) (.need y0 (.fin (.ret (.v (.one (.p (.bool (I.ile (I.hid (α:=Int) (lowK k)) 122)))))) [])) (.fin (.ret (.v (.one (.p (.bool Bool.false))))) []))) (by kernel_rfl) ?_
  simp only [zC]
  subst hI
  simp only [nrmA,nrmB]
  unfold vF
  (repeat' (first|refine And.intro ?_ ?_|intro _))<;>first|omega|exact True.intro|exact False.elim ‹False›|skip
  all_goals first|exact decide_eq_decide.2 (by omega)|exact(decide_eq_false (by omega)).symm|exact(decide_eq_true (by omega)).symm|(rw [show(k == 127)=decide (k=127) from rfl,← decide_not];exact decide_eq_decide.2 (by omega))
def qV (I:Alg) (args:List D) (hp:List HO):Option CT:=match args,hp with
  |[.v (.one (.p (.int .u8 k)))],[]=>(fun(k:Int)=>(some (.one ⟨I.hid (0≤k∧k≤255),(.ret (.v (.one (.p (.bool (I.hid (vF k))))))),[]⟩):Option CT)) k
  |_,_=>none
theorem U6:zI Tryz.prog 76 (qV alg):=by
  intro args hp r h
  unfold qV at h
  split at h
  · cases h;exact fun hn=>zfT _ hn
  · cases h
def U5:Know Tryz.prog:=⟨76,qV,U6⟩
def U4:Know Tryz.prog:=⟨76,fun I=>zL I (qV I),zf U6⟩
theorem zgm (k:Int) (hneed:0≤k∧k≤255):Spc Tryz.prog 59 [.v (.one (.p (.int .u8 k)))] [] (.ret (.v (.one (.p (.bool (tokB k)))))) []:=by
  refine spcG zx mixed Tryz.func59 (by kernel_rfl) { keep:=some [0,2]} [Tv,Tt,zaI,zaH,U5,U4] (by kernel_rfl) ?_
  intro I X hI hX
  refine zi (.need (I.hid (α:=(Prop)) True) (.br (I.hid (α:=Bool) (rE k)) (.fin (.ret (.v (.one (.p (.bool Bool.true))))) []) (.need (I.hid (α:=(Prop)) (And (LE.le (0:Int) k) (LE.le k (255:Int)))) (.br (I.hid (α:=Bool) (vF k)) (.fin (.ret (.v (.one (.p (.bool Bool.true))))) []) (.need (I.hid (α:=(Prop)) True) (.fin (.ret (.v (.one (.p (.bool (I.ile 0 (I.hid (α:=Int) (Go.Lib.indexByte ([33,35,36,37,38,39,42,43,45,46,94,95,96,124,126]:Str) (Nat.toUInt8 (Int.toNat k)))))))))) [])))))) (by kernel_rfl) ?_
  simp only [zC]
  subst hI
  simp only [nrmA,nrmB]
  unfold tokB marks
  (repeat' (first|refine And.intro ?_ ?_|intro _))<;>first|omega|exact True.intro|exact False.elim ‹False›|skip
  all_goals simp [*]
def Yi (I:Alg) (args:List D) (hp:List HO):Option CT:=match args,hp with
  |[.v (.one (.p (.int .u8 k)))],[]=>(fun(k:Int)=>(some (.one ⟨I.hid (0≤k∧k≤255),(.ret (.v (.one (.p (.bool (I.hid (tokB k))))))),[]⟩):Option CT)) k
  |_,_=>none
theorem Qv:zI Tryz.prog 59 (Yi alg):=by
  intro args hp r h
  unfold Yi at h
  split at h
  · cases h;exact fun hn=>zgm _ hn
  · cases h
def Va:Know Tryz.prog:=⟨59,Yi,Qv⟩
def zd8:Know Tryz.prog:=⟨59,fun I=>zL I (Yi I),zf Qv⟩
theorem zd7 (k:Int):Spc Tryz.prog 62 [.v (.one (.p (.int .u8 k)))] [] (.ret (.v (.one (.p (.bool (Uk k)))))) []:=by
  refine spcG zx mixed Tryz.func62 (by kernel_rfl) { keep:=some [0,2]} [] (by kernel_rfl) ?_
  intro I X hI hX
  refine zi (.br (I.ieq k 9) (.fin (.ret (.v (.one (.p (.bool Bool.true))))) []) (.br (I.ile 32 k) (.fin (.ret (.v (.one (.p (.bool (I.bnot (I.ieq k 127))))))) []) (.fin (.ret (.v (.one (.p (.bool Bool.false))))) []))) (by kernel_rfl) ?_
  simp only [zC]
  subst hI
  simp only [nrmA,nrmB]
  unfold Uk
  (repeat' (first|refine And.intro ?_ ?_|intro _))<;>first|omega|exact True.intro|exact False.elim ‹False›|skip
  all_goals first|exact decide_eq_decide.2 (by omega)|exact(decide_eq_false (by omega)).symm|exact(decide_eq_true (by omega)).symm|(rw [show(k == 127)=decide (k=127) from rfl,← decide_not];exact decide_eq_decide.2 (by omega))
def tq (I:Alg) (args:List D) (hp:List HO):Option CT:=match args,hp with
  |[.v (.one (.p (.int .u8 k)))],[]=>(fun(k:Int)=>(some (.one ⟨I.hid (True),(.ret (.v (.one (.p (.bool (I.hid (Uk k))))))),[]⟩):Option CT)) k
  |_,_=>none
theorem XW:zI Tryz.prog 62 (tq alg):=by
  intro args hp r h
  unfold tq at h
  split at h
  · cases h;exact fun hn=>zd7 _
  · cases h
def uZ:Know Tryz.prog:=⟨62,tq,XW⟩
def XV:Know Tryz.prog:=⟨62,fun I=>zL I (tq I),zf XW⟩
theorem hex_ (k:Int) (hneed:0≤k∧k≤255):Spc Tryz.prog 127 [.v (.one (.p (.int .u8 k)))] [] (.ret (.v (.one (.p (.int .i64 (hexK k)))))) []:=by
  refine spcG zx mixed Tryz.func127 (by kernel_rfl) { keep:=some [0,2]} [zaI,zaH,Yy,Yx,U5,U4] (by kernel_rfl) ?_
  intro I X hI hX
  refine zi (let y0:=I.hid (α:=(Prop)) (And (LE.le (0:Int) k) (LE.le k (255:Int)));let y1:=I.add (I.wrap Go.IntKind.i64 (I.sub (I.hid (α:=Int) (lowK k)) 97)) 10;.need (I.hid (α:=(Prop)) True) (.br (I.hid (α:=Bool) (rE k)) (.need (I.inr Go.IntKind.u8 (I.sub k 48)) (.fin (.ret (.v (.one (.p (.int .i64 (I.wrap Go.IntKind.i64 (I.sub k 48))))))) [])) (.need y0 (.br (I.hid (α:=Bool) (vF k)) (.need y0 (.br (I.ile (I.hid (α:=Int) (lowK k)) 102) (.need y0 (.need (I.inr Go.IntKind.u8 (I.sub (I.hid (α:=Int) (lowK k)) 97)) (.need (I.inr Go.IntKind.i64 y1) (.fin (.ret (.v (.one (.p (.int .i64 y1))))) [])))) (.fin (.ret (.v (.one (.p (.int .i64 (Neg.neg (1:Int))))))) []))) (.fin (.ret (.v (.one (.p (.int .i64 (Neg.neg (1:Int))))))) []))))) (by kernel_rfl) ?_
  simp only [zC]
  subst hI
  simp only [nrmA,nrmB]
  (repeat' (first|refine And.intro ?_ ?_|intro _))<;>first|omega|exact True.intro|exact False.elim ‹False›|skip
  all_goals first
    |(have:=of_decide_eq_true ‹rE k=true›;omega)
    |(have:=of_decide_eq_true ‹rE k=true›;unfold hexK;rw [if_pos ‹rE k=true›,wrap64 _ (by omega)])
    |(have:=of_decide_eq_true ‹vF k=true›;omega)
    |(have:=of_decide_eq_true ‹vF k=true›;rw [wrap64 _ (by omega)];omega)
    |(have:=of_decide_eq_true ‹vF k=true›;rw [wrap64 _ (by omega)];unfold hexK;simp [*])
    |(unfold hexK;simp [*])
def zau (I:Alg) (args:List D) (hp:List HO):Option CT:=match args,hp with
  |[.v (.one (.p (.int .u8 k)))],[]=>(fun(k:Int)=>(some (.one ⟨I.hid (0≤k∧k≤255),(.ret (.v (.one (.p (.int .i64 (I.hid (hexK k))))))),[]⟩):Option CT)) k
  |_,_=>none
theorem ze7:zI Tryz.prog 127 (zau alg):=by
  intro args hp r h
  unfold zau at h
  split at h
  · cases h;exact fun hn=>hex_ _ hn
  · cases h
def zat:Know Tryz.prog:=⟨127,zau,ze7⟩
def zas:Know Tryz.prog:=⟨127,fun I=>zL I (zau I),zf ze7⟩
end Go.Proofs.YtmibhbdfigpkmaaGreatDoor
namespace Go.Proofs.YtmibhbdfigpkmaaGreatDoor
open Go Go.Sep Go.Ab
set_option maxRecDepth 100000
def tokA (s:Str):Bool:=s.all fun c=>tokB (c.toNat:Int)
def uD (s:Str):Bool:=s.all fun c=>Uk (c.toNat:Int)
theorem Zl (c:UInt8):0≤(c.toNat:Int)∧(c.toNat:Int)≤255:=by have:=c.toNat_lt;omega
theorem zaZ {p:UInt8→Bool} {s:Str} {i:Nat} (h:i<s.length):(s.drop i).all p=(p (s.getD i 0)&&(s.drop (i+1)).all p):=by
  rw [List.drop_eq_getElem_cons h,List.all_cons];simp [h]
theorem zgi (s:Str) (hneed:s.length≤1000000):Spc Tryz.prog 58 [.v (.one (.p (.str s))),.v (.one (.fn 59 []))] [] (.ret (.v (.one (.p (.bool (tokA s)))))) []:=by
  generalize hr:tokA s=r
  refine spcG zx mixed Tryz.func58 (by kernel_rfl) { keep:=some [0,1,4,5,7,8]} [Va] (by kernel_rfl) ?_
  intro I X hI hX
  refine zi (.code 0 [1,0,1,0] ⟨[(8,(.v (.one (.p (.int .i64 0))))),(7,(.v (.one (.p (.int .i64 (I.len (α:=UInt8) s)))))),(4,(.v (.one (.p (.val (.bool .false)))))),(0,(.v (.one (.p (.str s))))),(1,(.v (.one (.fn 59 []))))],[],18,none⟩) (by kernel_rfl) ?_
  simp only [zC]
  refine yE hI zx mixed [Va] hX [0,1,7,8] (fun(i:Nat)=>i≤s.length∧tokA (s.drop i)=r) (fun(i:Nat)=>⟨[(0,.v (.one (.p (.str s)))),(1,.v (.one (.fn 59 []))),(7,.v (.one (.p (.int .i64 ((I.len (α:=UInt8) s)))))),(8,.v (.one (.p (.int .i64 i))))],[],18,none⟩) (fun(i:Nat)=>s.length - i) 0 (by kernel_rfl) (by kernel_rfl) ?_ ?_
  · exact⟨Nat.zero_le _,hr⟩
  rintro i ⟨h1,h2⟩ A hA
  refine zi (let y0:=I.b2i (I.get (α:=UInt8) s 0 (Nat.cast i));.br (I.ilt (Nat.cast i) (I.len (α:=UInt8) s)) (.need (I.inb (Nat.cast i) (I.len (α:=UInt8) s)) (.need (I.hid (α:=(Prop)) (And (LE.le (0:Int) y0) (LE.le y0 (255:Int)))) (.br (I.bnot (I.hid (α:=Bool) (tokB y0))) (.fin (.ret (.v (.one (.p (.bool Bool.false))))) []) (.need (I.inr Go.IntKind.i64 (I.add (Nat.cast i) 1)) (.need (A ⟨[(0,(.v (.one (.p (.str s))))),(1,(.v (.one (.fn 59 [])))),(7,(.v (.one (.p (.int .i64 (I.len (α:=UInt8) s)))))),(8,(.v (.one (.p (.int .i64 (I.add (Nat.cast i) 1))))))],[],18,none⟩) .qed))))) (.fin (.ret (.v (.one (.p (.bool Bool.true))))) [])) (by kernel_rfl) ?_
  simp only [zC]
  subst hI
  simp only [nrmA,nrmB]
  have hb:=Zl (s.getD i 0)
  have hd:i<s.length→tokA (s.drop i)=(tokB (s.getD i 0).toNat&&tokA (s.drop (i+1))):=fun h=>zaZ h
  generalize s.getD i 0=x at *
  (repeat' (first|refine And.intro ?_ ?_|intro _))<;>first|omega|exact True.intro|exact False.elim ‹False›|skip
  all_goals first
    |(rw [← h2,hd (by omega)];simp [*];done)
    |(refine hA (i+1) ⟨by omega,?_⟩ (by omega);rw [← h2,hd (by omega)];simp [*];done)
    |(rw [← h2,List.drop_of_length_le (by omega)];rfl)
def Zq (I:Alg) (args:List D) (hp:List HO):Option CT:=match args,hp with
  |[.v (.one (.p (.str s))),.v (.one (.fn 59 []))],[]=>(fun(s:Str)=>(some (.one ⟨I.hid (s.length≤1000000),(.ret (.v (.one (.p (.bool (I.hid (tokA s))))))),[]⟩):Option CT)) s
  |_,_=>none
theorem SC:zI Tryz.prog 58 (Zq alg):=by
  intro args hp r h
  unfold Zq at h
  split at h
  · cases h;exact fun hn=>zgi _ hn
  · cases h
def Zp:Know Tryz.prog:=⟨58,Zq,SC⟩
def Zo:Know Tryz.prog:=⟨58,fun I=>zL I (Zq I),zf SC⟩
theorem zeX (s:Str) (hneed:s.length≤1000000):Spc Tryz.prog 58 [.v (.one (.p (.str s))),.v (.one (.fn 62 []))] [] (.ret (.v (.one (.p (.bool (uD s)))))) []:=by
  generalize hr:uD s=r
  refine spcG zx mixed Tryz.func58 (by kernel_rfl) { keep:=some [0,1,4,5,7,8]} [uZ,Zp,Zo] (by kernel_rfl) ?_
  intro I X hI hX
  refine zi (.code 0 [1,0,1,0] ⟨[(8,(.v (.one (.p (.int .i64 0))))),(7,(.v (.one (.p (.int .i64 (I.len (α:=UInt8) s)))))),(4,(.v (.one (.p (.val (.bool .false)))))),(0,(.v (.one (.p (.str s))))),(1,(.v (.one (.fn 62 []))))],[],18,none⟩) (by kernel_rfl) ?_
  simp only [zC]
  refine yE hI zx mixed [uZ,Zp,Zo] hX [0,1,7,8] (fun(i:Nat)=>i≤s.length∧uD (s.drop i)=r) (fun(i:Nat)=>⟨[(0,.v (.one (.p (.str s)))),(1,.v (.one (.fn 62 []))),(7,.v (.one (.p (.int .i64 ((I.len (α:=UInt8) s)))))),(8,.v (.one (.p (.int .i64 i))))],[],18,none⟩) (fun(i:Nat)=>s.length - i) 0 (by kernel_rfl) (by kernel_rfl) ?_ ?_
  · exact⟨Nat.zero_le _,hr⟩
  rintro i ⟨h1,h2⟩ A hA
  refine zi (.br (I.ilt (Nat.cast i) (I.len (α:=UInt8) s)) (.need (I.inb (Nat.cast i) (I.len (α:=UInt8) s)) (.need (I.hid (α:=(Prop)) True) (.br (I.bnot (I.hid (α:=Bool) (Uk (I.b2i (I.get (α:=UInt8) s 0 (Nat.cast i)))))) (.fin (.ret (.v (.one (.p (.bool Bool.false))))) []) (.need (I.inr Go.IntKind.i64 (I.add (Nat.cast i) 1)) (.need (A ⟨[(0,(.v (.one (.p (.str s))))),(1,(.v (.one (.fn 62 [])))),(7,(.v (.one (.p (.int .i64 (I.len (α:=UInt8) s)))))),(8,(.v (.one (.p (.int .i64 (I.add (Nat.cast i) 1))))))],[],18,none⟩) .qed))))) (.fin (.ret (.v (.one (.p (.bool Bool.true))))) [])) (by kernel_rfl) ?_
  simp only [zC]
  subst hI
  simp only [nrmA,nrmB]
  have hb:=Zl (s.getD i 0)
  have hd:i<s.length→uD (s.drop i)=(Uk (s.getD i 0).toNat&&uD (s.drop (i+1))):=fun h=>zaZ h
  generalize s.getD i 0=x at *
  (repeat' (first|refine And.intro ?_ ?_|intro _))<;>first|omega|exact True.intro|exact False.elim ‹False›|skip
  all_goals first
    |(rw [← h2,hd (by omega)];simp [*];done)
    |(refine hA (i+1) ⟨by omega,?_⟩ (by omega);rw [← h2,hd (by omega)];simp [*];done)
    |(rw [← h2,List.drop_of_length_le (by omega)];rfl)
def sS (I:Alg) (args:List D) (hp:List HO):Option CT:=match args,hp with
  |[.v (.one (.p (.str s))),.v (.one (.fn 62 []))],[]=>(fun(s:Str)=>(some (.one ⟨I.hid (s.length≤1000000),(.ret (.v (.one (.p (.bool (I.hid (uD s))))))),[]⟩):Option CT)) s
  |_,_=>none
theorem WZ:zI Tryz.prog 58 (sS alg):=by
  intro args hp r h
  unfold sS at h
  split at h
  · cases h;exact fun hn=>zeX _ hn
  · cases h
def WY:Know Tryz.prog:=⟨58,sS,WZ⟩
def WX:Know Tryz.prog:=⟨58,fun I=>zL I (sS I),zf WZ⟩
def xX (s:Str):Bool:=decide (s≠[])&&tokA s
theorem zeH (s:Str) (hneed:s.length≤1000000):Spc Tryz.prog 32 [.v (.one (.p (.str s)))] [] (.ret (.v (.one (.p (.bool (xX s)))))) []:=by
  refine spcG zx mixed Tryz.func32 (by kernel_rfl) { keep:=some [0,2]} [Va,zd8,Zp,Zo,WY,WX] (by kernel_rfl) ?_
  intro I X hI hX
  refine zi (.br (I.bnot (I.seq s ([]:Str))) (.need (I.hid (α:=(Prop)) (LE.le (List.length s) 1000000)) (.fin (.ret (.v (.one (.p (.bool (I.hid (α:=Bool) (tokA s))))))) [])) (.fin (.ret (.v (.one (.p (.bool Bool.false))))) [])) (by kernel_rfl) ?_
  simp only [zC]
  subst hI
  simp only [nrmA,nrmB]
  unfold xX
  (repeat' (first|refine And.intro ?_ ?_|intro _))<;>first|omega|exact True.intro|exact False.elim ‹False›|skip
  all_goals simp [*]
def sJ (I:Alg) (args:List D) (hp:List HO):Option CT:=match args,hp with
  |[.v (.one (.p (.str s)))],[]=>(fun(s:Str)=>(some (.one ⟨I.hid (s.length≤1000000),(.ret (.v (.one (.p (.bool (I.hid (xX s))))))),[]⟩):Option CT)) s
  |_,_=>none
theorem WH:zI Tryz.prog 32 (sJ alg):=by
  intro args hp r h
  unfold sJ at h
  split at h
  · cases h;exact fun hn=>zeH _ hn
  · cases h
def wB:Know Tryz.prog:=⟨32,sJ,WH⟩
def wz:Know Tryz.prog:=⟨32,fun I=>zL I (sJ I),zf WH⟩
theorem zbz (s:Str) (hneed:s.length≤1000000):Spc Tryz.prog 35 [.v (.one (.p (.str s)))] [] (.ret (.v (.one (.p (.bool (uD s)))))) []:=by
  refine spcG zx mixed Tryz.func35 (by kernel_rfl) { keep:=some [0,2]} [uZ,XV,Zp,Zo,WY,WX] (by kernel_rfl) ?_
  intro I X hI hX
  refine zi (.need (I.hid (α:=(Prop)) (LE.le (List.length s) 1000000)) (.fin (.ret (.v (.one (.p (.bool (I.hid (α:=Bool) (uD s))))))) [])) (by kernel_rfl) ?_
  simp only [zC]
  subst hI
  simp only [nrmA,nrmB]
  exact hneed
def wV (I:Alg) (args:List D) (hp:List HO):Option CT:=match args,hp with
  |[.v (.one (.p (.str s)))],[]=>(fun(s:Str)=>(some (.one ⟨I.hid (s.length≤1000000),(.ret (.v (.one (.p (.bool (I.hid (uD s))))))),[]⟩):Option CT)) s
  |_,_=>none
theorem ZX:zI Tryz.prog 35 (wV alg):=by
  intro args hp r h
  unfold wV at h
  split at h
  · cases h;exact fun hn=>zbz _ hn
  · cases h
def wU:Know Tryz.prog:=⟨35,wV,ZX⟩
def wS:Know Tryz.prog:=⟨35,fun I=>zL I (wV I),zf ZX⟩
theorem zhm {p:Int→Prop} [∀ k,Decidable (p k)] (h: ∀ n:Fin 256,p (n.1:Int)) {k:Int} (hk:0≤k∧k≤255):p k:=by
  have:=h ⟨k.toNat,by omega⟩
  rwa [show((k.toNat:Nat):Int)=k by omega] at this
end Go.Proofs.YtmibhbdfigpkmaaGreatDoor
namespace Go.Proofs.YtmibhbdfigpkmaaGreatDoor
open Go Go.Sep Go.Ab
set_option maxRecDepth 100000
def lowC (x:UInt8):UInt8:=if 65≤x.toNat∧x.toNat≤90 then x+32 else x
def lowS (s:Str):Str:=s.map lowC
theorem YA (s:Str):(lowS s).length=s.length:=by simp [lowS]
theorem zbt (x:UInt8):((lowC x).toNat:Int)=lowK x.toNat:=by
  unfold lowC lowK
  have:=x.toNat_lt
  split
  · rw [if_pos (by omega),UInt8.toNat_add]
    simp only [show(32:UInt8).toNat=32 from rfl]
    omega
  · rw [if_neg (by omega)]
theorem zfQ (x:UInt8):UInt8.ofNat (lowK x.toNat).toNat=lowC x:=by
  rw [← zbt,Int.toNat_natCast,UInt8.ofNat_toNat]
theorem zg3 (s:Str):Spc Tryz.prog 64 [.v (.one (.p (.str s)))] [] (.ret (.v (.one (.p (.str (Lib.trimS s [32,9])))))) []:=by
  refine spcG zx mixed Tryz.func64 (by kernel_rfl) { keep:=some [0,2]} [zfn,zfm] (by kernel_rfl) ?_
  intro I X hI hX
  refine zi (.need (I.hid (α:=(Prop)) True) (.fin (.ret (.v (.one (.p (.str (I.hid (α:=Str) (Go.Lib.trimS s ([32,9]:Str)))))))) [])) (by kernel_rfl) ?_
  simp only [zC]
  subst hI
  simp only [nrmA,nrmB]
  try trivial
def YK (I:Alg) (args:List D) (hp:List HO):Option CT:=match args,hp with
  |[.v (.one (.p (.str s)))],[]=>(fun(s:Str)=>(some (.one ⟨I.hid (True),(.ret (.v (.one (.p (.str (I.hid (Lib.trimS s [32,9]))))))),[]⟩):Option CT)) s
  |_,_=>none
theorem zaT:zI Tryz.prog 64 (YK alg):=by
  intro args hp r h
  unfold YK at h
  split at h
  · cases h;exact fun hn=>zg3 _
  · cases h
def VU:Know Tryz.prog:=⟨64,YK,zaT⟩
def VT:Know Tryz.prog:=⟨64,fun I=>zL I (YK I),zf zaT⟩
theorem zgf (s:Str) (hneed:s.length≤1000000):Spc Tryz.prog 63 [.v (.one (.p (.str s)))] [] (.ret (.v (.one (.p (.str (lowS s)))))) []:=by
  refine spcG zx mixed Tryz.func63 (by kernel_rfl) { keep:=some [0,2,3,4,5,8,9,10]} [Yy,Yx] (by kernel_rfl) ?_
  intro I X hI hX
  refine zi (.code 0 [1,1,0,1,0] ⟨[(10,(.v (.one (.p (.int .i64 0))))),(9,(.v (.one (.p (.int .i64 (I.len (α:=UInt8) s)))))),(8,(.v (.one (.row 0)))),(3,(.v (.one (.row 0)))),(2,(.v (.one (.p (.str ([]:Str)))))),(0,(.v (.one (.p (.str s)))))],[(.row .byte 5 s)],23,none⟩) (by kernel_rfl) ?_
  simp only [zC]
  refine yE hI zx mixed [Yy,Yx] hX [0,3,8,9,10] (fun(g:Nat × Str)=>match g with|(i,b)=>i≤s.length∧b=lowS (s.take i)++s.drop i) (fun(g:Nat × Str)=>match g with|(i,b)=>⟨[(0,.v (.one (.p (.str s)))),(3,.v (.one (.row 0))),(8,.v (.one (.row 0))),(9,.v (.one (.p (.int .i64 ((I.len (α:=UInt8) s)))))),(10,.v (.one (.p (.int .i64 i))))],[.row .byte 5 b],23,none⟩) (fun(g:Nat × Str)=>match g with|(i,b)=>s.length - i) (0,s) (by kernel_rfl) (by kernel_rfl) ?_ ?_
  · exact⟨Nat.zero_le _,rfl⟩
  rintro⟨i,b⟩ ⟨h1,h2⟩ A hA
  simp only at hA
  refine zi (let y0:=I.b2i (I.get (α:=UInt8) b 0 (Nat.cast i));let y1:=I.inb (Nat.cast i) (I.len (α:=UInt8) b);.br (I.ilt (Nat.cast i) (I.len (α:=UInt8) s)) (.need y1 (.need y1 (.need (I.hid (α:=(Prop)) (And (LE.le (0:Int) y0) (LE.le y0 (255:Int)))) (.need y1 (.need (I.inr Go.IntKind.u8 (I.hid (α:=Int) (lowK y0))) (.need y1 (.need (I.inr Go.IntKind.i64 (I.add (Nat.cast i) 1)) (.need (A ⟨[(0,(.v (.one (.p (.str s))))),(3,(.v (.one (.row 0)))),(8,(.v (.one (.row 0)))),(9,(.v (.one (.p (.int .i64 (I.len (α:=UInt8) s)))))),(10,(.v (.one (.p (.int .i64 (I.add (Nat.cast i) 1))))))],[(.row .byte 5 (I.set (α:=UInt8) b (Nat.cast i) (I.i2b (I.hid (α:=Int) (lowK y0)))))],23,none⟩) .qed)))))))) (.fin (.ret (.v (.one (.p (.str b))))) [])) (by kernel_rfl) ?_
  simp only [zC]
  subst hI
  simp only [nrmA,nrmB]
  have hlen:b.length=s.length:=by rw [h2,List.length_append,YA,List.length_take,List.length_drop];omega
  have hx:i<s.length→b.getD i 0=s.getD i 0:=fun h=>by
    rw [h2,List.getD_eq_getElem?_getD,List.getD_eq_getElem?_getD,List.getElem?_append_right (by rw [YA,List.length_take];omega),YA,List.length_take,List.getElem?_drop]
    congr 2
    omega
  have hset:i<s.length→b.set i (lowC (s.getD i 0))=lowS (s.take (i+1))++s.drop (i+1):=fun h=>by
    have e:(lowS (s.take i)).length=i:=by rw [YA,List.length_take];omega
    rw [h2,List.set_append_right _ _ (by omega),e,Nat.sub_self,List.drop_eq_getElem_cons h,List.set_cons_zero,List.take_succ_eq_append_getElem h,show s.getD i 0=s[i] by simp [h]]
    unfold lowS
    rw [List.map_append,List.append_assoc]
    rfl
  have hby:=Zl (s.getD i 0)
  have hlk:=zcX hby
  refine⟨fun c=> ?_,fun c=> ?_⟩
  · rw [hx (by omega),zfQ,hset (by omega)]
    exact⟨by omega,by omega,by omega,by omega,by omega,by omega,by omega,hA (i+1,_) ⟨by simp only;omega,rfl⟩ (by simp only;omega)⟩
  · rw [h2,List.drop_of_length_le (by omega),List.take_of_length_le (by omega),List.append_nil]
def Zj (I:Alg) (args:List D) (hp:List HO):Option CT:=match args,hp with
  |[.v (.one (.p (.str s)))],[]=>(fun(s:Str)=>(some (.one ⟨I.hid (s.length≤1000000),(.ret (.v (.one (.p (.str (I.hid (lowS s))))))),[]⟩):Option CT)) s
  |_,_=>none
theorem Sj:zI Tryz.prog 63 (Zj alg):=by
  intro args hp r h
  unfold Zj at h
  split at h
  · cases h;exact fun hn=>zgf _ hn
  · cases h
def Zi:Know Tryz.prog:=⟨63,Zj,Sj⟩
def Zh:Know Tryz.prog:=⟨63,fun I=>zL I (Zj I),zf Sj⟩
end Go.Proofs.YtmibhbdfigpkmaaGreatDoor
namespace Go.Proofs.YtmibhbdfigpkmaaGreatDoor
open Go Go.Sep Go.Ab
def ln0:Ln:=⟨[],false,0⟩
def zgp (c:UInt8):Bool:=Uk (c.toNat:Int)
def lnF (s:Ln) (c:UInt8):Ln × Str × Bool × Int:=
  if s.code≠0 then(s,[],false,s.code)
  else if s.cr then(if c=10 then(⟨[],false,0⟩,s.b,true,0) else(⟨s.b,s.cr,2⟩,[],false,2))
  else if c=10 then(⟨s.b,s.cr,2⟩,[],false,2)
  else if c=13 then(⟨s.b,true,s.code⟩,[],false,0)
  else if zgp c=false then(⟨s.b,s.cr,3⟩,[],false,3)
  else if s.b.length=200 then(⟨s.b,s.cr,4⟩,[],false,4)
  else(⟨s.b++[c],s.cr,s.code⟩,[],false,0)
def lnB (s:Ln):Bool:=decide (0<s.b.length)||s.cr
end Go.Proofs.YtmibhbdfigpkmaaGreatDoor
namespace Go.Proofs.YtmibhbdfigpkmaaGreatDoor
open Go Go.Sep Go.Ab
set_option maxRecDepth 100000
end Go.Proofs.YtmibhbdfigpkmaaGreatDoor
namespace Go.Proofs.YtmibhbdfigpkmaaGreatDoor
open Go Go.Sep Go.Ab
set_option maxRecDepth 100000
def cutB (s:Str) (c:UInt8):Str × Str × Bool:=
  if 0≤Lib.indexByte s c then(s.take (Lib.indexByte s c).toNat,s.drop ((Lib.indexByte s c).toNat+1),true) else(s,[],false)
def yX (s:Str):Fld × Int:=
  if(cutB s 58).2.2=false then(⟨[],[]⟩,5)
  else if xX (cutB s 58).1=false then(⟨[],[]⟩,6)
  else if 40<(cutB s 58).1.length then(⟨[],[]⟩,4)
  else if uD (cutB s 58).2.1=false then(⟨[],[]⟩,3)
  else(⟨(cutB s 58).1,Lib.trimS (cutB s 58).2.1 [32,9]⟩,0)
def textF (f:Fld):Str × Int:=
  if xX f.name=false then([],6)
  else if 40<f.name.length∨200<f.name.length+2+f.value.length then([],4)
  else if uD f.value=false∨¬ Lib.trimS f.value [32,9]=f.value then([],3)
  else(f.name++[58,32]++f.value,0)
theorem VP (s:Str) (c:UInt8):(cutB s c).1.length≤s.length∧(cutB s c).2.1.length≤s.length:=by
  unfold cutB
  split
  · simp only [List.length_take,List.length_drop];omega
  · simp
theorem zgo (s:Str) (c:UInt8) (hneed:s.length≤1000000):Spc Tryz.prog 109 [.v (.one (.p (.str s))),.v (.one (.p (.str ([c]))))] [] (.ret (.tup [(.one (.p (.str ((cutB s c).1)))),(.one (.p (.str ((cutB s c).2.1)))),(.one (.p (.bool ((cutB s c).2.2))))])) []:=by
  generalize hr:cutB s c=r
  obtain⟨a,b,d⟩:=r
  refine spcG zx mixed Tryz.func109 (by kernel_rfl) { keep:=some [0,1,4,5,6,7]} [zc9,zc8] (by kernel_rfl) ?_
  intro I X hI hX
  refine zi (let y0:=I.hid (α:=Int) (Go.Lib.indexByte s c);let y1:=I.add y0 (I.len (α:=UInt8) ([c]:Str));.need (I.hid (α:=(Prop)) True) (.br (I.ile 0 y0) (.need (I.cutb 0 y0 (I.len (α:=UInt8) s)) (.need (I.inr Go.IntKind.i64 y1) (.need (I.cutb y1 (I.len (α:=UInt8) s) (I.len (α:=UInt8) s)) (.fin (.ret (.tup [(.one (.p (.str (I.cut (α:=UInt8) s 0 y0)))),(.one (.p (.str (I.cut (α:=UInt8) s y1 (I.len (α:=UInt8) s))))),(.one (.p (.bool Bool.true)))])) [])))) (.fin (.ret (.tup [(.one (.p (.str s))),(.one (.p (.str ([]:Str)))),(.one (.p (.bool Bool.false)))])) []))) (by kernel_rfl) ?_
  simp only [zC]
  subst hI
  simp only [nrmA,nrmB]
  have hx:=uS s c
  simp only [List.length_cons,List.length_nil]
  refine⟨fun h=> ?_,fun h=> ?_⟩
  · rw [cutB,if_pos h] at hr
    simp only [Prod.mk.injEq] at hr
    obtain⟨rfl,rfl,rfl⟩:=hr
    refine⟨by omega,by omega,by omega,?_⟩
    rw [show(Lib.indexByte s c+((0+1:Nat):Int)).toNat=(Lib.indexByte s c).toNat+1 by omega]
    have e:List.take (s.length - ((Lib.indexByte s c).toNat+1)) (List.drop ((Lib.indexByte s c).toNat+1) s)=List.drop ((Lib.indexByte s c).toNat+1) s:=List.take_of_length_le (by rw [List.length_drop];exact Nat.le_refl _)
    rw [e]
  · rw [cutB,if_neg h] at hr
    simp only [Prod.mk.injEq] at hr
    obtain⟨rfl,rfl,rfl⟩:=hr
    rfl
def Yl (I:Alg) (args:List D) (hp:List HO):Option CT:=match args,hp with
  |[.v (.one (.p (.str s))),.v (.one (.p (.str ([c]))))],[]=>(fun(s:Str) (c:UInt8)=>(some (.one ⟨I.hid (s.length≤1000000),(.ret (.tup [(.one (.p (.str (I.hid ((cutB s c).1))))),(.one (.p (.str (I.hid ((cutB s c).2.1))))),(.one (.p (.bool (I.hid ((cutB s c).2.2)))))])),[]⟩):Option CT)) s c
  |_,_=>none
theorem QA:zI Tryz.prog 109 (Yl alg):=by
  intro args hp r h
  unfold Yl at h
  split at h
  · cases h;exact fun hn=>zgo _ _ hn
  · cases h
def zec:Know Tryz.prog:=⟨109,Yl,QA⟩
def zeb:Know Tryz.prog:=⟨109,fun I=>zL I (Yl I),zf QA⟩
theorem zhb (s:Str) (c:UInt8) (hneed:s.length≤1000000):Spc Tryz.prog 90 [.v (.one (.p (.str s))),.v (.one (.p (.str ([c]))))] [] (.ret (.tup [(.one (.p (.str ((cutB s c).1)))),(.one (.p (.str ((cutB s c).2.1)))),(.one (.p (.bool ((cutB s c).2.2))))])) []:=by
  refine spcG zx mixed Tryz.func90 (by kernel_rfl) { keep:=some [0,1,4,5,6]} [zec,zeb] (by kernel_rfl) ?_
  intro I X hI hX
  refine zi (.need (I.hid (α:=(Prop)) (LE.le (List.length s) 1000000)) (.fin (.ret (.tup [(.one (.p (.str (I.hid (α:=Str) (Prod.fst (cutB s c)))))),(.one (.p (.str (I.hid (α:=Str) (Prod.fst (Prod.snd (cutB s c))))))),(.one (.p (.bool (I.hid (α:=Bool) (Prod.snd (Prod.snd (cutB s c)))))))])) [])) (by kernel_rfl) ?_
  simp only [zC]
  subst hI
  simp only [nrmA,nrmB]
  exact hneed
def Vh (I:Alg) (args:List D) (hp:List HO):Option CT:=match args,hp with
  |[.v (.one (.p (.str s))),.v (.one (.p (.str ([c]))))],[]=>(fun(s:Str) (c:UInt8)=>(some (.one ⟨I.hid (s.length≤1000000),(.ret (.tup [(.one (.p (.str (I.hid ((cutB s c).1))))),(.one (.p (.str (I.hid ((cutB s c).2.1))))),(.one (.p (.bool (I.hid ((cutB s c).2.2)))))])),[]⟩):Option CT)) s c
  |_,_=>none
theorem zcb:zI Tryz.prog 90 (Vh alg):=by
  intro args hp r h
  unfold Vh at h
  split at h
  · cases h;exact fun hn=>zhb _ _ hn
  · cases h
def zca:Know Tryz.prog:=⟨90,Vh,zcb⟩
def zb9:Know Tryz.prog:=⟨90,fun I=>zL I (Vh I),zf zcb⟩
theorem zgC (s:Str) (hneed:s.length≤1000000):Spc Tryz.prog 72 [.v (.one (.p (.str s)))] [] (.ret (.tup [(.agg [(.p (.str ((yX s).1.name))),(.p (.str ((yX s).1.value)))]),(.one (.p (.int .i64 ((yX s).2))))])) []:=by
  generalize hr:yX s=r
  obtain⟨⟨a,b⟩,d⟩:=r
  refine spcG zx mixed Tryz.func72 (by kernel_rfl) { keep:=some [0,2,3,4,5,6]} [wB,wz,wU,wS,VU,VT,zca,zb9] (by kernel_rfl) ?_
  intro I X hI hX
  refine zi (let y0:=I.hid (α:=Str) (Prod.fst (cutB s (58:UInt8)));let y1:=I.hid (α:=Str) (Prod.fst (Prod.snd (cutB s (58:UInt8))));.need (I.hid (α:=(Prop)) (LE.le (List.length s) 1000000)) (.br (I.bnot (I.hid (α:=Bool) (Prod.snd (Prod.snd (cutB s (58:UInt8)))))) (.fin (.ret (.tup [(.agg [(.p (.str ([]:Str))),(.p (.str ([]:Str)))]),(.one (.p (.int .i64 5)))])) []) (.need (I.hid (α:=(Prop)) (LE.le (List.length y0) 1000000)) (.br (I.bnot (I.hid (α:=Bool) (xX y0))) (.fin (.ret (.tup [(.agg [(.p (.str ([]:Str))),(.p (.str ([]:Str)))]),(.one (.p (.int .i64 6)))])) []) (.br (I.ilt 40 (I.len (α:=UInt8) y0)) (.fin (.ret (.tup [(.agg [(.p (.str ([]:Str))),(.p (.str ([]:Str)))]),(.one (.p (.int .i64 4)))])) []) (.need (I.hid (α:=(Prop)) (LE.le (List.length y1) 1000000)) (.br (I.bnot (I.hid (α:=Bool) (uD y1))) (.fin (.ret (.tup [(.agg [(.p (.str ([]:Str))),(.p (.str ([]:Str)))]),(.one (.p (.int .i64 3)))])) []) (.need (I.hid (α:=(Prop)) True) (.fin (.ret (.tup [(.agg [(.p (.str y0)),(.p (.str (I.hid (α:=Str) (Go.Lib.trimS y1 ([32,9]:Str)))))]),(.one (.p (.int .i64 0)))])) []))))))))) (by kernel_rfl) ?_
  simp only [zC]
  subst hI
  simp only [nrmA,nrmB]
  have hl:=VP s 58
  unfold yX at hr
  (repeat' (first|refine And.intro ?_ ?_|intro _))<;>first|omega|exact True.intro|exact False.elim ‹False›|skip
  all_goals first
    |(rw [if_pos (by assumption)] at hr;cases hr;rfl)
    |(rw [if_neg (by simp [*]),if_pos (by assumption)] at hr;cases hr;rfl)
    |(rw [if_neg (by simp [*]),if_neg (by simp [*]),if_pos (by omega)] at hr;cases hr;rfl)
    |(rw [if_neg (by simp [*]),if_neg (by simp [*]),if_neg (by omega),if_pos (by assumption)] at hr;cases hr;rfl)
    |(rw [if_neg (by simp [*]),if_neg (by simp [*]),if_neg (by omega),if_neg (by simp [*])] at hr;cases hr;rfl)
def Yw (I:Alg) (args:List D) (hp:List HO):Option CT:=match args,hp with
  |[.v (.one (.p (.str s)))],[]=>(fun(s:Str)=>(some (.one ⟨I.hid (s.length≤1000000),(.ret (.tup [(.agg [(.p (.str (I.hid ((yX s).1.name)))),(.p (.str (I.hid ((yX s).1.value))))]),(.one (.p (.int .i64 (I.hid ((yX s).2)))))])),[]⟩):Option CT)) s
  |_,_=>none
theorem Q8:zI Tryz.prog 72 (Yw alg):=by
  intro args hp r h
  unfold Yw at h
  split at h
  · cases h;exact fun hn=>zgC _ hn
  · cases h
def Vr:Know Tryz.prog:=⟨72,Yw,Q8⟩
def Vq:Know Tryz.prog:=⟨72,fun I=>zL I (Yw I),zf Q8⟩
theorem zg9 (n v:Str) (hneed:n.length≤1000000∧v.length≤1000000):Spc Tryz.prog 38 [.v (.agg [(.p (.str n)),(.p (.str v))])] [] (.ret (.tup [(.one (.p (.str ((textF ⟨n,v⟩).1)))),(.one (.p (.int .i64 ((textF ⟨n,v⟩).2))))])) []:=by
  generalize hr:textF ⟨n,v⟩=r
  obtain⟨a,d⟩:=r
  refine spcG zx mixed Tryz.func38 (by kernel_rfl) { keep:=some [0,1,2,3,4]} [wB,wz,wU,wS,VU,VT] (by kernel_rfl) ?_
  intro I X hI hX
  refine zi (.need (I.few (I.add (I.len (α:=UInt8) n) (I.len (α:=UInt8) ([58,32]:Str))) 1000000000) (.need (I.few (I.add (I.len (α:=UInt8) (I.app (α:=UInt8) n ([58,32]:Str))) (I.len (α:=UInt8) v)) 1000000000) (.need (I.hid (α:=(Prop)) (LE.le (List.length n) 1000000)) (.br (I.bnot (I.hid (α:=Bool) (xX n))) (.fin (.ret (.tup [(.one (.p (.str ([]:Str)))),(.one (.p (.int .i64 6)))])) []) (.br (I.ilt 40 (I.len (α:=UInt8) n)) (.fin (.ret (.tup [(.one (.p (.str ([]:Str)))),(.one (.p (.int .i64 4)))])) []) (.br (I.ilt 200 (I.len (α:=UInt8) (I.app (α:=UInt8) (I.app (α:=UInt8) n ([58,32]:Str)) v))) (.fin (.ret (.tup [(.one (.p (.str ([]:Str)))),(.one (.p (.int .i64 4)))])) []) (.need (I.hid (α:=(Prop)) (LE.le (List.length v) 1000000)) (.br (I.bnot (I.hid (α:=Bool) (uD v))) (.fin (.ret (.tup [(.one (.p (.str ([]:Str)))),(.one (.p (.int .i64 3)))])) []) (.need (I.hid (α:=(Prop)) True) (.br (I.bnot (I.seq (I.hid (α:=Str) (Go.Lib.trimS v ([32,9]:Str))) v)) (.fin (.ret (.tup [(.one (.p (.str ([]:Str)))),(.one (.p (.int .i64 3)))])) []) (.fin (.ret (.tup [(.one (.p (.str (I.app (α:=UInt8) (I.app (α:=UInt8) n ([58,32]:Str)) v)))),(.one (.p (.int .i64 0)))])) []))))))))))) (by kernel_rfl) ?_
  simp only [zC]
  subst hI
  simp only [nrmA,nrmB]
  simp only [List.length_append,List.length_cons,List.length_nil]
  unfold textF at hr
  simp only at hr
  (repeat' (first|refine And.intro ?_ ?_|intro _))<;>first|omega|exact True.intro|exact False.elim ‹False›|skip
  all_goals first
    |(rw [if_pos (by assumption)] at hr;cases hr;rfl)
    |(rw [if_neg (by simp [*]),if_pos (by omega)] at hr;cases hr;rfl)
    |(rw [if_neg (by simp [*]),if_neg (by omega),if_pos (.inl (by assumption))] at hr;cases hr;rfl)
    |(rw [if_neg (by simp [*]),if_neg (by omega),if_pos (.inr (by assumption))] at hr;cases hr;rfl)
    |(rw [if_neg (by simp [*]),if_neg (by omega),if_neg (by simp [*])] at hr;cases hr;rfl)
def Vb (I:Alg) (args:List D) (hp:List HO):Option CT:=match args,hp with
  |[.v (.agg [(.p (.str n)),(.p (.str v))])],[]=>(fun(n v:Str)=>(some (.one ⟨I.hid (n.length≤1000000∧v.length≤1000000),(.ret (.tup [(.one (.p (.str (I.hid ((textF ⟨n,v⟩).1))))),(.one (.p (.int .i64 (I.hid ((textF ⟨n,v⟩).2)))))])),[]⟩):Option CT)) n v
  |_,_=>none
theorem zbY:zI Tryz.prog 38 (Vb alg):=by
  intro args hp r h
  unfold Vb at h
  split at h
  · cases h;exact fun hn=>zg9 _ _ hn
  · cases h
def zbX:Know Tryz.prog:=⟨38,Vb,zbY⟩
def zbW:Know Tryz.prog:=⟨38,fun I=>zL I (Vb I),zf zbY⟩
end Go.Proofs.YtmibhbdfigpkmaaGreatDoor
namespace Go.Proofs.YtmibhbdfigpkmaaGreatDoor
open Go Go.Sep Go.Ab
set_option maxRecDepth 100000
def numG (base:Int):Int→Str→Int × Bool
  |n,[]=>(n,true)
  |n,c::l=>if hexK c.toNat<0∨base≤hexK c.toNat then(0,false) else numG base (n * base+hexK c.toNat) l
def numA (s:Str) (base most:Int):Int × Bool:=if s=[]∨most<s.length then(0,false) else numG base 0 s
def top9:Nat→Nat
  |0=>0
  |i+1=>16 * top9 i+15
theorem zbV {i:Nat} (h:i≤9):top9 i≤68719476735:=(by decide: ∀ i:Fin 10,top9 i.1≤68719476735) ⟨i,by omega⟩
theorem UW {base n:Int} {s:Str} {i:Nat} (h:i<s.length):numG base n (s.drop i)=if hexK (s.getD i 0).toNat<0∨base≤hexK (s.getD i 0).toNat then(0,false) else numG base (n * base+hexK (s.getD i 0).toNat) (s.drop (i+1)):=by
  rw [List.drop_eq_getElem_cons h,numG];simp [h]
theorem zdd {k:Int} (hk:0≤k∧k≤255): -1≤hexK k∧hexK k≤15:=zhm (p:=fun k=> -1≤hexK k∧hexK k≤15) (by decide+kernel) hk
theorem zcR (s:Str):Spc Tryz.prog 119 [.v (.one (.p (.str s))),.v (.one (.p (.int .i64 10))),.v (.one (.p (.int .i64 9)))] [] (.ret (.tup [(.one (.p (.int .i64 ((numA s 10 9).1)))),(.one (.p (.bool ((numA s 10 9).2))))])) []:=by
  generalize hr:numA s 10 9=r
  refine spcG zx mixed Tryz.func119 (by kernel_rfl) { keep:=some [0,1,2,6,7,8,9,10,20,21]} [zat,zas] (by kernel_rfl) ?_
  intro I X hI hX
  refine zi (.br (I.seq s ([]:Str)) (.fin (.ret (.tup [(.one (.p (.int .i64 0))),(.one (.p (.bool Bool.false)))])) []) (.br (I.ilt 9 (I.len (α:=UInt8) s)) (.fin (.ret (.tup [(.one (.p (.int .i64 0))),(.one (.p (.bool Bool.false)))])) []) (.code 0 [1,1,1,0,1,0] ⟨[(21,(.v (.one (.p (.int .i64 0))))),(20,(.v (.one (.p (.int .i64 (I.len (α:=UInt8) s)))))),(8,(.v (.one (.p (.int .i64 0))))),(7,(.v (.one (.p (.val (.bool .false)))))),(6,(.v (.one (.p (.int .i64 0))))),(0,(.v (.one (.p (.str s))))),(1,(.v (.one (.p (.int .i64 10))))),(2,(.v (.one (.p (.int .i64 9)))))],[],42,none⟩))) (by kernel_rfl) ?_
  simp only [zC]
  have hne:s≠[]→¬ (9:Int)<s.length→numG 10 0 s=r:=fun h1 h2=>by rw [← hr,numA,if_neg (fun h=>by rcases h with h|h;exact h1 h;exact h2 h)]
  have hyes:(s=[]∨(9:Int)<s.length)→r=(0,false):=fun h=>by rw [← hr,numA,if_pos h]
  refine⟨fun c1=> ?_,fun c1=>⟨fun c2=> ?_,fun c2=> ?_⟩⟩
  · subst hI
    simp only [nrmA,nrmB] at c1
    rw [hyes (.inl c1)]
    simp
  · subst hI
    simp only [nrmA,nrmB] at c2
    rw [hyes (.inr c2)]
    simp
  have d1:s≠[]:=by
    subst hI
    simp only [nrmA,nrmB] at c1
    exact c1
  have d2:s.length≤9:=by
    subst hI
    simp only [nrmA,nrmB] at c2
    omega
  refine yE hI zx mixed [zat,zas] hX [0,1,2,8,20,21] (fun(g:Nat × Int)=>match g with|(i,n)=>i≤s.length∧0≤n∧n≤top9 i∧numG 10 n (s.drop i)=r) (fun(g:Nat × Int)=>match g with|(i,n)=>⟨[(0,.v (.one (.p (.str s)))),(1,.v (.one (.p (.int .i64 10)))),(2,.v (.one (.p (.int .i64 9)))),(8,.v (.one (.p (.int .i64 n)))),(20,.v (.one (.p (.int .i64 ((I.len (α:=UInt8) s)))))),(21,.v (.one (.p (.int .i64 i))))],[],42,none⟩) (fun(g:Nat × Int)=>match g with|(i,n)=>s.length - i) (0,0) (by kernel_rfl) (by kernel_rfl) ?_ ?_
  · exact⟨Nat.zero_le _,Int.le_refl _,Int.le_refl _,hne d1 (by omega)⟩
  rintro⟨i,n⟩ ⟨h1,h2,h3,h4⟩ A hA
  simp only at hA
  refine zi (let y0:=I.b2i (I.get (α:=UInt8) s 0 (Nat.cast i));let y1:=I.add (I.mul n 10) (I.hid (α:=Int) (hexK y0));.br (I.ilt (Nat.cast i) (I.len (α:=UInt8) s)) (.need (I.inb (Nat.cast i) (I.len (α:=UInt8) s)) (.need (I.hid (α:=(Prop)) (And (LE.le (0:Int) y0) (LE.le y0 (255:Int)))) (.br (I.ilt (I.hid (α:=Int) (hexK y0)) 0) (.fin (.ret (.tup [(.one (.p (.int .i64 0))),(.one (.p (.bool Bool.false)))])) []) (.br (I.ile 10 (I.hid (α:=Int) (hexK y0))) (.fin (.ret (.tup [(.one (.p (.int .i64 0))),(.one (.p (.bool Bool.false)))])) []) (.need (I.inr Go.IntKind.i64 (I.mul n 10)) (.need (I.inr Go.IntKind.i64 y1) (.need (I.inr Go.IntKind.i64 (I.add (Nat.cast i) 1)) (.need (A ⟨[(0,(.v (.one (.p (.str s))))),(1,(.v (.one (.p (.int .i64 10))))),(2,(.v (.one (.p (.int .i64 9))))),(8,(.v (.one (.p (.int .i64 y1))))),(20,(.v (.one (.p (.int .i64 (I.len (α:=UInt8) s)))))),(21,(.v (.one (.p (.int .i64 (I.add (Nat.cast i) 1))))))],[],42,none⟩) .qed)))))))) (.fin (.ret (.tup [(.one (.p (.int .i64 n))),(.one (.p (.bool Bool.true)))])) [])) (by kernel_rfl) ?_
  simp only [zC]
  subst hI
  simp only [nrmA,nrmB]
  have hb:=Zl (s.getD i 0)
  have hk:=zdd hb
  have hd:i<s.length→_:=fun h=>UW (base:=10) (n:=n) h
  have ht:i≤9:=by omega
  have ht:=zbV ht
  have ht2:top9 (i+1)=16 * top9 i+15:=rfl
  generalize s.getD i 0=x at *
  generalize hexK (x.toNat:Int)=k at *
  (repeat' (first|refine And.intro ?_ ?_|intro _))<;>first|omega|exact True.intro|exact False.elim ‹False›|skip
  all_goals first
    |omega
    |(rw [← h4,hd (by omega),if_pos (.inl (by omega))])
    |(rw [← h4,hd (by omega),if_pos (.inr (by omega))])
    |(refine hA (i+1,_) ⟨by simp only;omega,by simp only;omega,by simp only;omega,?_⟩ (by simp only;omega);rw [← h4,hd (by omega),if_neg (by omega)])
    |(rw [← h4,List.drop_of_length_le (by omega)];rfl)
def vU (I:Alg) (args:List D) (hp:List HO):Option CT:=match args,hp with
  |[.v (.one (.p (.str s))),.v (.one (.p (.int .i64 10))),.v (.one (.p (.int .i64 9)))],[]=>(fun(s:Str)=>(some (.one ⟨I.hid (True),(.ret (.tup [(.one (.p (.int .i64 (I.hid ((numA s 10 9).1))))),(.one (.p (.bool (I.hid ((numA s 10 9).2)))))])),[]⟩):Option CT)) s
  |_,_=>none
theorem Y8:zI Tryz.prog 119 (vU alg):=by
  intro args hp r h
  unfold vU at h
  split at h
  · cases h;exact fun hn=>zcR _
  · cases h
def vT:Know Tryz.prog:=⟨119,vU,Y8⟩
def vS:Know Tryz.prog:=⟨119,fun I=>zL I (vU I),zf Y8⟩
theorem zcQ (s:Str):Spc Tryz.prog 119 [.v (.one (.p (.str s))),.v (.one (.p (.int .i64 16))),.v (.one (.p (.int .i64 6)))] [] (.ret (.tup [(.one (.p (.int .i64 ((numA s 16 6).1)))),(.one (.p (.bool ((numA s 16 6).2))))])) []:=by
  generalize hr:numA s 16 6=r
  refine spcG zx mixed Tryz.func119 (by kernel_rfl) { keep:=some [0,1,2,6,7,8,9,10,20,21]} [zat,zas,vT,vS] (by kernel_rfl) ?_
  intro I X hI hX
  refine zi (.br (I.seq s ([]:Str)) (.fin (.ret (.tup [(.one (.p (.int .i64 0))),(.one (.p (.bool Bool.false)))])) []) (.br (I.ilt 6 (I.len (α:=UInt8) s)) (.fin (.ret (.tup [(.one (.p (.int .i64 0))),(.one (.p (.bool Bool.false)))])) []) (.code 0 [1,1,1,0,1,0] ⟨[(21,(.v (.one (.p (.int .i64 0))))),(20,(.v (.one (.p (.int .i64 (I.len (α:=UInt8) s)))))),(8,(.v (.one (.p (.int .i64 0))))),(7,(.v (.one (.p (.val (.bool .false)))))),(6,(.v (.one (.p (.int .i64 0))))),(0,(.v (.one (.p (.str s))))),(1,(.v (.one (.p (.int .i64 16))))),(2,(.v (.one (.p (.int .i64 6)))))],[],42,none⟩))) (by kernel_rfl) ?_
  simp only [zC]
  have hne:s≠[]→¬ (6:Int)<s.length→numG 16 0 s=r:=fun h1 h2=>by rw [← hr,numA,if_neg (fun h=>by rcases h with h|h;exact h1 h;exact h2 h)]
  have hyes:(s=[]∨(6:Int)<s.length)→r=(0,false):=fun h=>by rw [← hr,numA,if_pos h]
  refine⟨fun c1=> ?_,fun c1=>⟨fun c2=> ?_,fun c2=> ?_⟩⟩
  · subst hI
    simp only [nrmA,nrmB] at c1
    rw [hyes (.inl c1)]
    simp
  · subst hI
    simp only [nrmA,nrmB] at c2
    rw [hyes (.inr c2)]
    simp
  have d1:s≠[]:=by
    subst hI
    simp only [nrmA,nrmB] at c1
    exact c1
  have d2:s.length≤6:=by
    subst hI
    simp only [nrmA,nrmB] at c2
    omega
  refine yE hI zx mixed [zat,zas,vT,vS] hX [0,1,2,8,20,21] (fun(g:Nat × Int)=>match g with|(i,n)=>i≤s.length∧0≤n∧n≤top9 i∧numG 16 n (s.drop i)=r) (fun(g:Nat × Int)=>match g with|(i,n)=>⟨[(0,.v (.one (.p (.str s)))),(1,.v (.one (.p (.int .i64 16)))),(2,.v (.one (.p (.int .i64 6)))),(8,.v (.one (.p (.int .i64 n)))),(20,.v (.one (.p (.int .i64 ((I.len (α:=UInt8) s)))))),(21,.v (.one (.p (.int .i64 i))))],[],42,none⟩) (fun(g:Nat × Int)=>match g with|(i,n)=>s.length - i) (0,0) (by kernel_rfl) (by kernel_rfl) ?_ ?_
  · exact⟨Nat.zero_le _,Int.le_refl _,Int.le_refl _,hne d1 (by omega)⟩
  rintro⟨i,n⟩ ⟨h1,h2,h3,h4⟩ A hA
  simp only at hA
  refine zi (let y0:=I.b2i (I.get (α:=UInt8) s 0 (Nat.cast i));let y1:=I.add (I.mul n 16) (I.hid (α:=Int) (hexK y0));.br (I.ilt (Nat.cast i) (I.len (α:=UInt8) s)) (.need (I.inb (Nat.cast i) (I.len (α:=UInt8) s)) (.need (I.hid (α:=(Prop)) (And (LE.le (0:Int) y0) (LE.le y0 (255:Int)))) (.br (I.ilt (I.hid (α:=Int) (hexK y0)) 0) (.fin (.ret (.tup [(.one (.p (.int .i64 0))),(.one (.p (.bool Bool.false)))])) []) (.br (I.ile 16 (I.hid (α:=Int) (hexK y0))) (.fin (.ret (.tup [(.one (.p (.int .i64 0))),(.one (.p (.bool Bool.false)))])) []) (.need (I.inr Go.IntKind.i64 (I.mul n 16)) (.need (I.inr Go.IntKind.i64 y1) (.need (I.inr Go.IntKind.i64 (I.add (Nat.cast i) 1)) (.need (A ⟨[(0,(.v (.one (.p (.str s))))),(1,(.v (.one (.p (.int .i64 16))))),(2,(.v (.one (.p (.int .i64 6))))),(8,(.v (.one (.p (.int .i64 y1))))),(20,(.v (.one (.p (.int .i64 (I.len (α:=UInt8) s)))))),(21,(.v (.one (.p (.int .i64 (I.add (Nat.cast i) 1))))))],[],42,none⟩) .qed)))))))) (.fin (.ret (.tup [(.one (.p (.int .i64 n))),(.one (.p (.bool Bool.true)))])) [])) (by kernel_rfl) ?_
  simp only [zC]
  subst hI
  simp only [nrmA,nrmB]
  have hb:=Zl (s.getD i 0)
  have hk:=zdd hb
  have hd:i<s.length→_:=fun h=>UW (base:=16) (n:=n) h
  have ht:i≤9:=by omega
  have ht:=zbV ht
  have ht2:top9 (i+1)=16 * top9 i+15:=rfl
  generalize s.getD i 0=x at *
  generalize hexK (x.toNat:Int)=k at *
  (repeat' (first|refine And.intro ?_ ?_|intro _))<;>first|omega|exact True.intro|exact False.elim ‹False›|skip
  all_goals first
    |omega
    |(rw [← h4,hd (by omega),if_pos (.inl (by omega))])
    |(rw [← h4,hd (by omega),if_pos (.inr (by omega))])
    |(refine hA (i+1,_) ⟨by simp only;omega,by simp only;omega,by simp only;omega,?_⟩ (by simp only;omega);rw [← h4,hd (by omega),if_neg (by omega)])
    |(rw [← h4,List.drop_of_length_le (by omega)];rfl)
def vP (I:Alg) (args:List D) (hp:List HO):Option CT:=match args,hp with
  |[.v (.one (.p (.str s))),.v (.one (.p (.int .i64 16))),.v (.one (.p (.int .i64 6)))],[]=>(fun(s:Str)=>(some (.one ⟨I.hid (True),(.ret (.tup [(.one (.p (.int .i64 (I.hid ((numA s 16 6).1))))),(.one (.p (.bool (I.hid ((numA s 16 6).2)))))])),[]⟩):Option CT)) s
  |_,_=>none
theorem Y7:zI Tryz.prog 119 (vP alg):=by
  intro args hp r h
  unfold vP at h
  split at h
  · cases h;exact fun hn=>zcQ _
  · cases h
def Y6:Know Tryz.prog:=⟨119,vP,Y7⟩
def Y5:Know Tryz.prog:=⟨119,fun I=>zL I (vP I),zf Y7⟩
theorem RX (s:Str):Spc Tryz.prog 105 [.v (.one (.p (.str s)))] [] (.ret (.tup [(.one (.p (.int .i64 ((numA s 16 6).1)))),(.one (.p (.bool ((numA s 16 6).2))))])) []:=by
  refine spcG zx mixed Tryz.func105 (by kernel_rfl) { keep:=some [0,2,3]} [vT,vS,Y6,Y5] (by kernel_rfl) ?_
  intro I X hI hX
  refine zi (.need (I.hid (α:=(Prop)) True) (.fin (.ret (.tup [(.one (.p (.int .i64 (I.hid (α:=Int) (Prod.fst (numA s (16:Int) (6:Int))))))),(.one (.p (.bool (I.hid (α:=Bool) (Prod.snd (numA s (16:Int) (6:Int)))))))])) [])) (by kernel_rfl) ?_
  simp only [zC]
  subst hI
  simp only [nrmA,nrmB]
  try trivial
def wo (I:Alg) (args:List D) (hp:List HO):Option CT:=match args,hp with
  |[.v (.one (.p (.str s)))],[]=>(fun(s:Str)=>(some (.one ⟨I.hid (True),(.ret (.tup [(.one (.p (.int .i64 (I.hid ((numA s 16 6).1))))),(.one (.p (.bool (I.hid ((numA s 16 6).2)))))])),[]⟩):Option CT)) s
  |_,_=>none
theorem Zk:zI Tryz.prog 105 (wo alg):=by
  intro args hp r h
  unfold wo at h
  split at h
  · cases h;exact fun hn=>RX _
  · cases h
def VX:Know Tryz.prog:=⟨105,wo,Zk⟩
def VW:Know Tryz.prog:=⟨105,fun I=>zL I (wo I),zf Zk⟩
end Go.Proofs.YtmibhbdfigpkmaaGreatDoor
namespace Go.Proofs.YtmibhbdfigpkmaaGreatDoor
open Go Go.Sep Go.Ab
def wE (line:Str):Int × Bool:=numA (Lib.trimS (cutB line 59).1 [32,9]) 16 6
theorem Y9: ∀ (s:Str) (n:Int),0≤n→0≤(numG 16 n s).1
  |[],n,h=>h
  | c::l,n,h=>by
    rw [numG]
    split
    · exact Int.le_refl _
    · exact Y9 l _ (by omega)
theorem ZN (t:Str):0≤(wE t).1:=by
  unfold wE numA
  split
  · exact Int.le_refl _
  · exact Y9 _ _ (Int.le_refl _)
def ch0:Ch:=⟨ln0,0,0,0,0,0⟩
def chL (s:Ch) (t:Str):Ch × Int:=
  if s.pos=2 then(if t=[] then({ s with pos:=0},0) else(s,5))
  else if s.pos=0 then
    (if(wE t).2=false then(s,7)
    else if 4000 - s.all<(wE t).1 then(s,4)
    else if(wE t).1=0 then({ s with pos:=3},0)
    else({ s with pos:=1,left:=(wE t).1},0))
  else if s.pos=3 then
    (if t=[] then({ s with pos:=4},0)
    else if s.tails=16 then(s,8)
    else({ s with tails:=s.tails+1},(yX t).2))
  else(s,0)
def chF (s:Ch) (c:UInt8):Ch × Str × Bool × Int:=
  if s.code≠0 then(s,[],false,s.code)
  else if s.pos=4 then({ s with code:=18},[],false,18)
  else if s.pos=1 then({ s with left:=s.left - 1,all:=s.all+1,pos:=if s.left - 1=0 then 2 else 1},[c],false,0)
  else if(lnF s.ln c).2.2.2≠0 then({ s with ln:=(lnF s.ln c).1,code:=(lnF s.ln c).2.2.2},[],false,(lnF s.ln c).2.2.2)
  else if(lnF s.ln c).2.2.1=true then
    (if(chL { s with ln:=(lnF s.ln c).1} (lnF s.ln c).2.1).2≠0 then({ (chL { s with ln:=(lnF s.ln c).1} (lnF s.ln c).2.1).1 with code:=(chL { s with ln:=(lnF s.ln c).1} (lnF s.ln c).2.1).2},[],false,(chL { s with ln:=(lnF s.ln c).1} (lnF s.ln c).2.1).2)
    else((chL { s with ln:=(lnF s.ln c).1} (lnF s.ln c).2.1).1,[],decide ((chL { s with ln:=(lnF s.ln c).1} (lnF s.ln c).2.1).1.pos=4),0))
  else({ s with ln:=(lnF s.ln c).1},[],false,0)
inductive ChR where
  |more (out:Str) (held:Nat)
  |over (out rest:Str)
  |bad (out:Str) (e:Int) (rest:Str)
def ChR.pre (o:Str):ChR→ChR
  |.more p h=>.more (o++p) h
  |.over p r=>.over (o++p) r
  |.bad p e r=>.bad (o++p) e r
theorem zeT {s:Ch} {c:UInt8}:(chF s c).2.1.length≤1∧((chF s c).2.2.2≠0→(chF s c).2.1=[])∧((chF s c).2.2.1=true→(chF s c).2.2.2=0∧(chF s c).2.1=[]∧(chF s c).1.pos=4∧(chF s c).1.code=0)∧((chF s c).2.2.2≠0→(chF s c).2.2.1=false∧(chF s c).1.code=(chF s c).2.2.2):=by
  unfold chF
  split
  · simp
  rename_i h0
  split
  · simp
  split
  · simp
  split
  · simp
  split
  · split
    · simp
    · refine⟨by simp,by simp,fun h=>⟨rfl,rfl,by simpa using h,?_⟩,fun h=>absurd rfl h⟩
      have: ∀ (x:Ch) (t:Str),x.code=0→(chL x t).1.code=0:=by
        intro x t hx
        unfold chL
        split
        · split<;>exact hx
        split
        · split
          · exact hx
          split
          · exact hx
          split<;>exact hx
        split
        · split
          · exact hx
          split<;>exact hx
        · exact hx
      exact this _ _ (by simpa using h0)
  · simp
end Go.Proofs.YtmibhbdfigpkmaaGreatDoor
namespace Go.Proofs.YtmibhbdfigpkmaaGreatDoor
open Go Go.Sep Go.Ab
set_option maxRecDepth 100000
end Go.Proofs.YtmibhbdfigpkmaaGreatDoor
namespace Go.Proofs.YtmibhbdfigpkmaaGreatDoor
open Go Go.Sep Go.Ab
set_option maxRecDepth 100000
end Go.Proofs.YtmibhbdfigpkmaaGreatDoor
namespace Go.Proofs.YtmibhbdfigpkmaaGreatDoor
open Go Go.Sep Go.Ab
set_option maxRecDepth 100000
def valsF (l:List Fld) (n:Str):List Str:=(l.filter fun f=>decide (lowS f.name=lowS n)).map (·.value)
theorem zhj (l:List Fld) (n:Str) (hneed:l.length≤1000∧n.length≤1000000∧∀ f ∈ l,f.name.length≤1000000∧f.value.length≤1000000):Spc Tryz.prog 36 [.v (.one (.p (.list .fld l))),.v (.one (.p (.str n)))] [] (.ret (.v (.one (.row 0)))) [.row .str 9 ((valsF l n))]:=by
  refine spcG zx mixed Tryz.func36 (by kernel_rfl) { nr:=[5],keep:=some [0,1,4,5,7,8,9,10]} [Zi,Zh] (by kernel_rfl) ?_
  intro I X hI hX
  refine zi (.code 0 [1,1,0,1,0] ⟨[(10,(.v (.one (.p (.int .i64 0))))),(9,(.v (.one (.p (.int .i64 (I.len (α:=Fld) l)))))),(8,(.v (.one (.p (.list .fld l))))),(5,(.v (.one (.row 0)))),(4,(.v (.one .nilS))),(0,(.v (.one (.p (.list .fld l))))),(1,(.v (.one (.p (.str n)))))],[(.row .str 9 ([]:List (Str)))],27,none⟩) (by kernel_rfl) ?_
  simp only [zC]
  refine yE hI zx mixed [Zi,Zh] hX [0,1,5,8,9,10] (fun(g:Nat × List Str)=>match g with|(i,o)=>i≤l.length∧o=valsF (l.take i) n) (fun(g:Nat × List Str)=>match g with|(i,o)=>⟨[(0,.v (.one (.p (.list .fld l)))),(1,.v (.one (.p (.str n)))),(5,.v (.one (.row 0))),(8,.v (.one (.p (.list .fld l)))),(9,.v (.one (.p (.int .i64 ((I.len (α:=Fld) l)))))),(10,.v (.one (.p (.int .i64 i))))],[.row .str 9 o],27,none⟩) (fun(g:Nat × List Str)=>match g with|(i,o)=>l.length - i) (0,[]) (by kernel_rfl) (by kernel_rfl) ?_ ?_
  · exact⟨Nat.zero_le _,rfl⟩
  rintro⟨i,o⟩ ⟨h1,h2⟩ A hA
  simp only at hA
  refine zi (let y0:=I.get (α:=Fld) l (Fld.mk ([]:Str) ([]:Str)) (Nat.cast i);let y1:=I.inr Go.IntKind.i64 (I.add (Nat.cast i) 1);let y2:=I.inb (Nat.cast i) (I.len (α:=Fld) l);.br (I.ilt (Nat.cast i) (I.len (α:=Fld) l)) (.need y2 (.need y2 (.need (I.hid (α:=(Prop)) (LE.le (List.length (Fld.name y0)) 1000000)) (.need (I.hid (α:=(Prop)) (LE.le (List.length n) 1000000)) (.br (I.seq (I.hid (α:=Str) (lowS (Fld.name y0))) (I.hid (α:=Str) (lowS n))) (.need (I.few (I.add (I.len (α:=Str) o) (I.len (α:=Str) ([(Fld.value y0)]:List (Str)))) 100000000) (.need y1 (.need (A ⟨[(0,(.v (.one (.p (.list .fld l))))),(1,(.v (.one (.p (.str n))))),(5,(.v (.one (.row 0)))),(8,(.v (.one (.p (.list .fld l))))),(9,(.v (.one (.p (.int .i64 (I.len (α:=Fld) l)))))),(10,(.v (.one (.p (.int .i64 (I.add (Nat.cast i) 1))))))],[(.row .str 9 (I.app (α:=Str) o ([(Fld.value y0)]:List (Str))))],27,none⟩) .qed))) (.need y1 (.need (A ⟨[(0,(.v (.one (.p (.list .fld l))))),(1,(.v (.one (.p (.str n))))),(5,(.v (.one (.row 0)))),(8,(.v (.one (.p (.list .fld l))))),(9,(.v (.one (.p (.int .i64 (I.len (α:=Fld) l)))))),(10,(.v (.one (.p (.int .i64 (I.add (Nat.cast i) 1))))))],[(.row .str 9 o)],27,none⟩) .qed))))))) (.fin (.ret (.v (.one (.row 0)))) [(.row .str 9 o)])) (by kernel_rfl) ?_
  simp only [zC]
  subst hI
  simp only [nrmA,nrmB]
  have hx:i<l.length→(l.getD i ⟨[],[]⟩) ∈ l:=fun h=>by rw [show l.getD i ⟨[],[]⟩=l[i] by simp [h]];exact List.getElem_mem h
  have hs:i<l.length→valsF (l.take (i+1)) n=if lowS (l.getD i ⟨[],[]⟩).name=lowS n then o++[(l.getD i ⟨[],[]⟩).value] else o:=fun h=>by
    rw [show l.getD i ⟨[],[]⟩=l[i] by simp [h],List.take_succ_eq_append_getElem h,h2]
    unfold valsF
    rw [List.filter_append,List.map_append]
    by_cases hc:lowS l[i].name=lowS n<;>simp [hc]
  have hol:o.length≤i:=by
    rw [h2]
    unfold valsF
    rw [List.length_map]
    exact Nat.le_trans (List.length_filter_le _ _) (by rw [List.length_take];omega)
  have hn:=fun h=>hneed.2.2 _ (hx h)
  generalize l.getD i ⟨[],[]⟩=x at *
  simp only [List.length_cons,List.length_nil]
  (repeat' (first|refine And.intro ?_ ?_|intro _))<;>first|omega|exact True.intro|exact False.elim ‹False›|skip
  all_goals first
    |(have:=hn (by omega);omega)
    |exact hA (i+1,_) ⟨by simp only;omega,by simp only;rw [hs (by omega),if_pos (by assumption)]⟩ (by simp only;omega)
    |exact hA (i+1,_) ⟨by simp only;omega,by simp only;rw [hs (by omega),if_neg (by assumption)]⟩ (by simp only;omega)
    |(rw [h2,List.take_of_length_le (by omega)])
def VJ (I:Alg) (args:List D) (hp:List HO):Option CT:=match args,hp with
  |[.v (.one (.p (.list .fld l))),.v (.one (.p (.str n)))],[]=>(fun(l:List Fld) (n:Str)=>(some (.one ⟨I.hid (l.length≤1000∧n.length≤1000000∧∀ f ∈ l,f.name.length≤1000000∧f.value.length≤1000000),(.ret (.v (.one (.row 0)))),[.row .str 9 (I.hid ((valsF l n)))]⟩):Option CT)) l n
  |_,_=>none
theorem zdo:zI Tryz.prog 36 (VJ alg):=by
  intro args hp r h
  unfold VJ at h
  split at h
  · cases h;exact fun hn=>zhj _ _ hn
  · cases h
def Xy:Know Tryz.prog:=⟨36,VJ,zdo⟩
def Xx:Know Tryz.prog:=⟨36,fun I=>zL I (VJ I),zf zdo⟩
end Go.Proofs.YtmibhbdfigpkmaaGreatDoor
namespace Go.Proofs.YtmibhbdfigpkmaaGreatDoor
open Go Go.Sep Go.Ab
set_option maxRecDepth 100000
def oneF (l:List Str):Str × Int:=if l.length=0 then([],10) else if l.length=1 then(l.getD 0 [],0) else([],9)
theorem zhi (l:List Fld) (n:Str) (hneed:l.length≤1000∧n.length≤1000000∧∀ f ∈ l,f.name.length≤1000000∧f.value.length≤1000000):Spc Tryz.prog 37 [.v (.one (.p (.list .fld l))),.v (.one (.p (.str n)))] [] (.ret (.tup [(.one (.p (.str ((oneF (valsF l n)).1)))),(.one (.p (.int .i64 ((oneF (valsF l n)).2))))])) []:=by
  generalize hr:oneF (valsF l n)=r
  obtain⟨a,d⟩:=r
  refine spcG zx mixed Tryz.func37 (by kernel_rfl) { keep:=some [0,1,4,5,6,11]} [Xy,Xx] (by kernel_rfl) ?_
  intro I X hI hX
  refine zi (let y0:=I.len (α:=Str) (I.hid (α:=(List (Str))) (valsF l n));.need (I.hid (α:=(Prop)) (And (LE.le (List.length l) 1000) (And (LE.le (List.length n) 1000000) (∀ (f:Fld),f ∈ l→List.length f.name≤1000000∧List.length f.value≤1000000)))) (.br (I.ieq y0 0) (.fin (.ret (.tup [(.one (.p (.str ([]:Str)))),(.one (.p (.int .i64 10)))])) []) (.br (I.ieq y0 1) (.need (I.inb 0 y0) (.need (I.inb 0 y0) (.fin (.ret (.tup [(.one (.p (.str (I.get (α:=Str) (I.hid (α:=(List (Str))) (valsF l n)) ([]:Str) 0)))),(.one (.p (.int .i64 0)))])) []))) (.fin (.ret (.tup [(.one (.p (.str ([]:Str)))),(.one (.p (.int .i64 9)))])) [])))) (by kernel_rfl) ?_
  simp only [zC]
  subst hI
  simp only [nrmA,nrmB]
  unfold oneF at hr
  (repeat' (first|refine And.intro ?_ ?_|intro _))<;>first|omega|exact True.intro|exact False.elim ‹False›|skip
  all_goals first
    |assumption
    |exact(hneed.2.2 _ (by assumption)).1
    |exact(hneed.2.2 _ (by assumption)).2
    |(rw [if_pos (by omega)] at hr;cases hr;rfl)
    |(rw [if_neg (by omega),if_pos (by omega)] at hr;cases hr;rfl)
    |(rw [if_neg (by omega),if_neg (by omega)] at hr;cases hr;rfl)
def VI (I:Alg) (args:List D) (hp:List HO):Option CT:=match args,hp with
  |[.v (.one (.p (.list .fld l))),.v (.one (.p (.str n)))],[]=>(fun(l:List Fld) (n:Str)=>(some (.one ⟨I.hid (l.length≤1000∧n.length≤1000000∧∀ f ∈ l,f.name.length≤1000000∧f.value.length≤1000000),(.ret (.tup [(.one (.p (.str (I.hid ((oneF (valsF l n)).1))))),(.one (.p (.int .i64 (I.hid ((oneF (valsF l n)).2)))))])),[]⟩):Option CT)) l n
  |_,_=>none
theorem zdn:zI Tryz.prog 37 (VI alg):=by
  intro args hp r h
  unfold VI at h
  split at h
  · cases h;exact fun hn=>zhi _ _ hn
  · cases h
def VH:Know Tryz.prog:=⟨37,VI,zdn⟩
def VG:Know Tryz.prog:=⟨37,fun I=>zL I (VI I),zf zdn⟩
end Go.Proofs.YtmibhbdfigpkmaaGreatDoor
namespace Go.Proofs.YtmibhbdfigpkmaaGreatDoor
open Go Go.Sep Go.Ab
def hd0:Hd:=⟨[],[],0,[],0⟩
def prt0:Prt:=⟨[],[],[],[]⟩
def evH (h:Hd):Evt:=⟨1,h,[],prt0,0⟩
def evB (b:Str):Evt:=⟨2,hd0,b,prt0,0⟩
def evE:Evt:=⟨3,hd0,[],prt0,0⟩
def evF (c:Int):Evt:=⟨4,hd0,[],prt0,c⟩
def zX:Str→List Str
  |[]=>[[]]
  |c::r=>if c=32 then []::zX r else(match zX r with|[]=>[[c]]|w::ws=>(c::w)::ws)
theorem XY (s:Str):zX s≠[]:=by
  cases s with
  |nil=>simp [zX]
  | cons c r=>
    simp only [zX]
    split
    · simp
    · split<;>simp
def qY:Str:=[72,84,84,80,47,49,46,49]
def Xm:Str:=[72,84,84,80,47,49,46,48]
def begM (s:Str):Int × Hd:=
  match zX s with
  | [a,b,c]=>
    if xX a=false then(6,hd0)
    else if b.head?≠some 47∨b.contains 9=true then(5,hd0)
    else if c=qY then(0,⟨a,b,1,[],0⟩)
    else if c=Xm then(0,⟨a,b,0,[],0⟩)
    else(11,⟨a,b,0,[],0⟩)
  |_=>(5,hd0)
def Ye:Str:=[104,111,115,116]
def uV:Str:=[99,111,110,116,101,110,116,45,108,101,110,103,116,104]
def Vd:Str:=[116,114,97,110,115,102,101,114,45,101,110,99,111,100,105,110,103]
def YJ:Str:=[99,104,117,110,107,101,100]
def sizM (z0:Str) (n:Int):List Str→Int × Int
  |[]=>(n,0)
  |s::r=>if(numA s 10 9).2=false then(0,7) else if s≠z0 then(0,12) else sizM z0 (numA s 10 9).1 r
def lenM (mi:Int) (f:List Fld):Int × Int:=
  if valsF f Vd≠[] then
    if valsF f uV≠[]∨mi=0 then(0,12)
    else if 1<(valsF f Vd).length∨lowS ((valsF f Vd).getD 0 [])≠YJ then(0,11)
    else(-1,0)
  else if(sizM ((valsF f uV).getD 0 []) 0 (valsF f uV)).2≠0 then(0,(sizM ((valsF f uV).getD 0 []) 0 (valsF f uV)).2)
  else if 4000<(sizM ((valsF f uV).getD 0 []) 0 (valsF f uV)).1 then(0,4)
  else((sizM ((valsF f uV).getD 0 []) 0 (valsF f uV)).1,0)
def zfZ (mi:Int) (f:List Fld):Bool:=decide ((oneF (valsF f Ye)).2=9)||(decide ((oneF (valsF f Ye)).2=10)&&decide (mi=1))
def zgt (q:Rq) (e:Evt):Rq:= { q with out:=q.out++[e]}
def yx (q:Rq) (c:Int):Rq:= { q with pos:=4,out:=q.out++[evF c]}
def yU (q:Rq):Rq:= { q with out:=q.out++[evE],pos:=0,h:=hd0,own:=true}
def zT (q:Rq):Rq × Int:=
  if zfZ q.h.minor q.h.fields=true then(q,13)
  else if(lenM q.h.minor q.h.fields).2≠0 then({ q with own:=false},(lenM q.h.minor q.h.fields).2)
  else if(lenM q.h.minor q.h.fields).1=0 then(yU { q with h:= { q.h with length:=0},own:=false,out:=q.out++[evH { q.h with length:=0}]},0)
  else if 0<(lenM q.h.minor q.h.fields).1 then({ q with h:= { q.h with length:=(lenM q.h.minor q.h.fields).1},own:=false,out:=q.out++[evH { q.h with length:=(lenM q.h.minor q.h.fields).1}],pos:=2,left:=(lenM q.h.minor q.h.fields).1},0)
  else({ q with h:= { q.h with length:=(lenM q.h.minor q.h.fields).1},own:=false,out:=q.out++[evH { q.h with length:=(lenM q.h.minor q.h.fields).1}],pos:=3,ck:=some ch0},0)
def zF (q:Rq) (s:Str):Rq × Int:=
  if q.pos=0 then
    if s=[] then(q,0)
    else if(begM s).1=0 then({ q with h:=(begM s).2,pos:=1},0)
    else if(begM s).1=11 then({ q with h:=(begM s).2},11)
    else(q,(begM s).1)
  else if s=[] then zT q
  else if q.h.fields.length=16 then(q,8)
  else({ q with h:= { q.h with fields:=q.h.fields++[(yX s).1]}},(yX s).2)
def ckOf (q:Rq):Ch:=match q.ck with|some c=>c|none=>ch0
def rqF (q:Rq) (c:UInt8):Rq:=
  if q.pos=2 then
    if q.left - 1=0 then yU { q with out:=q.out++[evB [c]],left:=0} else { q with out:=q.out++[evB [c]],left:=q.left - 1}
  else if q.pos=3 then
    if(chF (ckOf q) c).2.2.2≠0 then yx { q with ck:=some (chF (ckOf q) c).1} (chF (ckOf q) c).2.2.2
    else if(chF (ckOf q) c).2.2.1=true then yU { q with ck:=some (chF (ckOf q) c).1,out:=if(chF (ckOf q) c).2.1≠[] then q.out++[evB (chF (ckOf q) c).2.1] else q.out}
    else { q with ck:=some (chF (ckOf q) c).1,out:=if(chF (ckOf q) c).2.1≠[] then q.out++[evB (chF (ckOf q) c).2.1] else q.out}
  else if q.pos=0∨q.pos=1 then
    if(lnF q.ln c).2.2.2≠0 then yx { q with ln:=(lnF q.ln c).1} (lnF q.ln c).2.2.2
    else if(lnF q.ln c).2.2.1=true then
      if(zF { q with ln:=(lnF q.ln c).1} (lnF q.ln c).2.1).2≠0 then yx (zF { q with ln:=(lnF q.ln c).1} (lnF q.ln c).2.1).1 (zF { q with ln:=(lnF q.ln c).1} (lnF q.ln c).2.1).2
      else(zF { q with ln:=(lnF q.ln c).1} (lnF q.ln c).2.1).1
    else { q with ln:=(lnF q.ln c).1}
  else q
def rq0:Rq:=⟨ln0,0,hd0,0,none,true,[]⟩
def xA (q:Rq) (b:Str):Rq:=b.foldl rqF q
def xO (out:List Evt) (e:Evt):List Evt:=
  match out.getLast? with
  |some x=>if e.kind=2∧x.kind=2 then out.dropLast++[evB (x.bytes++e.bytes)] else out++[e]
  |none=>out++[e]
def zH (l:List Evt):List Evt:=l.foldl xO []
def zB (q:Rq) (b:Str):Rq:=xA { q with out:=[]} b
def xB (q:Rq):Bool:=decide (q.pos≠4)&&(decide (q.pos≠0)||lnB q.ln)
end Go.Proofs.YtmibhbdfigpkmaaGreatDoor
namespace Go.Proofs.YtmibhbdfigpkmaaGreatDoor
open Go Go.Sep Go.Ab
theorem yQ (z:List Evt) (x e:Evt):xO (z++[x]) e=if e.kind=2∧x.kind=2 then z++[evB (x.bytes++e.bytes)] else z++[x]++[e]:=by
  unfold xO
  simp
theorem uQ (e:Evt):xO [] e=[e]:=rfl
theorem zbx (X a:List Evt) (e:Evt):(xO X e).foldl xO a=xO (X.foldl xO a) e:=by
  rcases List.eq_nil_or_concat X with rfl|⟨Y,x,rfl⟩
  · rfl
  · rw [List.concat_eq_append,yQ]
    split
    · rename_i h
      obtain⟨he,hx⟩:=h
      simp only [List.foldl_append,List.foldl_cons,List.foldl_nil]
      generalize Y.foldl xO a=Z
      rcases List.eq_nil_or_concat Z with rfl|⟨W,z,rfl⟩
      · rw [uQ,uQ]
        have:=yQ [] x e
        simp only [List.nil_append] at this
        rw [this,if_pos ⟨he,hx⟩]
      · rw [List.concat_eq_append,yQ,yQ]
        by_cases hz:z.kind=2
        · rw [if_pos ⟨rfl,hz⟩,if_pos ⟨hx,hz⟩,yQ,if_pos ⟨he,rfl⟩]
          simp [evB]
        · rw [if_neg (fun h=>hz h.2),if_neg (fun h=>hz h.2),yQ,if_pos ⟨he,hx⟩]
    · simp only [List.foldl_append,List.foldl_cons,List.foldl_nil]
theorem join_join (b a:List Evt):(zH b).foldl xO a=b.foldl xO a:=by
  unfold zH
  suffices ∀ (l c:List Evt),(l.foldl xO c).foldl xO a=l.foldl xO (c.foldl xO a) by simpa using this b []
  intro l
  induction l with
  |nil=>intro c;rfl
  |cons e r ih=>intro c;rw [List.foldl_cons,ih,zbx];rfl
theorem Td (a b:List Evt):zH (a++zH b)=zH (a++b):=by
  unfold zH
  rw [List.foldl_append,List.foldl_append]
  exact join_join b _
theorem WG (a b:List Evt):zH (zH a++b)=zH (a++b):=by
  have h:zH (zH a)=zH a:=Td [] a
  unfold zH at *
  rw [List.foldl_append,List.foldl_append,h]
def uI (o:List Evt) (q:Rq):Rq:= { q with out:=o++q.out}
theorem zbh (o:List Evt) (q:Rq):zT (uI o q)=(uI o (zT q).1,(zT q).2):=by
  unfold zT uI yU
  simp only
  repeat' split
  all_goals simp
theorem zbe (o:List Evt) (q:Rq) (s:Str):zF (uI o q) s=(uI o (zF q s).1,(zF q s).2):=by
  unfold zF
  simp only [zbh]
  have e1:(uI o q).pos=q.pos:=rfl
  have e2:(uI o q).h=q.h:=rfl
  rw [e1,e2]
  repeat' split
  all_goals rfl
theorem zfz (o:List Evt) (q:Rq) (c:UInt8):rqF (uI o q) c=uI o (rqF q c):=by
  obtain⟨ln,p,h,n,ck,own,out⟩:=q
  have hl: ∀ (l:Ln) (s:Str),zF ⟨l,p,h,n,ck,own,o++out⟩ s=(uI o (zF ⟨l,p,h,n,ck,own,out⟩ s).1,(zF ⟨l,p,h,n,ck,own,out⟩ s).2):=fun l s=>zbe o ⟨l,p,h,n,ck,own,out⟩ s
  have hc:ckOf ⟨ln,p,h,n,ck,own,o++out⟩=ckOf ⟨ln,p,h,n,ck,own,out⟩:=rfl
  show rqF ⟨ln,p,h,n,ck,own,o++out⟩ c=_
  unfold rqF
  simp only [hl,hc]
  repeat' split
  all_goals first
    |rfl
    |(simp [uI,yU,yx];done)
theorem zcd (o:List Evt) (b:Str): ∀ (q:Rq),xA (uI o q) b=uI o (xA q b):=by
  induction b with
  |nil=>intro q;rfl
  |cons c r ih=>intro q;show xA (rqF (uI o q) c) r=_;rw [zfz];exact ih _
theorem zce (q:Rq) (a b:Str):xA q (a++b)=xA (xA q a) b:=List.foldl_append
def xh (q:Rq):Rq:= { q with out:=[]}
theorem zbf (q:Rq) (a b:Str):xh (zB (zB q a) b)=xh (zB q (a++b))∧(zB q (a++b)).out=(zB q a).out++(zB (zB q a) b).out:=by
  have h1:zB q (a++b)=xA (zB q a) b:=zce _ a b
  have h2:zB q a=uI (zB q a).out (xh (zB q a)):=by
    unfold uI xh;simp
  have h3:xA (zB q a) b=uI (zB q a).out (zB (zB q a) b):=by
    conv=>lhs;rw [h2]
    rw [zcd];rfl
  rw [h1,h3]
  exact⟨rfl,rfl⟩
end Go.Proofs.YtmibhbdfigpkmaaGreatDoor
namespace Go.Proofs.YtmibhbdfigpkmaaGreatDoor
open Go Go.Sep Go.Ab
set_option maxRecDepth 100000
def zeU:Cfg:= { sl:=[⟨82,0,.byte,some 5⟩]}
theorem zgI:Spc Tryz.prog 21 [] [] (.ret (.v (.one (.ptr 0 0)))) [.pack [.obj 82 [(.row 1),(.p (.bool false)),(.p (.int .i64 0))],.row .byte 5 ([])]]:=by
  refine spcG zx mixed Tryz.func21 (by kernel_rfl) { zeU with keep:=some [0]} [] (by kernel_rfl) ?_
  intro I X hI hX
  refine zi (.fin (.ret (.v (.one (.ptr 0 0)))) [(.pack [(.obj 82 [(.row 1),(.p (.bool Bool.false)),(.p (.int .i64 0))]),(.row .byte 5 ([]:Str))])]) (by kernel_rfl) ?_
  simp only [zC]
  trivial
def YC (I:Alg) (args:List D) (hp:List HO):Option CT:=match args,hp with
  |[],[]=>(fun(_:Unit)=>(some (.one ⟨I.hid (True),(.ret (.v (.one (.ptr 0 0)))),[.pack [.obj 82 [(.row 1),(.p (.bool false)),(.p (.int .i64 0))],.row .byte 5 (I.hid ([]))]]⟩):Option CT)) ()
  |_,_=>none
theorem zak:zI Tryz.prog 21 (YC alg):=by
  intro args hp r h
  unfold YC at h
  split at h
  · cases h;exact fun hn=>zgI
  · cases h
def zaj:Know Tryz.prog:=⟨21,YC,zak⟩
def zai:Know Tryz.prog:=⟨21,fun I=>zL I (YC I),zf zak⟩
theorem zfS (b:Str) (cr:Bool) (code c:Int):Spc Tryz.prog 69 [.v (.one (.ptr 0 0)),.v (.one (.p (.int .i64 c)))] [.pack [.obj 82 [(.row 1),(.p (.bool cr)),(.p (.int .i64 code))],.row .byte 5 b]] (.ret (.tup [(.one (.p (.str ([])))),(.one (.p (.bool false))),(.one (.p (.int .i64 c)))])) [.pack [.obj 82 [(.row 1),(.p (.bool cr)),(.p (.int .i64 c))],.row .byte 5 b]]:=by
  refine spcG zx mixed Tryz.func69 (by kernel_rfl) { zeU with keep:=some [0,1,4,5,6]} [] (by kernel_rfl) ?_
  intro I X hI hX
  refine zi (.fin (.ret (.tup [(.one (.p (.str ([]:Str)))),(.one (.p (.bool Bool.false))),(.one (.p (.int .i64 c)))])) [(.pack [(.obj 82 [(.row 1),(.p (.bool cr)),(.p (.int .i64 c))]),(.row .byte 5 b)])]) (by kernel_rfl) ?_
  simp only [zC]
  subst hI
  simp only [nrmA,nrmB,nrlB,reduceCtorEq,HO.pack.injEq,HO.obj.injEq]
  try trivial
def qU (I:Alg) (args:List D) (hp:List HO):Option CT:=match args,hp with
  |[.v (.one (.ptr 0 0)),.v (.one (.p (.int .i64 c)))],[.pack [.obj 82 [(.row 1),(.p (.bool cr)),(.p (.int .i64 code))],.row .byte 5 b]]=>(fun(b:Str) (cr:Bool) (code c:Int)=>(some (.one ⟨I.hid (True),(.ret (.tup [(.one (.p (.str (I.hid ([]))))),(.one (.p (.bool false))),(.one (.p (.int .i64 c)))])),[.pack [.obj 82 [(.row 1),(.p (.bool cr)),(.p (.int .i64 c))],.row .byte 5 b]]⟩):Option CT)) b cr code c
  |_,_=>none
theorem U3:zI Tryz.prog 69 (qU alg):=by
  intro args hp r h
  unfold qU at h
  split at h
  · cases h;exact fun hn=>zfS _ _ _ _
  · cases h
def zc0:Know Tryz.prog:=⟨69,qU,U3⟩
def zcZ:Know Tryz.prog:=⟨69,fun I=>zL I (qU I),zf U3⟩
set_option maxHeartbeats 4000000 in
theorem zfR (b:Str) (cr:Bool) (code k:Int) (hneed:0≤k∧k≤255∧b.length≤1000000):Spc Tryz.prog 49 [.v (.one (.ptr 0 0)),.v (.one (.p (.int .u8 k)))] [.pack [.obj 82 [(.row 1),(.p (.bool cr)),(.p (.int .i64 code))],.row .byte 5 b]] (.ret (.tup [(.one (.p (.str ((lnF ⟨b,cr,code⟩ (UInt8.ofNat k.toNat)).2.1)))),(.one (.p (.bool ((lnF ⟨b,cr,code⟩ (UInt8.ofNat k.toNat)).2.2.1)))),(.one (.p (.int .i64 ((lnF ⟨b,cr,code⟩ (UInt8.ofNat k.toNat)).2.2.2))))])) [.pack [.obj 82 [(.row 1),(.p (.bool ((lnF ⟨b,cr,code⟩ (UInt8.ofNat k.toNat)).1.cr))),(.p (.int .i64 ((lnF ⟨b,cr,code⟩ (UInt8.ofNat k.toNat)).1.code)))],.row .byte 5 ((lnF ⟨b,cr,code⟩ (UInt8.ofNat k.toNat)).1.b)]]:=by
  obtain⟨hk0,hk1,hbl⟩:=hneed
  have hkk:((UInt8.ofNat k.toNat).toNat:Int)=k:=by rw [UInt8.toNat_ofNat',Nat.mod_eq_of_lt (by omega)];omega
  generalize hr:lnF ⟨b,cr,code⟩ (UInt8.ofNat k.toNat)=r
  have h10:UInt8.ofNat k.toNat=10↔k=10:=⟨fun h=>by rw [h] at hkk;exact hkk.symm,fun h=>by subst h;rfl⟩
  have h13:UInt8.ofNat k.toNat=13↔k=13:=⟨fun h=>by rw [h] at hkk;exact hkk.symm,fun h=>by subst h;rfl⟩
  unfold lnF zgp at hr
  rw [hkk] at hr
  simp only [h10,h13] at hr
  obtain⟨⟨rb,rc,rcode⟩,rt,ro,re⟩:=r
  refine spcG zx mixed Tryz.func49 (by kernel_rfl) { zeU with nr:=[8],keep:=some [0,1,4,5,6,7]} [uZ,XV,zc0,zcZ] (by kernel_rfl) ?_
  intro I X hI hX
  refine zi (let y0:HO:=.pack [(.obj 82 [(.row 1),(.p (.bool cr)),(.p (.int .i64 code))]),(.row .byte 5 (I.app (α:=UInt8) b ([(I.i2b k)]:Str)))];let y1:HO:=.pack [(.obj 82 [(.row 1),(.p (.bool Bool.false)),(.p (.int .i64 code))]),(.row .byte 5 ([]:Str))];let y2:=I.few (I.add (I.len (α:=UInt8) b) (I.len (α:=UInt8) ([(I.i2b k)]:Str))) 140737488355328;let y3:HO:=.pack [(.obj 82 [(.row 1),(.p (.bool Bool.true)),(.p (.int .i64 code))]),(.row .byte 5 b)];let y4:HO:=.pack [(.obj 82 [(.row 1),(.p (.bool cr)),(.p (.int .i64 3))]),(.row .byte 5 b)];let y5:HO:=.pack [(.obj 82 [(.row 1),(.p (.bool cr)),(.p (.int .i64 4))]),(.row .byte 5 b)];let y6:HO:=.pack [(.obj 82 [(.row 1),(.p (.bool cr)),(.p (.int .i64 2))]),(.row .byte 5 b)];let y7:=I.bnot (I.hid (α:=Bool) (Uk k));let y8:=I.ieq (I.len (α:=UInt8) b) 200;.br (I.bnot (I.ieq code 0)) (.fin (.ret (.tup [(.one (.p (.str ([]:Str)))),(.one (.p (.bool Bool.false))),(.one (.p (.int .i64 code)))])) [(.pack [(.obj 82 [(.row 1),(.p (.bool cr)),(.p (.int .i64 code))]),(.row .byte 5 b)])]) (.br cr (.br (I.bnot (I.ieq k 10)) (.need (I.hid (α:=(Prop)) True) (.fin (.ret (.tup [(.one (.p (.str (I.hid (α:=Str) ([]:Str))))),(.one (.p (.bool Bool.false))),(.one (.p (.int .i64 2)))])) [y6])) (.br (I.bnot cr) (.br (I.ieq k 10) (.need (I.hid (α:=(Prop)) True) (.fin (.ret (.tup [(.one (.p (.str (I.hid (α:=Str) ([]:Str))))),(.one (.p (.bool Bool.false))),(.one (.p (.int .i64 2)))])) [y6])) (.br cr (.fin (.ret (.tup [(.one (.p (.str b))),(.one (.p (.bool Bool.true))),(.one (.p (.int .i64 0)))])) [y1]) (.br (I.ieq k 13) (.fin (.ret (.tup [(.one (.p (.str ([]:Str)))),(.one (.p (.bool Bool.false))),(.one (.p (.int .i64 0)))])) [y3]) (.need (I.hid (α:=(Prop)) True) (.br y7 (.need (I.hid (α:=(Prop)) True) (.fin (.ret (.tup [(.one (.p (.str (I.hid (α:=Str) ([]:Str))))),(.one (.p (.bool Bool.false))),(.one (.p (.int .i64 3)))])) [y4])) (.br y8 (.need (I.hid (α:=(Prop)) True) (.fin (.ret (.tup [(.one (.p (.str (I.hid (α:=Str) ([]:Str))))),(.one (.p (.bool Bool.false))),(.one (.p (.int .i64 4)))])) [y5])) (.need (I.inr Go.IntKind.u8 k) (.need y2 (.fin (.ret (.tup [(.one (.p (.str ([]:Str)))),(.one (.p (.bool Bool.false))),(.one (.p (.int .i64 0)))])) [y0]))))))))) (.br cr (.fin (.ret (.tup [(.one (.p (.str b))),(.one (.p (.bool Bool.true))),(.one (.p (.int .i64 0)))])) [y1]) (.br (I.ieq k 13) (.fin (.ret (.tup [(.one (.p (.str ([]:Str)))),(.one (.p (.bool Bool.false))),(.one (.p (.int .i64 0)))])) [y3]) (.need (I.hid (α:=(Prop)) True) (.br y7 (.need (I.hid (α:=(Prop)) True) (.fin (.ret (.tup [(.one (.p (.str (I.hid (α:=Str) ([]:Str))))),(.one (.p (.bool Bool.false))),(.one (.p (.int .i64 3)))])) [y4])) (.br y8 (.need (I.hid (α:=(Prop)) True) (.fin (.ret (.tup [(.one (.p (.str (I.hid (α:=Str) ([]:Str))))),(.one (.p (.bool Bool.false))),(.one (.p (.int .i64 4)))])) [y5])) (.need (I.inr Go.IntKind.u8 k) (.need y2 (.fin (.ret (.tup [(.one (.p (.str ([]:Str)))),(.one (.p (.bool Bool.false))),(.one (.p (.int .i64 0)))])) [y0])))))))))) (.br (I.bnot cr) (.br (I.ieq k 10) (.need (I.hid (α:=(Prop)) True) (.fin (.ret (.tup [(.one (.p (.str (I.hid (α:=Str) ([]:Str))))),(.one (.p (.bool Bool.false))),(.one (.p (.int .i64 2)))])) [y6])) (.br cr (.fin (.ret (.tup [(.one (.p (.str b))),(.one (.p (.bool Bool.true))),(.one (.p (.int .i64 0)))])) [y1]) (.br (I.ieq k 13) (.fin (.ret (.tup [(.one (.p (.str ([]:Str)))),(.one (.p (.bool Bool.false))),(.one (.p (.int .i64 0)))])) [y3]) (.need (I.hid (α:=(Prop)) True) (.br y7 (.need (I.hid (α:=(Prop)) True) (.fin (.ret (.tup [(.one (.p (.str (I.hid (α:=Str) ([]:Str))))),(.one (.p (.bool Bool.false))),(.one (.p (.int .i64 3)))])) [y4])) (.br y8 (.need (I.hid (α:=(Prop)) True) (.fin (.ret (.tup [(.one (.p (.str (I.hid (α:=Str) ([]:Str))))),(.one (.p (.bool Bool.false))),(.one (.p (.int .i64 4)))])) [y5])) (.need (I.inr Go.IntKind.u8 k) (.need y2 (.fin (.ret (.tup [(.one (.p (.str ([]:Str)))),(.one (.p (.bool Bool.false))),(.one (.p (.int .i64 0)))])) [y0]))))))))) (.br cr (.fin (.ret (.tup [(.one (.p (.str b))),(.one (.p (.bool Bool.true))),(.one (.p (.int .i64 0)))])) [y1]) (.br (I.ieq k 13) (.fin (.ret (.tup [(.one (.p (.str ([]:Str)))),(.one (.p (.bool Bool.false))),(.one (.p (.int .i64 0)))])) [y3]) (.need (I.hid (α:=(Prop)) True) (.br y7 (.need (I.hid (α:=(Prop)) True) (.fin (.ret (.tup [(.one (.p (.str (I.hid (α:=Str) ([]:Str))))),(.one (.p (.bool Bool.false))),(.one (.p (.int .i64 3)))])) [y4])) (.br y8 (.need (I.hid (α:=(Prop)) True) (.fin (.ret (.tup [(.one (.p (.str (I.hid (α:=Str) ([]:Str))))),(.one (.p (.bool Bool.false))),(.one (.p (.int .i64 4)))])) [y5])) (.need (I.inr Go.IntKind.u8 k) (.need y2 (.fin (.ret (.tup [(.one (.p (.str ([]:Str)))),(.one (.p (.bool Bool.false))),(.one (.p (.int .i64 0)))])) [y0]))))))))))) (by kernel_rfl) ?_
  simp only [zC]
  subst hI
  simp only [nrmA,nrmB,nrlB,reduceCtorEq,HO.pack.injEq,HO.obj.injEq]
  generalize UInt8.ofNat k.toNat=c at *
  cases cr
  all_goals simp only [Bool.false_eq_true,if_false,if_true] at hr
  all_goals(repeat' (first|refine And.intro ?_ ?_|intro _))<;>first|omega|exact True.intro|exact False.elim ‹False›|skip
  all_goals first
    |omega
    |(exfalso;simp at *;done)
    |(((repeat(first|rewrite [if_pos (by first|omega|assumption|(simp only [*,or_self,or_true,true_or,or_false,false_or,not_true_eq_false,not_false_eq_true,Bool.false_eq_true,Bool.true_eq_false,and_self,and_true,true_and];done)|(simp only [*];omega)|(simp [*];done)|(simp [*];omega))] at hr|rewrite [if_neg (by first|omega|assumption|(simp only [*,or_self,or_true,true_or,or_false,false_or,not_true_eq_false,not_false_eq_true,Bool.false_eq_true,Bool.true_eq_false,and_self,and_true,true_and];done)|(simp only [*];omega)|(simp [*];done)|(simp [*];omega))] at hr)));cases hr;first|rfl|done|with_reducible assumption|exact⟨rfl,rfl,rfl⟩|(simp;done)|(simp;omega))
def qR (I:Alg) (args:List D) (hp:List HO):Option CT:=match args,hp with
  |[.v (.one (.ptr 0 0)),.v (.one (.p (.int .u8 k)))],[.pack [.obj 82 [(.row 1),(.p (.bool cr)),(.p (.int .i64 code))],.row .byte 5 b]]=>(fun(b:Str) (cr:Bool) (code k:Int)=>(some (.one ⟨I.hid (0≤k∧k≤255∧b.length≤1000000),(.ret (.tup [(.one (.p (.str (I.hid ((lnF ⟨b,cr,code⟩ (UInt8.ofNat k.toNat)).2.1))))),(.one (.p (.bool (I.hid ((lnF ⟨b,cr,code⟩ (UInt8.ofNat k.toNat)).2.2.1))))),(.one (.p (.int .i64 (I.hid ((lnF ⟨b,cr,code⟩ (UInt8.ofNat k.toNat)).2.2.2)))))])),[.pack [.obj 82 [(.row 1),(.p (.bool (I.hid ((lnF ⟨b,cr,code⟩ (UInt8.ofNat k.toNat)).1.cr)))),(.p (.int .i64 (I.hid ((lnF ⟨b,cr,code⟩ (UInt8.ofNat k.toNat)).1.code))))],.row .byte 5 (I.hid ((lnF ⟨b,cr,code⟩ (UInt8.ofNat k.toNat)).1.b))]]⟩):Option CT)) b cr code k
  |_,_=>none
theorem U2:zI Tryz.prog 49 (qR alg):=by
  intro args hp r h
  unfold qR at h
  split at h
  · cases h;exact fun hn=>zfR _ _ _ _ hn
  · cases h
def uO:Know Tryz.prog:=⟨49,qR,U2⟩
def uN:Know Tryz.prog:=⟨49,fun I=>zL I (qR I),zf U2⟩
end Go.Proofs.YtmibhbdfigpkmaaGreatDoor
namespace Go.Proofs.YtmibhbdfigpkmaaGreatDoor
open Go Go.Sep Go.Ab
set_option maxRecDepth 100000
def zeV:Cfg:= { sl:=[⟨82,0,.byte,some 5⟩]}
theorem zg0:Spc Tryz.prog 89 [] [] (.ret (.v (.one (.ptr 0 0)))) [.pack [.obj 98 [(.ptr 1 0),(.p (.int .i64 0)),(.p (.int .i64 0)),(.p (.int .i64 0)),(.p (.int .i64 0)),(.p (.int .i64 0))],.pack [.obj 82 [(.row 1),(.p (.bool false)),(.p (.int .i64 0))],.row .byte 5 ([])]]]:=by
  refine spcG zx mixed Tryz.func89 (by kernel_rfl) { zeV with keep:=some [0]} [zaj,zai] (by kernel_rfl) ?_
  intro I X hI hX
  refine zi (.need (I.hid (α:=(Prop)) True) (.fin (.ret (.v (.one (.ptr 0 0)))) [(.pack [(.obj 98 [(.ptr 1 0),(.p (.int .i64 0)),(.p (.int .i64 0)),(.p (.int .i64 0)),(.p (.int .i64 0)),(.p (.int .i64 0))]),(.pack [(.obj 82 [(.row 1),(.p (.bool Bool.false)),(.p (.int .i64 0))]),(.row .byte 5 (I.hid (α:=Str) ([]:Str)))])])])) (by kernel_rfl) ?_
  simp only [zC]
  subst hI
  exact⟨trivial,trivial,rfl⟩
def YI (I:Alg) (args:List D) (hp:List HO):Option CT:=match args,hp with
  |[],[]=>(fun(_:Unit)=>(some (.one ⟨I.hid (True),(.ret (.v (.one (.ptr 0 0)))),[.pack [.obj 98 [(.ptr 1 0),(.p (.int .i64 0)),(.p (.int .i64 0)),(.p (.int .i64 0)),(.p (.int .i64 0)),(.p (.int .i64 0))],.pack [.obj 82 [(.row 1),(.p (.bool false)),(.p (.int .i64 0))],.row .byte 5 (I.hid ([]))]]]⟩):Option CT)) ()
  |_,_=>none
theorem zaO:zI Tryz.prog 89 (YI alg):=by
  intro args hp r h
  unfold YI at h
  split at h
  · cases h;exact fun hn=>zg0
  · cases h
def zaN:Know Tryz.prog:=⟨89,YI,zaO⟩
def zaM:Know Tryz.prog:=⟨89,fun I=>zL I (YI I),zf zaO⟩
theorem zgb (lb:Str) (lc:Bool) (lo p l a t c k:Int):Spc Tryz.prog 67 [.v (.one (.ptr 0 0)),.v (.one (.p (.int .i64 k)))] [.pack [.obj 98 [(.ptr 1 0),(.p (.int .i64 p)),(.p (.int .i64 l)),(.p (.int .i64 a)),(.p (.int .i64 t)),(.p (.int .i64 c))],.pack [.obj 82 [(.row 1),(.p (.bool lc)),(.p (.int .i64 lo))],.row .byte 5 lb]]] (.ret (.tup [(.one (.row 1)),(.one (.p (.bool false))),(.one (.p (.int .i64 k)))])) [.pack [.obj 98 [(.ptr 1 0),(.p (.int .i64 p)),(.p (.int .i64 l)),(.p (.int .i64 a)),(.p (.int .i64 t)),(.p (.int .i64 k))],.pack [.obj 82 [(.row 1),(.p (.bool lc)),(.p (.int .i64 lo))],.row .byte 5 lb]],.row .byte 5 ([])]:=by
  refine spcG zx mixed Tryz.func67 (by kernel_rfl) { zeV with nr:=[4],keep:=some [0,1,4,5,6]} [] (by kernel_rfl) ?_
  intro I X hI hX
  refine zi (.fin (.ret (.tup [(.one (.row 1)),(.one (.p (.bool Bool.false))),(.one (.p (.int .i64 k)))])) [(.pack [(.obj 98 [(.ptr 1 0),(.p (.int .i64 p)),(.p (.int .i64 l)),(.p (.int .i64 a)),(.p (.int .i64 t)),(.p (.int .i64 k))]),(.pack [(.obj 82 [(.row 1),(.p (.bool lc)),(.p (.int .i64 lo))]),(.row .byte 5 lb)])]),(.row .byte 5 ([]:Str))]) (by kernel_rfl) ?_
  simp only [zC]
  subst hI
  simp only [nrmA,nrmB,nrlB,reduceCtorEq,HO.pack.injEq,HO.obj.injEq]
  try trivial
def Zf (I:Alg) (args:List D) (hp:List HO):Option CT:=match args,hp with
  |[.v (.one (.ptr 0 0)),.v (.one (.p (.int .i64 k)))],[.pack [.obj 98 [(.ptr 1 0),(.p (.int .i64 p)),(.p (.int .i64 l)),(.p (.int .i64 a)),(.p (.int .i64 t)),(.p (.int .i64 c))],.pack [.obj 82 [(.row 1),(.p (.bool lc)),(.p (.int .i64 lo))],.row .byte 5 lb]]]=>(fun(lb:Str) (lc:Bool) (lo p l a t c k:Int)=>(some (.one ⟨I.hid (True),(.ret (.tup [(.one (.row 1)),(.one (.p (.bool false))),(.one (.p (.int .i64 k)))])),[.pack [.obj 98 [(.ptr 1 0),(.p (.int .i64 p)),(.p (.int .i64 l)),(.p (.int .i64 a)),(.p (.int .i64 t)),(.p (.int .i64 k))],.pack [.obj 82 [(.row 1),(.p (.bool lc)),(.p (.int .i64 lo))],.row .byte 5 lb]],.row .byte 5 (I.hid ([]))]⟩):Option CT)) lb lc lo p l a t c k
  |_,_=>none
theorem TY:zI Tryz.prog 67 (Zf alg):=by
  intro args hp r h
  unfold Zf at h
  split at h
  · cases h;exact fun hn=>zgb _ _ _ _ _ _ _ _ _
  · cases h
def zdG:Know Tryz.prog:=⟨67,Zf,TY⟩
def zdF:Know Tryz.prog:=⟨67,fun I=>zL I (Zf I),zf TY⟩
theorem zdE (s:Str) (hneed:s.length≤1000000):Spc Tryz.prog 85 [.v (.one (.p (.str s)))] [] (.ret (.tup [(.one (.p (.int .i64 ((if(wE s).2 then(wE s).1 else 0))))),(.one (.p (.int .i64 ((if(wE s).2 then 0 else 7)))))])) []:=by
  generalize hr:wE s=r
  obtain⟨n,ok⟩:=r
  unfold wE at hr
  have hl:=(VP s 59).1
  refine spcG zx mixed Tryz.func85 (by kernel_rfl) { keep:=some [0,2,3,4,7,8]} [VU,VT,zca,zb9,VX,VW] (by kernel_rfl) ?_
  intro I X hI hX
  refine zi (let y0:=I.hid (α:=Str) (Go.Lib.trimS (I.hid (α:=Str) (Prod.fst (cutB s (59:UInt8)))) ([32,9]:Str));.need (I.hid (α:=(Prop)) (LE.le (List.length s) 1000000)) (.need (I.hid (α:=(Prop)) True) (.need (I.hid (α:=(Prop)) True) (.br (I.bnot (I.hid (α:=Bool) (Prod.snd (numA y0 (16:Int) (6:Int))))) (.fin (.ret (.tup [(.one (.p (.int .i64 0))),(.one (.p (.int .i64 7)))])) []) (.fin (.ret (.tup [(.one (.p (.int .i64 (I.hid (α:=Int) (Prod.fst (numA y0 (16:Int) (6:Int))))))),(.one (.p (.int .i64 0)))])) []))))) (by kernel_rfl) ?_
  simp only [zC]
  subst hI
  simp only [nrmA,nrmB,nrlB,reduceCtorEq]
  rw [hr]
  cases ok
  all_goals(repeat' (first|refine And.intro ?_ ?_|intro _))<;>first|omega|exact True.intro|exact False.elim ‹False›|skip
  all_goals first
    |exact hneed
    |trivial
    |omega
    |(simp at *;done)
def vY (I:Alg) (args:List D) (hp:List HO):Option CT:=match args,hp with
  |[.v (.one (.p (.str s)))],[]=>(fun(s:Str)=>(some (.one ⟨I.hid (s.length≤1000000),(.ret (.tup [(.one (.p (.int .i64 (I.hid ((if(wE s).2 then(wE s).1 else 0)))))),(.one (.p (.int .i64 (I.hid ((if(wE s).2 then 0 else 7))))))])),[]⟩):Option CT)) s
  |_,_=>none
theorem XD:zI Tryz.prog 85 (vY alg):=by
  intro args hp r h
  unfold vY at h
  split at h
  · cases h;exact fun hn=>zdE _ hn
  · cases h
def RQ:Know Tryz.prog:=⟨85,vY,XD⟩
def RN:Know Tryz.prog:=⟨85,fun I=>zL I (vY I),zf XD⟩
set_option maxHeartbeats 4000000 in
theorem zf9 (lb:Str) (lc:Bool) (lo p l a t c:Int) (s:Str) (hneed:s.length≤1000000∧(0≤a∧a≤1000000)∧0≤t∧t≤1000000):Spc Tryz.prog 68 [.v (.one (.ptr 0 0)),.v (.one (.p (.str s)))] [.pack [.obj 98 [(.ptr 1 0),(.p (.int .i64 p)),(.p (.int .i64 l)),(.p (.int .i64 a)),(.p (.int .i64 t)),(.p (.int .i64 c))],.pack [.obj 82 [(.row 1),(.p (.bool lc)),(.p (.int .i64 lo))],.row .byte 5 lb]]] (.ret (.v (.one (.p (.int .i64 ((chL ⟨⟨lb,lc,lo⟩,p,l,a,t,c⟩ s).2)))))) [.pack [.obj 98 [(.ptr 1 0),(.p (.int .i64 ((chL ⟨⟨lb,lc,lo⟩,p,l,a,t,c⟩ s).1.pos))),(.p (.int .i64 ((chL ⟨⟨lb,lc,lo⟩,p,l,a,t,c⟩ s).1.left))),(.p (.int .i64 ((chL ⟨⟨lb,lc,lo⟩,p,l,a,t,c⟩ s).1.all))),(.p (.int .i64 ((chL ⟨⟨lb,lc,lo⟩,p,l,a,t,c⟩ s).1.tails))),(.p (.int .i64 c))],.pack [.obj 82 [(.row 1),(.p (.bool lc)),(.p (.int .i64 lo))],.row .byte 5 lb]]]:=by
  obtain⟨hs,⟨ha0,ha1⟩,ht0,ht1⟩:=hneed
  generalize hr:chL ⟨⟨lb,lc,lo⟩,p,l,a,t,c⟩ s=r
  unfold chL at hr
  simp only at hr
  have hsz:=ZN s
  have hsz2:(wE s).2=false∨(wE s).2=true:=by cases(wE s).2<;>simp
  obtain⟨⟨⟨rb,rc,ro⟩,rp,rl,ra,rt,rc2⟩,re⟩:=r
  refine spcG zx mixed Tryz.func68 (by kernel_rfl) { zeV with keep:=some [0,1,4,5,6,8,12]} [Vr,Vq,RQ,RN] (by kernel_rfl) ?_
  intro I X hI hX
  refine zi (let y1:HO:=.pack [(.obj 82 [(.row 1),(.p (.bool lc)),(.p (.int .i64 lo))]),(.row .byte 5 lb)];let y0:HO:=.pack [(.obj 98 [(.ptr 1 0),(.p (.int .i64 p)),(.p (.int .i64 l)),(.p (.int .i64 a)),(.p (.int .i64 t)),(.p (.int .i64 c))]),y1];let y2:=I.hid (α:=Int) (ite (Eq (Prod.snd (wE s)) Bool.true) (Prod.fst (wE s)) (0:Int));let y3:=I.hid (α:=Int) (ite (Eq (Prod.snd (wE s)) Bool.true) (0:Int) (7:Int));let y4:=I.hid (α:=(Prop)) (LE.le (List.length s) 1000000);.br (I.ieq p 2) (.br (I.bnot (I.seq s ([]:Str))) (.fin (.ret (.v (.one (.p (.int .i64 5))))) [y0]) (.fin (.ret (.v (.one (.p (.int .i64 0))))) [(.pack [(.obj 98 [(.ptr 1 0),(.p (.int .i64 0)),(.p (.int .i64 l)),(.p (.int .i64 a)),(.p (.int .i64 t)),(.p (.int .i64 c))]),y1])])) (.br (I.ieq p 0) (.need y4 (.br (I.bnot (I.ieq y3 0)) (.fin (.ret (.v (.one (.p (.int .i64 y3))))) [y0]) (.need (I.inr Go.IntKind.i64 (I.sub 4000 a)) (.br (I.ilt (I.sub 4000 a) y2) (.fin (.ret (.v (.one (.p (.int .i64 4))))) [y0]) (.br (I.ieq y2 0) (.fin (.ret (.v (.one (.p (.int .i64 0))))) [(.pack [(.obj 98 [(.ptr 1 0),(.p (.int .i64 3)),(.p (.int .i64 l)),(.p (.int .i64 a)),(.p (.int .i64 t)),(.p (.int .i64 c))]),y1])]) (.fin (.ret (.v (.one (.p (.int .i64 0))))) [(.pack [(.obj 98 [(.ptr 1 0),(.p (.int .i64 1)),(.p (.int .i64 y2)),(.p (.int .i64 a)),(.p (.int .i64 t)),(.p (.int .i64 c))]),y1])])))))) (.br (I.ieq p 3) (.br (I.seq s ([]:Str)) (.fin (.ret (.v (.one (.p (.int .i64 0))))) [(.pack [(.obj 98 [(.ptr 1 0),(.p (.int .i64 4)),(.p (.int .i64 l)),(.p (.int .i64 a)),(.p (.int .i64 t)),(.p (.int .i64 c))]),y1])]) (.br (I.ieq t 16) (.fin (.ret (.v (.one (.p (.int .i64 8))))) [y0]) (.need (I.inr Go.IntKind.i64 (I.add t 1)) (.need y4 (.fin (.ret (.v (.one (.p (.int .i64 (I.hid (α:=Int) (Prod.snd (yX s)))))))) [(.pack [(.obj 98 [(.ptr 1 0),(.p (.int .i64 p)),(.p (.int .i64 l)),(.p (.int .i64 a)),(.p (.int .i64 (I.add t 1))),(.p (.int .i64 c))]),y1])]))))) (.fin (.ret (.v (.one (.p (.int .i64 0))))) [y0])))) (by kernel_rfl) ?_
  simp only [zC]
  subst hI
  simp only [nrmA,nrmB,nrlB,reduceCtorEq,HO.pack.injEq,HO.obj.injEq]
  generalize wE s=z at *
  obtain⟨n,ok⟩:=z
  simp only at *
  cases ok
  all_goals simp only [Bool.false_eq_true,if_false,if_true] at *
  all_goals(repeat' (first|refine And.intro ?_ ?_|intro _))<;>first|omega|exact True.intro|exact False.elim ‹False›|skip
  all_goals first
    |exact hs
    |omega
    |(exfalso;simp at *;done)
    |(((repeat(first|rewrite [if_pos (by first|omega|assumption|(simp only [*,or_self,or_true,true_or,or_false,false_or,not_true_eq_false,not_false_eq_true,Bool.false_eq_true,Bool.true_eq_false,and_self,and_true,true_and];done)|(simp only [*];omega)|(simp [*];done)|(simp [*];omega))] at hr|rewrite [if_neg (by first|omega|assumption|(simp only [*,or_self,or_true,true_or,or_false,false_or,not_true_eq_false,not_false_eq_true,Bool.false_eq_true,Bool.true_eq_false,and_self,and_true,true_and];done)|(simp only [*];omega)|(simp [*];done)|(simp [*];omega))] at hr)));cases hr;first|rfl|done|with_reducible assumption|exact⟨rfl,rfl,rfl⟩|(simp;done)|(simp;omega))
def Zb (I:Alg) (args:List D) (hp:List HO):Option CT:=match args,hp with
  |[.v (.one (.ptr 0 0)),.v (.one (.p (.str s)))],[.pack [.obj 98 [(.ptr 1 0),(.p (.int .i64 p)),(.p (.int .i64 l)),(.p (.int .i64 a)),(.p (.int .i64 t)),(.p (.int .i64 c))],.pack [.obj 82 [(.row 1),(.p (.bool lc)),(.p (.int .i64 lo))],.row .byte 5 lb]]]=>(fun(lb:Str) (lc:Bool) (lo p l a t c:Int) (s:Str)=>(some (.one ⟨I.hid (s.length≤1000000∧(0≤a∧a≤1000000)∧0≤t∧t≤1000000),(.ret (.v (.one (.p (.int .i64 (I.hid ((chL ⟨⟨lb,lc,lo⟩,p,l,a,t,c⟩ s).2))))))),[.pack [.obj 98 [(.ptr 1 0),(.p (.int .i64 (I.hid ((chL ⟨⟨lb,lc,lo⟩,p,l,a,t,c⟩ s).1.pos)))),(.p (.int .i64 (I.hid ((chL ⟨⟨lb,lc,lo⟩,p,l,a,t,c⟩ s).1.left)))),(.p (.int .i64 (I.hid ((chL ⟨⟨lb,lc,lo⟩,p,l,a,t,c⟩ s).1.all)))),(.p (.int .i64 (I.hid ((chL ⟨⟨lb,lc,lo⟩,p,l,a,t,c⟩ s).1.tails)))),(.p (.int .i64 c))],.pack [.obj 82 [(.row 1),(.p (.bool lc)),(.p (.int .i64 lo))],.row .byte 5 lb]]]⟩):Option CT)) lb lc lo p l a t c s
  |_,_=>none
theorem TV:zI Tryz.prog 68 (Zb alg):=by
  intro args hp r h
  unfold Zb at h
  split at h
  · cases h;exact fun hn=>zf9 _ _ _ _ _ _ _ _ _ hn
  · cases h
def zdD:Know Tryz.prog:=⟨68,Zb,TV⟩
def zdC:Know Tryz.prog:=⟨68,fun I=>zL I (Zb I),zf TV⟩
theorem zaP (s:Ch) (t:Str):(chL s t).1.ln=s.ln∧(chL s t).1.code=s.code:=by
  unfold chL
  split
  · split<;>exact⟨rfl,rfl⟩
  split
  · split
    · exact⟨rfl,rfl⟩
    split
    · exact⟨rfl,rfl⟩
    split<;>exact⟨rfl,rfl⟩
  split
  · split
    · exact⟨rfl,rfl⟩
    split<;>exact⟨rfl,rfl⟩
  · exact⟨rfl,rfl⟩
theorem ZB (s:Ln) (c:UInt8):(lnF s c).2.1.length≤s.b.length:=by
  unfold lnF
  repeat' split
  all_goals simp
set_option maxHeartbeats 8000000 in
theorem zga (lb:Str) (lc:Bool) (lo p l a t c k:Int) (hneed:(0≤k∧k≤255)∧lb.length≤1000000∧(-1000000≤l∧l≤100000000)∧(0≤a∧a≤1000000)∧0≤t∧t≤1000000):Spc Tryz.prog 47 [.v (.one (.ptr 0 0)),.v (.one (.p (.int .u8 k)))] [.pack [.obj 98 [(.ptr 1 0),(.p (.int .i64 p)),(.p (.int .i64 l)),(.p (.int .i64 a)),(.p (.int .i64 t)),(.p (.int .i64 c))],.pack [.obj 82 [(.row 1),(.p (.bool lc)),(.p (.int .i64 lo))],.row .byte 5 lb]]] (.ret (.tup [(.one (.row 1)),(.one (.p (.bool ((chF ⟨⟨lb,lc,lo⟩,p,l,a,t,c⟩ (UInt8.ofNat k.toNat)).2.2.1)))),(.one (.p (.int .i64 ((chF ⟨⟨lb,lc,lo⟩,p,l,a,t,c⟩ (UInt8.ofNat k.toNat)).2.2.2))))])) [.pack [.obj 98 [(.ptr 1 0),(.p (.int .i64 ((chF ⟨⟨lb,lc,lo⟩,p,l,a,t,c⟩ (UInt8.ofNat k.toNat)).1.pos))),(.p (.int .i64 ((chF ⟨⟨lb,lc,lo⟩,p,l,a,t,c⟩ (UInt8.ofNat k.toNat)).1.left))),(.p (.int .i64 ((chF ⟨⟨lb,lc,lo⟩,p,l,a,t,c⟩ (UInt8.ofNat k.toNat)).1.all))),(.p (.int .i64 ((chF ⟨⟨lb,lc,lo⟩,p,l,a,t,c⟩ (UInt8.ofNat k.toNat)).1.tails))),(.p (.int .i64 ((chF ⟨⟨lb,lc,lo⟩,p,l,a,t,c⟩ (UInt8.ofNat k.toNat)).1.code)))],.pack [.obj 82 [(.row 1),(.p (.bool ((chF ⟨⟨lb,lc,lo⟩,p,l,a,t,c⟩ (UInt8.ofNat k.toNat)).1.ln.cr))),(.p (.int .i64 ((chF ⟨⟨lb,lc,lo⟩,p,l,a,t,c⟩ (UInt8.ofNat k.toNat)).1.ln.code)))],.row .byte 5 ((chF ⟨⟨lb,lc,lo⟩,p,l,a,t,c⟩ (UInt8.ofNat k.toNat)).1.ln.b)]],.row .byte 5 ((chF ⟨⟨lb,lc,lo⟩,p,l,a,t,c⟩ (UInt8.ofNat k.toNat)).2.1)]:=by
  obtain⟨⟨hk0,hk1⟩,hlb,⟨hl0,hl1⟩,⟨ha0,ha1⟩,ht0,ht1⟩:=hneed
  generalize hr:chF ⟨⟨lb,lc,lo⟩,p,l,a,t,c⟩ (UInt8.ofNat k.toNat)=r
  unfold chF at hr
  simp only at hr
  have hkeep:=zaP ⟨(lnF ⟨lb,lc,lo⟩ (UInt8.ofNat k.toNat)).1,p,l,a,t,c⟩ (lnF ⟨lb,lc,lo⟩ (UInt8.ofNat k.toNat)).2.1
  have hlen:=ZB ⟨lb,lc,lo⟩ (UInt8.ofNat k.toNat)
  obtain⟨⟨⟨rb,rc,ro⟩,rp,rl,ra,rt,rc2⟩,rd,ris,re⟩:=r
  refine spcG zx mixed Tryz.func47 (by kernel_rfl) { zeV with nr:=[4],keep:=some [0,1,4,5,6,7,8,9]} [uO,uN,zdG,zdF,zdD,zdC] (by kernel_rfl) ?_
  intro I X hI hX
  refine zi (let y3:=I.hid (α:=Bool) (Go.Ab.Ln.cr (Prod.fst (lnF (Go.Ab.Ln.mk lb lc lo) (UInt8.ofNat (Int.toNat k)))));let y2:=I.hid (α:=Int) (Go.Ab.Ln.code (Prod.fst (lnF (Go.Ab.Ln.mk lb lc lo) (UInt8.ofNat (Int.toNat k)))));let y4:=I.hid (α:=Str) (Go.Ab.Ln.b (Prod.fst (lnF (Go.Ab.Ln.mk lb lc lo) (UInt8.ofNat (Int.toNat k)))));let y0:HO:=.pack [(.obj 82 [(.row 1),(.p (.bool y3)),(.p (.int .i64 y2))]),(.row .byte 5 y4)];let y1:=I.hid (α:=Str) (Prod.fst (Prod.snd (lnF (Go.Ab.Ln.mk lb lc lo) (UInt8.ofNat (Int.toNat k)))));let y5:=I.hid (α:=Int) (Prod.snd (Prod.snd (Prod.snd (lnF (Go.Ab.Ln.mk lb lc lo) (UInt8.ofNat (Int.toNat k))))));let y6:HO:=.pack [(.obj 82 [(.row 1),(.p (.bool lc)),(.p (.int .i64 lo))]),(.row .byte 5 lb)];let y7:HO:=.obj 98 [(.ptr 1 0),(.p (.int .i64 p)),(.p (.int .i64 l)),(.p (.int .i64 a)),(.p (.int .i64 t)),(.p (.int .i64 c))];let y8:=I.hid (α:=Int) (Go.Ab.Ch.pos (Prod.fst (chL (Go.Ab.Ch.mk (Go.Ab.Ln.mk y4 y3 y2) p l a t c) y1)));let y9:=I.hid (α:=Int) (Prod.snd (chL (Go.Ab.Ch.mk (Go.Ab.Ln.mk y4 y3 y2) p l a t c) y1));let y10:HO:=.pack [(.obj 98 [(.ptr 1 0),(.p (.int .i64 p)),(.p (.int .i64 l)),(.p (.int .i64 a)),(.p (.int .i64 t)),(.p (.int .i64 y5))]),y0];let y11:HO:=.row .byte 5 (I.hid (α:=Str) ([]:Str));let y12:=I.hid (α:=Int) (Go.Ab.Ch.tails (Prod.fst (chL (Go.Ab.Ch.mk (Go.Ab.Ln.mk y4 y3 y2) p l a t c) y1)));let y13:=I.hid (α:=Int) (Go.Ab.Ch.left (Prod.fst (chL (Go.Ab.Ch.mk (Go.Ab.Ln.mk y4 y3 y2) p l a t c) y1)));let y14:=I.hid (α:=Int) (Go.Ab.Ch.all (Prod.fst (chL (Go.Ab.Ch.mk (Go.Ab.Ln.mk y4 y3 y2) p l a t c) y1)));let y15:HO:=.row .byte 5 ([(I.i2b k)]:Str);.br (I.bnot (I.ieq c 0)) (.fin (.ret (.tup [(.one (.row 1)),(.one (.p (.bool Bool.false))),(.one (.p (.int .i64 c)))])) [(.pack [y7,y6]),(.row .byte 5 ([]:Str))]) (.br (I.ieq p 4) (.need (I.hid (α:=(Prop)) True) (.fin (.ret (.tup [(.one (.row 1)),(.one (.p (.bool Bool.false))),(.one (.p (.int .i64 18)))])) [(.pack [(.obj 98 [(.ptr 1 0),(.p (.int .i64 p)),(.p (.int .i64 l)),(.p (.int .i64 a)),(.p (.int .i64 t)),(.p (.int .i64 18))]),y6]),y11])) (.br (I.ieq p 1) (.need (I.inr Go.IntKind.i64 (I.sub l 1)) (.need (I.inr Go.IntKind.i64 (I.add a 1)) (.br (I.ieq (I.sub l 1) 0) (.need (I.inr Go.IntKind.u8 k) (.fin (.ret (.tup [(.one (.row 1)),(.one (.p (.bool Bool.false))),(.one (.p (.int .i64 0)))])) [(.pack [(.obj 98 [(.ptr 1 0),(.p (.int .i64 2)),(.p (.int .i64 (I.sub l 1))),(.p (.int .i64 (I.add a 1))),(.p (.int .i64 t)),(.p (.int .i64 c))]),y6]),y15])) (.need (I.inr Go.IntKind.u8 k) (.fin (.ret (.tup [(.one (.row 1)),(.one (.p (.bool Bool.false))),(.one (.p (.int .i64 0)))])) [(.pack [(.obj 98 [(.ptr 1 0),(.p (.int .i64 p)),(.p (.int .i64 (I.sub l 1))),(.p (.int .i64 (I.add a 1))),(.p (.int .i64 t)),(.p (.int .i64 c))]),y6]),y15]))))) (.need (I.hid (α:=(Prop)) (And (LE.le (0:Int) k) (And (LE.le k (255:Int)) (LE.le (List.length lb) 1000000)))) (.br (I.ieq y5 0) (.br (I.hid (α:=Bool) (Prod.fst (Prod.snd (Prod.snd (lnF (Go.Ab.Ln.mk lb lc lo) (UInt8.ofNat (Int.toNat k))))))) (.need (I.hid (α:=(Prop)) (And (LE.le (List.length y1) 1000000) (And (And (LE.le (0:Int) a) (LE.le a (1000000:Int))) (And (LE.le (0:Int) t) (LE.le t (1000000:Int)))))) (.br (I.bnot (I.ieq y9 0)) (.need (I.hid (α:=(Prop)) True) (.fin (.ret (.tup [(.one (.row 1)),(.one (.p (.bool Bool.false))),(.one (.p (.int .i64 y9)))])) [(.pack [(.obj 98 [(.ptr 1 0),(.p (.int .i64 y8)),(.p (.int .i64 y13)),(.p (.int .i64 y14)),(.p (.int .i64 y12)),(.p (.int .i64 y9))]),y0]),y11])) (.fin (.ret (.tup [(.one (.row 1)),(.one (.p (.bool (I.ieq y8 4)))),(.one (.p (.int .i64 0)))])) [(.pack [(.obj 98 [(.ptr 1 0),(.p (.int .i64 y8)),(.p (.int .i64 y13)),(.p (.int .i64 y14)),(.p (.int .i64 y12)),(.p (.int .i64 c))]),y0]),(.row .byte 5 ([]:Str))]))) (.br (I.bnot (I.ieq y5 0)) (.need (I.hid (α:=(Prop)) True) (.fin (.ret (.tup [(.one (.row 1)),(.one (.p (.bool Bool.false))),(.one (.p (.int .i64 y5)))])) [y10,y11])) (.fin (.ret (.tup [(.one (.row 1)),(.one (.p (.bool (I.ieq p 4)))),(.one (.p (.int .i64 0)))])) [(.pack [y7,y0]),(.row .byte 5 ([]:Str))]))) (.br (I.bnot (I.ieq y5 0)) (.need (I.hid (α:=(Prop)) True) (.fin (.ret (.tup [(.one (.row 1)),(.one (.p (.bool Bool.false))),(.one (.p (.int .i64 y5)))])) [y10,y11])) (.fin (.ret (.tup [(.one (.row 1)),(.one (.p (.bool (I.ieq p 4)))),(.one (.p (.int .i64 0)))])) [(.pack [y7,y0]),(.row .byte 5 ([]:Str))]))))))) (by kernel_rfl) ?_
  simp only [zC]
  subst hI
  simp only [nrmA,nrmB,nrlB,reduceCtorEq,HO.pack.injEq,HO.obj.injEq]
  generalize lnF ⟨lb,lc,lo⟩ (UInt8.ofNat k.toNat)=q at *
  obtain⟨⟨qb,qc,qo⟩,qs,qis,qe⟩:=q
  simp only at *
  generalize chL ⟨⟨qb,qc,qo⟩,p,l,a,t,c⟩ qs=z at *
  obtain⟨⟨⟨zb,zc,zo⟩,zp,zl,za,zt,zk⟩,ze⟩:=z
  simp only [Ln.mk.injEq] at *
  obtain⟨⟨rfl,rfl,rfl⟩,rfl⟩:=hkeep
  cases qis
  all_goals simp only [Bool.false_eq_true,if_false,if_true] at *
  all_goals(repeat' (first|refine And.intro ?_ ?_|intro _))<;>first|omega|exact True.intro|exact False.elim ‹False›|skip
  all_goals first
    |omega
    |(exfalso;simp at *;done)
    |(((repeat(first|rewrite [if_pos (by first|omega|assumption|(simp only [*,or_self,or_true,true_or,or_false,false_or,not_true_eq_false,not_false_eq_true,Bool.false_eq_true,Bool.true_eq_false,and_self,and_true,true_and];done)|(simp only [*];omega)|(simp [*];done)|(simp [*];omega))] at hr|rewrite [if_neg (by first|omega|assumption|(simp only [*,or_self,or_true,true_or,or_false,false_or,not_true_eq_false,not_false_eq_true,Bool.false_eq_true,Bool.true_eq_false,and_self,and_true,true_and];done)|(simp only [*];omega)|(simp [*];done)|(simp [*];omega))] at hr)));cases hr;first|rfl|done|with_reducible assumption|exact⟨rfl,rfl,rfl⟩|(simp;done)|(simp;omega))
def Ze (I:Alg) (args:List D) (hp:List HO):Option CT:=match args,hp with
  |[.v (.one (.ptr 0 0)),.v (.one (.p (.int .u8 k)))],[.pack [.obj 98 [(.ptr 1 0),(.p (.int .i64 p)),(.p (.int .i64 l)),(.p (.int .i64 a)),(.p (.int .i64 t)),(.p (.int .i64 c))],.pack [.obj 82 [(.row 1),(.p (.bool lc)),(.p (.int .i64 lo))],.row .byte 5 lb]]]=>(fun(lb:Str) (lc:Bool) (lo p l a t c k:Int)=>(some (.one ⟨I.hid ((0≤k∧k≤255)∧lb.length≤1000000∧(-1000000≤l∧l≤100000000)∧(0≤a∧a≤1000000)∧0≤t∧t≤1000000),(.ret (.tup [(.one (.row 1)),(.one (.p (.bool (I.hid ((chF ⟨⟨lb,lc,lo⟩,p,l,a,t,c⟩ (UInt8.ofNat k.toNat)).2.2.1))))),(.one (.p (.int .i64 (I.hid ((chF ⟨⟨lb,lc,lo⟩,p,l,a,t,c⟩ (UInt8.ofNat k.toNat)).2.2.2)))))])),[.pack [.obj 98 [(.ptr 1 0),(.p (.int .i64 (I.hid ((chF ⟨⟨lb,lc,lo⟩,p,l,a,t,c⟩ (UInt8.ofNat k.toNat)).1.pos)))),(.p (.int .i64 (I.hid ((chF ⟨⟨lb,lc,lo⟩,p,l,a,t,c⟩ (UInt8.ofNat k.toNat)).1.left)))),(.p (.int .i64 (I.hid ((chF ⟨⟨lb,lc,lo⟩,p,l,a,t,c⟩ (UInt8.ofNat k.toNat)).1.all)))),(.p (.int .i64 (I.hid ((chF ⟨⟨lb,lc,lo⟩,p,l,a,t,c⟩ (UInt8.ofNat k.toNat)).1.tails)))),(.p (.int .i64 (I.hid ((chF ⟨⟨lb,lc,lo⟩,p,l,a,t,c⟩ (UInt8.ofNat k.toNat)).1.code))))],.pack [.obj 82 [(.row 1),(.p (.bool (I.hid ((chF ⟨⟨lb,lc,lo⟩,p,l,a,t,c⟩ (UInt8.ofNat k.toNat)).1.ln.cr)))),(.p (.int .i64 (I.hid ((chF ⟨⟨lb,lc,lo⟩,p,l,a,t,c⟩ (UInt8.ofNat k.toNat)).1.ln.code))))],.row .byte 5 (I.hid ((chF ⟨⟨lb,lc,lo⟩,p,l,a,t,c⟩ (UInt8.ofNat k.toNat)).1.ln.b))]],.row .byte 5 (I.hid ((chF ⟨⟨lb,lc,lo⟩,p,l,a,t,c⟩ (UInt8.ofNat k.toNat)).2.1))]⟩):Option CT)) lb lc lo p l a t c k
  |_,_=>none
theorem TW:zI Tryz.prog 47 (Ze alg):=by
  intro args hp r h
  unfold Ze at h
  split at h
  · cases h;exact fun hn=>zga _ _ _ _ _ _ _ _ _ hn
  · cases h
def Zd:Know Tryz.prog:=⟨47,Ze,TW⟩
def Zc:Know Tryz.prog:=⟨47,fun I=>zL I (Ze I),zf TW⟩
end Go.Proofs.YtmibhbdfigpkmaaGreatDoor
namespace Go.Proofs.YtmibhbdfigpkmaaGreatDoor
open Go Go.Sep Go.Ab
set_option maxRecDepth 100000
theorem zcS: ∀ (s:Str) (n:Int),0≤n→(numG 16 n s).1+1≤(n+1) * 16 ^ s.length
  |[],n,h=>by simp [numG]
  | c ::l,n,h=>by
    have h16:(0:Int)<16 ^ l.length:=Int.pow_pos (by decide)
    have e:((n+1) * 16 ^ (c::l).length:Int)=((n+1) * 16) * 16 ^ l.length:=by rw [List.length_cons,Int.pow_succ,Int.mul_assoc,Int.mul_comm (16 ^ l.length) 16]
    rw [e,numG]
    split
    · have h1:(1:Int) * 1≤((n+1) * 16) * 16 ^ l.length:=Int.mul_le_mul (by omega) (by omega) (by decide) (by omega)
      simpa using h1
    · rename_i hc
      have h2:=zcS l (n * 16+hexK c.toNat) (by omega)
      exact Int.le_trans h2 (Int.mul_le_mul_of_nonneg_right (by omega) (by omega))
theorem zed (t:Str):(wE t).1≤16777215:=by
  unfold wE numA
  split
  · exact by decide
  · rename_i h
    have h1:=zcS (Lib.trimS (cutB t 59).1 [32,9]) 0 (Int.le_refl _)
    have h2:(Lib.trimS (cutB t 59).1 [32,9]).length≤6:=by omega
    have h3:(16:Int) ^ (Lib.trimS (cutB t 59).1 [32,9]).length≤16 ^ 6:=by
      have:=Nat.pow_le_pow_right (show 0<16 by decide) h2
      exact_mod_cast this
    have h4:(16:Int) ^ 6=16777216:=by decide
    omega
structure ChI (s:Ch) (i:Nat):Prop where
  b:s.ln.b.length≤i
  a0:0≤s.all
  a1:s.all≤i
  t0:0≤s.tails
  t1:s.tails≤i
  l0: -(i:Int)≤s.left
  l1:s.left≤16777215
theorem zg1:ChI ch0 0:=⟨by decide,by decide,by decide,by decide,by decide,by decide,by decide⟩
theorem zgJ (s:Ln) (c:UInt8):(lnF s c).1.b.length≤s.b.length+1:=by
  unfold lnF
  repeat' split
  all_goals simp
theorem zhl {s:Ch} {i:Nat} (h:ChI s i) (c:UInt8):ChI (chF s c).1 (i+1):=by
  have hb:=zgJ s.ln c
  have h0:=h
  obtain⟨h1,h2,h3,h4,h5,h6,h7⟩:=h
  unfold chF
  split
  · exact⟨by show s.ln.b.length≤i+1;omega,h2,by show s.all≤_;omega,h4,by show s.tails≤_;omega,by show _≤s.left;omega,h7⟩
  split
  · constructor<;>simp only<;>omega
  split
  · constructor<;>simp only<;>omega
  split
  · constructor<;>simp only<;>omega
  split
  · have hl: ∀ t,(chL { s with ln:=(lnF s.ln c).1} t).1.ln=(lnF s.ln c).1:=fun t=>(zaP _ _).1
    have key: ∀ t,ChI (chL { s with ln:=(lnF s.ln c).1} t).1 (i+1):=fun t=>by
      have hz:=ZN t
      have hz2:=zed t
      unfold chL
      repeat' split
      all_goals constructor
      all_goals simp only
      all_goals omega
    split
    · obtain⟨k1,k2,k3,k4,k5,k6,k7⟩:=key (lnF s.ln c).2.1
      exact⟨k1,k2,k3,k4,k5,k6,k7⟩
    · exact key _
  · constructor<;>simp only<;>omega
theorem zaQ {s:Ch} {i:Nat} (h:ChI s i) (hi:i≤1000000):s.ln.b.length≤1000000∧(-1000000≤s.left∧s.left≤100000000)∧(0≤s.all∧s.all≤1000000)∧0≤s.tails∧s.tails≤1000000:=by
  obtain⟨h1,h2,h3,h4,h5,h6,h7⟩:=h
  omega
theorem VR {s:Ch} {i j:Nat} (h:ChI s i) (k:i≤j):ChI s j:=by
  obtain⟨h1,h2,h3,h4,h5,h6,h7⟩:=h
  exact⟨by omega,h2,by omega,h4,by omega,by omega,h7⟩
end Go.Proofs.YtmibhbdfigpkmaaGreatDoor
namespace Go.Proofs.YtmibhbdfigpkmaaGreatDoor
open Go Go.Sep Go.Ab
set_option maxRecDepth 100000
theorem zcM (s:Str):(yX s).1.name.length≤s.length∧(yX s).1.value.length≤s.length:=by
  have h:=VP s 58
  have ht:=Qu (cutB s 58).2.1 [32,9]
  unfold yX
  repeat' split
  all_goals simp only [List.length_nil]
  all_goals omega
end Go.Proofs.YtmibhbdfigpkmaaGreatDoor
namespace Go.Proofs.YtmibhbdfigpkmaaGreatDoor
open Go Go.Sep Go.Ab
set_option maxRecDepth 100000
theorem zeW (s:Str):Spc Tryz.prog 108 [.v (.one (.p (.str s)))] [] (.ret (.tup [(.one (.p (.int .i64 ((numA s 10 9).1)))),(.one (.p (.bool ((numA s 10 9).2))))])) []:=by
  refine spcG zx mixed Tryz.func108 (by kernel_rfl) { keep:=some [0,2,3]} [vT,vS,Y6,Y5] (by kernel_rfl) ?_
  intro I X hI hX
  refine zi (.need (I.hid (α:=(Prop)) True) (.fin (.ret (.tup [(.one (.p (.int .i64 (I.hid (α:=Int) (Prod.fst (numA s (10:Int) (9:Int))))))),(.one (.p (.bool (I.hid (α:=Bool) (Prod.snd (numA s (10:Int) (9:Int)))))))])) [])) (by kernel_rfl) ?_
  simp only [zC]
  subst hI
  simp only [nrmA,nrmB]
  try trivial
def sQ (I:Alg) (args:List D) (hp:List HO):Option CT:=match args,hp with
  |[.v (.one (.p (.str s)))],[]=>(fun(s:Str)=>(some (.one ⟨I.hid (True),(.ret (.tup [(.one (.p (.int .i64 (I.hid ((numA s 10 9).1))))),(.one (.p (.bool (I.hid ((numA s 10 9).2)))))])),[]⟩):Option CT)) s
  |_,_=>none
theorem WV:zI Tryz.prog 108 (sQ alg):=by
  intro args hp r h
  unfold sQ at h
  split at h
  · cases h;exact fun hn=>zeW _
  · cases h
def WU:Know Tryz.prog:=⟨108,sQ,WV⟩
def WT:Know Tryz.prog:=⟨108,fun I=>zL I (sQ I),zf WV⟩
theorem UX: ∀ (s:Str) (n:Int),0≤n→(numG 10 n s).1+1≤(n+1) * 10 ^ s.length∧0≤(numG 10 n s).1
  |[],n,h=>by simp [numG];exact h
  | c ::l,n,h=>by
    have h16:(0:Int)<10 ^ l.length:=Int.pow_pos (by decide)
    have e:((n+1) * 10 ^ (c::l).length:Int)=((n+1) * 10) * 10 ^ l.length:=by rw [List.length_cons,Int.pow_succ,Int.mul_assoc,Int.mul_comm (10 ^ l.length) 10]
    rw [e,numG]
    split
    · have h1:(1:Int) * 1≤((n+1) * 10) * 10 ^ l.length:=Int.mul_le_mul (by omega) (by omega) (by decide) (by omega)
      exact⟨by simpa using h1,Int.le_refl _⟩
    · rename_i hc
      have h2:=UX l (n * 10+hexK c.toNat) (by omega)
      exact⟨Int.le_trans h2.1 (Int.mul_le_mul_of_nonneg_right (by omega) (by omega)),h2.2⟩
theorem Xa (x:Str):0≤(numA x 10 9).1∧(numA x 10 9).1<1000000000:=by
  unfold numA
  split
  · exact by decide
  · rename_i h
    have h1:=UX x 0 (Int.le_refl _)
    have h2:x.length≤9:=by omega
    have h3:(10:Int) ^ x.length≤10 ^ 9:=by
      have:(10 ^ x.length:Nat)≤10 ^ 9:=Nat.pow_le_pow_right (by decide) h2
      exact_mod_cast this
    refine⟨h1.2,?_⟩
    have h4:(10:Int) ^ 9=1000000000:=by decide
    omega
end Go.Proofs.YtmibhbdfigpkmaaGreatDoor
namespace Go.Proofs.YtmibhbdfigpkmaaGreatDoor
open Go Go.Sep Go.Ab
set_option maxRecDepth 100000
structure RqI (q:Rq) (i:Nat):Prop where
  lb:q.ln.b.length≤i
  ck: ∀ c,q.ck=some c→ChI c i
  p3:q.pos=3→q.ck≠none
  ow:q.pos=0∨q.pos=1→q.own=true
  fl:q.h.fields.length≤16
  ff: ∀ f ∈ q.h.fields,f.name.length≤i∧f.value.length≤i
  l0:0≤q.left
  l1:q.left≤4000
  l2:q.pos=2→1≤q.left
  on:q.out.length≤4 * i
theorem zck:RqI rq0 0:=⟨by decide,(fun c h=>by cases h),(fun h=>by cases h),fun _=>rfl,by decide,(fun f h=>by cases h),by decide,by decide,(fun h=>by cases h),by decide⟩
theorem zel {q:Rq} {i j:Nat} (h:RqI q i) (k:i≤j):RqI q j:=by
  obtain⟨h1,h2,h3,h4,h5,h6,h7,h8,h9,h10⟩:=h
  exact⟨by omega,fun c e=>VR (h2 c e) k,h3,h4,h5,fun f m=>by have:=h6 f m;omega,h7,h8,h9,by omega⟩
theorem Vo {q:Rq} {i:Nat} (h:RqI q i) {o:List Evt} (k:o.length≤4 * i):RqI { q with out:=o} i:=⟨h.lb,h.ck,h.p3,h.ow,h.fl,h.ff,h.l0,h.l1,h.l2,k⟩
theorem Rl (mi:Int) (f:List Fld): -1≤(lenM mi f).1∧(lenM mi f).1≤4000:=by
  have hs: ∀ (l:List Str) (a:Str) (n:Int),0≤n→0≤(sizM a n l).1:=by
    intro l
    induction l with
    |nil=>intro a n h;exact h
    | cons s r ih=>
      intro a n h
      unfold sizM
      split
      · exact Int.le_refl _
      · split
        · exact Int.le_refl _
        · exact ih _ _ (Xa s).1
  unfold lenM
  repeat' split
  all_goals simp only
  all_goals first
    |decide
    |(have:=hs (valsF f uV) ((valsF f uV).getD 0 []) 0 (by decide);omega)
theorem zg4 (s:Str):(begM s).2.fields=[]:=by
  unfold begM
  split
  · repeat' split
    all_goals rfl
  · rfl
theorem zet {q:Rq} {i:Nat} (h:RqI q i) (k:Nat) (ho:q.out.length≤k):RqI { (zT q).1 with out:=[],pos:=4} i∧((zT q).2=0→RqI { (zT q).1 with out:=[]} i)∧(zT q).1.out.length≤k+2:=by
  have hl:=Rl q.h.minor q.h.fields
  obtain⟨h1,h2,h3,h4,h5,h6,h7,h8,h9,h10⟩:=h
  unfold zT yU
  split
  · exact⟨⟨h1,h2,(fun h=>by cases h),(fun h=>by simp at h),h5,h6,h7,h8,(fun h=>by cases h),by simp⟩,(fun h=>by cases h),by simp only;omega⟩
  split
  · rename_i hz
    exact⟨⟨h1,h2,(fun h=>by cases h),(fun h=>by simp at h),h5,h6,h7,h8,(fun h=>by cases h),by simp⟩,fun h=>absurd h hz,by simp only;omega⟩
  split
  · exact⟨⟨h1,h2,(fun h=>by cases h),(fun h=>by simp at h),by simp [hd0],(fun f m=>by cases m),h7,h8,(fun h=>by cases h),by simp⟩,fun _=>⟨h1,h2,(fun h=>by cases h),fun _=>rfl,by simp [hd0],(fun f m=>by cases m),h7,h8,(fun h=>by cases h),by simp⟩,by simp;omega⟩
  split
  · exact⟨⟨h1,h2,(fun h=>by cases h),(fun h=>by simp at h),h5,h6,by simp only;omega,by simp only;omega,(fun h=>by cases h),by simp⟩,fun _=>⟨h1,h2,(fun h=>by cases h),(fun h=>by simp at h),h5,h6,by simp only;omega,by simp only;omega,fun _=>by simp only;omega,by simp⟩,by simp;omega⟩
  · exact⟨⟨h1,(fun c e=>by cases e;exact VR zg1 (Nat.zero_le _)),(fun h=>by cases h),(fun h=>by simp at h),h5,h6,h7,h8,(fun h=>by cases h),by simp⟩,fun _=>⟨h1,(fun c e=>by cases e;exact VR zg1 (Nat.zero_le _)),(fun _ h=>by cases h),(fun h=>by simp at h),h5,h6,h7,h8,(fun h=>by simp at h),by simp⟩,by simp;omega⟩
theorem Yt {q:Rq} {i:Nat} (h:RqI q i):RqI { q with out:=[],pos:=4} i:=⟨h.lb,h.ck,(fun h=>by cases h),(fun h=>by simp at h),h.fl,h.ff,h.l0,h.l1,(fun h=>by cases h),by simp⟩
theorem zek {q:Rq} {i:Nat} (h:RqI q i) (hp:q.pos=0∨q.pos=1) {s:Str} (hs:s.length≤i) (k:Nat) (ho:q.out.length≤k):RqI { (zF q s).1 with out:=[],pos:=4} i∧((zF q s).2=0→RqI { (zF q s).1 with out:=[]} i)∧(zF q s).1.out.length≤k+2:=by
  have h0:RqI { q with out:=[]} i:=Vo h (by simp)
  have hx:=Yt h
  have hd:=zet h k ho
  have hpl:=zcM s
  have hb:=zg4 s
  have how:=h.ow hp
  unfold zF
  split
  · split
    · exact⟨hx,fun _=>h0,by simp only;omega⟩
    split
    · have h1:RqI { q with h:=(begM s).2,pos:=1,out:=[]} i:=⟨h.lb,h.ck,(fun h=>by cases h),fun _=>how,by simp [hb],(by simp [hb]),h.l0,h.l1,(fun h=>by cases h),by simp⟩
      have hd1:=Yt h1
      exact⟨hd1,fun _=>h1,by simp only;omega⟩
    split
    · have h1:RqI { q with h:=(begM s).2,out:=[]} i:=⟨h.lb,h.ck,h.p3,fun _=>how,by simp [hb],(by simp [hb]),h.l0,h.l1,h.l2,by simp⟩
      have hd1:=Yt h1
      exact⟨hd1,fun _=>h1,by simp only;omega⟩
    · exact⟨hx,fun _=>h0,by simp only;omega⟩
  · split
    · exact hd
    split
    · exact⟨hx,fun _=>h0,by simp only;omega⟩
    · rename_i h16
      have h1:RqI { q with h:= { q.h with fields:=q.h.fields++[(yX s).1]},out:=[]} i:=by
        refine⟨h.lb,h.ck,h.p3,h.ow,?_,?_,h.l0,h.l1,h.l2,by simp⟩
        · have:=h.fl;simp;omega
        · intro f hf
          rcases List.mem_append.1 hf with hf|hf
          · exact h.ff f hf
          · simp only [List.mem_singleton] at hf
            subst hf;omega
      have hd1:=Yt h1
      exact⟨hd1,fun _=>h1,by simp only;omega⟩
theorem SX {q:Rq} {i:Nat} (h:RqI q i) (c:UInt8):RqI (rqF q c) (i+1):=by
  have hm:=zel h (Nat.le_succ i)
  have hon:=h.on
  unfold rqF
  split
  · rename_i hp
    have h2:=h.l2 hp
    split
    · exact⟨hm.lb,hm.ck,(fun h=>by cases h),fun _=>rfl,by simp [yU,hd0],(fun f m=>by cases m),(Int.le_refl _),(show(0:Int)≤4000 by decide),(fun h=>by cases h),by simp [yU];omega⟩
    · exact⟨hm.lb,hm.ck,hm.p3,hm.ow,hm.fl,hm.ff,by have:=h.l0;simp only;omega,by have:=h.l1;simp only;omega,fun _=>by simp only;omega,by simp;omega⟩
  split
  · rename_i hp
    have hc:ChI (chF (ckOf q) c).1 (i+1):=by
      unfold ckOf
      cases hq:q.ck with
      |none=>exact absurd hq (h.p3 hp)
      |some x=>exact zhl (h.ck x hq) c
    split
    · exact⟨hm.lb,(fun x e=>by cases e;exact hc),(fun h=>by cases h),(fun h=>by simp [yx] at h),hm.fl,hm.ff,hm.l0,hm.l1,(fun h=>by cases h),by simp [yx];omega⟩
    split
    · refine⟨hm.lb,(fun x e=>by cases e;exact hc),(fun h=>by cases h),fun _=>rfl,by simp [yU,hd0],(fun f m=>by cases m),hm.l0,hm.l1,(fun h=>by cases h),?_⟩
      simp only [yU]
      split<;>((try simp);omega)
    · refine⟨hm.lb,(fun x e=>by cases e;exact hc),(fun _ h=>by cases h),hm.ow,hm.fl,hm.ff,hm.l0,hm.l1,hm.l2,?_⟩
      show(if(chF (ckOf q) c).2.1≠[] then q.out++[evB (chF (ckOf q) c).2.1] else q.out).length≤4 * (i+1)
      split<;>((try simp);omega)
  split
  · rename_i hp
    have hlb:(lnF q.ln c).1.b.length≤i+1:=by have:=zgJ q.ln c;have:=h.lb;omega
    have hll:(lnF q.ln c).2.1.length≤i+1:=by have:=ZB q.ln c;have:=h.lb;omega
    have h1:RqI { q with ln:=(lnF q.ln c).1} (i+1):=⟨hlb,hm.ck,hm.p3,hm.ow,hm.fl,hm.ff,hm.l0,hm.l1,hm.l2,hm.on⟩
    split
    · exact⟨hlb,hm.ck,(fun h=>by cases h),(fun h=>by simp [yx] at h),hm.fl,hm.ff,hm.l0,hm.l1,(fun h=>by cases h),by simp [yx];omega⟩
    split
    · have hk:=zek h1 hp hll (4 * i) hon
      generalize zF { q with ln:=(lnF q.ln c).1} (lnF q.ln c).2.1=z at *
      obtain⟨⟨k1,k2,-,-,k5,k6,k7,k8,-,-⟩,kz,ko⟩:=hk
      split
      · exact⟨k1,k2,(fun h=>by cases h),(fun h=>by simp [yx] at h),k5,k6,k7,k8,(fun h=>by cases h),by simp [yx];omega⟩
      · rename_i hz
        obtain⟨k1,k2,k3,k4,k5,k6,k7,k8,k9,k10⟩:=kz (by simpa using hz)
        exact⟨k1,k2,k3,k4,k5,k6,k7,k8,k9,by omega⟩
    · exact h1
  · exact hm
end Go.Proofs.YtmibhbdfigpkmaaGreatDoor
namespace Go.Proofs.YtmibhbdfigpkmaaGreatDoor
open Go Go.Sep Go.Ab
set_option maxRecDepth 100000
def txtN (base:Nat):Nat→Nat→Str
  |0,_=>[]
  |f+1,n=>if n<base then [if n<10 then UInt8.ofNat (48+n) else UInt8.ofNat (87+n)] else txtN base f (n / base)++[if n % base<10 then UInt8.ofNat (48+n % base) else UInt8.ofNat (87+n % base)]
def dgN (d:Nat):UInt8:=if d<10 then UInt8.ofNat (48+d) else UInt8.ofNat (87+d)
theorem Qq {base f n:Nat} (h:n<base):txtN base (f+1) n=[dgN n]:=by rw [txtN,if_pos h];rfl
theorem zbT {base f n:Nat} (h: ¬ n<base):txtN base (f+1) n=txtN base f (n / base)++[dgN (n % base)]:=by rw [txtN,if_neg h];rfl
theorem Qr (base:Nat): ∀ f n,(txtN base f n).length≤f
  |0,_=>Nat.le_refl _
  | f +1,n=>by
    rw [txtN]
    split
    · simp
    · have:=Qr base f (n / base)
      rw [List.length_append];simp;omega
theorem zam: ∀ (k n:Nat),n<10 ^ (k+1)→Lib.decDigits n=txtN 10 (k+1) n
  | 0,n,h=>by
    rw [Lib.decDigits,dif_pos (by omega),Qq (by omega)]
    unfold dgN
    rw [if_pos (by omega)]
  | k +1,n,h=>by
    rw [Lib.decDigits]
    by_cases hn:n<10
    · rw [dif_pos hn,Qq hn]
      unfold dgN
      rw [if_pos hn]
    · rw [dif_neg hn,zbT hn,zam k (n / 10) (by rw [Nat.pow_succ] at h;omega)]
      unfold dgN
      rw [if_pos (Nat.mod_lt _ (by decide))]
def decS (n:Int):Str:=txtN 10 9 n.toNat
theorem zeG {n:Int} (h0:0≤n) (h1:n<1000000000):Lib.itoa n=decS n:=by
  unfold Lib.itoa decS
  rw [if_neg (by omega),zam 8 n.toNat (by omega)]
theorem zaK (n:Int):(decS n).length≤9:=Qr 10 9 _
theorem zhg (n:Int) (hneed:0≤n∧n<1000000000):Spc Tryz.prog 39 [.v (.one (.p (.int .i64 n)))] [] (.ret (.v (.one (.p (.str (decS n)))))) []:=by
  refine Spc.of_below ⟨_,Tryz.func39,by kernel_rfl,by kernel_rfl⟩ fun S bs w vs hW hM=> ?_
  obtain⟨v,r,rfl⟩: ∃ v r,vs=v::r:=by cases vs with|nil=>exact hM.elim|cons v r=>exact⟨v,r,rfl⟩
  obtain⟨h1,hM⟩:=hM
  obtain rfl:r=[]:=by cases r with|nil=>rfl|cons v r=>exact hM.elim
  cases h1 with
  | int _ _=>
    refine⟨.string (Sep.S (decS n)),.str _ (by have:=zaK n;unfold maxLen;omega),?_⟩
    rw [← zeG hneed.1 hneed.2]
    refine(Tryz.strconv_Itoa n (by omega) (by omega) w (by first|exact hW|exact hW.1)).mono fun e w' h=> ?_
    obtain⟨he,k,os,rfl⟩:=h
    refine⟨he,?_⟩
    exact⟨rfl,rfl,rfl,(show w.heap.size≤(w.heap++os).size by rw [Array.size_append];omega),fun j hj=>show(w.heap++os)[j]? =w.heap[j]? from Array.getElem?_append_left hj⟩
def Vz (I:Alg) (args:List D) (hp:List HO):Option CT:=match args,hp with
  |[.v (.one (.p (.int .i64 n)))],[]=>(fun(n:Int)=>(some (.one ⟨I.hid (0≤n∧n<1000000000),(.ret (.v (.one (.p (.str (I.hid (decS n))))))),[]⟩):Option CT)) n
  |_,_=>none
theorem zc5:zI Tryz.prog 39 (Vz alg):=by
  intro args hp r h
  unfold Vz at h
  split at h
  · cases h;exact fun hn=>zhg _ hn
  · cases h
def zc4:Know Tryz.prog:=⟨39,Vz,zc5⟩
def zc3:Know Tryz.prog:=⟨39,fun I=>zL I (Vz I),zf zc5⟩
end Go.Proofs.YtmibhbdfigpkmaaGreatDoor
namespace Go.Proofs.YtmibhbdfigpkmaaGreatDoor
open Go Go.Sep Go.Ab
set_option maxRecDepth 100000
def cfgQ:Cfg:= { sl:=[⟨82,0,.byte,some 5⟩,⟨57,5,.fld,some 51⟩,⟨57,9,.evt,some 32⟩]}
def zA (q:Rq):Prop:=q.out.length≤10000000
theorem zgu:Spc Tryz.prog 8 [] [] (.ret (.v (.one (.ptr 0 0)))) [.abs (.rq rq0)]:=by
  refine spcG zx mixed Tryz.func8 (by kernel_rfl) { cfgQ with keep:=some [0]} [zaj,zai] (by kernel_rfl) ?_
  intro I X hI hX
  refine zi (.need (I.hid (α:=(Prop)) True) (.fin (.ret (.v (.one (.ptr 0 0)))) [(.abs (.rq (Go.Ab.Rq.mk (Go.Ab.Ln.mk (I.hid (α:=Str) ([]:Str)) Bool.false (0:Int)) (0:Int) (Hd.mk ([]:Str) ([]:Str) (0:Int) ([]:List Fld) (0:Int)) (0:Int) (Option.none) Bool.true ([]:List Go.Ab.Evt))))])) (by kernel_rfl) ?_
  simp only [zC]
  subst hI
  simp only [nrmA,nrmB,nrlB,reduceCtorEq,HO.abs.injEq,Gh.rq.injEq,Rq.mk.injEq]
  rfl
def Yq (I:Alg) (args:List D) (hp:List HO):Option CT:=match args,hp with
  |[],[]=>(fun(_:Unit)=>(some (.one ⟨I.hid (True),(.ret (.v (.one (.ptr 0 0)))),[.abs (.rq rq0)]⟩):Option CT)) ()
  |_,_=>none
theorem QM:zI Tryz.prog 8 (Yq alg):=by
  intro args hp r h
  unfold Yq at h
  split at h
  · cases h;exact fun hn=>zgu
  · cases h
def Vm:Know Tryz.prog:=⟨8,Yq,QM⟩
def Vl:Know Tryz.prog:=⟨8,fun I=>zL I (Yq I),zf QM⟩
theorem QI (ln:Ln) (p:Int) (m tg:Str) (hm:Int) (hf:List Fld) (hl le:Int) (out:List Evt) (k:Int) (ea eb:Str) (ei:Int) (ef:List Fld) (en:Int) (ebs ex ey ez et:Str) (ec:Int) (hneed:zA ⟨ln,p,⟨m,tg,hm,hf,hl⟩,le,none,true,out⟩):Spc Tryz.prog 45 [.v (.one (.ptr 0 0)),.v (.agg [(.p (.int .i64 k)),(.p (.str ea)),(.p (.str eb)),(.p (.int .i64 ei)),(.p (.list .fld ef)),(.p (.int .i64 en)),(.p (.list .byte ebs)),(.p (.str ex)),(.p (.str ey)),(.p (.str ez)),(.p (.list .byte et)),(.p (.int .i64 ec))])] [.abs (.rq ⟨ln,p,⟨m,tg,hm,hf,hl⟩,le,none,true,out⟩)] (.ret (.tup [])) [.abs (.rq ⟨ln,p,⟨m,tg,hm,hf,hl⟩,le,none,true,(out++[⟨k,⟨ea,eb,ei,ef,en⟩,ebs,⟨ex,ey,ez,et⟩,ec⟩])⟩)]:=by
  unfold zA at hneed
  simp only at hneed
  refine spcG zx mixed Tryz.func45 (by kernel_rfl) { cfgQ with keep:=some [0,1,3]} [] (by kernel_rfl) ?_
  intro I X hI hX
  refine zi (let y0:=I.few (I.add (I.len (α:=Go.Ab.Evt) out) (I.len (α:=Go.Ab.Evt) ([(Go.Ab.Evt.mk k (Hd.mk ea eb ei ef en) ebs (Go.Ab.Prt.mk ex ey ez et) ec)]:List Go.Ab.Evt))) 100000000;.both (.need y0 (.fin (.ret (.tup [])) [(.abs (.rq (Go.Ab.Rq.mk (Go.Ab.Ln.mk (Go.Ab.Ln.b ln) (Go.Ab.Ln.cr ln) (Go.Ab.Ln.code ln)) p (Hd.mk m tg hm hf hl) le (Option.none) Bool.true (I.app (α:=Go.Ab.Evt) out ([(Go.Ab.Evt.mk k (Hd.mk ea eb ei ef en) ebs (Go.Ab.Prt.mk ex ey ez et) ec)]:List Go.Ab.Evt)))))])) (.need y0 (.fin (.ret (.tup [])) [(.abs (.rq (Go.Ab.Rq.mk (Go.Ab.Ln.mk (Go.Ab.Ln.b ln) (Go.Ab.Ln.cr ln) (Go.Ab.Ln.code ln)) p (Hd.mk m tg hm hf hl) le (Option.none) Bool.true (I.app (α:=Go.Ab.Evt) out ([(Go.Ab.Evt.mk k (Hd.mk ea eb ei ef en) ebs (Go.Ab.Prt.mk ex ey ez et) ec)]:List Go.Ab.Evt)))))]))) (by kernel_rfl) ?_
  simp only [zC]
  subst hI
  simp only [nrmA,nrmB,nrlB,reduceCtorEq,HO.abs.injEq,Gh.rq.injEq,Rq.mk.injEq]
  (repeat' (first|refine And.intro ?_ ?_|intro _))<;>first|omega|exact True.intro|exact False.elim ‹False›|skip
  all_goals first
    |omega
    |rfl
    |with_reducible assumption
    |(simp only [List.length_cons,List.length_nil];omega)
    |(simp;done)
def tK (I:Alg) (args:List D) (hp:List HO):Option CT:=match args,hp with
  |[.v (.one (.ptr 0 0)),.v (.agg [(.p (.int .i64 k)),(.p (.str ea)),(.p (.str eb)),(.p (.int .i64 ei)),(.p (.list .fld ef)),(.p (.int .i64 en)),(.p (.list .byte ebs)),(.p (.str ex)),(.p (.str ey)),(.p (.str ez)),(.p (.list .byte et)),(.p (.int .i64 ec))])],[.abs (.rq ⟨ln,p,⟨m,tg,hm,hf,hl⟩,le,none,true,out⟩)]=>(fun(ln:Ln) (p:Int) (m tg:Str) (hm:Int) (hf:List Fld) (hl le:Int) (out:List Evt) (k:Int) (ea eb:Str) (ei:Int) (ef:List Fld) (en:Int) (ebs ex ey ez et:Str) (ec:Int)=>(some (.one ⟨I.hid (zA ⟨ln,p,⟨m,tg,hm,hf,hl⟩,le,none,true,out⟩),(.ret (.tup [])),[.abs (.rq ⟨ln,p,⟨m,tg,hm,hf,hl⟩,le,none,true,(I.hid (out++[⟨k,⟨ea,eb,ei,ef,en⟩,ebs,⟨ex,ey,ez,et⟩,ec⟩]))⟩)]⟩):Option CT)) ln p m tg hm hf hl le out k ea eb ei ef en ebs ex ey ez et ec
  |_,_=>none
theorem X6:zI Tryz.prog 45 (tK alg):=by
  intro args hp r h
  unfold tK at h
  split at h
  · cases h;exact fun hn=>QI _ _ _ _ _ _ _ _ _ _ _ _ _ _ _ _ _ _ _ _ _ hn
  · cases h
def zQ:Know Tryz.prog:=⟨45,tK,X6⟩
def zO:Know Tryz.prog:=⟨45,fun I=>zL I (tK I),zf X6⟩
theorem QJ (ln:Ln) (p:Int) (m tg:Str) (hm:Int) (hf:List Fld) (hl le:Int) (out:List Evt) (k:Int) (ea eb:Str) (ei:Int) (ef:List Fld) (en:Int) (ebs ex ey ez et:Str) (ec:Int) (hneed:zA ⟨ln,p,⟨m,tg,hm,hf,hl⟩,le,none,false,out⟩):Spc Tryz.prog 45 [.v (.one (.ptr 0 0)),.v (.agg [(.p (.int .i64 k)),(.p (.str ea)),(.p (.str eb)),(.p (.int .i64 ei)),(.p (.list .fld ef)),(.p (.int .i64 en)),(.p (.list .byte ebs)),(.p (.str ex)),(.p (.str ey)),(.p (.str ez)),(.p (.list .byte et)),(.p (.int .i64 ec))])] [.abs (.rq ⟨ln,p,⟨m,tg,hm,hf,hl⟩,le,none,false,out⟩)] (.ret (.tup [])) [.abs (.rq ⟨ln,p,⟨m,tg,hm,hf,hl⟩,le,none,false,(out++[⟨k,⟨ea,eb,ei,ef,en⟩,ebs,⟨ex,ey,ez,et⟩,ec⟩])⟩)]:=by
  unfold zA at hneed
  simp only at hneed
  refine spcG zx mixed Tryz.func45 (by kernel_rfl) { cfgQ with keep:=some [0,1,3]} [zQ,zO] (by kernel_rfl) ?_
  intro I X hI hX
  refine zi (let y0:=I.few (I.add (I.len (α:=Go.Ab.Evt) out) (I.len (α:=Go.Ab.Evt) ([(Go.Ab.Evt.mk k (Hd.mk ea eb ei ef en) ebs (Go.Ab.Prt.mk ex ey ez et) ec)]:List Go.Ab.Evt))) 100000000;.both (.need y0 (.fin (.ret (.tup [])) [(.abs (.rq (Go.Ab.Rq.mk (Go.Ab.Ln.mk (Go.Ab.Ln.b ln) (Go.Ab.Ln.cr ln) (Go.Ab.Ln.code ln)) p (Hd.mk m tg hm hf hl) le (Option.none) Bool.false (I.app (α:=Go.Ab.Evt) out ([(Go.Ab.Evt.mk k (Hd.mk ea eb ei ef en) ebs (Go.Ab.Prt.mk ex ey ez et) ec)]:List Go.Ab.Evt)))))])) (.need y0 (.fin (.ret (.tup [])) [(.abs (.rq (Go.Ab.Rq.mk (Go.Ab.Ln.mk (Go.Ab.Ln.b ln) (Go.Ab.Ln.cr ln) (Go.Ab.Ln.code ln)) p (Hd.mk m tg hm hf hl) le (Option.none) Bool.false (I.app (α:=Go.Ab.Evt) out ([(Go.Ab.Evt.mk k (Hd.mk ea eb ei ef en) ebs (Go.Ab.Prt.mk ex ey ez et) ec)]:List Go.Ab.Evt)))))]))) (by kernel_rfl) ?_
  simp only [zC]
  subst hI
  simp only [nrmA,nrmB,nrlB,reduceCtorEq,HO.abs.injEq,Gh.rq.injEq,Rq.mk.injEq]
  (repeat' (first|refine And.intro ?_ ?_|intro _))<;>first|omega|exact True.intro|exact False.elim ‹False›|skip
  all_goals first
    |omega
    |rfl
    |with_reducible assumption
    |(simp only [List.length_cons,List.length_nil];omega)
    |(simp;done)
def tN (I:Alg) (args:List D) (hp:List HO):Option CT:=match args,hp with
  |[.v (.one (.ptr 0 0)),.v (.agg [(.p (.int .i64 k)),(.p (.str ea)),(.p (.str eb)),(.p (.int .i64 ei)),(.p (.list .fld ef)),(.p (.int .i64 en)),(.p (.list .byte ebs)),(.p (.str ex)),(.p (.str ey)),(.p (.str ez)),(.p (.list .byte et)),(.p (.int .i64 ec))])],[.abs (.rq ⟨ln,p,⟨m,tg,hm,hf,hl⟩,le,none,false,out⟩)]=>(fun(ln:Ln) (p:Int) (m tg:Str) (hm:Int) (hf:List Fld) (hl le:Int) (out:List Evt) (k:Int) (ea eb:Str) (ei:Int) (ef:List Fld) (en:Int) (ebs ex ey ez et:Str) (ec:Int)=>(some (.one ⟨I.hid (zA ⟨ln,p,⟨m,tg,hm,hf,hl⟩,le,none,false,out⟩),(.ret (.tup [])),[.abs (.rq ⟨ln,p,⟨m,tg,hm,hf,hl⟩,le,none,false,(I.hid (out++[⟨k,⟨ea,eb,ei,ef,en⟩,ebs,⟨ex,ey,ez,et⟩,ec⟩]))⟩)]⟩):Option CT)) ln p m tg hm hf hl le out k ea eb ei ef en ebs ex ey ez et ec
  |_,_=>none
theorem X7:zI Tryz.prog 45 (tN alg):=by
  intro args hp r h
  unfold tN at h
  split at h
  · cases h;exact fun hn=>QJ _ _ _ _ _ _ _ _ _ _ _ _ _ _ _ _ _ _ _ _ _ hn
  · cases h
def zV:Know Tryz.prog:=⟨45,tN,X7⟩
def zU:Know Tryz.prog:=⟨45,fun I=>zL I (tN I),zf X7⟩
theorem QG (ln:Ln) (p:Int) (m tg:Str) (hm:Int) (hf:List Fld) (hl le:Int) (ch:Ch) (out:List Evt) (k:Int) (ea eb:Str) (ei:Int) (ef:List Fld) (en:Int) (ebs ex ey ez et:Str) (ec:Int) (hneed:zA ⟨ln,p,⟨m,tg,hm,hf,hl⟩,le,some ch,true,out⟩):Spc Tryz.prog 45 [.v (.one (.ptr 0 0)),.v (.agg [(.p (.int .i64 k)),(.p (.str ea)),(.p (.str eb)),(.p (.int .i64 ei)),(.p (.list .fld ef)),(.p (.int .i64 en)),(.p (.list .byte ebs)),(.p (.str ex)),(.p (.str ey)),(.p (.str ez)),(.p (.list .byte et)),(.p (.int .i64 ec))])] [.abs (.rq ⟨ln,p,⟨m,tg,hm,hf,hl⟩,le,some ch,true,out⟩)] (.ret (.tup [])) [.abs (.rq ⟨ln,p,⟨m,tg,hm,hf,hl⟩,le,some ch,true,(out++[⟨k,⟨ea,eb,ei,ef,en⟩,ebs,⟨ex,ey,ez,et⟩,ec⟩])⟩)]:=by
  unfold zA at hneed
  simp only at hneed
  refine spcG zx mixed Tryz.func45 (by kernel_rfl) { cfgQ with keep:=some [0,1,3]} [zQ,zO,zV,zU] (by kernel_rfl) ?_
  intro I X hI hX
  refine zi (let y0:=I.few (I.add (I.len (α:=Go.Ab.Evt) out) (I.len (α:=Go.Ab.Evt) ([(Go.Ab.Evt.mk k (Hd.mk ea eb ei ef en) ebs (Go.Ab.Prt.mk ex ey ez et) ec)]:List Go.Ab.Evt))) 100000000;.both (.need y0 (.fin (.ret (.tup [])) [(.abs (.rq (Go.Ab.Rq.mk (Go.Ab.Ln.mk (Go.Ab.Ln.b ln) (Go.Ab.Ln.cr ln) (Go.Ab.Ln.code ln)) p (Hd.mk m tg hm hf hl) le (Option.some (Go.Ab.Ch.mk (Go.Ab.Ln.mk (Go.Ab.Ln.b (Go.Ab.Ch.ln ch)) (Go.Ab.Ln.cr (Go.Ab.Ch.ln ch)) (Go.Ab.Ln.code (Go.Ab.Ch.ln ch))) (Go.Ab.Ch.pos ch) (Go.Ab.Ch.left ch) (Go.Ab.Ch.all ch) (Go.Ab.Ch.tails ch) (Go.Ab.Ch.code ch))) Bool.true (I.app (α:=Go.Ab.Evt) out ([(Go.Ab.Evt.mk k (Hd.mk ea eb ei ef en) ebs (Go.Ab.Prt.mk ex ey ez et) ec)]:List Go.Ab.Evt)))))])) (.need y0 (.fin (.ret (.tup [])) [(.abs (.rq (Go.Ab.Rq.mk (Go.Ab.Ln.mk (Go.Ab.Ln.b ln) (Go.Ab.Ln.cr ln) (Go.Ab.Ln.code ln)) p (Hd.mk m tg hm hf hl) le (Option.some (Go.Ab.Ch.mk (Go.Ab.Ln.mk (Go.Ab.Ln.b (Go.Ab.Ch.ln ch)) (Go.Ab.Ln.cr (Go.Ab.Ch.ln ch)) (Go.Ab.Ln.code (Go.Ab.Ch.ln ch))) (Go.Ab.Ch.pos ch) (Go.Ab.Ch.left ch) (Go.Ab.Ch.all ch) (Go.Ab.Ch.tails ch) (Go.Ab.Ch.code ch))) Bool.true (I.app (α:=Go.Ab.Evt) out ([(Go.Ab.Evt.mk k (Hd.mk ea eb ei ef en) ebs (Go.Ab.Prt.mk ex ey ez et) ec)]:List Go.Ab.Evt)))))]))) (by kernel_rfl) ?_
  simp only [zC]
  subst hI
  simp only [nrmA,nrmB,nrlB,reduceCtorEq,HO.abs.injEq,Gh.rq.injEq,Rq.mk.injEq]
  (repeat' (first|refine And.intro ?_ ?_|intro _))<;>first|omega|exact True.intro|exact False.elim ‹False›|skip
  all_goals first
    |omega
    |rfl
    |with_reducible assumption
    |(simp only [List.length_cons,List.length_nil];omega)
    |(simp;done)
def tH (I:Alg) (args:List D) (hp:List HO):Option CT:=match args,hp with
  |[.v (.one (.ptr 0 0)),.v (.agg [(.p (.int .i64 k)),(.p (.str ea)),(.p (.str eb)),(.p (.int .i64 ei)),(.p (.list .fld ef)),(.p (.int .i64 en)),(.p (.list .byte ebs)),(.p (.str ex)),(.p (.str ey)),(.p (.str ez)),(.p (.list .byte et)),(.p (.int .i64 ec))])],[.abs (.rq ⟨ln,p,⟨m,tg,hm,hf,hl⟩,le,some ch,true,out⟩)]=>(fun(ln:Ln) (p:Int) (m tg:Str) (hm:Int) (hf:List Fld) (hl le:Int) (ch:Ch) (out:List Evt) (k:Int) (ea eb:Str) (ei:Int) (ef:List Fld) (en:Int) (ebs ex ey ez et:Str) (ec:Int)=>(some (.one ⟨I.hid (zA ⟨ln,p,⟨m,tg,hm,hf,hl⟩,le,some ch,true,out⟩),(.ret (.tup [])),[.abs (.rq ⟨ln,p,⟨m,tg,hm,hf,hl⟩,le,some ch,true,(I.hid (out++[⟨k,⟨ea,eb,ei,ef,en⟩,ebs,⟨ex,ey,ez,et⟩,ec⟩]))⟩)]⟩):Option CT)) ln p m tg hm hf hl le ch out k ea eb ei ef en ebs ex ey ez et ec
  |_,_=>none
theorem X4:zI Tryz.prog 45 (tH alg):=by
  intro args hp r h
  unfold tH at h
  split at h
  · cases h;exact fun hn=>QG _ _ _ _ _ _ _ _ _ _ _ _ _ _ _ _ _ _ _ _ _ _ hn
  · cases h
def zZ:Know Tryz.prog:=⟨45,tH,X4⟩
def zY:Know Tryz.prog:=⟨45,fun I=>zL I (tH I),zf X4⟩
theorem QH (ln:Ln) (p:Int) (m tg:Str) (hm:Int) (hf:List Fld) (hl le:Int) (ch:Ch) (out:List Evt) (k:Int) (ea eb:Str) (ei:Int) (ef:List Fld) (en:Int) (ebs ex ey ez et:Str) (ec:Int) (hneed:zA ⟨ln,p,⟨m,tg,hm,hf,hl⟩,le,some ch,false,out⟩):Spc Tryz.prog 45 [.v (.one (.ptr 0 0)),.v (.agg [(.p (.int .i64 k)),(.p (.str ea)),(.p (.str eb)),(.p (.int .i64 ei)),(.p (.list .fld ef)),(.p (.int .i64 en)),(.p (.list .byte ebs)),(.p (.str ex)),(.p (.str ey)),(.p (.str ez)),(.p (.list .byte et)),(.p (.int .i64 ec))])] [.abs (.rq ⟨ln,p,⟨m,tg,hm,hf,hl⟩,le,some ch,false,out⟩)] (.ret (.tup [])) [.abs (.rq ⟨ln,p,⟨m,tg,hm,hf,hl⟩,le,some ch,false,(out++[⟨k,⟨ea,eb,ei,ef,en⟩,ebs,⟨ex,ey,ez,et⟩,ec⟩])⟩)]:=by
  unfold zA at hneed
  simp only at hneed
  refine spcG zx mixed Tryz.func45 (by kernel_rfl) { cfgQ with keep:=some [0,1,3]} [zQ,zO,zV,zU,zZ,zY] (by kernel_rfl) ?_
  intro I X hI hX
  refine zi (let y0:=I.few (I.add (I.len (α:=Go.Ab.Evt) out) (I.len (α:=Go.Ab.Evt) ([(Go.Ab.Evt.mk k (Hd.mk ea eb ei ef en) ebs (Go.Ab.Prt.mk ex ey ez et) ec)]:List Go.Ab.Evt))) 100000000;.both (.need y0 (.fin (.ret (.tup [])) [(.abs (.rq (Go.Ab.Rq.mk (Go.Ab.Ln.mk (Go.Ab.Ln.b ln) (Go.Ab.Ln.cr ln) (Go.Ab.Ln.code ln)) p (Hd.mk m tg hm hf hl) le (Option.some (Go.Ab.Ch.mk (Go.Ab.Ln.mk (Go.Ab.Ln.b (Go.Ab.Ch.ln ch)) (Go.Ab.Ln.cr (Go.Ab.Ch.ln ch)) (Go.Ab.Ln.code (Go.Ab.Ch.ln ch))) (Go.Ab.Ch.pos ch) (Go.Ab.Ch.left ch) (Go.Ab.Ch.all ch) (Go.Ab.Ch.tails ch) (Go.Ab.Ch.code ch))) Bool.false (I.app (α:=Go.Ab.Evt) out ([(Go.Ab.Evt.mk k (Hd.mk ea eb ei ef en) ebs (Go.Ab.Prt.mk ex ey ez et) ec)]:List Go.Ab.Evt)))))])) (.need y0 (.fin (.ret (.tup [])) [(.abs (.rq (Go.Ab.Rq.mk (Go.Ab.Ln.mk (Go.Ab.Ln.b ln) (Go.Ab.Ln.cr ln) (Go.Ab.Ln.code ln)) p (Hd.mk m tg hm hf hl) le (Option.some (Go.Ab.Ch.mk (Go.Ab.Ln.mk (Go.Ab.Ln.b (Go.Ab.Ch.ln ch)) (Go.Ab.Ln.cr (Go.Ab.Ch.ln ch)) (Go.Ab.Ln.code (Go.Ab.Ch.ln ch))) (Go.Ab.Ch.pos ch) (Go.Ab.Ch.left ch) (Go.Ab.Ch.all ch) (Go.Ab.Ch.tails ch) (Go.Ab.Ch.code ch))) Bool.false (I.app (α:=Go.Ab.Evt) out ([(Go.Ab.Evt.mk k (Hd.mk ea eb ei ef en) ebs (Go.Ab.Prt.mk ex ey ez et) ec)]:List Go.Ab.Evt)))))]))) (by kernel_rfl) ?_
  simp only [zC]
  subst hI
  simp only [nrmA,nrmB,nrlB,reduceCtorEq,HO.abs.injEq,Gh.rq.injEq,Rq.mk.injEq]
  (repeat' (first|refine And.intro ?_ ?_|intro _))<;>first|omega|exact True.intro|exact False.elim ‹False›|skip
  all_goals first
    |omega
    |rfl
    |with_reducible assumption
    |(simp only [List.length_cons,List.length_nil];omega)
    |(simp;done)
def tJ (I:Alg) (args:List D) (hp:List HO):Option CT:=match args,hp with
  |[.v (.one (.ptr 0 0)),.v (.agg [(.p (.int .i64 k)),(.p (.str ea)),(.p (.str eb)),(.p (.int .i64 ei)),(.p (.list .fld ef)),(.p (.int .i64 en)),(.p (.list .byte ebs)),(.p (.str ex)),(.p (.str ey)),(.p (.str ez)),(.p (.list .byte et)),(.p (.int .i64 ec))])],[.abs (.rq ⟨ln,p,⟨m,tg,hm,hf,hl⟩,le,some ch,false,out⟩)]=>(fun(ln:Ln) (p:Int) (m tg:Str) (hm:Int) (hf:List Fld) (hl le:Int) (ch:Ch) (out:List Evt) (k:Int) (ea eb:Str) (ei:Int) (ef:List Fld) (en:Int) (ebs ex ey ez et:Str) (ec:Int)=>(some (.one ⟨I.hid (zA ⟨ln,p,⟨m,tg,hm,hf,hl⟩,le,some ch,false,out⟩),(.ret (.tup [])),[.abs (.rq ⟨ln,p,⟨m,tg,hm,hf,hl⟩,le,some ch,false,(I.hid (out++[⟨k,⟨ea,eb,ei,ef,en⟩,ebs,⟨ex,ey,ez,et⟩,ec⟩]))⟩)]⟩):Option CT)) ln p m tg hm hf hl le ch out k ea eb ei ef en ebs ex ey ez et ec
  |_,_=>none
theorem X5:zI Tryz.prog 45 (tJ alg):=by
  intro args hp r h
  unfold tJ at h
  split at h
  · cases h;exact fun hn=>QH _ _ _ _ _ _ _ _ _ _ _ _ _ _ _ _ _ _ _ _ _ _ hn
  · cases h
def yh:Know Tryz.prog:=⟨45,tJ,X5⟩
def yg:Know Tryz.prog:=⟨45,fun I=>zL I (tJ I),zf X5⟩
theorem zgs (q:Rq) (k:Int) (ea eb:Str) (ei:Int) (ef:List Fld) (en:Int) (ebs ex ey ez et:Str) (ec:Int) (hneed:zA q):Spc Tryz.prog 45 [.v (.one (.ptr 0 0)),.v (.agg [(.p (.int .i64 k)),(.p (.str ea)),(.p (.str eb)),(.p (.int .i64 ei)),(.p (.list .fld ef)),(.p (.int .i64 en)),(.p (.list .byte ebs)),(.p (.str ex)),(.p (.str ey)),(.p (.str ez)),(.p (.list .byte et)),(.p (.int .i64 ec))])] [.abs (.rq q)] (.ret (.tup [])) [.abs (.rq ((zgt q ⟨k,⟨ea,eb,ei,ef,en⟩,ebs,⟨ex,ey,ez,et⟩,ec⟩)))]:=by
  obtain⟨ln,p,⟨m,tg,hm,hf,hl⟩,le,ck,own,out⟩:=q
  cases ck with
  | none=>cases own with
    |true=>exact QI ln p m tg hm hf hl le out k ea eb ei ef en ebs ex ey ez et ec hneed
    |false=>exact QJ ln p m tg hm hf hl le out k ea eb ei ef en ebs ex ey ez et ec hneed
  | some ch=>cases own with
    |true=>exact QG ln p m tg hm hf hl le ch out k ea eb ei ef en ebs ex ey ez et ec hneed
    |false=>exact QH ln p m tg hm hf hl le ch out k ea eb ei ef en ebs ex ey ez et ec hneed
def Yp (I:Alg) (args:List D) (hp:List HO):Option CT:=match args,hp with
  |[.v (.one (.ptr 0 0)),.v (.agg [(.p (.int .i64 k)),(.p (.str ea)),(.p (.str eb)),(.p (.int .i64 ei)),(.p (.list .fld ef)),(.p (.int .i64 en)),(.p (.list .byte ebs)),(.p (.str ex)),(.p (.str ey)),(.p (.str ez)),(.p (.list .byte et)),(.p (.int .i64 ec))])],[.abs (.rq q)]=>(fun(q:Rq) (k:Int) (ea eb:Str) (ei:Int) (ef:List Fld) (en:Int) (ebs ex ey ez et:Str) (ec:Int)=>(some (.one ⟨I.hid (zA q),(.ret (.tup [])),[.abs (.rq (I.hid ((zgt q ⟨k,⟨ea,eb,ei,ef,en⟩,ebs,⟨ex,ey,ez,et⟩,ec⟩))))]⟩):Option CT)) q k ea eb ei ef en ebs ex ey ez et ec
  |_,_=>none
theorem QK:zI Tryz.prog 45 (Yp alg):=by
  intro args hp r h
  unfold Yp at h
  split at h
  · cases h;exact fun hn=>zgs _ _ _ _ _ _ _ _ _ _ _ _ _ hn
  · cases h
def yT:Know Tryz.prog:=⟨45,Yp,QK⟩
def yS:Know Tryz.prog:=⟨45,fun I=>zL I (Yp I),zf QK⟩
theorem zcr (ln:Ln) (p:Int) (m tg:Str) (hm:Int) (hf:List Fld) (hl le:Int) (out:List Evt) (c:Int) (hneed:zA ⟨ln,p,⟨m,tg,hm,hf,hl⟩,le,none,true,out⟩):Spc Tryz.prog 48 [.v (.one (.ptr 0 0)),.v (.one (.p (.int .i64 c)))] [.abs (.rq ⟨ln,p,⟨m,tg,hm,hf,hl⟩,le,none,true,out⟩)] (.ret (.tup [])) [.abs (.rq ((yx ⟨ln,p,⟨m,tg,hm,hf,hl⟩,le,none,true,out⟩ c)))]:=by
  unfold zA at hneed
  simp only at hneed
  refine spcG zx mixed Tryz.func48 (by kernel_rfl) { cfgQ with keep:=some [0,1]} [zQ,zO,zV,zU,zZ,zY,yh,yg,yT,yS] (by kernel_rfl) ?_
  intro I X hI hX
  refine zi (.need (I.hid (α:=(Prop)) (zA (Go.Ab.Rq.mk (Go.Ab.Ln.mk (Go.Ab.Ln.b ln) (Go.Ab.Ln.cr ln) (Go.Ab.Ln.code ln)) (4:Int) (Hd.mk m tg hm hf hl) le (Option.none) Bool.true out))) (.fin (.ret (.tup [])) [(.abs (.rq (Go.Ab.Rq.mk (Go.Ab.Ln.mk (Go.Ab.Ln.b ln) (Go.Ab.Ln.cr ln) (Go.Ab.Ln.code ln)) (4:Int) (Hd.mk m tg hm hf hl) le (Option.none) Bool.true (I.hid (α:=(List Go.Ab.Evt)) (HAppend.hAppend out ([(Go.Ab.Evt.mk (4:Int) (Hd.mk ([]:Str) ([]:Str) (0:Int) ([]:List Fld) (0:Int)) ([]:Str) (Go.Ab.Prt.mk ([]:Str) ([]:Str) ([]:Str) ([]:Str)) c)]:List Go.Ab.Evt))))))])) (by kernel_rfl) ?_
  simp only [zC]
  subst hI
  simp only [nrmA,nrmB,nrlB,reduceCtorEq,HO.abs.injEq,Gh.rq.injEq,Rq.mk.injEq]
  (repeat' (first|refine And.intro ?_ ?_|intro _))<;>first|omega|exact True.intro|exact False.elim ‹False›|skip
  all_goals first
    |omega
    |rfl
    |with_reducible assumption
    |(simp only [List.length_cons,List.length_nil];omega)
    |(unfold zA;simp only;omega)
    |(simp;done)
theorem zcs (ln:Ln) (p:Int) (m tg:Str) (hm:Int) (hf:List Fld) (hl le:Int) (out:List Evt) (c:Int) (hneed:zA ⟨ln,p,⟨m,tg,hm,hf,hl⟩,le,none,false,out⟩):Spc Tryz.prog 48 [.v (.one (.ptr 0 0)),.v (.one (.p (.int .i64 c)))] [.abs (.rq ⟨ln,p,⟨m,tg,hm,hf,hl⟩,le,none,false,out⟩)] (.ret (.tup [])) [.abs (.rq ((yx ⟨ln,p,⟨m,tg,hm,hf,hl⟩,le,none,false,out⟩ c)))]:=by
  unfold zA at hneed
  simp only at hneed
  refine spcG zx mixed Tryz.func48 (by kernel_rfl) { cfgQ with keep:=some [0,1]} [zQ,zO,zV,zU,zZ,zY,yh,yg,yT,yS] (by kernel_rfl) ?_
  intro I X hI hX
  refine zi (.need (I.hid (α:=(Prop)) (zA (Go.Ab.Rq.mk (Go.Ab.Ln.mk (Go.Ab.Ln.b ln) (Go.Ab.Ln.cr ln) (Go.Ab.Ln.code ln)) (4:Int) (Hd.mk m tg hm hf hl) le (Option.none) Bool.false out))) (.fin (.ret (.tup [])) [(.abs (.rq (Go.Ab.Rq.mk (Go.Ab.Ln.mk (Go.Ab.Ln.b ln) (Go.Ab.Ln.cr ln) (Go.Ab.Ln.code ln)) (4:Int) (Hd.mk m tg hm hf hl) le (Option.none) Bool.false (I.hid (α:=(List Go.Ab.Evt)) (HAppend.hAppend out ([(Go.Ab.Evt.mk (4:Int) (Hd.mk ([]:Str) ([]:Str) (0:Int) ([]:List Fld) (0:Int)) ([]:Str) (Go.Ab.Prt.mk ([]:Str) ([]:Str) ([]:Str) ([]:Str)) c)]:List Go.Ab.Evt))))))])) (by kernel_rfl) ?_
  simp only [zC]
  subst hI
  simp only [nrmA,nrmB,nrlB,reduceCtorEq,HO.abs.injEq,Gh.rq.injEq,Rq.mk.injEq]
  (repeat' (first|refine And.intro ?_ ?_|intro _))<;>first|omega|exact True.intro|exact False.elim ‹False›|skip
  all_goals first
    |omega
    |rfl
    |with_reducible assumption
    |(simp only [List.length_cons,List.length_nil];omega)
    |(unfold zA;simp only;omega)
    |(simp;done)
theorem zcp (ln:Ln) (p:Int) (m tg:Str) (hm:Int) (hf:List Fld) (hl le:Int) (ch:Ch) (out:List Evt) (c:Int) (hneed:zA ⟨ln,p,⟨m,tg,hm,hf,hl⟩,le,some ch,true,out⟩):Spc Tryz.prog 48 [.v (.one (.ptr 0 0)),.v (.one (.p (.int .i64 c)))] [.abs (.rq ⟨ln,p,⟨m,tg,hm,hf,hl⟩,le,some ch,true,out⟩)] (.ret (.tup [])) [.abs (.rq ((yx ⟨ln,p,⟨m,tg,hm,hf,hl⟩,le,some ch,true,out⟩ c)))]:=by
  unfold zA at hneed
  simp only at hneed
  refine spcG zx mixed Tryz.func48 (by kernel_rfl) { cfgQ with keep:=some [0,1]} [zQ,zO,zV,zU,zZ,zY,yh,yg,yT,yS] (by kernel_rfl) ?_
  intro I X hI hX
  refine zi (.need (I.hid (α:=(Prop)) (zA (Go.Ab.Rq.mk (Go.Ab.Ln.mk (Go.Ab.Ln.b ln) (Go.Ab.Ln.cr ln) (Go.Ab.Ln.code ln)) (4:Int) (Hd.mk m tg hm hf hl) le (Option.some (Go.Ab.Ch.mk (Go.Ab.Ln.mk (Go.Ab.Ln.b (Go.Ab.Ch.ln ch)) (Go.Ab.Ln.cr (Go.Ab.Ch.ln ch)) (Go.Ab.Ln.code (Go.Ab.Ch.ln ch))) (Go.Ab.Ch.pos ch) (Go.Ab.Ch.left ch) (Go.Ab.Ch.all ch) (Go.Ab.Ch.tails ch) (Go.Ab.Ch.code ch))) Bool.true out))) (.fin (.ret (.tup [])) [(.abs (.rq (Go.Ab.Rq.mk (Go.Ab.Ln.mk (Go.Ab.Ln.b ln) (Go.Ab.Ln.cr ln) (Go.Ab.Ln.code ln)) (4:Int) (Hd.mk m tg hm hf hl) le (Option.some (Go.Ab.Ch.mk (Go.Ab.Ln.mk (Go.Ab.Ln.b (Go.Ab.Ch.ln ch)) (Go.Ab.Ln.cr (Go.Ab.Ch.ln ch)) (Go.Ab.Ln.code (Go.Ab.Ch.ln ch))) (Go.Ab.Ch.pos ch) (Go.Ab.Ch.left ch) (Go.Ab.Ch.all ch) (Go.Ab.Ch.tails ch) (Go.Ab.Ch.code ch))) Bool.true (I.hid (α:=(List Go.Ab.Evt)) (HAppend.hAppend out ([(Go.Ab.Evt.mk (4:Int) (Hd.mk ([]:Str) ([]:Str) (0:Int) ([]:List Fld) (0:Int)) ([]:Str) (Go.Ab.Prt.mk ([]:Str) ([]:Str) ([]:Str) ([]:Str)) c)]:List Go.Ab.Evt))))))])) (by kernel_rfl) ?_
  simp only [zC]
  subst hI
  simp only [nrmA,nrmB,nrlB,reduceCtorEq,HO.abs.injEq,Gh.rq.injEq,Rq.mk.injEq]
  (repeat' (first|refine And.intro ?_ ?_|intro _))<;>first|omega|exact True.intro|exact False.elim ‹False›|skip
  all_goals first
    |omega
    |rfl
    |with_reducible assumption
    |(simp only [List.length_cons,List.length_nil];omega)
    |(unfold zA;simp only;omega)
    |(simp;done)
theorem zcq (ln:Ln) (p:Int) (m tg:Str) (hm:Int) (hf:List Fld) (hl le:Int) (ch:Ch) (out:List Evt) (c:Int) (hneed:zA ⟨ln,p,⟨m,tg,hm,hf,hl⟩,le,some ch,false,out⟩):Spc Tryz.prog 48 [.v (.one (.ptr 0 0)),.v (.one (.p (.int .i64 c)))] [.abs (.rq ⟨ln,p,⟨m,tg,hm,hf,hl⟩,le,some ch,false,out⟩)] (.ret (.tup [])) [.abs (.rq ((yx ⟨ln,p,⟨m,tg,hm,hf,hl⟩,le,some ch,false,out⟩ c)))]:=by
  unfold zA at hneed
  simp only at hneed
  refine spcG zx mixed Tryz.func48 (by kernel_rfl) { cfgQ with keep:=some [0,1]} [zQ,zO,zV,zU,zZ,zY,yh,yg,yT,yS] (by kernel_rfl) ?_
  intro I X hI hX
  refine zi (.need (I.hid (α:=(Prop)) (zA (Go.Ab.Rq.mk (Go.Ab.Ln.mk (Go.Ab.Ln.b ln) (Go.Ab.Ln.cr ln) (Go.Ab.Ln.code ln)) (4:Int) (Hd.mk m tg hm hf hl) le (Option.some (Go.Ab.Ch.mk (Go.Ab.Ln.mk (Go.Ab.Ln.b (Go.Ab.Ch.ln ch)) (Go.Ab.Ln.cr (Go.Ab.Ch.ln ch)) (Go.Ab.Ln.code (Go.Ab.Ch.ln ch))) (Go.Ab.Ch.pos ch) (Go.Ab.Ch.left ch) (Go.Ab.Ch.all ch) (Go.Ab.Ch.tails ch) (Go.Ab.Ch.code ch))) Bool.false out))) (.fin (.ret (.tup [])) [(.abs (.rq (Go.Ab.Rq.mk (Go.Ab.Ln.mk (Go.Ab.Ln.b ln) (Go.Ab.Ln.cr ln) (Go.Ab.Ln.code ln)) (4:Int) (Hd.mk m tg hm hf hl) le (Option.some (Go.Ab.Ch.mk (Go.Ab.Ln.mk (Go.Ab.Ln.b (Go.Ab.Ch.ln ch)) (Go.Ab.Ln.cr (Go.Ab.Ch.ln ch)) (Go.Ab.Ln.code (Go.Ab.Ch.ln ch))) (Go.Ab.Ch.pos ch) (Go.Ab.Ch.left ch) (Go.Ab.Ch.all ch) (Go.Ab.Ch.tails ch) (Go.Ab.Ch.code ch))) Bool.false (I.hid (α:=(List Go.Ab.Evt)) (HAppend.hAppend out ([(Go.Ab.Evt.mk (4:Int) (Hd.mk ([]:Str) ([]:Str) (0:Int) ([]:List Fld) (0:Int)) ([]:Str) (Go.Ab.Prt.mk ([]:Str) ([]:Str) ([]:Str) ([]:Str)) c)]:List Go.Ab.Evt))))))])) (by kernel_rfl) ?_
  simp only [zC]
  subst hI
  simp only [nrmA,nrmB,nrlB,reduceCtorEq,HO.abs.injEq,Gh.rq.injEq,Rq.mk.injEq]
  (repeat' (first|refine And.intro ?_ ?_|intro _))<;>first|omega|exact True.intro|exact False.elim ‹False›|skip
  all_goals first
    |omega
    |rfl
    |with_reducible assumption
    |(simp only [List.length_cons,List.length_nil];omega)
    |(unfold zA;simp only;omega)
    |(simp;done)
theorem zfy (q:Rq) (c:Int) (hneed:zA q):Spc Tryz.prog 48 [.v (.one (.ptr 0 0)),.v (.one (.p (.int .i64 c)))] [.abs (.rq q)] (.ret (.tup [])) [.abs (.rq ((yx q c)))]:=by
  obtain⟨ln,p,⟨m,tg,hm,hf,hl⟩,le,ck,own,out⟩:=q
  cases ck with
  | none=>cases own with
    |true=>exact zcr ln p m tg hm hf hl le out c hneed
    |false=>exact zcs ln p m tg hm hf hl le out c hneed
  | some ch=>cases own with
    |true=>exact zcp ln p m tg hm hf hl le ch out c hneed
    |false=>exact zcq ln p m tg hm hf hl le ch out c hneed
def qE (I:Alg) (args:List D) (hp:List HO):Option CT:=match args,hp with
  |[.v (.one (.ptr 0 0)),.v (.one (.p (.int .i64 c)))],[.abs (.rq q)]=>(fun(q:Rq) (c:Int)=>(some (.one ⟨I.hid (zA q),(.ret (.tup [])),[.abs (.rq (I.hid ((yx q c))))]⟩):Option CT)) q c
  |_,_=>none
theorem UC:zI Tryz.prog 48 (qE alg):=by
  intro args hp r h
  unfold qE at h
  split at h
  · cases h;exact fun hn=>zfy _ _ hn
  · cases h
def qC:Know Tryz.prog:=⟨48,qE,UC⟩
def qB:Know Tryz.prog:=⟨48,fun I=>zL I (qE I),zf UC⟩
theorem zeq (ln:Ln) (p:Int) (m tg:Str) (hm:Int) (hf:List Fld) (hl le:Int) (out:List Evt) (hneed:zA ⟨ln,p,⟨m,tg,hm,hf,hl⟩,le,none,true,out⟩):Spc Tryz.prog 46 [.v (.one (.ptr 0 0))] [.abs (.rq ⟨ln,p,⟨m,tg,hm,hf,hl⟩,le,none,true,out⟩)] (.ret (.tup [])) [.abs (.rq ((yU ⟨ln,p,⟨m,tg,hm,hf,hl⟩,le,none,true,out⟩)))]:=by
  unfold zA at hneed
  simp only at hneed
  refine spcG zx mixed Tryz.func46 (by kernel_rfl) { cfgQ with keep:=some [0]} [zQ,zO,zV,zU,zZ,zY,yh,yg,yT,yS] (by kernel_rfl) ?_
  intro I X hI hX
  refine zi (.need (I.hid (α:=(Prop)) (zA (Go.Ab.Rq.mk ln p (Hd.mk m tg hm hf hl) le (Option.none) Bool.true out))) (.fin (.ret (.tup [])) [(.abs (.rq (Go.Ab.Rq.mk (Go.Ab.Ln.mk (Go.Ab.Ln.b ln) (Go.Ab.Ln.cr ln) (Go.Ab.Ln.code ln)) (0:Int) (Hd.mk ([]:Str) ([]:Str) (0:Int) ([]:List Fld) (0:Int)) le (Option.none) Bool.true (I.hid (α:=(List Go.Ab.Evt)) (HAppend.hAppend out ([(Go.Ab.Evt.mk (3:Int) (Hd.mk ([]:Str) ([]:Str) (0:Int) ([]:List Fld) (0:Int)) ([]:Str) (Go.Ab.Prt.mk ([]:Str) ([]:Str) ([]:Str) ([]:Str)) (0:Int))]:List Go.Ab.Evt))))))])) (by kernel_rfl) ?_
  simp only [zC]
  subst hI
  simp only [nrmA,nrmB,nrlB,reduceCtorEq,HO.abs.injEq,Gh.rq.injEq,Rq.mk.injEq]
  (repeat' (first|refine And.intro ?_ ?_|intro _))<;>first|omega|exact True.intro|exact False.elim ‹False›|skip
  all_goals first
    |omega
    |rfl
    |with_reducible assumption
    |(simp only [List.length_cons,List.length_nil];omega)
    |(unfold zA;simp only;omega)
    |(simp;done)
theorem zer (ln:Ln) (p:Int) (m tg:Str) (hm:Int) (hf:List Fld) (hl le:Int) (out:List Evt) (hneed:zA ⟨ln,p,⟨m,tg,hm,hf,hl⟩,le,none,false,out⟩):Spc Tryz.prog 46 [.v (.one (.ptr 0 0))] [.abs (.rq ⟨ln,p,⟨m,tg,hm,hf,hl⟩,le,none,false,out⟩)] (.ret (.tup [])) [.abs (.rq ((yU ⟨ln,p,⟨m,tg,hm,hf,hl⟩,le,none,false,out⟩)))]:=by
  unfold zA at hneed
  simp only at hneed
  refine spcG zx mixed Tryz.func46 (by kernel_rfl) { cfgQ with keep:=some [0]} [zQ,zO,zV,zU,zZ,zY,yh,yg,yT,yS] (by kernel_rfl) ?_
  intro I X hI hX
  refine zi (.need (I.hid (α:=(Prop)) (zA (Go.Ab.Rq.mk ln p (Hd.mk m tg hm hf hl) le (Option.none) Bool.false out))) (.fin (.ret (.tup [])) [(.abs (.rq (Go.Ab.Rq.mk (Go.Ab.Ln.mk (Go.Ab.Ln.b ln) (Go.Ab.Ln.cr ln) (Go.Ab.Ln.code ln)) (0:Int) (Hd.mk ([]:Str) ([]:Str) (0:Int) ([]:List Fld) (0:Int)) le (Option.none) Bool.true (I.hid (α:=(List Go.Ab.Evt)) (HAppend.hAppend out ([(Go.Ab.Evt.mk (3:Int) (Hd.mk ([]:Str) ([]:Str) (0:Int) ([]:List Fld) (0:Int)) ([]:Str) (Go.Ab.Prt.mk ([]:Str) ([]:Str) ([]:Str) ([]:Str)) (0:Int))]:List Go.Ab.Evt))))))])) (by kernel_rfl) ?_
  simp only [zC]
  subst hI
  simp only [nrmA,nrmB,nrlB,reduceCtorEq,HO.abs.injEq,Gh.rq.injEq,Rq.mk.injEq]
  (repeat' (first|refine And.intro ?_ ?_|intro _))<;>first|omega|exact True.intro|exact False.elim ‹False›|skip
  all_goals first
    |omega
    |rfl
    |with_reducible assumption
    |(simp only [List.length_cons,List.length_nil];omega)
    |(unfold zA;simp only;omega)
    |(simp;done)
theorem zeo (ln:Ln) (p:Int) (m tg:Str) (hm:Int) (hf:List Fld) (hl le:Int) (ch:Ch) (out:List Evt) (hneed:zA ⟨ln,p,⟨m,tg,hm,hf,hl⟩,le,some ch,true,out⟩):Spc Tryz.prog 46 [.v (.one (.ptr 0 0))] [.abs (.rq ⟨ln,p,⟨m,tg,hm,hf,hl⟩,le,some ch,true,out⟩)] (.ret (.tup [])) [.abs (.rq ((yU ⟨ln,p,⟨m,tg,hm,hf,hl⟩,le,some ch,true,out⟩)))]:=by
  unfold zA at hneed
  simp only at hneed
  refine spcG zx mixed Tryz.func46 (by kernel_rfl) { cfgQ with keep:=some [0]} [zQ,zO,zV,zU,zZ,zY,yh,yg,yT,yS] (by kernel_rfl) ?_
  intro I X hI hX
  refine zi (.need (I.hid (α:=(Prop)) (zA (Go.Ab.Rq.mk ln p (Hd.mk m tg hm hf hl) le (Option.some ch) Bool.true out))) (.fin (.ret (.tup [])) [(.abs (.rq (Go.Ab.Rq.mk (Go.Ab.Ln.mk (Go.Ab.Ln.b ln) (Go.Ab.Ln.cr ln) (Go.Ab.Ln.code ln)) (0:Int) (Hd.mk ([]:Str) ([]:Str) (0:Int) ([]:List Fld) (0:Int)) le (Option.some (Go.Ab.Ch.mk (Go.Ab.Ln.mk (Go.Ab.Ln.b (Go.Ab.Ch.ln ch)) (Go.Ab.Ln.cr (Go.Ab.Ch.ln ch)) (Go.Ab.Ln.code (Go.Ab.Ch.ln ch))) (Go.Ab.Ch.pos ch) (Go.Ab.Ch.left ch) (Go.Ab.Ch.all ch) (Go.Ab.Ch.tails ch) (Go.Ab.Ch.code ch))) Bool.true (I.hid (α:=(List Go.Ab.Evt)) (HAppend.hAppend out ([(Go.Ab.Evt.mk (3:Int) (Hd.mk ([]:Str) ([]:Str) (0:Int) ([]:List Fld) (0:Int)) ([]:Str) (Go.Ab.Prt.mk ([]:Str) ([]:Str) ([]:Str) ([]:Str)) (0:Int))]:List Go.Ab.Evt))))))])) (by kernel_rfl) ?_
  simp only [zC]
  subst hI
  simp only [nrmA,nrmB,nrlB,reduceCtorEq,HO.abs.injEq,Gh.rq.injEq,Rq.mk.injEq]
  (repeat' (first|refine And.intro ?_ ?_|intro _))<;>first|omega|exact True.intro|exact False.elim ‹False›|skip
  all_goals first
    |omega
    |rfl
    |with_reducible assumption
    |(simp only [List.length_cons,List.length_nil];omega)
    |(unfold zA;simp only;omega)
    |(simp;done)
theorem zep (ln:Ln) (p:Int) (m tg:Str) (hm:Int) (hf:List Fld) (hl le:Int) (ch:Ch) (out:List Evt) (hneed:zA ⟨ln,p,⟨m,tg,hm,hf,hl⟩,le,some ch,false,out⟩):Spc Tryz.prog 46 [.v (.one (.ptr 0 0))] [.abs (.rq ⟨ln,p,⟨m,tg,hm,hf,hl⟩,le,some ch,false,out⟩)] (.ret (.tup [])) [.abs (.rq ((yU ⟨ln,p,⟨m,tg,hm,hf,hl⟩,le,some ch,false,out⟩)))]:=by
  unfold zA at hneed
  simp only at hneed
  refine spcG zx mixed Tryz.func46 (by kernel_rfl) { cfgQ with keep:=some [0]} [zQ,zO,zV,zU,zZ,zY,yh,yg,yT,yS] (by kernel_rfl) ?_
  intro I X hI hX
  refine zi (.need (I.hid (α:=(Prop)) (zA (Go.Ab.Rq.mk ln p (Hd.mk m tg hm hf hl) le (Option.some ch) Bool.false out))) (.fin (.ret (.tup [])) [(.abs (.rq (Go.Ab.Rq.mk (Go.Ab.Ln.mk (Go.Ab.Ln.b ln) (Go.Ab.Ln.cr ln) (Go.Ab.Ln.code ln)) (0:Int) (Hd.mk ([]:Str) ([]:Str) (0:Int) ([]:List Fld) (0:Int)) le (Option.some (Go.Ab.Ch.mk (Go.Ab.Ln.mk (Go.Ab.Ln.b (Go.Ab.Ch.ln ch)) (Go.Ab.Ln.cr (Go.Ab.Ch.ln ch)) (Go.Ab.Ln.code (Go.Ab.Ch.ln ch))) (Go.Ab.Ch.pos ch) (Go.Ab.Ch.left ch) (Go.Ab.Ch.all ch) (Go.Ab.Ch.tails ch) (Go.Ab.Ch.code ch))) Bool.true (I.hid (α:=(List Go.Ab.Evt)) (HAppend.hAppend out ([(Go.Ab.Evt.mk (3:Int) (Hd.mk ([]:Str) ([]:Str) (0:Int) ([]:List Fld) (0:Int)) ([]:Str) (Go.Ab.Prt.mk ([]:Str) ([]:Str) ([]:Str) ([]:Str)) (0:Int))]:List Go.Ab.Evt))))))])) (by kernel_rfl) ?_
  simp only [zC]
  subst hI
  simp only [nrmA,nrmB,nrlB,reduceCtorEq,HO.abs.injEq,Gh.rq.injEq,Rq.mk.injEq]
  (repeat' (first|refine And.intro ?_ ?_|intro _))<;>first|omega|exact True.intro|exact False.elim ‹False›|skip
  all_goals first
    |omega
    |rfl
    |with_reducible assumption
    |(simp only [List.length_cons,List.length_nil];omega)
    |(unfold zA;simp only;omega)
    |(simp;done)
theorem zgw (q:Rq) (hneed:zA q):Spc Tryz.prog 46 [.v (.one (.ptr 0 0))] [.abs (.rq q)] (.ret (.tup [])) [.abs (.rq ((yU q)))]:=by
  obtain⟨ln,p,⟨m,tg,hm,hf,hl⟩,le,ck,own,out⟩:=q
  cases ck with
  | none=>cases own with
    |true=>exact zeq ln p m tg hm hf hl le out hneed
    |false=>exact zer ln p m tg hm hf hl le out hneed
  | some ch=>cases own with
    |true=>exact zeo ln p m tg hm hf hl le ch out hneed
    |false=>exact zep ln p m tg hm hf hl le ch out hneed
def Yu (I:Alg) (args:List D) (hp:List HO):Option CT:=match args,hp with
  |[.v (.one (.ptr 0 0))],[.abs (.rq q)]=>(fun(q:Rq)=>(some (.one ⟨I.hid (zA q),(.ret (.tup [])),[.abs (.rq (I.hid ((yU q))))]⟩):Option CT)) q
  |_,_=>none
theorem QT:zI Tryz.prog 46 (Yu alg):=by
  intro args hp r h
  unfold Yu at h
  split at h
  · cases h;exact fun hn=>zgw _ hn
  · cases h
def tX:Know Tryz.prog:=⟨46,Yu,QT⟩
def tV:Know Tryz.prog:=⟨46,fun I=>zL I (Yu I),zf QT⟩
theorem zeF (b:Str) (cr:Bool) (code:Int):Spc Tryz.prog 31 [.v (.one (.ptr 0 0))] [.pack [.obj 82 [(.row 1),(.p (.bool cr)),(.p (.int .i64 code))],.row .byte 5 b]] (.ret (.v (.one (.p (.bool ((lnB ⟨b,cr,code⟩))))))) [.pack [.obj 82 [(.row 1),(.p (.bool cr)),(.p (.int .i64 code))],.row .byte 5 b]]:=by
  refine spcG zx mixed Tryz.func31 (by kernel_rfl) { zeU with keep:=some [0,2]} [] (by kernel_rfl) ?_
  intro I X hI hX
  refine zi (let y0:HO:=.pack [(.obj 82 [(.row 1),(.p (.bool cr)),(.p (.int .i64 code))]),(.row .byte 5 b)];.br (I.ilt 0 (I.len (α:=UInt8) b)) (.fin (.ret (.v (.one (.p (.bool Bool.true))))) [y0]) (.fin (.ret (.v (.one (.p (.bool cr))))) [y0])) (by kernel_rfl) ?_
  simp only [zC]
  subst hI
  unfold lnB
  simp only [nrmA,nrmB,nrlB,reduceCtorEq,HO.pack.injEq,HO.obj.injEq]
  (repeat' (first|refine And.intro ?_ ?_|intro _))<;>first|omega|exact True.intro|exact False.elim ‹False›|skip
  all_goals first|omega|rfl|(simp_all;done)|trace_state
def sH (I:Alg) (args:List D) (hp:List HO):Option CT:=match args,hp with
  |[.v (.one (.ptr 0 0))],[.pack [.obj 82 [(.row 1),(.p (.bool cr)),(.p (.int .i64 code))],.row .byte 5 b]]=>(fun(b:Str) (cr:Bool) (code:Int)=>(some (.one ⟨I.hid (True),(.ret (.v (.one (.p (.bool (I.hid ((lnB ⟨b,cr,code⟩)))))))),[.pack [.obj 82 [(.row 1),(.p (.bool cr)),(.p (.int .i64 code))],.row .byte 5 b]]⟩):Option CT)) b cr code
  |_,_=>none
theorem WC:zI Tryz.prog 31 (sH alg):=by
  intro args hp r h
  unfold sH at h
  split at h
  · cases h;exact fun hn=>zeF _ _ _
  · cases h
def sG:Know Tryz.prog:=⟨31,sH,WC⟩
def sF:Know Tryz.prog:=⟨31,fun I=>zL I (sH I),zf WC⟩
theorem zcz (ln:Ln) (p:Int) (m tg:Str) (hm:Int) (hf:List Fld) (hl le:Int) (out:List Evt):Spc Tryz.prog 13 [.v (.one (.ptr 0 0))] [.abs (.rq ⟨ln,p,⟨m,tg,hm,hf,hl⟩,le,none,true,out⟩)] (.ret (.v (.one (.p (.bool ((decide (Rq.pos ⟨ln,p,⟨m,tg,hm,hf,hl⟩,le,none,true,out⟩=4)))))))) [.abs (.rq ⟨ln,p,⟨m,tg,hm,hf,hl⟩,le,none,true,out⟩)]:=by
  refine spcG zx mixed Tryz.func13 (by kernel_rfl) { cfgQ with keep:=some [0,2]} [] (by kernel_rfl) ?_
  intro I X hI hX
  refine zi (.fin (.ret (.v (.one (.p (.bool (I.ieq p 4)))))) [(.abs (.rq (Go.Ab.Rq.mk (Go.Ab.Ln.mk (Go.Ab.Ln.b ln) (Go.Ab.Ln.cr ln) (Go.Ab.Ln.code ln)) p (Hd.mk m tg hm hf hl) le (Option.none) Bool.true out)))]) (by kernel_rfl) ?_
  simp only [zC]
  subst hI
  simp only [nrmA,nrmB,nrlB,reduceCtorEq,HO.abs.injEq,Gh.rq.injEq,Rq.mk.injEq]
  (repeat' (first|refine And.intro ?_ ?_|intro _))<;>first|omega|exact True.intro|exact False.elim ‹False›|skip
  all_goals first
    |omega
    |rfl
    |with_reducible assumption
    |(simp only [List.length_cons,List.length_nil];omega)
    |(simp;done)
theorem zcA (ln:Ln) (p:Int) (m tg:Str) (hm:Int) (hf:List Fld) (hl le:Int) (out:List Evt):Spc Tryz.prog 13 [.v (.one (.ptr 0 0))] [.abs (.rq ⟨ln,p,⟨m,tg,hm,hf,hl⟩,le,none,false,out⟩)] (.ret (.v (.one (.p (.bool ((decide (Rq.pos ⟨ln,p,⟨m,tg,hm,hf,hl⟩,le,none,false,out⟩=4)))))))) [.abs (.rq ⟨ln,p,⟨m,tg,hm,hf,hl⟩,le,none,false,out⟩)]:=by
  refine spcG zx mixed Tryz.func13 (by kernel_rfl) { cfgQ with keep:=some [0,2]} [] (by kernel_rfl) ?_
  intro I X hI hX
  refine zi (.fin (.ret (.v (.one (.p (.bool (I.ieq p 4)))))) [(.abs (.rq (Go.Ab.Rq.mk (Go.Ab.Ln.mk (Go.Ab.Ln.b ln) (Go.Ab.Ln.cr ln) (Go.Ab.Ln.code ln)) p (Hd.mk m tg hm hf hl) le (Option.none) Bool.false out)))]) (by kernel_rfl) ?_
  simp only [zC]
  subst hI
  simp only [nrmA,nrmB,nrlB,reduceCtorEq,HO.abs.injEq,Gh.rq.injEq,Rq.mk.injEq]
  (repeat' (first|refine And.intro ?_ ?_|intro _))<;>first|omega|exact True.intro|exact False.elim ‹False›|skip
  all_goals first
    |omega
    |rfl
    |with_reducible assumption
    |(simp only [List.length_cons,List.length_nil];omega)
    |(simp;done)
theorem zcx (ln:Ln) (p:Int) (m tg:Str) (hm:Int) (hf:List Fld) (hl le:Int) (ch:Ch) (out:List Evt):Spc Tryz.prog 13 [.v (.one (.ptr 0 0))] [.abs (.rq ⟨ln,p,⟨m,tg,hm,hf,hl⟩,le,some ch,true,out⟩)] (.ret (.v (.one (.p (.bool ((decide (Rq.pos ⟨ln,p,⟨m,tg,hm,hf,hl⟩,le,some ch,true,out⟩=4)))))))) [.abs (.rq ⟨ln,p,⟨m,tg,hm,hf,hl⟩,le,some ch,true,out⟩)]:=by
  refine spcG zx mixed Tryz.func13 (by kernel_rfl) { cfgQ with keep:=some [0,2]} [] (by kernel_rfl) ?_
  intro I X hI hX
  refine zi (.fin (.ret (.v (.one (.p (.bool (I.ieq p 4)))))) [(.abs (.rq (Go.Ab.Rq.mk (Go.Ab.Ln.mk (Go.Ab.Ln.b ln) (Go.Ab.Ln.cr ln) (Go.Ab.Ln.code ln)) p (Hd.mk m tg hm hf hl) le (Option.some (Go.Ab.Ch.mk (Go.Ab.Ln.mk (Go.Ab.Ln.b (Go.Ab.Ch.ln ch)) (Go.Ab.Ln.cr (Go.Ab.Ch.ln ch)) (Go.Ab.Ln.code (Go.Ab.Ch.ln ch))) (Go.Ab.Ch.pos ch) (Go.Ab.Ch.left ch) (Go.Ab.Ch.all ch) (Go.Ab.Ch.tails ch) (Go.Ab.Ch.code ch))) Bool.true out)))]) (by kernel_rfl) ?_
  simp only [zC]
  subst hI
  simp only [nrmA,nrmB,nrlB,reduceCtorEq,HO.abs.injEq,Gh.rq.injEq,Rq.mk.injEq]
  (repeat' (first|refine And.intro ?_ ?_|intro _))<;>first|omega|exact True.intro|exact False.elim ‹False›|skip
  all_goals first
    |omega
    |rfl
    |with_reducible assumption
    |(simp only [List.length_cons,List.length_nil];omega)
    |(simp;done)
theorem zcy (ln:Ln) (p:Int) (m tg:Str) (hm:Int) (hf:List Fld) (hl le:Int) (ch:Ch) (out:List Evt):Spc Tryz.prog 13 [.v (.one (.ptr 0 0))] [.abs (.rq ⟨ln,p,⟨m,tg,hm,hf,hl⟩,le,some ch,false,out⟩)] (.ret (.v (.one (.p (.bool ((decide (Rq.pos ⟨ln,p,⟨m,tg,hm,hf,hl⟩,le,some ch,false,out⟩=4)))))))) [.abs (.rq ⟨ln,p,⟨m,tg,hm,hf,hl⟩,le,some ch,false,out⟩)]:=by
  refine spcG zx mixed Tryz.func13 (by kernel_rfl) { cfgQ with keep:=some [0,2]} [] (by kernel_rfl) ?_
  intro I X hI hX
  refine zi (.fin (.ret (.v (.one (.p (.bool (I.ieq p 4)))))) [(.abs (.rq (Go.Ab.Rq.mk (Go.Ab.Ln.mk (Go.Ab.Ln.b ln) (Go.Ab.Ln.cr ln) (Go.Ab.Ln.code ln)) p (Hd.mk m tg hm hf hl) le (Option.some (Go.Ab.Ch.mk (Go.Ab.Ln.mk (Go.Ab.Ln.b (Go.Ab.Ch.ln ch)) (Go.Ab.Ln.cr (Go.Ab.Ch.ln ch)) (Go.Ab.Ln.code (Go.Ab.Ch.ln ch))) (Go.Ab.Ch.pos ch) (Go.Ab.Ch.left ch) (Go.Ab.Ch.all ch) (Go.Ab.Ch.tails ch) (Go.Ab.Ch.code ch))) Bool.false out)))]) (by kernel_rfl) ?_
  simp only [zC]
  subst hI
  simp only [nrmA,nrmB,nrlB,reduceCtorEq,HO.abs.injEq,Gh.rq.injEq,Rq.mk.injEq]
  (repeat' (first|refine And.intro ?_ ?_|intro _))<;>first|omega|exact True.intro|exact False.elim ‹False›|skip
  all_goals first
    |omega
    |rfl
    |with_reducible assumption
    |(simp only [List.length_cons,List.length_nil];omega)
    |(simp;done)
theorem zfB (q:Rq):Spc Tryz.prog 13 [.v (.one (.ptr 0 0))] [.abs (.rq q)] (.ret (.v (.one (.p (.bool ((decide (Rq.pos q=4)))))))) [.abs (.rq ((q)))]:=by
  obtain⟨ln,p,⟨m,tg,hm,hf,hl⟩,le,ck,own,out⟩:=q
  cases ck with
  | none=>cases own with
    |true=>exact zcz ln p m tg hm hf hl le out
    |false=>exact zcA ln p m tg hm hf hl le out
  | some ch=>cases own with
    |true=>exact zcx ln p m tg hm hf hl le ch out
    |false=>exact zcy ln p m tg hm hf hl le ch out
def qG (I:Alg) (args:List D) (hp:List HO):Option CT:=match args,hp with
  |[.v (.one (.ptr 0 0))],[.abs (.rq q)]=>(fun(q:Rq)=>(some (.one ⟨I.hid (True),(.ret (.v (.one (.p (.bool (I.hid ((decide (Rq.pos q=4))))))))),[.abs (.rq (I.hid ((q))))]⟩):Option CT)) q
  |_,_=>none
theorem UI:zI Tryz.prog 13 (qG alg):=by
  intro args hp r h
  unfold qG at h
  split at h
  · cases h;exact fun hn=>zfB _
  · cases h
def UH:Know Tryz.prog:=⟨13,qG,UI⟩
def UG:Know Tryz.prog:=⟨13,fun I=>zL I (qG I),zf UI⟩
theorem zcH (ln:Ln) (p:Int) (m tg:Str) (hm:Int) (hf:List Fld) (hl le:Int) (out:List Evt):Spc Tryz.prog 12 [.v (.one (.ptr 0 0))] [.abs (.rq ⟨ln,p,⟨m,tg,hm,hf,hl⟩,le,none,true,out⟩)] (.ret (.v (.one (.p (.bool ((xB ⟨ln,p,⟨m,tg,hm,hf,hl⟩,le,none,true,out⟩))))))) [.abs (.rq ⟨ln,p,⟨m,tg,hm,hf,hl⟩,le,none,true,out⟩)]:=by
  refine spcG zx mixed Tryz.func12 (by kernel_rfl) { cfgQ with keep:=some [0,2]} [sG,sF] (by kernel_rfl) ?_
  intro I X hI hX
  refine zi (.br (I.bnot (I.ieq p 4)) (.br (I.bnot (I.ieq p 0)) (.fin (.ret (.v (.one (.p (.bool Bool.true))))) [(.abs (.rq (Go.Ab.Rq.mk (Go.Ab.Ln.mk (Go.Ab.Ln.b ln) (Go.Ab.Ln.cr ln) (Go.Ab.Ln.code ln)) p (Hd.mk m tg hm hf hl) le (Option.none) Bool.true out)))]) (.need (I.hid (α:=(Prop)) True) (.fin (.ret (.v (.one (.p (.bool (I.hid (α:=Bool) (lnB (Go.Ab.Ln.mk (Go.Ab.Ln.b ln) (Go.Ab.Ln.cr ln) (Go.Ab.Ln.code ln))))))))) [(.abs (.rq (Go.Ab.Rq.mk (Go.Ab.Ln.mk (Go.Ab.Ln.b ln) (Go.Ab.Ln.cr ln) (Go.Ab.Ln.code ln)) p (Hd.mk m tg hm hf hl) le (Option.none) Bool.true out)))]))) (.fin (.ret (.v (.one (.p (.bool Bool.false))))) [(.abs (.rq (Go.Ab.Rq.mk (Go.Ab.Ln.mk (Go.Ab.Ln.b ln) (Go.Ab.Ln.cr ln) (Go.Ab.Ln.code ln)) p (Hd.mk m tg hm hf hl) le (Option.none) Bool.true out)))])) (by kernel_rfl) ?_
  simp only [zC]
  subst hI
  simp only [nrmA,nrmB,nrlB,reduceCtorEq,HO.abs.injEq,Gh.rq.injEq,Rq.mk.injEq]
  (repeat' (first|refine And.intro ?_ ?_|intro _))<;>first|omega|exact True.intro|exact False.elim ‹False›|skip
  all_goals first
    |omega
    |rfl
    |with_reducible assumption
    |(simp only [List.length_cons,List.length_nil];omega)
    |(simp_all [xB];done)
    |(simp;done)
theorem zcI (ln:Ln) (p:Int) (m tg:Str) (hm:Int) (hf:List Fld) (hl le:Int) (out:List Evt):Spc Tryz.prog 12 [.v (.one (.ptr 0 0))] [.abs (.rq ⟨ln,p,⟨m,tg,hm,hf,hl⟩,le,none,false,out⟩)] (.ret (.v (.one (.p (.bool ((xB ⟨ln,p,⟨m,tg,hm,hf,hl⟩,le,none,false,out⟩))))))) [.abs (.rq ⟨ln,p,⟨m,tg,hm,hf,hl⟩,le,none,false,out⟩)]:=by
  refine spcG zx mixed Tryz.func12 (by kernel_rfl) { cfgQ with keep:=some [0,2]} [sG,sF] (by kernel_rfl) ?_
  intro I X hI hX
  refine zi (.br (I.bnot (I.ieq p 4)) (.br (I.bnot (I.ieq p 0)) (.fin (.ret (.v (.one (.p (.bool Bool.true))))) [(.abs (.rq (Go.Ab.Rq.mk (Go.Ab.Ln.mk (Go.Ab.Ln.b ln) (Go.Ab.Ln.cr ln) (Go.Ab.Ln.code ln)) p (Hd.mk m tg hm hf hl) le (Option.none) Bool.false out)))]) (.need (I.hid (α:=(Prop)) True) (.fin (.ret (.v (.one (.p (.bool (I.hid (α:=Bool) (lnB (Go.Ab.Ln.mk (Go.Ab.Ln.b ln) (Go.Ab.Ln.cr ln) (Go.Ab.Ln.code ln))))))))) [(.abs (.rq (Go.Ab.Rq.mk (Go.Ab.Ln.mk (Go.Ab.Ln.b ln) (Go.Ab.Ln.cr ln) (Go.Ab.Ln.code ln)) p (Hd.mk m tg hm hf hl) le (Option.none) Bool.false out)))]))) (.fin (.ret (.v (.one (.p (.bool Bool.false))))) [(.abs (.rq (Go.Ab.Rq.mk (Go.Ab.Ln.mk (Go.Ab.Ln.b ln) (Go.Ab.Ln.cr ln) (Go.Ab.Ln.code ln)) p (Hd.mk m tg hm hf hl) le (Option.none) Bool.false out)))])) (by kernel_rfl) ?_
  simp only [zC]
  subst hI
  simp only [nrmA,nrmB,nrlB,reduceCtorEq,HO.abs.injEq,Gh.rq.injEq,Rq.mk.injEq]
  (repeat' (first|refine And.intro ?_ ?_|intro _))<;>first|omega|exact True.intro|exact False.elim ‹False›|skip
  all_goals first
    |omega
    |rfl
    |with_reducible assumption
    |(simp only [List.length_cons,List.length_nil];omega)
    |(simp_all [xB];done)
    |(simp;done)
theorem zcF (ln:Ln) (p:Int) (m tg:Str) (hm:Int) (hf:List Fld) (hl le:Int) (ch:Ch) (out:List Evt):Spc Tryz.prog 12 [.v (.one (.ptr 0 0))] [.abs (.rq ⟨ln,p,⟨m,tg,hm,hf,hl⟩,le,some ch,true,out⟩)] (.ret (.v (.one (.p (.bool ((xB ⟨ln,p,⟨m,tg,hm,hf,hl⟩,le,some ch,true,out⟩))))))) [.abs (.rq ⟨ln,p,⟨m,tg,hm,hf,hl⟩,le,some ch,true,out⟩)]:=by
  refine spcG zx mixed Tryz.func12 (by kernel_rfl) { cfgQ with keep:=some [0,2]} [sG,sF] (by kernel_rfl) ?_
  intro I X hI hX
  refine zi (.br (I.bnot (I.ieq p 4)) (.br (I.bnot (I.ieq p 0)) (.fin (.ret (.v (.one (.p (.bool Bool.true))))) [(.abs (.rq (Go.Ab.Rq.mk (Go.Ab.Ln.mk (Go.Ab.Ln.b ln) (Go.Ab.Ln.cr ln) (Go.Ab.Ln.code ln)) p (Hd.mk m tg hm hf hl) le (Option.some (Go.Ab.Ch.mk (Go.Ab.Ln.mk (Go.Ab.Ln.b (Go.Ab.Ch.ln ch)) (Go.Ab.Ln.cr (Go.Ab.Ch.ln ch)) (Go.Ab.Ln.code (Go.Ab.Ch.ln ch))) (Go.Ab.Ch.pos ch) (Go.Ab.Ch.left ch) (Go.Ab.Ch.all ch) (Go.Ab.Ch.tails ch) (Go.Ab.Ch.code ch))) Bool.true out)))]) (.need (I.hid (α:=(Prop)) True) (.fin (.ret (.v (.one (.p (.bool (I.hid (α:=Bool) (lnB (Go.Ab.Ln.mk (Go.Ab.Ln.b ln) (Go.Ab.Ln.cr ln) (Go.Ab.Ln.code ln))))))))) [(.abs (.rq (Go.Ab.Rq.mk (Go.Ab.Ln.mk (Go.Ab.Ln.b ln) (Go.Ab.Ln.cr ln) (Go.Ab.Ln.code ln)) p (Hd.mk m tg hm hf hl) le (Option.some (Go.Ab.Ch.mk (Go.Ab.Ln.mk (Go.Ab.Ln.b (Go.Ab.Ch.ln ch)) (Go.Ab.Ln.cr (Go.Ab.Ch.ln ch)) (Go.Ab.Ln.code (Go.Ab.Ch.ln ch))) (Go.Ab.Ch.pos ch) (Go.Ab.Ch.left ch) (Go.Ab.Ch.all ch) (Go.Ab.Ch.tails ch) (Go.Ab.Ch.code ch))) Bool.true out)))]))) (.fin (.ret (.v (.one (.p (.bool Bool.false))))) [(.abs (.rq (Go.Ab.Rq.mk (Go.Ab.Ln.mk (Go.Ab.Ln.b ln) (Go.Ab.Ln.cr ln) (Go.Ab.Ln.code ln)) p (Hd.mk m tg hm hf hl) le (Option.some (Go.Ab.Ch.mk (Go.Ab.Ln.mk (Go.Ab.Ln.b (Go.Ab.Ch.ln ch)) (Go.Ab.Ln.cr (Go.Ab.Ch.ln ch)) (Go.Ab.Ln.code (Go.Ab.Ch.ln ch))) (Go.Ab.Ch.pos ch) (Go.Ab.Ch.left ch) (Go.Ab.Ch.all ch) (Go.Ab.Ch.tails ch) (Go.Ab.Ch.code ch))) Bool.true out)))])) (by kernel_rfl) ?_
  simp only [zC]
  subst hI
  simp only [nrmA,nrmB,nrlB,reduceCtorEq,HO.abs.injEq,Gh.rq.injEq,Rq.mk.injEq]
  (repeat' (first|refine And.intro ?_ ?_|intro _))<;>first|omega|exact True.intro|exact False.elim ‹False›|skip
  all_goals first
    |omega
    |rfl
    |with_reducible assumption
    |(simp only [List.length_cons,List.length_nil];omega)
    |(simp_all [xB];done)
    |(simp;done)
theorem zcG (ln:Ln) (p:Int) (m tg:Str) (hm:Int) (hf:List Fld) (hl le:Int) (ch:Ch) (out:List Evt):Spc Tryz.prog 12 [.v (.one (.ptr 0 0))] [.abs (.rq ⟨ln,p,⟨m,tg,hm,hf,hl⟩,le,some ch,false,out⟩)] (.ret (.v (.one (.p (.bool ((xB ⟨ln,p,⟨m,tg,hm,hf,hl⟩,le,some ch,false,out⟩))))))) [.abs (.rq ⟨ln,p,⟨m,tg,hm,hf,hl⟩,le,some ch,false,out⟩)]:=by
  refine spcG zx mixed Tryz.func12 (by kernel_rfl) { cfgQ with keep:=some [0,2]} [sG,sF] (by kernel_rfl) ?_
  intro I X hI hX
  refine zi (.br (I.bnot (I.ieq p 4)) (.br (I.bnot (I.ieq p 0)) (.fin (.ret (.v (.one (.p (.bool Bool.true))))) [(.abs (.rq (Go.Ab.Rq.mk (Go.Ab.Ln.mk (Go.Ab.Ln.b ln) (Go.Ab.Ln.cr ln) (Go.Ab.Ln.code ln)) p (Hd.mk m tg hm hf hl) le (Option.some (Go.Ab.Ch.mk (Go.Ab.Ln.mk (Go.Ab.Ln.b (Go.Ab.Ch.ln ch)) (Go.Ab.Ln.cr (Go.Ab.Ch.ln ch)) (Go.Ab.Ln.code (Go.Ab.Ch.ln ch))) (Go.Ab.Ch.pos ch) (Go.Ab.Ch.left ch) (Go.Ab.Ch.all ch) (Go.Ab.Ch.tails ch) (Go.Ab.Ch.code ch))) Bool.false out)))]) (.need (I.hid (α:=(Prop)) True) (.fin (.ret (.v (.one (.p (.bool (I.hid (α:=Bool) (lnB (Go.Ab.Ln.mk (Go.Ab.Ln.b ln) (Go.Ab.Ln.cr ln) (Go.Ab.Ln.code ln))))))))) [(.abs (.rq (Go.Ab.Rq.mk (Go.Ab.Ln.mk (Go.Ab.Ln.b ln) (Go.Ab.Ln.cr ln) (Go.Ab.Ln.code ln)) p (Hd.mk m tg hm hf hl) le (Option.some (Go.Ab.Ch.mk (Go.Ab.Ln.mk (Go.Ab.Ln.b (Go.Ab.Ch.ln ch)) (Go.Ab.Ln.cr (Go.Ab.Ch.ln ch)) (Go.Ab.Ln.code (Go.Ab.Ch.ln ch))) (Go.Ab.Ch.pos ch) (Go.Ab.Ch.left ch) (Go.Ab.Ch.all ch) (Go.Ab.Ch.tails ch) (Go.Ab.Ch.code ch))) Bool.false out)))]))) (.fin (.ret (.v (.one (.p (.bool Bool.false))))) [(.abs (.rq (Go.Ab.Rq.mk (Go.Ab.Ln.mk (Go.Ab.Ln.b ln) (Go.Ab.Ln.cr ln) (Go.Ab.Ln.code ln)) p (Hd.mk m tg hm hf hl) le (Option.some (Go.Ab.Ch.mk (Go.Ab.Ln.mk (Go.Ab.Ln.b (Go.Ab.Ch.ln ch)) (Go.Ab.Ln.cr (Go.Ab.Ch.ln ch)) (Go.Ab.Ln.code (Go.Ab.Ch.ln ch))) (Go.Ab.Ch.pos ch) (Go.Ab.Ch.left ch) (Go.Ab.Ch.all ch) (Go.Ab.Ch.tails ch) (Go.Ab.Ch.code ch))) Bool.false out)))])) (by kernel_rfl) ?_
  simp only [zC]
  subst hI
  simp only [nrmA,nrmB,nrlB,reduceCtorEq,HO.abs.injEq,Gh.rq.injEq,Rq.mk.injEq]
  (repeat' (first|refine And.intro ?_ ?_|intro _))<;>first|omega|exact True.intro|exact False.elim ‹False›|skip
  all_goals first
    |omega
    |rfl
    |with_reducible assumption
    |(simp only [List.length_cons,List.length_nil];omega)
    |(simp_all [xB];done)
    |(simp;done)
theorem zfD (q:Rq):Spc Tryz.prog 12 [.v (.one (.ptr 0 0))] [.abs (.rq q)] (.ret (.v (.one (.p (.bool ((xB q))))))) [.abs (.rq ((q)))]:=by
  obtain⟨ln,p,⟨m,tg,hm,hf,hl⟩,le,ck,own,out⟩:=q
  cases ck with
  | none=>cases own with
    |true=>exact zcH ln p m tg hm hf hl le out
    |false=>exact zcI ln p m tg hm hf hl le out
  | some ch=>cases own with
    |true=>exact zcF ln p m tg hm hf hl le ch out
    |false=>exact zcG ln p m tg hm hf hl le ch out
def qI (I:Alg) (args:List D) (hp:List HO):Option CT:=match args,hp with
  |[.v (.one (.ptr 0 0))],[.abs (.rq q)]=>(fun(q:Rq)=>(some (.one ⟨I.hid (True),(.ret (.v (.one (.p (.bool (I.hid ((xB q)))))))),[.abs (.rq (I.hid ((q))))]⟩):Option CT)) q
  |_,_=>none
theorem UK:zI Tryz.prog 12 (qI alg):=by
  intro args hp r h
  unfold qI at h
  split at h
  · cases h;exact fun hn=>zfD _
  · cases h
def Y0:Know Tryz.prog:=⟨12,qI,UK⟩
def YZ:Know Tryz.prog:=⟨12,fun I=>zL I (qI I),zf UK⟩
end Go.Proofs.YtmibhbdfigpkmaaGreatDoor
namespace Go.Ab
open Go Go.Sep
variable [Facts]
theorem Spc.zgF {Pr:Program} {f:Nat} {args:List D} {hp:List HO} {u:U} {E:Nat} {l:List u.den} (hl:l.length≤maxLen) (hf: ∃ fn,Pr.funcs[f]? =some fn∧(fn.name == "runtime.NumGoroutine")=false∧fn.body.isNone=false)
    (h: ∀ (S:Frz) (bs:List Value) (w:World) (vs:List Value),Facts.p w→MDs S bs args vs→∃ cs:Array Value,cs.size=l.length * u.size∧(∀ (i:Nat) (x:u.den) (j:Nat) (p:P) (v:Value),l[i]? =some x→(enc alg u x)[j]? =some p→cs.toList[i * u.size+j]? =some v→MP S p v)∧Calls Pr f vs.toArray w fun e w'=>e=.returned (.slice (some ⟨w.heap.size,0,none⟩) l.length l.length)∧w'=w.alloc (.cells cs E)):Spc Pr f args hp (.ret (.v (.one (.row hp.length)))) (hp++[.row u E l]):=by
  refine⟨hf,fun S K fr w vs hH hM hA=> ?_⟩
  obtain⟨cs,hcs,hx,hc⟩:=h S _ w vs (At.frz hA).facts hM
  refine hc.mono fun e w' he=> ?_
  obtain⟨rfl,rfl⟩:=he
  have he:Ext (K.map CO.base) ((K++[CO.row E u.size (some ⟨w.heap.size,0,none⟩) l.length l.length cs.toList]).map CO.base):=by rw [List.map_append];exact Ext.append _ _
  refine⟨S,K++[CO.row E u.size (some ⟨w.heap.size,0,none⟩) l.length l.length cs.toList],Frz.le.refl S,he,(hH.mono (Frz.le.refl S) he).push (.row (by rw [Array.length_toList];exact hcs) hx),?_,?_⟩
  · have h1:=hA.YL E u.size l.length cs (0,0) hcs hl (xQ _)
    exact At.more h1
  · refine⟨?_,some ⟨w.heap.size,0,none⟩,l.length,l.length,rfl⟩
    rw [hH.1];exact yH _ _
end Go.Ab
namespace Go.Proofs.YtmibhbdfigpkmaaGreatDoor
open Go Go.Sep Go.Ab
set_option maxRecDepth 100000
theorem index_one: ∀ (s:Str) (c:UInt8),c ∉ s→Lib.index s [c]= -1
  |[],c,_=>rfl
  | b::l,c,h=>by
    have h1: ¬ b=c:=fun e=>h (by rw [e];exact List.mem_cons_self)
    have h2:c ∉ l:=fun e=>h (List.mem_cons_of_mem _ e)
    have h0:(c == b)=false:=by simpa using fun e:c=b=>h1 e.symm
    have h3:([c]:Str).isPrefixOf (b::l)=false:=by simp [List.isPrefixOf,h0]
    unfold Lib.index
    rw [h3,index_one l c h2];rfl
theorem zar: ∀ (p r:Str) (c:UInt8),c ∉ p→Lib.index (p++c::r) [c]=p.length
  |[],r,c,_=>by simp [Lib.index,List.isPrefixOf]
  | b::l,r,c,h=>by
    have h1: ¬ b=c:=fun e=>h (by rw [e];exact List.mem_cons_self)
    have h2:c ∉ l:=fun e=>h (List.mem_cons_of_mem _ e)
    have h0:(c == b)=false:=by simpa using fun e:c=b=>h1 e.symm
    have h3:([c]:Str).isPrefixOf (b::(l++c::r))=false:=by simp [List.isPrefixOf,h0]
    rw [List.cons_append]
    unfold Lib.index
    rw [h3,zar l r c h2]
    have: ¬ ((l.length:Int) == -1)=true:=fun e=>by have:=beq_iff_eq.1 e;omega
    rw [if_neg (by simp),if_neg this]
    simp
theorem YP: ∀ (s:Str),(32:UInt8) ∉ s→zX s=[s]
  |[],_=>rfl
  | b::l,h=>by
    have h1: ¬ b=32:=fun e=>h (by rw [e];exact List.mem_cons_self)
    have h2:(32:UInt8) ∉ l:=fun e=>h (List.mem_cons_of_mem _ e)
    rw [zX,if_neg h1,YP l h2]
theorem XZ: ∀ (p r:Str),(32:UInt8) ∉ p→zX (p++32::r)=p::zX r
  |[],r,_=>by simp [zX]
  | b::l,r,h=>by
    have h1: ¬ b=32:=fun e=>h (by rw [e];exact List.mem_cons_self)
    have h2:(32:UInt8) ∉ l:=fun e=>h (List.mem_cons_of_mem _ e)
    rw [List.cons_append,zX,if_neg h1,XZ l r h2]
theorem zfe: ∀ (s:Str) (c:UInt8),c ∈ s→∃ p r,s=p++c::r∧c ∉ p
  | b ::l,c,h=>by
    by_cases e:b=c
    · exact⟨[],l,by rw [e];rfl,by simp⟩
    · have h2:c ∈ l:=by
        rcases List.mem_cons.1 h with h|h
        · exact absurd h.symm e
        · exact h
      obtain⟨p,r,rfl,h3⟩:=zfe l c h2
      refine⟨b::p,r,rfl,fun h4=> ?_⟩
      rcases List.mem_cons.1 h4 with h4|h4
      · exact e h4.symm
      · exact h3 h4
theorem Uh: ∀ (n:Nat) (s:Str),s.length≤n→∀ k,s.count 32≤k→Lib.splitK [32] 0 k s=zX s
  | 0,s,hs,k,_=>by
    have:s=[]:=List.length_eq_zero_iff.1 (by omega)
    subst this
    cases k<;>rfl
  | n + 1,s,hs,k,hk=>by
    by_cases hm:(32:UInt8) ∈ s
    · obtain⟨p,r,rfl,hp⟩:=zfe s 32 hm
      have hc:(p++32::r).count 32=r.count 32+1:=by
        rw [List.count_append,List.count_eq_zero.2 hp,List.count_cons_self];omega
      rw [hc] at hk
      cases k with
      |zero=>omega
      | succ k=>
        rw [XZ p r hp]
        unfold Lib.splitK
        rw [zar p r 32 hp]
        have: ¬ ((p.length:Int) == -1)=true:=fun e=>by have:=beq_iff_eq.1 e;omega
        rw [if_neg this]
        simp only [Int.toNat_natCast,Nat.add_zero,List.length_cons,List.length_nil,Nat.zero_add]
        rw [List.take_left,show p.length+1=(p++[(32:UInt8)]).length by simp,show p++32::r=(p++[32])++r by simp,List.drop_left]
        congr 1
        refine Uh n r ?_ k (by omega)
        simp only [List.length_append,List.length_cons] at hs
        omega
    · rw [YP s hm]
      cases k with
      |zero=>rfl
      | succ k=>
        unfold Lib.splitK
        rw [index_one s 32 hm];rfl
theorem count_one (s:Str):Lib.count s [32]=s.count 32:=Lib.count_one 32 s
theorem YQ: ∀ (s:Str),(zX s).length=s.count 32+1
  |[]=>rfl
  | c ::r=>by
    have ih:=YQ r
    rw [zX]
    split
    · rename_i h;subst h;rw [List.length_cons,ih,List.count_cons_self]
    · rename_i h
      rw [List.count_cons_of_ne (by simpa using h)]
      cases hq:zX r with
      |nil=>exact absurd hq (XY r)
      |cons w ws=>rw [hq] at ih;simpa using ih
theorem zb1 {S:Frz} {l:List Str} (hl: ∀ x ∈ l,x.length≤maxLen) {vs:List Value} (hv:vs=l.map fun x=>Value.string (Sep.S x)): ∀ (i:Nat) (x:Str) (j:Nat) (p:P) (v:Value),l[i]? =some x→(enc alg .str x)[j]? =some p→vs[i * U.str.size+j]? =some v→MP S p v:=by
  intro i x j p v hi hj hv2
  cases j with
  | zero=>
    simp only [enc,List.getElem?_cons_zero,Option.some.injEq] at hj
    subst hj
    rw [hv,show i * U.str.size+0=i by simp [U.size],List.getElem?_map,hi] at hv2
    cases hv2
    exact .str _ (hl x (List.mem_of_getElem? hi))
  |succ j=>simp [enc] at hj
theorem xY: ∀ (s:Str),∀ x ∈ zX s,x.length≤s.length
  |[],x,h=>by simp [zX] at h;subst h;simp
  | c ::r,x,h=>by
    have ih:=xY r
    rw [zX] at h
    split at h
    · rcases List.mem_cons.1 h with rfl|h
      · simp
      · have:=ih x h;simp;omega
    · cases hq:zX r with
      |nil=>exact absurd hq (XY r)
      | cons w ws=>
        rw [hq] at h ih
        rcases List.mem_cons.1 h with rfl|h
        · have:=ih w List.mem_cons_self;simp;omega
        · have:=ih x (List.mem_cons_of_mem _ h);simp;omega
theorem zgn (s:Str) (hneed:s.length≤1000000):Spc Tryz.prog 86 [.v (.one (.p (.str s))),.v (.one (.p (.str ([32]))))] [] (.ret (.v (.one (.row 0)))) [.row .str 9 ((zX s))]:=by
  have hlen:=YQ s
  have hcl:s.count 32≤s.length:=List.count_le_length
  refine Spc.zgF (hp:=[]) (u:=.str) (by rw [hlen];unfold maxLen;omega) ⟨_,Tryz.func86,by kernel_rfl,by kernel_rfl⟩ fun S bs w vs hW hM=> ?_
  obtain⟨v,r,rfl⟩: ∃ v r,vs=v::r:=by cases vs with|nil=>exact hM.elim|cons v r=>exact⟨v,r,rfl⟩
  obtain⟨h1,hM⟩:=hM
  obtain⟨v2,r2,rfl⟩: ∃ v r2,r=v::r2:=by cases r with|nil=>exact hM.elim|cons v r=>exact⟨v,r,rfl⟩
  obtain⟨h2,hM⟩:=hM
  obtain rfl:r2=[]:=by cases r2 with|nil=>rfl|cons v r=>exact hM.elim
  obtain⟨mx,hmx⟩:=hW.2
  cases h1 with
  | str _ hl1=>
    cases h2 with
    | str _ hl2=>
      have hc:=Tryz.strings_Split (Sep.S s) (Sep.S [32]) mx w (by show s.length<_;omega) hmx (by decide)
      have hk:Lib.countB (Sep.S s) (Sep.S [32])=s.count 32:=count_one s
      have hd:(Lib.splitB (Sep.S [32]) 0 (Lib.countB (Sep.S s) (Sep.S [32])) (Sep.S s)).map (fun b=>b.data.toList)=zX s:=by
        rw [Lib.splitB_data,hk]
        exact Uh s.length s (Nat.le_refl _) _ (Nat.le_refl _)
      have hv:(Lib.splitB (Sep.S [32]) 0 (Lib.countB (Sep.S s) (Sep.S [32])) (Sep.S s)).map Value.string=(zX s).map fun x=>Value.string (Sep.S x):=by
        rw [← hd,List.map_map]
        exact List.map_congr_left fun b _=>by simp [Sep.S]
      refine⟨((Lib.splitB (Sep.S [32]) 0 (Lib.countB (Sep.S s) (Sep.S [32])) (Sep.S s)).map Value.string).toArray,?_,?_,hc.mono fun e w' h=> ?_⟩
      · rw [hv];simp [U.size]
      · exact zb1 (fun x hx=>by have:=xY s x hx;unfold maxLen;omega) (by rw [hv])
      · obtain⟨he,hw⟩:=h
        rw [hk] at he
        rw [hlen]
        exact⟨he,hw⟩
def Yj (I:Alg) (args:List D) (hp:List HO):Option CT:=match args,hp with
  |[.v (.one (.p (.str s))),.v (.one (.p (.str ([32]))))],[]=>(fun(s:Str)=>(some (.one ⟨I.hid (s.length≤1000000),(.ret (.v (.one (.row 0)))),[.row .str 9 (I.hid ((zX s)))]⟩):Option CT)) s
  |_,_=>none
theorem Qz:zI Tryz.prog 86 (Yj alg):=by
  intro args hp r h
  unfold Yj at h
  split at h
  · cases h;exact fun hn=>zgn _ hn
  · cases h
def Qy:Know Tryz.prog:=⟨86,Yj,Qz⟩
def Qx:Know Tryz.prog:=⟨86,fun I=>zL I (Yj I),zf Qz⟩
end Go.Proofs.YtmibhbdfigpkmaaGreatDoor
namespace Go.Proofs.YtmibhbdfigpkmaaGreatDoor
open Go Go.Sep Go.Ab
set_option maxRecDepth 100000
theorem zbB (s p:Str):Spc Tryz.prog 33 [.v (.one (.p (.str s))),.v (.one (.p (.str p)))] [] (.ret (.v (.one (.p (.bool (Lib.hasPrefix s p)))))) []:=by
  refine Spc.of_below ⟨_,Tryz.func33,by kernel_rfl,by kernel_rfl⟩ fun S bs w vs _ hM=> ?_
  obtain⟨v,r,rfl⟩: ∃ v r,vs=v::r:=by cases vs with|nil=>exact hM.elim|cons v r=>exact⟨v,r,rfl⟩
  obtain⟨h1,hM⟩:=hM
  obtain⟨v2,r2,rfl⟩: ∃ v r2,r=v::r2:=by cases r with|nil=>exact hM.elim|cons v r=>exact⟨v,r,rfl⟩
  obtain⟨h2,hM⟩:=hM
  obtain rfl:r2=[]:=by cases r2 with|nil=>rfl|cons v r=>exact hM.elim
  cases h1 with
  | str _ hl1=>
    cases h2 with
    | str _ hl2=>
      refine⟨.bool (Lib.hasPrefix s p),.bool _,(Tryz.strings_HasPrefix (Sep.S s) (Sep.S p) w).mono fun e w' h=> ?_⟩
      obtain⟨he,rfl⟩:=h
      exact⟨he,Go.RowKit.Below.refl _ _⟩
def ve (I:Alg) (args:List D) (hp:List HO):Option CT:=match args,hp with
  |[.v (.one (.p (.str s))),.v (.one (.p (.str p)))],[]=>(fun(s p:Str)=>(some (.one ⟨I.hid (True),(.ret (.v (.one (.p (.bool (I.hid (Lib.hasPrefix s p))))))),[]⟩):Option CT)) s p
  |_,_=>none
theorem Z4:zI Tryz.prog 33 (ve alg):=by
  intro args hp r h
  unfold ve at h
  split at h
  · cases h;exact fun hn=>zbB _ _
  · cases h
def wZ:Know Tryz.prog:=⟨33,ve,Z4⟩
def wY:Know Tryz.prog:=⟨33,fun I=>zL I (ve I),zf Z4⟩
theorem zbI (s:Str) (c:UInt8):Spc Tryz.prog 87 [.v (.one (.p (.str s))),.v (.one (.p (.str ([c]))))] [] (.ret (.v (.one (.p (.bool (decide (0≤Lib.indexByte s c))))))) []:=by
  refine Spc.of_below ⟨_,Tryz.func87,by kernel_rfl,by kernel_rfl⟩ fun S bs w vs _ hM=> ?_
  obtain⟨v,r,rfl⟩: ∃ v r,vs=v::r:=by cases vs with|nil=>exact hM.elim|cons v r=>exact⟨v,r,rfl⟩
  obtain⟨h1,hM⟩:=hM
  obtain⟨v2,r2,rfl⟩: ∃ v r2,r=v::r2:=by cases r with|nil=>exact hM.elim|cons v r=>exact⟨v,r,rfl⟩
  obtain⟨h2,hM⟩:=hM
  obtain rfl:r2=[]:=by cases r2 with|nil=>rfl|cons v r=>exact hM.elim
  cases h1 with
  | str _ hl1=>
    cases h2 with
    | str _ hl2=>
      refine⟨.bool (decide (0≤Lib.indexByte s c)),.bool _,(Tryz.strings_Contains_one (Sep.S s) c w).mono fun e w' h=> ?_⟩
      obtain⟨he,rfl⟩:=h
      exact⟨he,Go.RowKit.Below.refl _ _⟩
def vg (I:Alg) (args:List D) (hp:List HO):Option CT:=match args,hp with
  |[.v (.one (.p (.str s))),.v (.one (.p (.str ([c]))))],[]=>(fun(s:Str) (c:UInt8)=>(some (.one ⟨I.hid (True),(.ret (.v (.one (.p (.bool (I.hid (decide (0≤Lib.indexByte s c)))))))),[]⟩):Option CT)) s c
  |_,_=>none
theorem Yc:zI Tryz.prog 87 (vg alg):=by
  intro args hp r h
  unfold vg at h
  split at h
  · cases h;exact fun hn=>zbI _ _
  · cases h
def Yb:Know Tryz.prog:=⟨87,vg,Yc⟩
def Ya:Know Tryz.prog:=⟨87,fun I=>zL I (vg I),zf Yc⟩
end Go.Proofs.YtmibhbdfigpkmaaGreatDoor
