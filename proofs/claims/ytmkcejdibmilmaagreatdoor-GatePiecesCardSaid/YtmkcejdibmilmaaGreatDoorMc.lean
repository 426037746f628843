/- Texts of this proof, one behind the other: AbP AbO ShpG Tab Laid Wrap InZ Shelf Lib ChrA ChrB ChrC ParL ParA ParC ParD Fnd FldA FldB FldG FldD FldE ChrD ChrN Base SplL SplA. -/
import Derived.Deep.LoopGhost
import Derived.Recover
import Derived.Handy
import Derived.KernelRfl
import Derived.Test.YtmkcejdibmilmaaGreatDoorProg
import Derived.WalkKit
import Derived.Lib.ItoaNum
import Derived.Lib.LaidTab
import Derived.Shelf.Vars
import Derived.HandedShaped
import Derived.WideShapes
import Derived.ChangeArms
import Derived.SizedLaws
import Derived.Shelf.Strings.SlTrimAscii
import Derived.Shelf.Strings.Trim
import Derived.Shelf.Small.Utf8
import Derived.Shelf.Small.Strs
import Derived.Shelf.Small.Wraps
import Derived.Shelf.Utf8.RuneCount
import Derived.Shelf.Strconv.Itoa0
import Derived.Shelf.Strconv.Itoa1
import Derived.Shelf.LaysM
import Derived.Shelf.Strconv.Itoa2
import Derived.Shelf.Strconv.Itoa3
import Derived.Shelf.Strings.Search1
import Derived.Shelf.Strings.Search2
import Derived.Shelf.Strings.Search3
import Derived.Shelf.Strings.Cut
import Derived.Shelf.Strings.Count
import Derived.Shelf.Strings.Shaped
import Derived.Shelf.Strings.Prefix
import Derived.Shelf.Strings.Split
import Derived.Shelf.Strings.SplitShaped
import Derived.Shelf.Unicode.Decode
import Derived.Shelf.Strings.Runes
import Derived.Shelf.Strings.RuneCount
import Derived.Shelf.Strings.AsciiSet
import Derived.Shelf.Strings.Explode
import Derived.Shelf.Unicode.DecodeSlow
import Derived.Shelf.Unicode.DecodeAny
import Derived.Shelf.Unicode.DecodeLast
import Derived.Below
import Derived.Test.YtmkcejdibmilmaaGreatDoorMb
set_option linter.all false
namespace Go.Ab
open Go Go.Sep
variable [Facts]
theorem zia {α:Type} (x:α):alg.hid x=x:=rfl
theorem zpj (k:IntKind) (x y:Int):alg.shl k x y=k.wrap (x * 2 ^ (min y.toNat k.bits)):=rfl
theorem zpi (x y:Int):alg.shr x y=x.fdiv (2 ^ (min y.toNat 64)):=rfl
theorem zky (op:BinOp) (k:IntKind) (x y:Int):alg.bits op k x y=k.wrap (match op with
    |.and=>(BitVec.ofInt k.bits x&&& BitVec.ofInt k.bits y).toNat
    |.or=>(BitVec.ofInt k.bits x|||BitVec.ofInt k.bits y).toNat
    |_=>(BitVec.ofInt k.bits x ^^^ BitVec.ofInt k.bits y).toNat:Nat):=rfl
theorem zdT:IntKind.i64.min= -9223372036854775808:=by decide
theorem zdU:IntKind.i64.max=9223372036854775807:=by decide
theorem zrJ:IntKind.u8.min=0:=by decide
theorem zrK:IntKind.u8.max=255:=by decide
theorem zfh (c:UInt8):UInt8.ofNat ((c.toNat:Int)).toNat=c:=by simp
theorem Za (c d:UInt8):((c.toNat:Int)=(d.toNat:Int))↔c=d:=by
  constructor
  · intro h;exact UInt8.toNat_inj.1 (by omega)
  · intro h;rw [h]
mutual
def zd0 {α:Type}:HO→(HO→α)→α
  |.pack l,k=>Tf l fun l=>k (.pack l)
  |.obj t cs,k=>Ti cs fun cs=>k (.obj t cs)
  |.row u E l,k=>k (.row u E l)
  |.abs g,k=>k (.abs g)
  |.gone,k=>k .gone
def Tf {α:Type}:List HO→(List HO→α)→α
  |[],k=>k []
  |o::os,k=>zd0 o fun o=>Tf os fun os=>k (o::os)
end
mutual
theorem zll {α:Type}: ∀ (o:HO) (k:HO→α),zd0 o k=k o
  |.pack l,k=>by rw [zd0,Td l]
  |.obj t cs,k=>by rw [zd0,XB]
  |.row u E l,k=>rfl
  |.abs g,k=>rfl
  |.gone,k=>rfl
theorem Td {α:Type}: ∀ (l:List HO) (k:List HO→α),Tf l k=k l
  |[],k=>rfl
  |o::os,k=>by rw [Tf,zll o,Td os]
end
def QK {α:Type} (o:AOut) (k:AOut→α):α:=match o with
  |.ret d=>zjO d fun d=>k (.ret d)
  |.pan c=>zjP c fun c=>k (.pan c)
theorem zhy {α:Type} (o:AOut) (k:AOut→α):QK o k=k o:=by
  cases o<;>simp only [QK,zf9,za8]
def zf7 {α:Type} (st:St) (k:St→α):α:=zf8 st.env fun e=>Tf st.hp fun h=>zcM st.n fun n=>match st.df with|none=>k ⟨e,h,n,none⟩|some (g,cs)=>k ⟨e,h,n,some (g,cs)⟩
theorem zn5 {α:Type} (st:St) (k:St→α):zf7 st k=k st:=by
  unfold zf7
  rw [za7,Td]
  unfold zcM
  obtain⟨e,h,n,df⟩:=st
  cases n<;>(cases df<;>rfl)
structure CR where
  need:Prop
  out:AOut
  hp:List HO
inductive CT where
  |one (r:CR)
  |br (b:Bool) (t f:CT)
def CT.Good (Pr:Program) (f:Nat) (args:List D) (hp:List HO):CT→Prop
  |.one r=>r.need→Spc Pr f args hp r.out r.hp
  |.br b t e=>(b=true→t.Good Pr f args hp)∧(b=false→e.Good Pr f args hp)
def CT.map (g:CR→CR):CT→CT
  |.one r=>.one (g r)
  |.br b t e=>.br b (t.map g) (e.map g)
def CT.mapO (g:CR→Option CR):CT→Option CT
  |.one r=>match g r with|some r=>some (.one r)|none=>none
  |.br b t e=>match t.mapO g,e.mapO g with|some t,some e=>some (.br b t e)|_,_=>none
def CT.tree (k:CR→Tree):CT→Tree
  |.one r=>k r
  |.br b t e=>.br b (t.tree k) (e.tree k)
theorem CT.Good.map {Pr:Program} {f f':Nat} {args args':List D} {hp hp':List HO} {g:CR→CR} (h: ∀ r:CR,(r.need→Spc Pr f args hp r.out r.hp)→(g r).need→Spc Pr f' args' hp' (g r).out (g r).hp): ∀ {c:CT},c.Good Pr f args hp→(c.map g).Good Pr f' args' hp'
  |.one r,hc=>h r hc
  |.br _ _ _,hc=>⟨fun e=>CT.Good.map h (hc.1 e),fun e=>CT.Good.map h (hc.2 e)⟩
theorem CT.Good.mapO {Pr:Program} {f f':Nat} {args args':List D} {hp hp':List HO} {g:CR→Option CR} (h: ∀ r r':CR,g r=some r'→(r.need→Spc Pr f args hp r.out r.hp)→r'.need→Spc Pr f' args' hp' r'.out r'.hp): ∀ {c c':CT},c.mapO g=some c'→c.Good Pr f args hp→c'.Good Pr f' args' hp'
  | .one r,c',e,hc=>by
    simp only [CT.mapO] at e
    split at e
    · rename_i r' hr;cases e;exact h r r' hr hc
    · cases e
  | .br b t f,c',e,hc=>by
    simp only [CT.mapO] at e
    split at e
    · rename_i t' f' ht hf;cases e;exact⟨fun e=>CT.Good.mapO h ht (hc.1 e),fun e=>CT.Good.mapO h hf (hc.2 e)⟩
    · cases e
structure Know (Pr:Program) where
  f:Nat
  c:Alg→List D→List HO→Option CT
  ok: ∀ args hp r,c alg args hp=some r→r.Good Pr f args hp
def zrQ:List D→List Nat
  |[]=>[]
  |d::ds=>zqm d++zrQ ds
def zdo (hp:List HO) (args:List D):List Nat:=gather hp 60 (zrQ args) []
def frameC (c:List D→List HO→Option CT) (args:List D) (hp:List HO):Option CT:=
  match rO (zdo hp args) hp with
  |none=>none
  | some (os,hpr)=>match c (args.map (D.ren fun q=>idx q (zdo hp args) 0)) (os.map (HO.ren fun q=>idx q (zdo hp args) 0)) with
    |none=>none
    |some r=>some (r.map fun r=>match r with|⟨p,o,h⟩=>⟨p,o.ren (TK (zdo hp args) hp.length),ZJ (TK (zdo hp args) hp.length) (zdo hp args) h hpr⟩)
def zaS (I:Alg) (c:List D→List HO→Option CT):Nat→List D→List HO→Option CT
  |0,args,hp=>frameC c args hp
  | n + 1,args,hp=>match nth hp n with
    | some (.row u E l)=>(match zaS I c n (args.map (D.frz I n u l)) (setN (hp.map (HO.frz I n u l)) n .gone) with
      | some r=>r.mapO fun r=>(match noLA r.out,zfk r.hp with
        |true,true=>some ⟨r.need,r.out,setN r.hp n (.row u E l)⟩
        |_,_=>none)
      |none=>none)
    |_=>zaS I c n args hp
def zy (I:Alg) (c:List D→List HO→Option CT) (args:List D) (hp:List HO):Option CT:=zaS I c hp.length args hp
def ask {Pr:Program} (I:Alg):List (Know Pr)→Nat→List D→List HO→Option CT
  |[],_,_,_=>none
  | k::r,f,args,hp=>match Nat.beq k.f f with
    |true=>(match frameC (k.c I) args hp with|some x=>some x|none=>ask I r f args hp)
    |false=>ask I r f args hp
def drive (q:Nat→List D→List HO→Option CT):Tree→Tree
  |.need p t=>.need p (drive q t)
  |.br b t f=>.br b (drive q t) (drive q f)
  | .call f args hp k=>zcO hp fun hp=>match q f args hp with
    |some r=>r.tree fun r=>match r with|⟨p,o,h⟩=>.need p (QK o fun o=>zcO h fun h=>drive q (k o h))
    |none=>.call f args hp fun o h=>drive q (k o h)
  |.code c st k=>.code c st k
  |.fin o hp=>.fin o hp
  |.both t f=>.both (drive q t) (drive q f)
  |.qed=>.qed
  |.stop n=>.stop n
def zx (Pr:Program) (f:Nat) (c:List D→List HO→Option CT):Prop:=∀ args hp r,c args hp=some r→r.Good Pr f args hp
section
variable {Pr:Program} {T:Tab} {X:Ctx} {G:AOut→List HO→Prop} {a:Act} {w:World}
theorem za4 {f:Nat} {c:List D→List HO→Option CT} (h:zx Pr f c):zx Pr f (frameC c):=by
  intro args hp r hr
  unfold frameC at hr
  split at hr
  · cases hr
  · rename_i os hpr ht
    split at hr
    · cases hr
    · rename_i r0 hc
      cases hr
      exact CT.Good.map (g:=fun r=>⟨r.need,r.out.ren (TK (zdo hp args) hp.length),ZJ (TK (zdo hp args) hp.length) (zdo hp args) r.hp hpr⟩) (fun r hs hn=>(hs hn).frame _ ht rfl rfl) (h _ _ _ hc)
theorem YE {f:Nat} {c:List D→List HO→Option CT} (h:zx Pr f c): ∀ n,zx Pr f (zaS alg c n)
  |0=>za4 h
  | n + 1 =>by
    intro args hp r hr
    unfold zaS at hr
    split at hr
    · rename_i u E l ho
      rw [yx] at ho
      split at hr
      · rename_i r0 hc
        refine CT.Good.mapO (fun r r' hrr hs hn=> ?_) hr (YE h n _ _ _ hc)
        split at hrr
        · rename_i h1 h2
          cases hrr
          exact Spc.zvX (hs hn) ho rfl rfl h1 h2
        · cases hrr
      · cases hr
    · exact YE h n _ _ _ hr
theorem zf {f:Nat} {c:List D→List HO→Option CT} (h:zx Pr f c):zx Pr f (zy alg c):=fun args hp=>YE h hp.length args hp
theorem Z7: ∀ {kn:List (Know Pr)} {f:Nat},zx Pr f (ask alg kn f)
  |[],f=>fun args hp r hr=>by cases hr
  | k ::r,f=>fun args hp x hr=>by
    unfold ask at hr
    split at hr
    · rename_i hb
      obtain rfl:=Nat.eq_of_beq_eq_true hb
      split at hr
      · rename_i y hy;cases hr;exact za4 k.ok args hp _ hy
      · exact Z7 args hp x hr
    · exact Z7 args hp x hr
theorem CT.vC {f:Nat} {args:List D} {hp:List HO} {k:AOut→List HO→Tree} {k':AOut→List HO→Tree} (ih: ∀ o h,(k' o h).ok Pr X G→(k o h).ok Pr X G): ∀ {c:CT},c.Good Pr f args hp→(c.tree fun r=>.need r.need (k' r.out r.hp)).ok Pr X G→∃ out hp',Spc Pr f args hp out hp'∧(k out hp').ok Pr X G
  |.one r,hc,h=>⟨r.out,r.hp,hc h.1,ih _ _ h.2⟩
  | .br b t e,hc,h=>by
    cases b with
    |true=>exact CT.vC ih (hc.1 rfl) (h.1 rfl)
    |false=>exact CT.vC ih (hc.2 rfl) (h.2 rfl)
theorem Uo {q:Nat→List D→List HO→Option CT} (hq: ∀ f,zx Pr f (q f)): ∀ {t:Tree},(drive q t).ok Pr X G→t.ok Pr X G:=by
  intro t
  induction t with
  |need p t ih=>exact fun h=>⟨h.1,ih h.2⟩
  |br b t f ih1 ih2=>exact fun h=>⟨fun e=>ih1 (h.1 e),fun e=>ih2 (h.2 e)⟩
  | call f args hp k ih=>
    intro h
    simp only [drive,za6,zhy] at h
    split at h
    · rename_i r hr;exact CT.vC (k':=fun o h=>drive q (k o h)) (fun o h=>ih o h) (hq f args hp r hr) h
    · obtain⟨o,hp',h1,h2⟩:=h;exact⟨o,hp',h1,ih _ _ h2⟩
  |code c st k ih=>exact fun h=>h
  |fin o hp=>exact fun h=>h
  |both t f ih1 ih2=>exact fun h=>⟨ih1 h.1,ih2 h.2⟩
  |qed=>exact fun h=>h
  |stop n=>exact fun h=>h
structure Rt where
  B:Code
  K:AEx→St→Tree
def uI (fn:Func):Code:=match fn.body with|some c=>c|none=>.skip
def loopBody:Code→Code
  |.loop b=>b
  |c=>c
def cAt:List Nat→Code→Code
  |[],c=>c
  | n::p,c=>match c with
    |.seq a b=>(match n with|0=>cAt p a|_=>cAt p b)
    |.cond _ t e=>(match n with|0=>cAt p t|_=>cAt p e)
    |.block _ b=>cAt p b
    |c=>c
def kAt (I:Alg) (T:Tab) (cfg:Cfg):List Nat→Code→(AEx→St→Tree)→AEx→St→Tree
  |[],_,K=>K
  | n ::p,c,K=>match c with
    |.seq a b=>(match n with|0=>kAt I T cfg p a (fun e st=>match e with|.normal=>vc I T cfg b K st|e=>K e st)|_=>kAt I T cfg p b K)
    |.cond _ t e=>(match n with|0=>kAt I T cfg p t K|_=>kAt I T cfg p e K)
    | .block id b=>kAt I T cfg p b (fun e st=>match e with
      |.exit j=>(match Nat.beq j id with|true=>K .normal st|false=>K (.exit j) st)
      |e=>K e st)
    |_=>K
def rtAt:Nat→List Rt→Rt
  |_,[]=>⟨.skip,fun _ _=>.stop 50⟩
  |0,r::_=>r
  |n+1,_::l=>rtAt n l
def leaf (I:Alg) (T:Tab) (cfg:Cfg) (R:List Rt) (i:Nat) (p:List Nat) (st:St):Tree:=
  .code (cAt p (rtAt i R).B) st (kAt I T cfg p (rtAt i R).B (rtAt i R).K)
def zv4 (I:Alg) (T:Tab) (cfg:Cfg) (c:Code) (K:AEx→St→Tree) (st:St):Tree:=
  match c with
  |.region _ ops draw=>regT I T cfg ops draw K (st.tidy cfg.keep)
  |c=>vc I T cfg c K st
def go (I:Alg) (T:Tab) (cfg:Cfg) (kn:List (Know Pr)) (R:List Rt) (i:Nat) (p:List Nat) (st:St):Tree:=
  drive (ask I kn) (zv4 I T cfg (cAt p (rtAt i R).B) (kAt I T cfg p (rtAt i R).B (rtAt i R).K) st)
def cutM (cfg:Cfg) (k0:Nat) (dom:List Nat) (st:St):Option St:=St.cut cfg.fsl k0 dom (X7 cfg.mv st)
def zvs (cfg:Cfg) (k0:Nat) (dom:List Nat) (A:St→Prop) (k:AEx→St→Tree):AEx→St→Tree:=fun e st=>
  match e with
  |.normal=>(match cutM cfg k0 dom st with|some s=>zf7 s fun s=>.need (A s) .qed|none=>.stop 19)
  |e=>k e st
def round (I:Alg) (T:Tab) (cfg:Cfg) (k0:Nat) (dom:List Nat) (A:St→Prop) (R:List Rt) (i:Nat) (p:List Nat):Rt:=
  ⟨loopBody (cAt p (rtAt i R).B),zvs cfg k0 dom A (kAt I T cfg p (rtAt i R).B (rtAt i R).K)⟩
inductive PT where
  |need (p:Prop) (t:PT)
  |br (b:Bool) (t f:PT)
  |code (i:Nat) (p:List Nat) (st:St)
  |fin (o:AOut) (hp:List HO)
  |both (t f:PT)
  |qed
  |stop (n:Nat)
def PT.inst (I:Alg) (T:Tab) (cfg:Cfg) (R:List Rt):PT→Tree
  |.need p t=>.need p (t.inst I T cfg R)
  |.br b t f=>.br b (t.inst I T cfg R) (f.inst I T cfg R)
  |.code i p st=>leaf I T cfg R i p st
  |.fin o hp=>.fin o hp
  |.both t f=>.both (t.inst I T cfg R) (f.inst I T cfg R)
  |.qed=>.qed
  |.stop n=>.stop n
theorem zfx {I:Alg} {cfg:Cfg} {R:List Rt} {p:Prop} {t:PT}:Ok Pr X G (PT.inst I T cfg R (.need p t))↔p∧Ok Pr X G (t.inst I T cfg R):=ztn
theorem znV {I:Alg} {cfg:Cfg} {R:List Rt} {b:Bool} {t f:PT}:Ok Pr X G (PT.inst I T cfg R (.br b t f))↔(b=true→Ok Pr X G (t.inst I T cfg R))∧(b=false→Ok Pr X G (f.inst I T cfg R)):=zxe
theorem zfz {I:Alg} {cfg:Cfg} {R:List Rt} {t f:PT}:Ok Pr X G (PT.inst I T cfg R (.both t f))↔Ok Pr X G (t.inst I T cfg R)∧Ok Pr X G (f.inst I T cfg R):=zto
theorem zjE {I:Alg} {cfg:Cfg} {R:List Rt} {o:AOut} {hp:List HO}:Ok Pr X G (PT.inst I T cfg R (.fin o hp))↔G o hp:=zvP
theorem zjD {I:Alg} {cfg:Cfg} {R:List Rt}:Ok Pr X G (PT.inst I T cfg R .qed)↔True:=zvO
theorem zfw {I:Alg} {cfg:Cfg} {R:List Rt} {n:Nat}:Ok Pr X G (PT.inst I T cfg R (.stop n))↔False:=ztm
theorem zfy {I:Alg} {cfg:Cfg} {R:List Rt} {i:Nat} {p:List Nat} {st:St}:Ok Pr X G (PT.inst I T cfg R (.code i p st))↔Ok Pr X G (leaf I T cfg R i p st):=Iff.rfl
def VE (cfg:Cfg):Code→Bool
  |.region id _ _=>memN id cfg.seam
  |_=>false
theorem spcG {P:Program} {T:Tab} (hT:T.fits P) (hm:P.follows .mixedOrders=true) {f:Nat} {fn:Func} (hf:P.funcs[f]? =some fn) (hn:(fn.name == "runtime.NumGoroutine")=false) (cfg:Cfg) (kn:List (Know P)) {args:List D} {hp:List HO} {out:AOut} {hp':List HO}
    (hb:(fn.body.isSome&& !VE cfg (uI fn)&&Nat.ble args.length fn.ntmps)=true)
    (h: ∀ (I:Alg) (X:Ctx),I=alg→X.bs0.length=hp.length→Ok P X (fun o h=>o=out∧h=hp') (go I T cfg kn [⟨uI fn,finK I T cfg hp.length fn⟩] 0 [] { env:=zbJ 0 args,hp:=hp,n:=fn.ntmps})):Spc P f args hp out hp':=by
  simp only [Bool.and_eq_true,Bool.not_eq_true'] at hb
  refine zkF hT hm hf hn (cfg:=cfg) hb.1.1 hb.2 fun I X hI hX=> ?_
  subst hI
  have h1:=(h alg X rfl hX).out
  have h2:=Uo (fun f=>Z7) h1
  have hs:=hb.1.2
  unfold funT
  unfold uI at h2 hs
  cases hbd:fn.body with
  |none=>rw [hbd] at hb;cases hb.1.1
  | some c=>
    rw [hbd] at h2 hs
    simp only [rtAt,cAt,kAt] at h2
    simp only at hs ⊢
    cases c<;>first|exact h2|skip
    simp only [VE] at hs
    simp only [vc,hs]
    exact h2
theorem ZP (hT:T.fits Pr) (hm:Pr.follows .mixedOrders=true) {cfg:Cfg} {c:Code} {K:AEx→St→Tree} {st:St} (h:(zv4 alg T cfg c K st).ok Pr X G) (hn:Now X st a w):c.wp Pr (Post X fun e st'=>(K e st').ok Pr X G) a w:=by
  cases c with
  |region id ops draw=>exact zcd hT hm h (hn.tidy cfg.keep)
  |_=>exact zih hT hm (cfg:=cfg) h hn
theorem TG {cfg:Cfg} {k0:Nat} (hk:X.bs0.length=k0) {dom:List Nat} {st s:St} (hc:cutM cfg k0 dom st=some s) (hn:Now X st a w):Now X s a w:=by
  obtain⟨S,K,hH,hE⟩:=hn
  obtain⟨K',h1,h2⟩:=ZO cfg.mv hH hE
  exact zoP hk hc ⟨S,K',h1,h2⟩
theorem zC {I:Alg} (hI:I=alg) (hT:T.fits Pr) (hm:Pr.follows .mixedOrders=true) {cfg:Cfg} (kn:List (Know Pr)) {R:List Rt} {i:Nat} {p:List Nat} {st:St} {k0:Nat} (hk:X.bs0.length=k0) (dom:List Nat) {ι:Type} (Inv:ι→Prop) (Iv:ι→St) (μ:ι→Nat) (g0:ι)
    (hc:(match cAt p (rtAt i R).B with|.loop b=> !VE cfg b|_=>false)=true) (h0:cutM cfg k0 dom st=some (Iv g0)) (hg0:Inv g0)
    (hr: ∀ (g:ι),Inv g→∀ (A:St→Prop),(∀ g',Inv g'→μ g'<μ g→A (Iv g'))→Ok Pr X G (go I T cfg kn (round I T cfg k0 dom A R i p::R) 0 [] (Iv g))):Ok Pr X G (leaf I T cfg R i p st):=by
  subst hI
  constructor
  unfold leaf
  intro S K a w hH hE
  obtain⟨b,hb⟩: ∃ b,cAt p (rtAt i R).B=.loop b:=by
    cases h:cAt p (rtAt i R).B<;>rw [h] at hc<;>first|exact⟨_,rfl⟩|cases hc
  rw [hb]
  refine wp_loop_ghost (fun n a w=>∃ g,Inv g∧μ g=n∧Now X (Iv g) a w) (μ g0) ⟨g0,hg0,rfl,TG hk h0 ⟨S,K,hH,hE⟩⟩ ?_
  rintro n a w ⟨g,hg,rfl,hn⟩
  have h1:=(hr g hg (fun s=>∃ g',Inv g'∧μ g'<μ g∧s=Iv g') (fun g' hi hl=>⟨g',hi,hl,rfl⟩)).out
  have h2:=Uo (fun f=>Z7) h1
  simp only [rtAt,cAt,kAt,round,hb,loopBody] at h2
  refine wp_mono (ZP hT hm h2 hn) fun e a' w' hq=> ?_
  obtain⟨e',st',h1,S',K',hH',hE',hem⟩:=hq
  generalize kAt alg T cfg p (rtAt i R).B (rtAt i R).K=k at h1
  have keep: ∀ {e:Exit} {e':AEx},(∀ (h:e'=.normal),False)→EM S' (K'.map CO.base) e e'→(k e' st').ok Pr X G→Post X (fun e st'=>(k e st').ok Pr X G) e a' w':=fun {e e'} _ hem h=>⟨e',st',h,S',K',hH',hE',hem⟩
  cases e' with
  | normal=>
    cases e with
    | normal=>
      have h1:((match cutM cfg k0 dom st' with|some s=>zf7 s fun s=>Tree.need (∃ g',Inv g'∧μ g'<μ g∧s=Iv g') .qed|none=>.stop 19):Tree).ok Pr X G:=h1
      split at h1
      · rename_i s hs
        rw [zn5] at h1
        obtain⟨⟨g',hi,hlt,rfl⟩,_⟩:=h1
        exact⟨μ g',hlt,g',hi,rfl,TG hk hs ⟨S',K',hH',hE'⟩⟩
      · exact h1.elim
    |exit i=>exact hem.elim
    |goto l=>exact hem.elim
    |ret=>exact hem.elim
    |panic ch=>exact hem.elim
    |outgrown=>exact hem.elim
  | exit j=>cases e with
    |exit i=>exact keep (fun h=>by cases h) hem h1
    |normal=>exact hem.elim
    |goto l=>exact hem.elim
    |ret=>exact hem.elim
    |panic ch=>exact hem.elim
    |outgrown=>exact hem.elim
  | ret=>cases e with
    |ret=>exact keep (fun h=>by cases h) hem h1
    |normal=>exact hem.elim
    |goto l=>exact hem.elim
    |exit j=>exact hem.elim
    |panic ch=>exact hem.elim
    |outgrown=>exact hem.elim
  | pan c=>cases e with
    |panic ch=>exact keep (fun h=>by cases h) hem h1
    |normal=>exact hem.elim
    |goto l=>exact hem.elim
    |exit j=>exact hem.elim
    |ret=>exact hem.elim
    |outgrown=>exact hem.elim
theorem seam {I:Alg} (hI:I=alg) (hT:T.fits Pr) (hm:Pr.follows .mixedOrders=true) {cfg:Cfg} (kn:List (Know Pr)) {R:List Rt} {i:Nat} {p:List Nat} {st:St} {k0:Nat} (hk:X.bs0.length=k0) (dom:List Nat) (st1:St)
    (h0:cutM cfg k0 dom st=some st1) (hr:Ok Pr X G (go I T cfg kn R i p st1)):Ok Pr X G (leaf I T cfg R i p st):=by
  subst hI
  constructor
  intro S K a w hH hE
  exact ZP hT hm (Uo (fun f=>Z7) hr.out) (TG hk h0 ⟨S,K,hH,hE⟩)
end
section
def rgOf:Code→Option Nat
  |.region id _ _=>some id
  |.seq a b=>match rgOf a with|some r=>some r|none=>rgOf b
  |.cond _ a b=>match rgOf a with|some r=>some r|none=>rgOf b
  |.block _ b=>rgOf b
  |.loop b=>rgOf b
  |_=>none
def isLp:Code→Bool
  |.loop _=>true
  |_=>false
def fndC (lp:Bool) (r:Nat):Code→Option (List Nat)
  |.region id _ _=>match lp,Nat.beq id r with|false,true=>some []|_,_=>none
  |.seq a b=>match fndC lp r a with|some p=>some (0::p)|none=>match fndC lp r b with|some p=>some (1::p)|none=>none
  |.cond _ a b=>match fndC lp r a with|some p=>some (0::p)|none=>match fndC lp r b with|some p=>some (1::p)|none=>none
  |.block _ b=>match fndC lp r b with|some p=>some (0::p)|none=>none
  |.loop b=>match lp,rgOf b with|true,some s=>(match Nat.beq s r with|true=>some []|false=>none)|_,_=>none
  |_=>none
def fndR (lp:Bool) (r:Nat):Nat→List Rt→Option (Nat × List Nat)
  |_,[]=>none
  |i,x::l=>match fndC lp r x.B with|some p=>some (i,p)|none=>fndR lp r (i+1) l
def wrt (R:List Rt):Tree→(PT→Value)→Value
  |.need p t,k=>wrt R t fun t=>k (.need p t)
  |.br b t f,k=>wrt R t fun t=>wrt R f fun f=>k (.br b t f)
  |.call ..,k=>k (.stop 77)
  | .code c st _,k=>match rgOf c with
    | some r=>(match fndR (isLp c) r 0 R with
      |some (i,p)=>zf7 st fun st=>k (.code i p st)
      |none=>k (.stop 78))
    |none=>k (.stop 79)
  |.fin o hp,k=>QK o fun o=>Tf hp fun hp=>k (.fin o hp)
  |.both t f,k=>wrt R t fun t=>wrt R f fun f=>k (.both t f)
  |.qed,k=>k .qed
  |.stop n,k=>k (.stop n)
def sink (_:PT):Int:=0
def PQ:Program:= { (default:Program) with types:= #[{ (default:TypeInfo) with desc:=.pointer 0,methods:= #[{ name:= "",sig:=0,path:= #[],func:=some (0,true)}]}]}
def Look (_:Result (Nat × Value)):Prop:=True
variable {Pr:Program} {T:Tab} {X:Ctx} {G:AOut→List HO→Prop}
theorem orcL {I:Alg} {cfg:Cfg} {kn:List (Know Pr)} {R:List Rt} {i:Nat} {p:List Nat} {st:St}
  (h:Look (Sem.run PQ (Go.method 1 0 (wrt R (go I T cfg kn R i p st) fun t=>.int .i64 (sink t)) "") default)→Ok Pr X G (go I T cfg kn R i p st)):Ok Pr X G (go I T cfg kn R i p st):=h trivial
theorem orcS {I:Alg} {cfg:Cfg} {kn:List (Know Pr)} {R:List Rt} {i:Nat} {p:List Nat} {st:St} {pt:PT} {w:World}
  (h:go I T cfg kn R i p st=pt.inst I T cfg R) (k:Ok Pr X G (pt.inst I T cfg R)):Look (.ok (0,.int .i64 (sink pt)) w)→Ok Pr X G (go I T cfg kn R i p st):=fun _=>h▸k
end
inductive AM where
  |ret
  |pan (c:C)
def MAM (S:Frz) (bs:List Value):AM→FrameMode→Prop
  |.ret,u=>u=.returning
  |.pan c,u=>∃ v,u=.panicking [{ v:=v,recovered:=false}]∧MC S bs c v
def SpcD (Pr:Program) (g:Nat) (caps:List Cap) (m:AM) (hp:List HO) (m':AM) (hp':List HO):Prop:=
  (∃ fn,Pr.funcs[g]? =some fn∧(fn.name == "runtime.NumGoroutine")=false∧fn.body.isNone=false)∧
  ∀ (S:Frz) (K:List CO) (fr:List Chunk) (w:World) (vs:List Value) (u:FrameMode),HR S (K.map CO.base) hp K→Yi S (K.map CO.base) caps vs→At w (frzC S::(CO.zu K++fr))→MAM S (K.map CO.base) m u→
    CallsD Pr g vs.toArray u w fun e u' w'=>(∃ v,e=.returned v)∧∃ S' K',S.le S'∧Ext (K.map CO.base) (K'.map CO.base)∧HR S' (K'.map CO.base) hp' K'∧At w' (frzC S'::(CO.zu K'++fr))∧MAM S' (K'.map CO.base) m' (settle u')
structure Door (Pr:Program) where
  g:Nat
  c:Alg→AM→List Cap→List HO→Option (Prop × AM × List HO)
  ok: ∀ m caps hp p m' hp',c alg m caps hp=some (p,m',hp')→p→SpcD Pr g caps m hp m' hp'
def AM.out:AM→AEx
  |.ret=>.ret
  |.pan c=>.pan c
def zvT:AEx→Option AM
  |.normal=>some .ret
  |.ret=>some .ret
  |.pan c=>some (.pan c)
  |.exit _=>none
def zwd {Pr:Program} (I:Alg) (T:Tab) (cfg:Cfg) (k0:Nat) (fn:Func) (dk:Door Pr) (e:AEx) (st:St):Tree:=
  match st.df with
  |none=>zrg I T cfg k0 fn e st
  | some (g,caps)=>match Nat.beq g dk.g,zvT e with
    | true,some m=>(match dk.c I m caps st.hp with
      |some (p,m',hp')=>.need p (zrg I T cfg k0 fn m'.out { st with hp:=hp',df:=none})
      |none=>.stop 91)
    |_,_=>.stop 92
section
variable {Pr:Program} {T:Tab} {a:Act} {w:World}
theorem zlE {g:Nat} {fn:Func} (hfn:Pr.funcs[g]? =some fn) (hname:(fn.name == "runtime.NumGoroutine")=false) (hbody:fn.body.isNone=false) (args:Array Value):(callFunc g args).run Pr w=.ok (.enter g args) w:=by
  have hname': ¬ fn.name= "runtime.NumGoroutine" :=by simpa using hname
  have hbody': ¬ fn.body=none:=by cases hb:fn.body with|none=>rw [hb] at hbody;cases hbody|some c=>simp
  simp [callFunc,program,hfn,Sem.run]
  rw [if_neg hname',if_neg hbody']
theorem zu8 {P:Program} {T:Tab} (hT:T.fits P) (hm:P.follows .mixedOrders=true) {f:Nat} {fn:Func} (hf:P.funcs[f]? =some fn) (hn:(fn.name == "runtime.NumGoroutine")=false) (cfg:Cfg) (kn:List (Know P)) (dk:Door P) {args:List D} {hp:List HO} {out:AOut} {hp':List HO}
    (hb:(fn.body.isSome&& !VE cfg (uI fn)&&Nat.ble args.length fn.ntmps)=true)
    (h: ∀ (I:Alg) (X:Ctx),I=alg→X.bs0.length=hp.length→Ok P X (fun o h=>o=out∧h=hp') (go I T cfg kn [⟨uI fn,zwd I T cfg hp.length fn dk⟩] 0 [] { env:=zbJ 0 args,hp:=hp,n:=fn.ntmps})):Spc P f args hp out hp':=by
  simp only [Bool.and_eq_true,Bool.not_eq_true'] at hb
  obtain⟨⟨hb1,hb2⟩,hb3⟩:=hb
  obtain⟨c,hc⟩:=Option.isSome_iff_exists.1 hb1
  have hbo:uI fn=c:=by unfold uI;rw [hc]
  refine⟨⟨fn,hf,hn,by rw [hc];rfl⟩,fun S K fr w vs hHR hargs hat=> ?_⟩
  have h1:=(h alg ⟨S,K.map CO.base,fr⟩ rfl (by simp [hHR.1])).out
  have h2:=Uo (fun f=>Z7) h1
  simp only [rtAt,cAt,kAt,hbo] at h2
  have hal:=hargs.length
  have hle:=Nat.le_of_ble_eq_true hb3
  have hnow:Now ⟨S,K.map CO.base,fr⟩ { env:=zbJ 0 args,hp:=hp,n:=fn.ntmps} { tmps:=vs.toArray++Array.replicate (fn.ntmps - vs.toArray.size) undef,defers:=[]} w:=by
    refine⟨S,K,⟨Frz.le.refl S,Ext.refl _,hHR,hat⟩,⟨?_,rfl,fun t d hd=> ?_⟩⟩
    · simp [hal];omega
    · obtain⟨_,v,h1,h2⟩:=Xi hargs hd
      simp only [Nat.sub_zero] at h1
      have hlt:=(List.getElem?_eq_some_iff.1 h1).1
      have e:(vs.toArray++Array.replicate (fn.ntmps - vs.toArray.size) undef).getD t undef=v:=by
        rw [Array.getD_eq_getD_getElem?,Array.getElem?_append_left (by simpa using hlt)]
        simp [h1]
      rw [e];exact h2
  refine calls_of_wp_defers hf hc (wp_mono (ZP hT hm h2 hnow) fun e a w' hq=> ?_)
  obtain⟨e',st',hk,S',K',hH,hE,hem⟩:=hq
  have hlen:(K.map CO.base).length=hp.length:=by simp [hHR.1]
  unfold zwd at hk
  split at hk
  · rename_i hdf
    have hd:a.defers=[]:=by have:=hE.defers;rw [hdf] at this;exact this
    have hfin:=zgq (X:=⟨S,K.map CO.base,fr⟩) hT hlen hk hH hE hem
    cases e with
    |normal=>show Leaves P fn a.tmps _ a.defers .returning w';rw [hd];exact hfin
    |ret=>show Leaves P fn a.tmps _ a.defers .returning w';rw [hd];exact hfin
    |panic ch=>show Leaves P fn a.tmps _ a.defers (.panicking ch) w';rw [hd];exact hfin
    |exit i=>exact hfin.elim
    |goto l=>exact hfin.elim
    |outgrown=>exact hfin.elim
  · rename_i g caps hdf
    split at hk
    · rename_i m hg hmo
      have hg:=Nat.eq_of_beq_eq_true hg
      split at hk
      · rename_i p m' hp2 hc2
        obtain⟨hpn,hk⟩:=hk
        have hds:=hE.defers
        rw [hdf] at hds
        obtain⟨us,hcap,hds⟩:=hds
        have hspec:=dk.ok _ _ _ _ _ _ hc2 hpn
        rw [← hg] at hspec
        obtain⟨⟨gn,hgn,hgname,hgbody⟩,hspec⟩:=hspec
        have key: ∀ u,MAM S' (K'.map CO.base) m u→u≠ .run→Leaves P fn a.tmps (fun e w'=>∃ S' K',S.le S'∧Ext (K.map CO.base) (K'.map CO.base)∧HR S' (K'.map CO.base) hp' K'∧At w' (frzC S'::(CO.zu K'++fr))∧EOut S' (K'.map CO.base) out e) a.defers u w':=by
          intro u hu hrun
          rw [hds]
          refine⟨hrun,_,_,g,us.toArray,rfl,?_,CallsD.mono (hspec S' K' fr w' us u hH.2.2.1 hcap hH.2.2.2 hu) ?_⟩
          · simp only [invoke,Array.empty_append]
            exact zlE hgn hgname hgbody _
          · rintro e2 u' w2 ⟨⟨v,rfl⟩,S2,K2,hle2,hex2,hHR2,hat2,hm2⟩
            simp only
            have hH2:Heap ⟨S,K.map CO.base,fr⟩ hp2 S2 K2 w2:=⟨hH.1.trans hle2,hH.2.1.trans hex2,hHR2,hat2⟩
            have hE2:Env S2 (K2.map CO.base) { st' with hp:=hp2,df:=none} { a with defers:=[]}:=⟨hE.size,rfl,fun t d hd=>(hE.slots t d hd).mono hle2 hex2⟩
            cases m' with
            | ret=>
              have:settle u'=.returning:=hm2
              rw [this]
              exact zgq (X:=⟨S,K.map CO.base,fr⟩) (e:=.ret) hT hlen hk hH2 hE2 trivial
            | pan c=>
              obtain⟨v2,h5,h6⟩:=hm2
              rw [h5]
              exact zgq (X:=⟨S,K.map CO.base,fr⟩) (e:=.panic _) hT hlen hk hH2 hE2 ⟨v2,rfl,h6⟩
        cases e with
        |normal=>cases e'<;>first|exact hem.elim|(cases hmo;exact key .returning rfl (by simp))
        |ret=>cases e'<;>first|exact hem.elim|(cases hmo;exact key .returning rfl (by simp))
        |panic ch=>cases e'<;>first|exact hem.elim|(cases hmo;exact key (.panicking ch) (by obtain⟨v,h1,h2⟩:=hem;exact⟨v,by rw [h1],h2⟩) (by simp))
        |exit i=>cases e'<;>first|exact hem.elim|(cases hmo;done)
        |goto l=>cases e'<;>exact hem.elim
        |outgrown=>cases e'<;>exact hem.elim
      · exact hk.elim
    · exact hk.elim
def recC:AM→C
  |.ret=>.p (.val .nilIface)
  |.pan c=>c
theorem UO {P:Program} {T:Tab} (hT:T.fits P) (hm:P.follows .mixedOrders=true) {f:Nat} {fn:Func} (hf:P.funcs[f]? =some fn) (hn:(fn.name == "runtime.NumGoroutine")=false) (cfg:Cfg) (kn:List (Know P))
    {id t t2 ty0 ty1:Nat} {pos0 pos1:String} {af0 af1:Array Edge} {rest:Code}
    (hb:fn.body=some (.seq (.region id #[⟨some t,.call ⟨.builtin .recover,#[],#[]⟩,ty0,pos0,af0,none⟩,⟨some t2,.assign (.tmp t),ty1,pos1,af1,none⟩] false) rest))
    {m:AM} {caps:List Cap} {hp hp':List HO}
    (hbb:(Nat.blt t fn.ntmps&&Nat.blt t2 fn.ntmps&& !Nat.beq t t2&&Nat.ble caps.length fn.ntmps&& !VE cfg rest)=true)
    (h: ∀ (I:Alg) (X:Ctx),I=alg→X.bs0.length=hp.length→Ok P X (fun o h=>o=.ret (.tup [])∧h=hp') (go I T cfg kn [⟨uI fn,finK I T cfg hp.length fn⟩] 0 [1] (({ env:=zbJ 0 (caps.map dP),hp:=hp,n:=fn.ntmps}:St).put (some t) (.v (.one (recC m))) |>.put (some t2) (.v (.one (recC m)))))):SpcD P f caps m hp .ret hp':=by
  simp only [Bool.and_eq_true,Bool.not_eq_true'] at hbb
  obtain⟨⟨⟨⟨ht,ht2⟩,hne⟩,hle⟩,hseam⟩:=hbb
  have ht:t<fn.ntmps:=by simpa using ht
  have ht2:t2<fn.ntmps:=by simpa using ht2
  have hne:t≠t2:=Nat.ne_of_beq_eq_false hne
  have hle:=Nat.le_of_ble_eq_true hle
  refine⟨⟨fn,hf,hn,by rw [hb];rfl⟩,fun S K fr w vs u hHR hcap hat hmode=> ?_⟩
  have h1:=(h alg ⟨S,K.map CO.base,fr⟩ rfl (by simp [hHR.1])).out
  have h2:=Uo (fun f=>Z7) h1
  have hbo:uI fn=.seq (.region id #[⟨some t,.call ⟨.builtin .recover,#[],#[]⟩,ty0,pos0,af0,none⟩,⟨some t2,.assign (.tmp t),ty1,pos1,af1,none⟩] false) rest:=by unfold uI;rw [hb]
  simp only [rtAt,hbo,cAt,kAt] at h2
  have hal:=hcap.mds.length
  rw [List.length_map] at hal
  have hlen:(K.map CO.base).length=hp.length:=by simp [hHR.1]
  refine callsD_of_wpS hf hb fun c₀ cs hu=> ?_
  obtain⟨x,u1,hrec,hx,hset⟩: ∃ x u1,(match recoverD (c₀::cs) with|some (v,cs')=>(v,cs')|none=>(.nilIface,c₀::cs))=(x,{ c₀ with mode:=u1}::cs)∧MC S (K.map CO.base) (recC m) x∧settle u1=.returning:=by
    cases m with
    | ret=>
      have hmode:u=.returning:=hmode
      subst hmode
      refine⟨.nilIface,.returning,?_,.val _ rfl,rfl⟩
      simp only [recoverD,hu]
      cases c₀;simp at hu;subst hu;rfl
    | pan c=>
      obtain⟨v,rfl,hv⟩:=hmode
      refine⟨v,.panicking [{ v:=v,recovered:=true}],?_,hv,rfl⟩
      simp [recoverD,hu]
  have hnow:Now ⟨S,K.map CO.base,fr⟩ (({ env:=zbJ 0 (caps.map dP),hp:=hp,n:=fn.ntmps}:St).put (some t) (.v (.one (recC m))) |>.put (some t2) (.v (.one (recC m)))) (({ tmps:=vs.toArray++Array.replicate (fn.ntmps - vs.toArray.size) undef,defers:=[]}:Act).put (some t) x |>.put (some t2) x) w:=by
    have hE0:Env S (K.map CO.base) { env:=zbJ 0 (caps.map dP),hp:=hp,n:=fn.ntmps} { tmps:=vs.toArray++Array.replicate (fn.ntmps - vs.toArray.size) undef,defers:=[]}:=by
      refine⟨?_,rfl,fun t d hd=> ?_⟩
      · simp [hal];omega
      · obtain⟨_,v,h1,h2⟩:=Xi hcap.mds hd
        simp only [Nat.sub_zero] at h1
        have hlt:=(List.getElem?_eq_some_iff.1 h1).1
        have e:(vs.toArray++Array.replicate (fn.ntmps - vs.toArray.size) undef).getD t undef=v:=by
          rw [Array.getD_eq_getD_getElem?,Array.getElem?_append_left (by simpa using hlt)]
          simp [h1]
        rw [e];exact h2
    exact⟨S,K,by rw [sN,sN];exact⟨Frz.le.refl S,Ext.refl _,hHR,hat⟩,(hE0.put (some t) (d:=.v (.one (recC m))) hx).put (some t2) (d:=.v (.one (recC m))) hx⟩
  have hw:=ZP hT hm h2 hnow
  refine wpS_seq (wpS_region ?_)
  have hsz:t<(vs.toArray++Array.replicate (fn.ntmps - vs.toArray.size) undef).size:=by simp [hal];omega
  have hev:({ tmps:=(vs.toArray++Array.replicate (fn.ntmps - vs.toArray.size) undef).setIfInBounds t x,defers:=[]}:Act).eval (.tmp t)=x:=by
    simp only [Act.eval]
    rw [Array.getD_eq_getD_getElem?,Array.getElem?_setIfInBounds_self_of_lt hsz];rfl
  have hgoal:rest.wpS P (bodyPostS P fn c₀ cs fun e u' w'=>(∃ v,e=.returned v)∧∃ S' K',S.le S'∧Ext (K.map CO.base) (K'.map CO.base)∧HR S' (K'.map CO.base) hp' K'∧At w' (frzC S'::(CO.zu K'++fr))∧MAM S' (K'.map CO.base) .ret (settle u'))
      (({ tmps:=vs.toArray++Array.replicate (fn.ntmps - vs.toArray.size) undef,defers:=[]}:Act).put (some t) x |>.put (some t2) x) ({ c₀ with mode:=u1}::cs) w:=by
    refine wpS_of_wp (wp_mono hw fun e a' w' hq=> ?_)
    obtain⟨e',st',hk,S',K',hH,hE,hem⟩:=hq
    unfold finK at hk
    split at hk
    case h_2=>exact hk.elim
    rename_i hdf
    have hd:a'.defers=[]:=by have:=hE.defers;rw [hdf] at this;exact this
    have hfin:=zgq (X:=⟨S,K.map CO.base,fr⟩) hT hlen hk hH hE hem
    cases e with
    |normal=>obtain⟨v,hv,S2,K2,h5,h6,h7,h8,_⟩:=hfin;exact⟨hd,u1,rfl,v,hv,⟨v,rfl⟩,S2,K2,h5,h6,h7,h8,hset⟩
    |ret=>obtain⟨v,hv,S2,K2,h5,h6,h7,h8,_⟩:=hfin;exact⟨hd,u1,rfl,v,hv,⟨v,rfl⟩,S2,K2,h5,h6,h7,h8,hset⟩
    |panic ch=>obtain⟨S2,K2,h5,h6,h7,h8,h9⟩:=hfin;exact h9.elim
    |exit i=>exact hfin.elim
    |goto l=>exact hfin.elim
    |outgrown=>exact hfin.elim
  clear hnow hw
  generalize vs.toArray++Array.replicate (fn.ntmps - vs.toArray.size) undef=tm at hev hgoal hsz ⊢
  have hr0: ∀ (a:Act),(execOp a.eval ⟨some t,.call ⟨.builtin .recover,#[],#[]⟩,ty0,pos0,af0,none⟩).run P w=.ok .recover w:=by
    intro a;simp [execOp,Go.resolve,invoke,builtin]
  simp only [List.size_toArray,List.length_cons,List.length_nil,Nat.zero_add,Nat.reduceAdd,List.range_succ_eq_map,List.range_zero,List.map_cons,List.map_nil]
  simp only [wpOpsS,List.getElem?_toArray,List.getElem?_cons_zero,List.getElem?_cons_succ,Region.wanted,if_true,hr0]
  cases hq:recoverD (c₀::cs) with
  | none=>
    rw [hq] at hrec
    simp only [Prod.mk.injEq] at hrec
    obtain⟨rfl,hcs⟩:=hrec
    simp only [Act.put,execOp,Sem.run_pure,hev,Oper.upon,Exit.thenS]
    rw [hcs]
    exact hgoal
  | some y=>
    obtain⟨y,cs'⟩:=y
    rw [hq] at hrec
    simp only [Prod.mk.injEq] at hrec
    obtain⟨rfl,rfl⟩:=hrec
    simp only [Act.put,execOp,Sem.run_pure,hev,Oper.upon,Exit.thenS]
    exact hgoal
end
theorem nrmA:type_of% (And.intro @zic <| And.intro @zpl <| And.intro @sK <| And.intro @Z8 <| And.intro @zh9 <| And.intro @zh8 <| And.intro @zpk <| And.intro @zkx <| And.intro @zer <| And.intro @zes <| And.intro @zet <| And.intro @zeu <| And.intro @TN <| And.intro @Yc <| And.intro @zbz <| And.intro @zib <| And.intro @zbx <| And.intro @yA <| And.intro @Wp <| And.intro @sJ <| And.intro @zev <| And.intro @zh7 <| And.intro @zby <| And.intro @TM <| And.intro @Ya <| And.intro @UN <| And.intro @Z9 <| And.intro @Yb <| And.intro @zeq <| And.intro @TL <| And.intro @zia <| And.intro @zpj <| And.intro @zpi <| @zky):=And.intro @zic <| And.intro @zpl <| And.intro @sK <| And.intro @Z8 <| And.intro @zh9 <| And.intro @zh8 <| And.intro @zpk <| And.intro @zkx <| And.intro @zer <| And.intro @zes <| And.intro @zet <| And.intro @zeu <| And.intro @TN <| And.intro @Yc <| And.intro @zbz <| And.intro @zib <| And.intro @zbx <| And.intro @yA <| And.intro @Wp <| And.intro @sJ <| And.intro @zev <| And.intro @zh7 <| And.intro @zby <| And.intro @TM <| And.intro @Ya <| And.intro @UN <| And.intro @Z9 <| And.intro @Yb <| And.intro @zeq <| And.intro @TL <| And.intro @zia <| And.intro @zpj <| And.intro @zpi <| @zky
theorem nrmB:type_of% (And.intro @decide_eq_true_eq <| And.intro @decide_eq_false_iff_not <| And.intro @beq_iff_eq.{0} <| And.intro @beq_eq_false_iff_ne.{0} <| And.intro @Bool.not_eq_true' <| And.intro @Bool.not_eq_false' <| And.intro @Bool.and_eq_true <| And.intro @Bool.and_true <| And.intro @Bool.true_and <| And.intro @and_true <| And.intro @true_and <| And.intro @ne_eq.{1} <| And.intro @Int.toNat_zero <| And.intro @Nat.sub_zero <| And.intro @List.drop_zero.{0} <| And.intro @zdT <| And.intro @zdU <| And.intro @zrJ <| And.intro @zrK <| And.intro @zfh <| And.intro @Za <| And.intro @Int.toNat_natCast <| And.intro @Int.ofNat_eq_natCast <| And.intro @UInt8.ofNat_toNat <| And.intro @AOut.ret.injEq <| And.intro @AOut.pan.injEq <| And.intro @C.ifc.injEq <| And.intro @D.v.injEq <| And.intro @D.tup.injEq <| And.intro @V0.one.injEq <| And.intro @C.p.injEq <| And.intro @P.bool.injEq <| And.intro @P.int.injEq <| And.intro @P.str.injEq <| And.intro @Bool.false_eq_true <| And.intro @Bool.true_eq_false <| And.intro @imp_false <| And.intro @Decidable.not_not <| And.intro @not_true_eq_false <| @not_false_eq_true):=And.intro @decide_eq_true_eq <| And.intro @decide_eq_false_iff_not <| And.intro @beq_iff_eq.{0} <| And.intro @beq_eq_false_iff_ne.{0} <| And.intro @Bool.not_eq_true' <| And.intro @Bool.not_eq_false' <| And.intro @Bool.and_eq_true <| And.intro @Bool.and_true <| And.intro @Bool.true_and <| And.intro @and_true <| And.intro @true_and <| And.intro @ne_eq.{1} <| And.intro @Int.toNat_zero <| And.intro @Nat.sub_zero <| And.intro @List.drop_zero.{0} <| And.intro @zdT <| And.intro @zdU <| And.intro @zrJ <| And.intro @zrK <| And.intro @zfh <| And.intro @Za <| And.intro @Int.toNat_natCast <| And.intro @Int.ofNat_eq_natCast <| And.intro @UInt8.ofNat_toNat <| And.intro @AOut.ret.injEq <| And.intro @AOut.pan.injEq <| And.intro @C.ifc.injEq <| And.intro @D.v.injEq <| And.intro @D.tup.injEq <| And.intro @V0.one.injEq <| And.intro @C.p.injEq <| And.intro @P.bool.injEq <| And.intro @P.int.injEq <| And.intro @P.str.injEq <| And.intro @Bool.false_eq_true <| And.intro @Bool.true_eq_false <| And.intro @imp_false <| And.intro @Decidable.not_not <| And.intro @not_true_eq_false <| @not_false_eq_true
theorem nrlB:type_of% (And.intro @List.cons.injEq.{0} <| And.intro @P.list.injEq <| And.intro @HO.row.injEq <| And.intro @heq_eq_eq.{1} <| And.intro @false_and <| @and_false):=And.intro @List.cons.injEq.{0} <| And.intro @P.list.injEq <| And.intro @HO.row.injEq <| And.intro @heq_eq_eq.{1} <| And.intro @false_and <| @and_false
theorem zwr:dflt .byte=(0:UInt8)∧dflt .int=(0:Int)∧dflt .str=([]:Str)∧dflt .fld=(⟨[],[]⟩:Fld)∧dflt .bytes=([]:Str)∧dflt .hd=(⟨[],[],0,[],0⟩:Hd)∧dflt .prt=(⟨[],[],[],[]⟩:Prt)∧dflt .evt=(⟨0,⟨[],[],0,[],0⟩,[],⟨[],[],[],[]⟩,0⟩:Evt)∧dflt .upl=(⟨0,0,[],[],0⟩:Upl)∧dflt .ent=(⟨0,0,0,[]⟩:Ent)∧dflt .stp=(⟨0,0,0,[]⟩:Stp)∧dflt .ask=(⟨⟨[],[],0,[],0⟩,[]⟩:Ask)∧dflt .cal=(⟨0,false,[]⟩:Cal)∧dflt .tri=(⟨0,[],[]⟩:Tri)∧dflt .lst=(⟨0,0,[]⟩:Lst)∧dflt .sst=(⟨0,0,0,[]⟩:Sst)∧dflt .upls=([]:List Upl)∧dflt .strs=([]:List Str)∧dflt .rpl=(⟨0,[],[]⟩:Rpl)∧dflt .med=(⟨[],[]⟩:Med)∧dflt .prw=(⟨[],[],[],[]⟩:Prt):=by repeat' constructor
theorem zi:type_of% (And.intro @zfx <| And.intro @znV <| And.intro @zfz <| And.intro @zjE <| And.intro @zjD <| And.intro @zfw <| And.intro @zfy <| And.intro @Option.getD_some.{0} <| And.intro @Option.getD_none.{0} <| zwr):=And.intro @zfx <| And.intro @znV <| And.intro @zfz <| And.intro @zjE <| And.intro @zjD <| And.intro @zfw <| And.intro @zfy <| And.intro @Option.getD_some.{0} <| And.intro @Option.getD_none.{0} <| zwr
end Go.Ab
namespace Go.Ab
open Go Go.Sep Go.RowKit
variable [Facts]
def Holds (W:World):Prop:=∀ w:World,(∀ (k:Nat) (o:Obj),W.heap[k]? =some o→w.heap[k]? =some o)→Facts.p w
def frzW (W:World) (hF:Holds W):Frz:=⟨fun k=>W.heap[k]?,W.os,W.tape,W.output,fun w hw=>hF w hw.2.2.2⟩
theorem tabIs_of {Pr:Program} {W w:World} (h: ∀ (k:Nat) (o:Obj),W.heap[k]? =some o→w.heap[k]? =some o) {name:String} {cs:Array Value} (hv:W.var? Pr name=some cs):w.var? Pr name=some cs:=by
  unfold World.var? at hv ⊢
  cases hg:Pr.globalNamed name with
  |none=>rw [hg] at hv;cases hv
  | some g=>
    rw [hg] at hv
    simp only [Option.bind_some] at hv ⊢
    split at hv
    · rename_i cs' t f hc;rw [h _ _ hc];exact hv
    · cases hv
theorem zt7 (W:World) (hF:Holds W):At W [frzC (frzW W hF)]:=
  ⟨fun k=>(W.heap[k]?).isSome=true,fun k=>(W.heap[k]?).isSome=true,fun _=>False,fun k=>by simp,fun _ _ h=>h,⟨fun _=>Iff.rfl,rfl,rfl,rfl,fun _ _ h=>h⟩,fun _ h=>h⟩
theorem zcJ {W w:World} {hF:Holds W} (h:(frzW W hF).on w):Below W.heap.size W w:=by
  obtain⟨h1,h2,h3,h4⟩:=h
  have hb: ∀ k,k<W.heap.size→w.heap[k]? =W.heap[k]? :=fun k hk=>by
    have:W.heap[k]? =some W.heap[k]:=by simp [hk]
    rw [h4 k _ this,this]
  refine⟨h1,h2,h3,?_,hb⟩
  rcases Nat.lt_or_ge w.heap.size W.heap.size with hlt|hge
  · have:=hb w.heap.size hlt
    simp at this
    omega
  · exact hge
theorem zt6 {W:World} {hF:Holds W} {size:Nat} {v:Value} {n:Nat} {cs:List Value} (h:Rd W size v n cs):RdS (frzW W hF) size v n cs:=by
  intro w hw
  obtain⟨ao,cap,e,h1,h2,h4,h3,hc⟩:=h
  refine⟨ao,cap,e,h1,h2,h4,h3,fun j u hu=> ?_⟩
  obtain⟨hs,hcell⟩:=hc j u hu
  exact⟨hs,((zcJ hw).cell (block_lt hcell)).trans hcell⟩
theorem Spc.law {Pr:Program} {f:Nat} {args:List D} {hp':List HO} {W:World} {hF:Holds W} {vs:List Value} (h:Spc Pr f args [] (.ret (.v (.one (.p (.bool true))))) hp') (ha:MDs (frzW W hF) [] args vs):
    Calls Pr f vs.toArray W fun e w'=>e=.returned (.bool true)∧Below W.heap.size W w':=by
  refine(h.2 (frzW W hF) [] [] W vs ⟨rfl,fun i o c h=>by simp at h⟩ ha (zt7 W hF)).mono fun e w' he=> ?_
  obtain⟨S',K',hle,_,_,hat,ho⟩:=he
  refine⟨?_,zcJ ((At.frz hat).mono hle)⟩
  cases e with
  |returned v=>cases ho;rfl
  |panicked ch=>exact ho.elim
  |outgrown=>exact ho.elim
theorem ztE {W:World} {hF:Holds W} {v:Value} {u:U} {R:Sep.Rel u.den} (hR: ∀ cs x,R W cs x→MPs (frzW W hF) (enc alg u x) cs) {xs:List u.den} (h:RSl u.size R W [v] xs):MD (frzW W hF) [] (.v (.one (.p (.list u xs)))) v:=by
  obtain⟨v',vs,e,hr,hx⟩:=h
  cases e
  have hlen:=hr.len
  obtain⟨ao,cap,rfl,_⟩:=id hr
  refine MP.list u xs ao cap vs hlen (zt6 hr) fun i x j p v hi hj hv=> ?_
  have hm:=hR _ _ (hx i x hi)
  obtain⟨v',h1,h2⟩:=hm.get hj
  rw [List.getElem?_take] at h1
  split at h1
  · rw [List.getElem?_drop,hv] at h1
    cases h1;exact h2
  · cases h1
theorem ztF {W:World} {hF:Holds W} {cs:List Value} {x:UInt8} (h:zrH W cs x):MPs (frzW W hF) (enc alg .byte x) cs:=by
  rw [show cs=[bv x] from h];exact⟨.int _ _,trivial⟩
end Go.Ab
namespace Go.Proofs.YtmkcejdibmilmaaGreatDoor
open Go Go.Ab
def lnS (l:Ln):HO:=.pack [.obj 165 [.row 1,.p (.bool l.cr),.p (.int .i64 l.code)],.row .byte 5 l.b]
def chS (c:Ch):HO:=.pack [.obj 189 [.ptr 1 0,.p (.int .i64 c.pos),.p (.int .i64 c.left),.p (.int .i64 c.all),.p (.int .i64 c.tails),.p (.int .i64 c.code)],lnS c.ln]
def rqS:Rq→List HO
  |⟨ln,p,⟨m,t,mi,f,le⟩,n,none,true,out⟩=>[.obj 122 [.ptr 1 0,.p (.int .i64 p),.p (.str m),.p (.str t),.p (.int .i64 mi),.row 2,.p (.int .i64 le),.p (.int .i64 n),.p (.val (.pointer none)),.row 3],lnS ln,.row .fld 97 f,.row .evt 53 out]
  |⟨ln,p,⟨m,t,mi,f,le⟩,n,some c,true,out⟩=>[.obj 122 [.ptr 1 0,.p (.int .i64 p),.p (.str m),.p (.str t),.p (.int .i64 mi),.row 2,.p (.int .i64 le),.p (.int .i64 n),.ptr 3 0,.row 4],lnS ln,.row .fld 97 f,chS c,.row .evt 53 out]
  |⟨ln,p,⟨m,t,mi,f,le⟩,n,none,false,out⟩=>[.obj 122 [.ptr 1 0,.p (.int .i64 p),.p (.str m),.p (.str t),.p (.int .i64 mi),.p (.list .fld f),.p (.int .i64 le),.p (.int .i64 n),.p (.val (.pointer none)),.row 2],lnS ln,.row .evt 53 out]
  |⟨ln,p,⟨m,t,mi,f,le⟩,n,some c,false,out⟩=>[.obj 122 [.ptr 1 0,.p (.int .i64 p),.p (.str m),.p (.str t),.p (.int .i64 mi),.p (.list .fld f),.p (.int .i64 le),.p (.int .i64 n),.ptr 2 0,.row 3],lnS ln,chS c,.row .evt 53 out]
def skO (m:Str) (n:Int) (bs:List Int):HO:=.pack [.obj 273 [.row 1,.row 2,.p (.int .i64 n)],.row .byte 5 m,.row .int 3 bs]
def fmS:Fm→List HO
  |⟨m,n,bs,p,none,f,pa,sk,co,out⟩=>[.obj 259 [.ptr 1 0,.p (.int .i64 p),.p (.val (.pointer none)),.row 2,.p (.int .i64 pa),.p (.int .i64 sk),.p (.int .i64 co),.row 3],skO m n bs,.row .fld 97 f,.row .evt 53 out]
  |⟨m,n,bs,p,some l,f,pa,sk,co,out⟩=>[.obj 259 [.ptr 1 0,.p (.int .i64 p),.ptr 2 0,.row 3,.p (.int .i64 pa),.p (.int .i64 sk),.p (.int .i64 co),.row 4],skO m n bs,lnS l,.row .fld 97 f,.row .evt 53 out]
def cnS:Cn→List HO
  |⟨q,⟨m,t,mi,f,le⟩,b,i,true⟩=>[.obj 82 [.ptr 1 0,.p (.str m),.p (.str t),.p (.int .i64 mi),.p (.list .fld f),.p (.int .i64 le),.row 2,.p (.bool i)],.abs (.rq q),.row .byte 5 b]
  |⟨q,⟨m,t,mi,f,le⟩,b,i,false⟩=>[.obj 82 [.ptr 1 0,.p (.str m),.p (.str t),.p (.int .i64 mi),.p (.list .fld f),.p (.int .i64 le),.p (.list .byte b),.p (.bool i)],.abs (.rq q)]
def shapes:Gh→List HO
  |.rq q=>rqS q
  |.fm f=>fmS f
  |.cn c=>cnS c
  |_=>[]
def lnU:HO→Option Ln
  |.pack [.obj t [.row 1,.p (.bool cr),.p (.int .i64 co)],.row .byte e b]=>match Nat.beq t 165,Nat.beq e 5 with|true,true=>some ⟨b,cr,co⟩|_,_=>none
  |_=>none
theorem zcp {o:HO} {l:Ln} (h:lnU o=some l):o=lnS l:=by
  unfold lnU at h
  split at h
  · split at h
    · rename_i h1 h2;cases h;rw [Nat.eq_of_beq_eq_true h1,Nat.eq_of_beq_eq_true h2];rfl
    · cases h
  · cases h
def chU:HO→Option Ch
  |.pack [.obj t [.ptr 1 0,.p (.int .i64 p),.p (.int .i64 l),.p (.int .i64 a),.p (.int .i64 tl),.p (.int .i64 co)],o]=>match Nat.beq t 189,lnU o with|true,some ln=>some ⟨ln,p,l,a,tl,co⟩|_,_=>none
  |_=>none
theorem zsp {o:HO} {l:Ch} (h:chU o=some l):o=chS l:=by
  unfold chU at h
  split at h
  · split at h
    · rename_i h1 h2;cases h;rw [Nat.eq_of_beq_eq_true h1,zcp h2];rfl
    · cases h
  · cases h
def evU:HO→Option (List Evt)
  |.row .evt e l=>match Nat.beq e 53 with|true=>some l|false=>none
  |_=>none
theorem zc3 {o:HO} {l:List Evt} (h:evU o=some l):o=.row .evt 53 l:=by
  unfold evU at h
  split at h
  · split at h
    · rename_i h1;cases h;rw [Nat.eq_of_beq_eq_true h1]
    · cases h
  · cases h
def flU:HO→Option (List Fld)
  |.row .fld e l=>match Nat.beq e 97 with|true=>some l|false=>none
  |_=>none
theorem zjU {o:HO} {l:List Fld} (h:flU o=some l):o=.row .fld 97 l:=by
  unfold flU at h
  split at h
  · split at h
    · rename_i h1;cases h;rw [Nat.eq_of_beq_eq_true h1]
    · cases h
  · cases h
def rqU:List HO→Option Rq
  | .obj t [.ptr 1 0,.p (.int .i64 p),.p (.str m),.p (.str tg),.p (.int .i64 mi),.row 2,.p (.int .i64 le),.p (.int .i64 n),.p (.val (.pointer none)),.row 3]::r=>(match Nat.beq t 122,r with
    |true,[a,b,c]=>(match lnU a,flU b,evU c with|some ln,some f,some out=>some ⟨ln,p,⟨m,tg,mi,f,le⟩,n,none,true,out⟩|_,_,_=>none)
    |_,_=>none)
  | .obj t [.ptr 1 0,.p (.int .i64 p),.p (.str m),.p (.str tg),.p (.int .i64 mi),.row 2,.p (.int .i64 le),.p (.int .i64 n),.ptr 3 0,.row 4]::r=>(match Nat.beq t 122,r with
    |true,[a,b,c,d]=>(match lnU a,flU b,chU c,evU d with|some ln,some f,some ck,some out=>some ⟨ln,p,⟨m,tg,mi,f,le⟩,n,some ck,true,out⟩|_,_,_,_=>none)
    |_,_=>none)
  | .obj t [.ptr 1 0,.p (.int .i64 p),.p (.str m),.p (.str tg),.p (.int .i64 mi),.p (.list .fld f),.p (.int .i64 le),.p (.int .i64 n),.p (.val (.pointer none)),.row 2]::r=>(match Nat.beq t 122,r with
    |true,[a,c]=>(match lnU a,evU c with|some ln,some out=>some ⟨ln,p,⟨m,tg,mi,f,le⟩,n,none,false,out⟩|_,_=>none)
    |_,_=>none)
  | .obj t [.ptr 1 0,.p (.int .i64 p),.p (.str m),.p (.str tg),.p (.int .i64 mi),.p (.list .fld f),.p (.int .i64 le),.p (.int .i64 n),.ptr 2 0,.row 3]::r=>(match Nat.beq t 122,r with
    |true,[a,c,d]=>(match lnU a,chU c,evU d with|some ln,some ck,some out=>some ⟨ln,p,⟨m,tg,mi,f,le⟩,n,some ck,false,out⟩|_,_,_=>none)
    |_,_=>none)
  |_=>none
theorem zvl {l:List HO} {q:Rq} (h:rqU l=some q):l=rqS q:=by
  unfold rqU at h
  split at h
  · split at h
    · rename_i h1;split at h
      · rename_i h2 h3 h4;cases h;rw [Nat.eq_of_beq_eq_true h1,zcp h2,zjU h3,zc3 h4];rfl
      · cases h
    · cases h
  · split at h
    · rename_i h1;split at h
      · rename_i h2 h3 h5 h4;cases h;rw [Nat.eq_of_beq_eq_true h1,zcp h2,zjU h3,zsp h5,zc3 h4];rfl
      · cases h
    · cases h
  · split at h
    · rename_i h1;split at h
      · rename_i h2 h4;cases h;rw [Nat.eq_of_beq_eq_true h1,zcp h2,zc3 h4];rfl
      · cases h
    · cases h
  · split at h
    · rename_i h1;split at h
      · rename_i h2 h5 h4;cases h;rw [Nat.eq_of_beq_eq_true h1,zcp h2,zsp h5,zc3 h4];rfl
      · cases h
    · cases h
  · cases h
def skU:HO→Option (Str × Int × List Int)
  |.pack [.obj t [.row 1,.row 2,.p (.int .i64 n)],.row .byte e m,.row .int e2 bs]=>match Nat.beq t 273,Nat.beq e 5,Nat.beq e2 3 with|true,true,true=>some (m,n,bs)|_,_,_=>none
  |_=>none
theorem zrM {o:HO} {x:Str × Int × List Int} (h:skU o=some x):o=skO x.1 x.2.1 x.2.2:=by
  unfold skU at h
  split at h
  · split at h
    · rename_i h1 h2 h3;cases h;rw [Nat.eq_of_beq_eq_true h1,Nat.eq_of_beq_eq_true h2,Nat.eq_of_beq_eq_true h3];rfl
    · cases h
  · cases h
def fmU:List HO→Option Fm
  | .obj t [.ptr 1 0,.p (.int .i64 p),.p (.val (.pointer none)),.row 2,.p (.int .i64 pa),.p (.int .i64 sk),.p (.int .i64 co),.row 3]::r=>(match Nat.beq t 259,r with
    |true,[a,b,c]=>(match skU a,flU b,evU c with|some x,some f,some out=>some ⟨x.1,x.2.1,x.2.2,p,none,f,pa,sk,co,out⟩|_,_,_=>none)
    |_,_=>none)
  | .obj t [.ptr 1 0,.p (.int .i64 p),.ptr 2 0,.row 3,.p (.int .i64 pa),.p (.int .i64 sk),.p (.int .i64 co),.row 4]::r=>(match Nat.beq t 259,r with
    |true,[a,l,b,c]=>(match skU a,lnU l,flU b,evU c with|some x,some ln,some f,some out=>some ⟨x.1,x.2.1,x.2.2,p,some ln,f,pa,sk,co,out⟩|_,_,_,_=>none)
    |_,_=>none)
  |_=>none
theorem zv9 {l:List HO} {q:Fm} (h:fmU l=some q):l=fmS q:=by
  unfold fmU at h
  split at h
  · split at h
    · rename_i h1;split at h
      · rename_i h2 h3 h4;cases h;rw [Nat.eq_of_beq_eq_true h1,zrM h2,zjU h3,zc3 h4];rfl
      · cases h
    · cases h
  · split at h
    · rename_i h1;split at h
      · rename_i h2 h5 h3 h4;cases h;rw [Nat.eq_of_beq_eq_true h1,zrM h2,zcp h5,zjU h3,zc3 h4];rfl
      · cases h
    · cases h
  · cases h
def cnU:List HO→Option Cn
  |[.obj t [.ptr 1 0,.p (.str m),.p (.str tg),.p (.int .i64 mi),.p (.list .fld f),.p (.int .i64 le),.row 2,.p (.bool i)],.abs (.rq q),.row .byte e b]=>match Nat.beq t 82,Nat.beq e 5 with|true,true=>some ⟨q,⟨m,tg,mi,f,le⟩,b,i,true⟩|_,_=>none
  |[.obj t [.ptr 1 0,.p (.str m),.p (.str tg),.p (.int .i64 mi),.p (.list .fld f),.p (.int .i64 le),.p (.list .byte b),.p (.bool i)],.abs (.rq q)]=>match Nat.beq t 82 with|true=>some ⟨q,⟨m,tg,mi,f,le⟩,b,i,false⟩|_=>none
  |_=>none
theorem zwy {l:List HO} {q:Cn} (h:cnU l=some q):l=cnS q:=by
  unfold cnU at h
  split at h
  · split at h
    · rename_i h1 h2;cases h;rw [Nat.eq_of_beq_eq_true h1,Nat.eq_of_beq_eq_true h2];rfl
    · cases h
  · split at h
    · rename_i h1;cases h;rw [Nat.eq_of_beq_eq_true h1];rfl
    · cases h
  · cases h
def shapeOf (l:List HO):Option Gh:=match rqU l with
  |some q=>some (.rq q)
  |none=>(match fmU l with|some f=>some (.fm f)|none=>(match cnU l with|some c=>some (.cn c)|none=>none))
theorem zkH (l:List HO) (g:Gh) (h:shapeOf l=some g):shapes g=l:=by
  unfold shapeOf at h
  split at h
  · rename_i q hq;cases h;exact(zvl hq).symm
  · split at h
    · rename_i q hq;cases h;exact(zv9 hq).symm
    · split at h
      · rename_i q hq;cases h;exact(zwy hq).symm
      · cases h
end Go.Proofs.YtmkcejdibmilmaaGreatDoor
namespace Go.Proofs.YtmkcejdibmilmaaGreatDoor
open Go Go.Ab
instance facts:Facts:= { p:=fun w=>Lib.TabIs Tryz.prog w "internal/strconv.uint64pow10" .u64 Lib.pow10Tab∧∃ m:Int,w.cell? ⟨0,0,none⟩=some (.int .i64 m),sh:=shapes,ab:=shapeOf,abok:=zkH}
def tabT:TT:=
 (.node (.node (.node (.node (.node (.node (.node (.node (.node .nil 0 ⟨.other,1,0,none,none⟩
 .nil) 1 ⟨.other,1,8,(some [.val .nilFunc]),none⟩
 .nil) 2 ⟨.int .i64,1,8,(some [.int .i64 0]),none⟩
 (.node .nil 3 ⟨.int .i64,1,8,(some [.int .i64 0]),none⟩
 .nil)) 4 ⟨.bool,1,1,(some [.bool false]),none⟩
 (.node (.node (.node .nil 5 ⟨.int .u8,1,1,(some [.int .u8 0]),none⟩
 .nil) 6 ⟨.int .u8,1,1,(some [.int .u8 0]),none⟩
 .nil) 9 ⟨.str,1,16,(some [.str []]),none⟩
 (.node .nil 10 ⟨.str,1,16,(some [.str []]),none⟩
 .nil))) 11 ⟨.str,1,16,(some [.str []]),none⟩
 (.node (.node (.node (.node .nil 12 ⟨.int .u64,1,8,(some [.int .u64 0]),none⟩
 .nil) 15 ⟨.ptr,1,8,(some [.val (.pointer none)]),none⟩
 .nil) 16 ⟨.ptr,1,8,(some [.val (.pointer none)]),none⟩
 (.node .nil 17 ⟨.ptr,1,8,(some [.val (.pointer none)]),none⟩
 .nil)) 20 ⟨.iface,1,16,(some [.val .nilIface]),none⟩
 (.node (.node .nil 21 ⟨.int .i32,1,4,(some [.int .i32 0]),none⟩
 .nil) 22 ⟨.slice 5,1,24,(some [.list .byte []]),(some .byte)⟩
 (.node .nil 23 ⟨.slice 3,1,24,(some [.list .int []]),(some .int)⟩
 .nil)))) 24 ⟨.other,1,8,(some [.val .nilFunc]),none⟩
 (.node (.node (.node (.node (.node .nil 25 ⟨.int .u64,1,8,(some [.int .u64 0]),none⟩
 .nil) 26 ⟨.ptr,1,8,(some [.val (.pointer none)]),none⟩
 .nil) 27 ⟨.other,1,8,(some [.val .nilFunc]),none⟩
 (.node .nil 28 ⟨.ptr,1,8,(some [.val (.pointer none)]),none⟩
 .nil)) 29 ⟨.other,1,8,(some [.val .nilFunc]),none⟩
 (.node (.node .nil 30 ⟨.slice 22,1,24,(some [.list .bytes []]),(some .bytes)⟩
 .nil) 31 ⟨.other,1,8,(some [.val .nilFunc]),none⟩
 (.node .nil 32 ⟨.other,1,0,none,none⟩
 .nil))) 33 ⟨.other,1,8,(some [.val .nilFunc]),none⟩
 (.node (.node (.node (.node .nil 34 ⟨.other,1,8,(some [.val .nilFunc]),none⟩
 .nil) 35 ⟨.other,1,8,(some [.val .nilFunc]),none⟩
 .nil) 36 ⟨.slice 86,1,24,(some [.list .upl []]),(some .upl)⟩
 (.node .nil 37 ⟨.other,1,8,(some [.val .nilFunc]),none⟩
 .nil)) 38 ⟨.ptr,1,8,(some [.val (.pointer none)]),none⟩
 (.node (.node .nil 39 ⟨.ptr,1,8,(some [.val (.pointer none)]),none⟩
 .nil) 40 ⟨.struct [(0,38),(1,39)],2,16,(some [.val (.pointer none),.val (.pointer none)]),none⟩
 (.node .nil 41 ⟨.struct [(0,38),(1,39)],2,16,(some [.val (.pointer none),.val (.pointer none)]),none⟩
 .nil))))) 42 ⟨.other,1,8,(some [.val .nilFunc]),none⟩
 (.node (.node (.node (.node (.node (.node .nil 43 ⟨.other,1,8,(some [.val .nilFunc]),none⟩
 .nil) 44 ⟨.slice 53,1,24,(some [.list .evt []]),(some .evt)⟩
 .nil) 45 ⟨.other,1,0,none,none⟩
 (.node .nil 46 ⟨.other,1,8,(some [.val .nilFunc]),none⟩
 .nil)) 47 ⟨.slice 97,1,24,(some [.list .fld []]),(some .fld)⟩
 (.node (.node .nil 48 ⟨.struct [(0,9),(1,9),(2,3),(3,47),(4,3)],5,72,(some [.str [],.str [],.int .i64 0,.list .fld [],.int .i64 0]),none⟩
 .nil) 49 ⟨.struct [(0,9),(1,9),(2,3),(3,47),(4,3)],5,72,(some [.str [],.str [],.int .i64 0,.list .fld [],.int .i64 0]),none⟩
 (.node .nil 50 ⟨.struct [(0,9),(1,9),(2,9),(3,22)],4,72,(some [.str [],.str [],.str [],.list .byte []]),none⟩
 .nil))) 51 ⟨.struct [(0,9),(1,9),(2,9),(3,22)],4,72,(some [.str [],.str [],.str [],.nl []]),none⟩
 (.node (.node (.node (.node .nil 52 ⟨.struct [(0,3),(1,49),(6,22),(7,51),(11,3)],12,184,(some [.int .i64 0,.str [],.str [],.int .i64 0,.list .fld [],.int .i64 0,.list .byte [],.str [],.str [],.str [],.nl [],.int .i64 0]),none⟩
 .nil) 53 ⟨.struct [(0,3),(1,49),(6,22),(7,51),(11,3)],12,184,(some [.int .i64 0,.str [],.str [],.int .i64 0,.list .fld [],.int .i64 0,.list .byte [],.str [],.str [],.str [],.nl [],.int .i64 0]),none⟩
 .nil) 54 ⟨.ptr,1,8,(some [.val (.pointer none)]),none⟩
 (.node .nil 55 ⟨.array 4 54,4,32,(some [.val (.pointer none),.val (.pointer none),.val (.pointer none),.val (.pointer none)]),none⟩
 .nil)) 56 ⟨.struct [(0,26),(1,55)],5,40,(some [.val (.pointer none),.val (.pointer none),.val (.pointer none),.val (.pointer none),.val (.pointer none)]),none⟩
 (.node (.node .nil 57 ⟨.struct [(0,26),(1,55)],5,40,(some [.val (.pointer none),.val (.pointer none),.val (.pointer none),.val (.pointer none),.val (.pointer none)]),none⟩
 .nil) 58 ⟨.other,1,8,(some [.val .nilFunc]),none⟩
 (.node .nil 59 ⟨.slice 64,1,24,(some [.list .cal []]),(some .cal)⟩
 .nil)))) 60 ⟨.other,1,8,(some [.val .nilFunc]),none⟩
 (.node (.node (.node (.node (.node .nil 61 ⟨.ptr,1,8,(some [.val (.pointer none)]),none⟩
 .nil) 62 ⟨.other,1,8,(some [.val .nilFunc]),none⟩
 .nil) 63 ⟨.struct [(0,3),(1,4),(2,22)],3,40,(some [.int .i64 0,.bool false,.list .byte []]),none⟩
 (.node .nil 64 ⟨.struct [(0,3),(1,4),(2,22)],3,40,(some [.int .i64 0,.bool false,.list .byte []]),none⟩
 .nil)) 65 ⟨.other,1,8,(some [.val .nilFunc]),none⟩
 (.node (.node .nil 66 ⟨.other,1,8,(some [.val .nilFunc]),none⟩
 .nil) 67 ⟨.struct [(0,36),(1,3)],2,32,(some [.list .upl [],.int .i64 0]),none⟩
 (.node .nil 68 ⟨.struct [(0,36),(1,3)],2,32,(some [.list .upl [],.int .i64 0]),none⟩
 .nil))) 69 ⟨.ptr,1,8,(some [.val (.pointer none)]),none⟩
 (.node (.node (.node (.node .nil 70 ⟨.struct [(0,69),(1,22),(2,3)],3,40,(some [.val (.pointer none),.list .byte [],.int .i64 0]),none⟩
 .nil) 71 ⟨.struct [(0,69),(1,22),(2,3)],3,40,(some [.val (.pointer none),.list .byte [],.int .i64 0]),none⟩
 .nil) 72 ⟨.ptr,1,8,(some [.val (.pointer none)]),none⟩
 (.node .nil 73 ⟨.struct [(0,22),(1,3),(2,4)],3,40,(some [.list .byte [],.int .i64 0,.bool false]),none⟩
 .nil)) 74 ⟨.struct [(0,22),(1,3),(2,4)],3,40,(some [.list .byte [],.int .i64 0,.bool false]),none⟩
 (.node (.node .nil 75 ⟨.array 4 74,12,160,(some [.list .byte [],.int .i64 0,.bool false,.list .byte [],.int .i64 0,.bool false,.list .byte [],.int .i64 0,.bool false,.list .byte [],.int .i64 0,.bool false]),none⟩
 .nil) 76 ⟨.struct [(0,72),(1,75),(13,23)],14,192,(some [.val (.pointer none),.list .byte [],.int .i64 0,.bool false,.list .byte [],.int .i64 0,.bool false,.list .byte [],.int .i64 0,.bool false,.list .byte [],.int .i64 0,.bool false,.list .int []]),none⟩
 (.node .nil 77 ⟨.struct [(0,72),(1,75),(13,23)],14,192,(some [.val (.pointer none),.list .byte [],.int .i64 0,.bool false,.list .byte [],.int .i64 0,.bool false,.list .byte [],.int .i64 0,.bool false,.list .byte [],.int .i64 0,.bool false,.list .int []]),none⟩
 .nil)))))) 78 ⟨.other,1,8,(some [.val .nilFunc]),none⟩
 (.node (.node (.node (.node (.node (.node (.node .nil 79 ⟨.other,1,8,(some [.val .nilFunc]),none⟩
 .nil) 80 ⟨.ptr,1,8,(some [.val (.pointer none)]),none⟩
 .nil) 81 ⟨.struct [(0,80),(1,49),(6,22),(7,4)],8,112,(some [.val (.pointer none),.str [],.str [],.int .i64 0,.list .fld [],.int .i64 0,.list .byte [],.bool false]),none⟩
 (.node .nil 82 ⟨.struct [(0,80),(1,49),(6,22),(7,4)],8,112,(some [.val (.pointer none),.str [],.str [],.int .i64 0,.list .fld [],.int .i64 0,.list .byte [],.bool false]),none⟩
 .nil)) 83 ⟨.other,1,8,(some [.val .nilFunc]),none⟩
 (.node (.node (.node .nil 84 ⟨.other,1,8,(some [.val .nilFunc]),none⟩
 .nil) 85 ⟨.struct [(0,3),(1,3),(2,9),(3,22),(4,3)],5,64,(some [.int .i64 0,.int .i64 0,.str [],.list .byte [],.int .i64 0]),none⟩
 .nil) 86 ⟨.struct [(0,3),(1,3),(2,9),(3,22),(4,3)],5,64,(some [.int .i64 0,.int .i64 0,.str [],.list .byte [],.int .i64 0]),none⟩
 (.node .nil 87 ⟨.struct [(0,36),(1,3)],2,32,(some [.list .upl [],.int .i64 0]),none⟩
 .nil))) 88 ⟨.struct [(0,36),(1,3)],2,32,(some [.list .upl [],.int .i64 0]),none⟩
 (.node (.node (.node (.node .nil 89 ⟨.other,1,0,none,none⟩
 .nil) 90 ⟨.other,1,8,(some [.val .nilFunc]),none⟩
 .nil) 91 ⟨.other,1,8,(some [.val .nilFunc]),none⟩
 (.node .nil 92 ⟨.other,1,0,none,none⟩
 .nil)) 93 ⟨.other,1,8,(some [.val .nilFunc]),none⟩
 (.node (.node .nil 94 ⟨.other,1,0,none,none⟩
 .nil) 95 ⟨.other,1,8,(some [.val .nilFunc]),none⟩
 (.node .nil 96 ⟨.struct [(0,9),(1,9)],2,32,(some [.str [],.str []]),none⟩
 .nil)))) 97 ⟨.struct [(0,9),(1,9)],2,32,(some [.str [],.str []]),none⟩
 (.node (.node (.node (.node (.node .nil 98 ⟨.other,1,0,none,none⟩
 .nil) 99 ⟨.other,1,8,(some [.val .nilFunc]),none⟩
 .nil) 100 ⟨.other,1,0,none,none⟩
 (.node .nil 101 ⟨.other,1,8,(some [.val .nilFunc]),none⟩
 .nil)) 102 ⟨.other,1,0,none,none⟩
 (.node (.node .nil 103 ⟨.other,1,8,(some [.val .nilFunc]),none⟩
 .nil) 104 ⟨.other,1,8,(some [.val .nilFunc]),none⟩
 (.node .nil 105 ⟨.other,1,8,(some [.val .nilFunc]),none⟩
 .nil))) 106 ⟨.struct [(0,3),(1,47),(2,22)],3,56,(some [.int .i64 0,.list .fld [],.list .byte []]),none⟩
 (.node (.node (.node (.node .nil 107 ⟨.struct [(0,3),(1,47),(2,22)],3,56,(some [.int .i64 0,.list .fld [],.list .byte []]),none⟩
 .nil) 108 ⟨.other,1,8,(some [.val .nilFunc]),none⟩
 .nil) 109 ⟨.other,1,8,(some [.val .nilFunc]),none⟩
 (.node .nil 110 ⟨.slice 49,1,24,(some [.list .hd []]),(some .hd)⟩
 .nil)) 111 ⟨.other,1,0,none,none⟩
 (.node (.node .nil 112 ⟨.other,1,8,(some [.val .nilFunc]),none⟩
 .nil) 113 ⟨.other,1,8,(some [.val .nilFunc]),none⟩
 (.node .nil 114 ⟨.other,1,8,(some [.val .nilFunc]),none⟩
 .nil))))) 115 ⟨.other,1,8,(some [.val .nilFunc]),none⟩
 (.node (.node (.node (.node (.node (.node .nil 116 ⟨.other,1,8,(some [.val .nilFunc]),none⟩
 .nil) 117 ⟨.struct [(0,22),(1,3)],2,32,(some [.list .byte [],.int .i64 0]),none⟩
 .nil) 118 ⟨.struct [(0,22),(1,3)],2,32,(some [.list .byte [],.int .i64 0]),none⟩
 (.node .nil 119 ⟨.ptr,1,8,(some [.val (.pointer none)]),none⟩
 .nil)) 120 ⟨.ptr,1,8,(some [.val (.pointer none)]),none⟩
 (.node (.node .nil 121 ⟨.struct [(0,119),(1,3),(2,49),(7,3),(8,120),(9,44)],10,128,(some [.val (.pointer none),.int .i64 0,.str [],.str [],.int .i64 0,.list .fld [],.int .i64 0,.int .i64 0,.val (.pointer none),.list .evt []]),none⟩
 .nil) 122 ⟨.struct [(0,119),(1,3),(2,49),(7,3),(8,120),(9,44)],10,128,(some [.val (.pointer none),.int .i64 0,.str [],.str [],.int .i64 0,.list .fld [],.int .i64 0,.int .i64 0,.val (.pointer none),.list .evt []]),none⟩
 (.node .nil 123 ⟨.other,1,8,(some [.val .nilFunc]),none⟩
 .nil))) 124 ⟨.other,1,8,(some [.val .nilFunc]),none⟩
 (.node (.node (.node (.node .nil 125 ⟨.other,1,8,(some [.val .nilFunc]),none⟩
 .nil) 126 ⟨.other,1,8,(some [.val .nilFunc]),none⟩
 .nil) 127 ⟨.ptr,1,8,(some [.val (.pointer none)]),none⟩
 (.node .nil 128 ⟨.other,1,0,none,none⟩
 .nil)) 129 ⟨.other,1,8,(some [.val .nilFunc]),none⟩
 (.node (.node .nil 130 ⟨.other,1,8,(some [.val .nilFunc]),none⟩
 .nil) 131 ⟨.other,1,8,(some [.val .nilFunc]),none⟩
 (.node .nil 132 ⟨.slice 9,1,24,(some [.list .str []]),(some .str)⟩
 .nil)))) 133 ⟨.other,1,8,(some [.val .nilFunc]),none⟩
 (.node (.node (.node (.node (.node .nil 134 ⟨.other,1,8,(some [.val .nilFunc]),none⟩
 .nil) 135 ⟨.other,1,8,(some [.val .nilFunc]),none⟩
 .nil) 136 ⟨.other,1,0,none,none⟩
 (.node .nil 137 ⟨.other,1,8,(some [.val .nilFunc]),none⟩
 .nil)) 138 ⟨.other,1,8,(some [.val .nilFunc]),none⟩
 (.node (.node .nil 139 ⟨.other,1,0,none,none⟩
 .nil) 140 ⟨.other,1,8,(some [.val .nilFunc]),none⟩
 (.node .nil 141 ⟨.struct [(0,3),(1,47),(2,22)],3,56,(some [.int .i64 0,.list .fld [],.list .byte []]),none⟩
 .nil))) 142 ⟨.other,1,0,none,none⟩
 (.node (.node (.node (.node .nil 143 ⟨.other,1,8,(some [.val .nilFunc]),none⟩
 .nil) 144 ⟨.ptr,1,8,(some [.val (.pointer none)]),none⟩
 .nil) 145 ⟨.struct [(0,26),(1,49)],6,80,(some [.val (.pointer none),.str [],.str [],.int .i64 0,.list .fld [],.int .i64 0]),none⟩
 (.node .nil 146 ⟨.struct [(0,26),(1,49)],6,80,(some [.val (.pointer none),.str [],.str [],.int .i64 0,.list .fld [],.int .i64 0]),none⟩
 .nil)) 147 ⟨.other,1,8,(some [.val .nilFunc]),none⟩
 (.node (.node .nil 148 ⟨.other,1,8,(some [.val .nilFunc]),none⟩
 .nil) 149 ⟨.other,1,8,(some [.val .nilFunc]),none⟩
 (.node .nil 150 ⟨.other,1,8,(some [.val .nilFunc]),none⟩
 .nil))))))) 151 ⟨.other,1,8,(some [.val .nilFunc]),none⟩
 (.node (.node (.node (.node (.node (.node (.node (.node .nil 152 ⟨.other,1,8,(some [.val .nilFunc]),none⟩
 .nil) 153 ⟨.other,1,8,(some [.val .nilFunc]),none⟩
 .nil) 154 ⟨.other,1,8,(some [.val .nilFunc]),none⟩
 (.node .nil 155 ⟨.other,1,8,(some [.val .nilFunc]),none⟩
 .nil)) 156 ⟨.other,1,0,none,none⟩
 (.node (.node (.node .nil 157 ⟨.other,1,8,(some [.val .nilFunc]),none⟩
 .nil) 158 ⟨.other,1,8,(some [.val .nilFunc]),none⟩
 .nil) 159 ⟨.other,1,0,none,none⟩
 (.node .nil 160 ⟨.other,1,8,(some [.val .nilFunc]),none⟩
 .nil))) 161 ⟨.other,1,8,(some [.val .nilFunc]),none⟩
 (.node (.node (.node (.node .nil 162 ⟨.other,1,8,(some [.val .nilFunc]),none⟩
 .nil) 163 ⟨.other,1,8,(some [.val .nilFunc]),none⟩
 .nil) 164 ⟨.struct [(0,22),(1,4),(2,3)],3,40,(some [.list .byte [],.bool false,.int .i64 0]),none⟩
 (.node .nil 165 ⟨.struct [(0,22),(1,4),(2,3)],3,40,(some [.list .byte [],.bool false,.int .i64 0]),none⟩
 .nil)) 166 ⟨.other,1,8,(some [.val .nilFunc]),none⟩
 (.node (.node .nil 167 ⟨.other,1,8,(some [.val .nilFunc]),none⟩
 .nil) 168 ⟨.other,1,8,(some [.val .nilFunc]),none⟩
 (.node .nil 169 ⟨.other,1,0,none,none⟩
 .nil)))) 170 ⟨.other,1,8,(some [.val .nilFunc]),none⟩
 (.node (.node (.node (.node (.node .nil 171 ⟨.other,1,8,(some [.val .nilFunc]),none⟩
 .nil) 172 ⟨.other,1,8,(some [.val .nilFunc]),none⟩
 .nil) 173 ⟨.other,1,8,(some [.val .nilFunc]),none⟩
 (.node .nil 174 ⟨.other,1,8,(some [.val .nilFunc]),none⟩
 .nil)) 175 ⟨.struct [(0,3),(1,3),(2,3),(3,22)],4,48,(some [.int .i64 0,.int .i64 0,.int .i64 0,.list .byte []]),none⟩
 (.node (.node .nil 176 ⟨.struct [(0,3),(1,3),(2,3),(3,22)],4,48,(some [.int .i64 0,.int .i64 0,.int .i64 0,.list .byte []]),none⟩
 .nil) 177 ⟨.slice 201,1,24,(some [.list .fld []]),(some .fld)⟩
 (.node .nil 178 ⟨.struct [(0,9),(1,177)],2,40,(some [.str [],.list .fld []]),none⟩
 .nil))) 179 ⟨.struct [(0,9),(1,177)],2,40,(some [.str [],.list .fld []]),none⟩
 (.node (.node (.node (.node .nil 180 ⟨.other,1,0,none,none⟩
 .nil) 181 ⟨.other,1,8,(some [.val .nilFunc]),none⟩
 .nil) 182 ⟨.other,1,8,(some [.val .nilFunc]),none⟩
 (.node .nil 183 ⟨.other,1,8,(some [.val .nilFunc]),none⟩
 .nil)) 184 ⟨.other,1,8,(some [.val .nilFunc]),none⟩
 (.node (.node .nil 185 ⟨.slice 51,1,24,(some [.list .prt []]),(some .prt)⟩
 .nil) 186 ⟨.other,1,0,none,none⟩
 (.node .nil 187 ⟨.other,1,8,(some [.val .nilFunc]),none⟩
 .nil))))) 188 ⟨.struct [(0,119),(1,3),(2,3),(3,3),(4,3),(5,3)],6,48,(some [.val (.pointer none),.int .i64 0,.int .i64 0,.int .i64 0,.int .i64 0,.int .i64 0]),none⟩
 (.node (.node (.node (.node (.node (.node .nil 189 ⟨.struct [(0,119),(1,3),(2,3),(3,3),(4,3),(5,3)],6,48,(some [.val (.pointer none),.int .i64 0,.int .i64 0,.int .i64 0,.int .i64 0,.int .i64 0]),none⟩
 .nil) 190 ⟨.other,1,8,(some [.val .nilFunc]),none⟩
 .nil) 191 ⟨.other,1,8,(some [.val .nilFunc]),none⟩
 (.node .nil 192 ⟨.other,1,8,(some [.val .nilFunc]),none⟩
 .nil)) 193 ⟨.other,1,8,(some [.val .nilFunc]),none⟩
 (.node (.node .nil 194 ⟨.other,1,8,(some [.val .nilFunc]),none⟩
 .nil) 195 ⟨.other,1,8,(some [.val .nilFunc]),none⟩
 (.node .nil 196 ⟨.other,1,8,(some [.val .nilFunc]),none⟩
 .nil))) 197 ⟨.struct [(0,3),(1,3),(2,3),(3,22)],4,48,(some [.int .i64 0,.int .i64 0,.int .i64 0,.list .byte []]),none⟩
 (.node (.node (.node (.node .nil 198 ⟨.other,1,8,(some [.val .nilFunc]),none⟩
 .nil) 199 ⟨.other,1,8,(some [.val .nilFunc]),none⟩
 .nil) 200 ⟨.other,1,8,(some [.val .nilFunc]),none⟩
 (.node .nil 201 ⟨.struct [(0,9),(1,9)],2,32,(some [.str [],.str []]),none⟩
 .nil)) 202 ⟨.other,1,0,none,none⟩
 (.node (.node .nil 203 ⟨.other,1,8,(some [.val .nilFunc]),none⟩
 .nil) 204 ⟨.other,1,8,(some [.val .nilFunc]),none⟩
 (.node .nil 205 ⟨.other,1,8,(some [.val .nilFunc]),none⟩
 .nil)))) 206 ⟨.other,1,8,(some [.val .nilFunc]),none⟩
 (.node (.node (.node (.node (.node .nil 207 ⟨.other,1,0,none,none⟩
 .nil) 208 ⟨.other,1,8,(some [.val .nilFunc]),none⟩
 .nil) 209 ⟨.other,1,8,(some [.val .nilFunc]),none⟩
 (.node .nil 210 ⟨.int .i64,1,8,(some [.int .i64 0]),none⟩
 .nil)) 211 ⟨.other,1,0,none,none⟩
 (.node (.node .nil 212 ⟨.ptr,1,8,(some [.val (.pointer none)]),none⟩
 .nil) 213 ⟨.struct [(0,9)],1,16,(some [.str []]),none⟩
 (.node .nil 214 ⟨.struct [(0,9)],1,16,(some [.str []]),none⟩
 .nil))) 215 ⟨.other,1,8,(some [.val .nilFunc]),none⟩
 (.node (.node (.node (.node .nil 216 ⟨.other,1,8,(some [.val .nilFunc]),none⟩
 .nil) 217 ⟨.other,1,8,(some [.val .nilFunc]),none⟩
 .nil) 218 ⟨.other,1,8,(some [.val .nilFunc]),none⟩
 (.node .nil 219 ⟨.other,1,8,(some [.val .nilFunc]),none⟩
 .nil)) 220 ⟨.other,1,8,(some [.val .nilFunc]),none⟩
 (.node (.node .nil 221 ⟨.other,1,8,(some [.val .nilFunc]),none⟩
 .nil) 222 ⟨.other,1,0,none,none⟩
 (.node .nil 223 ⟨.other,1,8,(some [.val .nilFunc]),none⟩
 .nil)))))) 224 ⟨.other,1,8,(some [.val .nilFunc]),none⟩
 (.node (.node (.node (.node (.node (.node (.node .nil 225 ⟨.other,1,8,(some [.val .nilFunc]),none⟩
 .nil) 226 ⟨.other,1,8,(some [.val .nilFunc]),none⟩
 .nil) 227 ⟨.other,1,8,(some [.val .nilFunc]),none⟩
 (.node .nil 228 ⟨.other,1,8,(some [.val .nilFunc]),none⟩
 .nil)) 229 ⟨.other,1,8,(some [.val .nilFunc]),none⟩
 (.node (.node .nil 230 ⟨.other,1,8,(some [.val .nilFunc]),none⟩
 .nil) 231 ⟨.other,1,8,(some [.val .nilFunc]),none⟩
 (.node .nil 232 ⟨.ptr,1,8,(some [.val (.pointer none)]),none⟩
 .nil))) 233 ⟨.other,1,0,none,none⟩
 (.node (.node (.node (.node .nil 234 ⟨.other,1,8,(some [.val .nilFunc]),none⟩
 .nil) 235 ⟨.ptr,1,8,(some [.val (.pointer none)]),none⟩
 .nil) 236 ⟨.other,1,8,(some [.val .nilFunc]),none⟩
 (.node .nil 237 ⟨.other,1,8,(some [.val .nilFunc]),none⟩
 .nil)) 238 ⟨.other,1,8,(some [.val .nilFunc]),none⟩
 (.node (.node .nil 239 ⟨.other,1,8,(some [.val .nilFunc]),none⟩
 .nil) 240 ⟨.other,1,8,(some [.val .nilFunc]),none⟩
 (.node .nil 241 ⟨.other,1,8,(some [.val .nilFunc]),none⟩
 .nil)))) 242 ⟨.other,1,8,(some [.val .nilFunc]),none⟩
 (.node (.node (.node (.node (.node .nil 243 ⟨.other,1,8,(some [.val .nilFunc]),none⟩
 .nil) 244 ⟨.array 256 4,256,256,none,none⟩
 .nil) 245 ⟨.array 256 4,256,256,none,none⟩
 (.node .nil 246 ⟨.other,1,0,none,none⟩
 .nil)) 247 ⟨.other,1,8,(some [.val .nilFunc]),none⟩
 (.node (.node .nil 248 ⟨.other,1,8,(some [.val .nilFunc]),none⟩
 .nil) 249 ⟨.ptr,1,8,(some [.val (.pointer none)]),none⟩
 (.node .nil 250 ⟨.array 24 5,24,24,(some [.int .u8 0,.int .u8 0,.int .u8 0,.int .u8 0,.int .u8 0,.int .u8 0,.int .u8 0,.int .u8 0,.int .u8 0,.int .u8 0,.int .u8 0,.int .u8 0,.int .u8 0,.int .u8 0,.int .u8 0,.int .u8 0,.int .u8 0,.int .u8 0,.int .u8 0,.int .u8 0,.int .u8 0,.int .u8 0,.int .u8 0,.int .u8 0]),none⟩
 .nil))) 251 ⟨.int .u64,1,8,(some [.int .u64 0]),none⟩
 (.node (.node (.node (.node .nil 252 ⟨.other,1,8,(some [.val .nilFunc]),none⟩
 .nil) 253 ⟨.other,1,8,(some [.val .nilFunc]),none⟩
 .nil) 254 ⟨.other,1,0,none,none⟩
 (.node .nil 255 ⟨.other,1,8,(some [.val .nilFunc]),none⟩
 .nil)) 256 ⟨.ptr,1,8,(some [.val (.pointer none)]),none⟩
 (.node (.node .nil 257 ⟨.other,1,8,(some [.val .nilFunc]),none⟩
 .nil) 258 ⟨.struct [(0,256),(1,3),(2,119),(3,47),(4,3),(5,3),(6,3),(7,44)],8,96,(some [.val (.pointer none),.int .i64 0,.val (.pointer none),.list .fld [],.int .i64 0,.int .i64 0,.int .i64 0,.list .evt []]),none⟩
 (.node .nil 259 ⟨.struct [(0,256),(1,3),(2,119),(3,47),(4,3),(5,3),(6,3),(7,44)],8,96,(some [.val (.pointer none),.int .i64 0,.val (.pointer none),.list .fld [],.int .i64 0,.int .i64 0,.int .i64 0,.list .evt []]),none⟩
 .nil))))) 260 ⟨.other,1,0,none,none⟩
 (.node (.node (.node (.node (.node (.node .nil 261 ⟨.other,1,8,(some [.val .nilFunc]),none⟩
 .nil) 262 ⟨.other,1,8,(some [.val .nilFunc]),none⟩
 .nil) 263 ⟨.other,1,8,(some [.val .nilFunc]),none⟩
 (.node .nil 264 ⟨.other,1,0,none,none⟩
 .nil)) 265 ⟨.other,1,8,(some [.val .nilFunc]),none⟩
 (.node (.node .nil 266 ⟨.other,1,8,(some [.val .nilFunc]),none⟩
 .nil) 267 ⟨.other,1,8,(some [.val .nilFunc]),none⟩
 (.node .nil 268 ⟨.array 20 251,20,160,(some [.int .u64 0,.int .u64 0,.int .u64 0,.int .u64 0,.int .u64 0,.int .u64 0,.int .u64 0,.int .u64 0,.int .u64 0,.int .u64 0,.int .u64 0,.int .u64 0,.int .u64 0,.int .u64 0,.int .u64 0,.int .u64 0,.int .u64 0,.int .u64 0,.int .u64 0,.int .u64 0]),none⟩
 .nil))) 269 ⟨.int .u32,1,4,(some [.int .u32 0]),none⟩
 (.node (.node (.node (.node .nil 270 ⟨.array 65 5,65,65,(some [.int .u8 0,.int .u8 0,.int .u8 0,.int .u8 0,.int .u8 0,.int .u8 0,.int .u8 0,.int .u8 0,.int .u8 0,.int .u8 0,.int .u8 0,.int .u8 0,.int .u8 0,.int .u8 0,.int .u8 0,.int .u8 0,.int .u8 0,.int .u8 0,.int .u8 0,.int .u8 0,.int .u8 0,.int .u8 0,.int .u8 0,.int .u8 0,.int .u8 0,.int .u8 0,.int .u8 0,.int .u8 0,.int .u8 0,.int .u8 0,.int .u8 0,.int .u8 0,.int .u8 0,.int .u8 0,.int .u8 0,.int .u8 0,.int .u8 0,.int .u8 0,.int .u8 0,.int .u8 0,.int .u8 0,.int .u8 0,.int .u8 0,.int .u8 0,.int .u8 0,.int .u8 0,.int .u8 0,.int .u8 0,.int .u8 0,.int .u8 0,.int .u8 0,.int .u8 0,.int .u8 0,.int .u8 0,.int .u8 0,.int .u8 0,.int .u8 0,.int .u8 0,.int .u8 0,.int .u8 0,.int .u8 0,.int .u8 0,.int .u8 0,.int .u8 0,.int .u8 0]),none⟩
 .nil) 271 ⟨.other,1,8,(some [.val .nilFunc]),none⟩
 .nil) 272 ⟨.struct [(0,22),(1,23),(2,3)],3,56,(some [.list .byte [],.list .int [],.int .i64 0]),none⟩
 (.node .nil 273 ⟨.struct [(0,22),(1,23),(2,3)],3,56,(some [.list .byte [],.list .int [],.int .i64 0]),none⟩
 .nil)) 274 ⟨.other,1,8,(some [.val .nilFunc]),none⟩
 (.node (.node .nil 275 ⟨.other,1,0,none,none⟩
 .nil) 276 ⟨.other,1,8,(some [.val .nilFunc]),none⟩
 (.node .nil 277 ⟨.other,1,8,(some [.val .nilFunc]),none⟩
 .nil)))) 278 ⟨.other,1,8,(some [.val .nilFunc]),none⟩
 (.node (.node (.node (.node (.node .nil 279 ⟨.array 256 5,256,256,none,none⟩
 .nil) 280 ⟨.struct [(0,5),(1,5)],2,2,(some [.int .u8 0,.int .u8 0]),none⟩
 .nil) 281 ⟨.struct [(0,5),(1,5)],2,2,(some [.int .u8 0,.int .u8 0]),none⟩
 (.node .nil 282 ⟨.array 16 281,32,32,(some [.int .u8 0,.int .u8 0,.int .u8 0,.int .u8 0,.int .u8 0,.int .u8 0,.int .u8 0,.int .u8 0,.int .u8 0,.int .u8 0,.int .u8 0,.int .u8 0,.int .u8 0,.int .u8 0,.int .u8 0,.int .u8 0,.int .u8 0,.int .u8 0,.int .u8 0,.int .u8 0,.int .u8 0,.int .u8 0,.int .u8 0,.int .u8 0,.int .u8 0,.int .u8 0,.int .u8 0,.int .u8 0,.int .u8 0,.int .u8 0,.int .u8 0,.int .u8 0]),none⟩
 .nil)) 283 ⟨.other,1,8,(some [.val .nilFunc]),none⟩
 (.node (.node .nil 284 ⟨.array 32 5,32,32,(some [.int .u8 0,.int .u8 0,.int .u8 0,.int .u8 0,.int .u8 0,.int .u8 0,.int .u8 0,.int .u8 0,.int .u8 0,.int .u8 0,.int .u8 0,.int .u8 0,.int .u8 0,.int .u8 0,.int .u8 0,.int .u8 0,.int .u8 0,.int .u8 0,.int .u8 0,.int .u8 0,.int .u8 0,.int .u8 0,.int .u8 0,.int .u8 0,.int .u8 0,.int .u8 0,.int .u8 0,.int .u8 0,.int .u8 0,.int .u8 0,.int .u8 0,.int .u8 0]),none⟩
 .nil) 285 ⟨.array 64 5,64,64,(some [.int .u8 0,.int .u8 0,.int .u8 0,.int .u8 0,.int .u8 0,.int .u8 0,.int .u8 0,.int .u8 0,.int .u8 0,.int .u8 0,.int .u8 0,.int .u8 0,.int .u8 0,.int .u8 0,.int .u8 0,.int .u8 0,.int .u8 0,.int .u8 0,.int .u8 0,.int .u8 0,.int .u8 0,.int .u8 0,.int .u8 0,.int .u8 0,.int .u8 0,.int .u8 0,.int .u8 0,.int .u8 0,.int .u8 0,.int .u8 0,.int .u8 0,.int .u8 0,.int .u8 0,.int .u8 0,.int .u8 0,.int .u8 0,.int .u8 0,.int .u8 0,.int .u8 0,.int .u8 0,.int .u8 0,.int .u8 0,.int .u8 0,.int .u8 0,.int .u8 0,.int .u8 0,.int .u8 0,.int .u8 0,.int .u8 0,.int .u8 0,.int .u8 0,.int .u8 0,.int .u8 0,.int .u8 0,.int .u8 0,.int .u8 0,.int .u8 0,.int .u8 0,.int .u8 0,.int .u8 0,.int .u8 0,.int .u8 0,.int .u8 0,.int .u8 0]),none⟩
 (.node .nil 288 ⟨.array 0 16,0,0,(some []),none⟩
 .nil))) 291 ⟨.int .u8,1,1,(some [.int .u8 0]),none⟩
 (.node (.node (.node (.node .nil 292 ⟨.int .u8,1,1,(some [.int .u8 0]),none⟩
 .nil) 293 ⟨.other,1,8,(some [.val .nilFunc]),none⟩
 .nil) 294 ⟨.ptr,1,8,(some [.val (.pointer none)]),none⟩
 (.node .nil 295 ⟨.int .i32,1,4,(some [.int .i32 0]),none⟩
 .nil)) 296 ⟨.int .i32,1,4,(some [.int .i32 0]),none⟩
 (.node (.node .nil 297 ⟨.struct [(0,12),(1,12),(2,269),(3,291),(4,5),(5,5),(6,292),(7,293),(8,294),(9,295),(10,296)],11,48,(some [.int .u64 0,.int .u64 0,.int .u32 0,.int .u8 0,.int .u8 0,.int .u8 0,.int .u8 0,.val .nilFunc,.val (.pointer none),.int .i32 0,.int .i32 0]),none⟩
 .nil) 298 ⟨.struct [(0,12),(1,12),(2,269),(3,291),(4,5),(5,5),(6,292),(7,293),(8,294),(9,295),(10,296)],11,48,(some [.int .u64 0,.int .u64 0,.int .u32 0,.int .u8 0,.int .u8 0,.int .u8 0,.int .u8 0,.val .nilFunc,.val (.pointer none),.int .i32 0,.int .i32 0]),none⟩
 (.node .nil 299 ⟨.other,1,8,none,none⟩
 .nil))))))))
def tab:Tab:=tabT.get
theorem zh:tab.fits Tryz.prog:=Tab.zum (by kernel_rfl)
theorem mixed:Tryz.prog.follows .mixedOrders=true:=by kernel_rfl
end Go.Proofs.YtmkcejdibmilmaaGreatDoor
namespace Go.Ab
open Go
theorem laid_tail {P:Program} {x:String × DataW Unit} {rest:List (String × DataW Unit)} {w:World} (h:laidMet P (x::rest) w):laidMet P rest w:=by
  obtain⟨ps,⟨g,t,cs,fuel,p,q,h1,h2,h3,h4,h5,rfl⟩,hn,hc⟩:=h
  exact⟨q,h5,(List.nodup_append.1 hn).2.1,fun b off hm=>hc b off (List.mem_append_right _ hm)⟩
theorem pow10_of {P:Program} {W:World} {d:DataW Unit} {rest:List (String × DataW Unit)} (g t e:Nat) (hd:d=Lib.tabData .u64 Lib.pow10Tab)
    (hg:P.globalNamed "internal/strconv.uint64pow10" =some g) (hty:(P.globals[g]?).map (·.type)=some t) (ht:P.underlying t=some (.array 20 e)) (he:P.underlying e=some (.int .u64)) (hce:P.cellsOf e=1) (hct:P.cellsOf t=20)
    (h:laidMet P (("internal/strconv.uint64pow10",d)::rest) W):Lib.TabIs P W "internal/strconv.uint64pow10" .u64 Lib.pow10Tab:=by
  subst hd
  exact Lib.tabIs_of_head hg hty ht he hce hct h
end Go.Ab
namespace Go.Ab
open Go Go.Sep
variable {H:Type} {enc:TypeId × Value→H}
theorem retShaped {a:Assume} {C:Checked} {os:Os} {f:FuncId} {fn:Func} {s:ChangeSpec} {conds:List PathCond} {apart fresh handsOn again:Bool} {X:World→Array Value→Prop}
    (hX: ∀ (w w':World) (args:Array Value),w.heap=w'.heap→X w args→X w' args)
    (own:ownKnob C.prog.godebug=none) (started:os.Started) (noInit:C.prog.inits.idxOf? f=none) (hfn:C.prog.funcs[f]? =some fn)
    (witness: ∃ (w:World) (tape:Tape) (i:Input),w.os=os∧(w.forCall tape i).Shaped C.prog∧i.vars=[]∧Input.okWide C.prog (w.forCall tape i) .any w.heap.size f i∧
      ((s.pre enc C.prog fn conds apart (w.forCall tape i).memory i.args∧X (w.forCall tape i).memory i.args)∧sizedMet enc C.prog fn (OpenSpec.ofChange s) apart (w.forCall tape i).memory i.args)∧a.holds C.prog (lone (Frame.enter C.prog f i.args .normal) [] (w.forCall tape i)))
    (contract: ∀ (W:World) (base:Nat) (args:Array Value) (ds gs:List (DataW H)) (before:List MemPlace),
      (∀ (j:Nat) t v,fn.params[j]? =some t→args[j]? =some v→Value.okWide C.prog W .any base t v)→
      DataW.Whole enc C.prog fn.params.toList s.vars apart W args.toList ds gs before→
      conds.all (PathCond.test C.prog ⟨fn.params.toList,ds,s.plain.varTypes C.prog,gs⟩)=true→
      (DataW.weightsEach C.prog (fn.params.toList++s.plain.varTypes C.prog) (ds++gs)).all (· ≤reachBytes)=true→X W args→W.ShapedOpen C.prog→
      a.holds C.prog (lone (Frame.enter C.prog f args .normal) [] W)→
      Calls C.prog f args W fun e W'=>∃ v,e=.returned v∧s.post enc C.prog fn apart fresh handsOn again W args v W'):
    ReturnsInHanded a C os f .any (fun w args=>(s.pre enc C.prog fn conds apart w args∧X w args)∧sizedMet enc C.prog fn (OpenSpec.ofChange s) apart w args) (s.post enc C.prog fn apart fresh handsOn again):=by
  refine returnsInHanded_of_calls own started noInit witness ?_
  intro w tape i _ hsh _ hok hpre hholds
  obtain⟨_,_,_,fn',hfn',_,_,_,_,hval⟩:=hok
  have e:fn'=fn:=Option.some.inj (hfn'.symm.trans hfn)
  subst e
  obtain⟨⟨⟨ds,gs,before,hw,hc⟩,hx⟩,hz⟩:=hpre
  have hw':=DataW.Whole.of_heap (w':=w.forCall tape i) (by rfl) hw
  refine(contract (w.forCall tape i) w.heap.size i.args ds gs before hval hw' hc (hz.weights hw) (hX _ _ _ (by rfl) hx) hsh hholds).mono fun e W' ⟨v,he,hp⟩=> ?_
  subst he
  exact ChangeSpec.post_blind hp
theorem cell_re {W w:World} (h: ∀ (k:Nat) (o:Obj),W.heap[k]? =some o→w.heap[k]? =some o) {a:Addr} (e: ∃ m,W.cell? a=some (.int .i64 m)): ∃ m,w.cell? a=some (.int .i64 m):=by
  obtain⟨m,e⟩:=e
  refine⟨m,?_⟩
  unfold World.cell? at e ⊢
  cases ho:W.heap[a.block]? with
  |none=>rw [ho] at e;simp at e
  |some o=>rw [h _ _ ho];rw [ho] at e;exact e
end Go.Ab
namespace Go.Ab
open Go Go.Sep
variable [Facts]
def wfI (n:Int):Prop:= -9223372036854775808≤n∧n≤9223372036854775807
theorem zuL {n:Int} (h:(Lit.int .i64 n).wf=true):wfI n:=by
  simp only [Lit.wf,Bool.and_eq_true,decide_eq_true_eq] at h
  have h1:IntKind.i64.min= -9223372036854775808:=by decide
  have h2:IntKind.i64.max=9223372036854775807:=by decide
  rw [h1,h2] at h;exact h
def wfS {α:Type} (s:List α):Prop:=s.length≤140737488355328
def zpy (f:Fld):Prop:=wfS f.name∧wfS f.value
def wfHd (h:Hd):Prop:=wfS h.method∧wfS h.target∧wfI h.minor∧(wfS h.fields∧∀ f ∈ h.fields,zpy f)∧wfI h.length
def zsv (p:Prt):Prop:=wfS p.name∧wfS p.file∧wfS p.type∧wfS p.bytes
def wfZ:(u:U)→u.den→Prop
  |.byte,_=>True
  |.int,n=>wfI n
  |.str,(s:Str)=>wfS s
  |.fld,f=>zpy f
  |.bytes,(b:Str)=>wfS b
  |.hd,h=>wfHd h
  |.prt,p=>zsv p
  |.evt,(e:Evt)=>wfI e.kind∧wfHd e.head∧wfS e.bytes∧zsv e.part∧wfI e.code
  |.upl,(x:Upl)=>wfI x.id∧wfI x.size∧wfS x.note∧wfS x.bytes∧wfI x.sent
  |.ent,(e:Ent)=>wfI e.kind∧wfI e.id∧wfI e.n∧wfS e.text
  |.stp,(e:Stp)=>wfI e.kind∧wfI e.conn∧wfI e.n∧wfS e.bytes
  |.ask,(a:Ask)=>wfHd a.h∧wfS a.body
  |.cal,(c:Cal)=>wfI c.conn∧wfS c.b
  |.lst,(e:Lst)=>wfI e.op∧wfI e.n∧wfS e.b
  |.sst,(e:Sst)=>wfI e.op∧wfI e.id∧wfI e.n∧wfS e.text
  |.rpl,(r:Rpl)=>wfI r.status∧(wfS r.fields∧∀ f ∈ r.fields,zpy f)∧wfS r.body
  |.prw,p=>zsv p
  |.med,(m:Med)=>wfS m.word∧(wfS m.params∧∀ f ∈ m.params,zpy f)
  |_,_=>True
abbrev Small {H:Type} (Pr:Program) (t:TypeId) (d:DataW H):Prop:=(d.weights Pr t).all (· ≤reachBytes)=true
section
variable {H:Type} {hsh:TypeId × Value→H} {Pr:Program} {w:World} {hF:Holds w} {base:Nat} {spare:Nat→Bool} {held:Bool}
def XZ (hsh:TypeId × Value→H) (Pr:Program) (w:World) (hF:Holds w) (base:Nat) (spare:Nat→Bool) (held:Bool) (t:TypeId) (Q:List P→Prop):Prop:=
  ∀ fuel cs y,DataW.trod hsh Pr w base spare held fuel t cs=some y→Small Pr t y.1→∃ ps,MPs (frzW w hF) ps cs∧Q ps
theorem XZ.mono {t:TypeId} {Q Q':List P→Prop} (h:XZ hsh Pr w hF base spare held t Q) (hq: ∀ ps,Q ps→Q' ps):XZ hsh Pr w hF base spare held t Q':=by
  intro fuel cs y hy hs
  obtain⟨ps,h1,h2⟩:=h fuel cs y hy hs
  exact⟨ps,h1,hq _ h2⟩
def QU (u:U) (ps:List P):Prop:=∃ x:u.den,ps=enc alg u x∧wfZ u x
def QL (u:U) (ps:List P):Prop:=∃ l:List u.den,ps=[.list u l]∧wfS l∧∀ x ∈ l,wfZ u x
theorem op_int {t:TypeId} (ht:Pr.underlying t=some (.int .i64)):XZ hsh Pr w hF base spare held t (QU .int):=by
  intro fuel cs y h _
  obtain⟨n,rfl,hn⟩:=znx ht fuel cs y h
  exact⟨[.int .i64 n],⟨.int _ _,trivial⟩,n,rfl,zuL hn⟩
theorem op_byte {t:TypeId} (ht:Pr.underlying t=some (.int .u8)):XZ hsh Pr w hF base spare held t (QU .byte):=by
  intro fuel cs y h _
  obtain⟨c,hc⟩:=zk1 ht fuel cs y h
  exact⟨enc alg .byte c,ztF hc,c,rfl,trivial⟩
theorem zqn {n:Nat} (h:n≤reachBytes):n≤140737488355328:=Nat.le_trans h (by decide)
def elemsOf:DataW H→List (DataW H)
  |.slice es _=>es
  |_=>[]
theorem zgY {α:Type} {t e:TypeId} {size:Nat} {R:Sep.Rel α} (ht:Pr.underlying t=some (.slice e)) (hs:Pr.cellsOf e=size) {fuel:Nat} {cs:List Value} {y:DataW H × List MemPlace}
    (h:DataW.trod hsh Pr w base spare held fuel t cs=some y) (he: ∀ n ci z,z.1 ∈ elemsOf y.1→DataW.trod hsh Pr w base spare held n e ci=some z→∃ x,R w ci x):
    ∃ xs,RSl size R w cs xs∧xs.length=(elemsOf y.1).length:=by
  rcases DataW.trod_slice ht h with⟨rfl,rfl⟩|⟨a,len,cap,elems,rest,n,_,rfl,rfl,_,hl,hm,hlen,hel,_,_⟩
  · exact⟨[],⟨_,[],rfl,⟨none,0,rfl,Nat.le_refl _,Nat.zero_le _,fun _=>rfl,by simp,fun j u h=>by simp at h⟩,fun i x h=>by simp at h⟩,rfl⟩
  · subst hs
    have each: ∀ i,i<len→∃ ci:List Value,ci.length=Pr.cellsOf e∧(∀ j u,ci[j]? =some u→w.cell? ((a.add (i * Pr.cellsOf e)).add j)=some u)∧∃ x,R w ci x:=by
      intro i hi
      have h1:=hel i hi
      rw [List.getElem?_eq_getElem (by omega),Option.bind_eq_some_iff] at h1
      obtain⟨ci,hci,hy⟩:=h1
      obtain⟨h2,h3⟩:=cells?_get hci
      exact⟨ci,h2,h3,he n ci _ (List.mem_map_of_mem (List.getElem_mem _)) hy⟩
    have all: ∀ m,m≤len→∃ (vs:List Value) (xs:List α),xs.length=m∧vs.length=m * Pr.cellsOf e∧(∀ j u,vs[j]? =some u→w.cell? (a.add j)=some u)∧∀ i x,xs[i]? =some x→R w ((vs.drop (i * Pr.cellsOf e)).take (Pr.cellsOf e)) x:=by
      intro m
      induction m with
      |zero=>intro _;exact⟨[],[],rfl,by simp,fun j u h=>by simp at h,fun i x h=>by simp at h⟩
      | succ m ih=>
        intro hm'
        obtain⟨vs,xs,h1,h2,h3,h4⟩:=ih (by omega)
        obtain⟨ci,c1,c2,x,c3⟩:=each m (by omega)
        refine⟨vs++ci,xs++[x],by simp [h1],by simp [h2,c1,Nat.succ_mul],fun j u hj=> ?_,fun i z hi=> ?_⟩
        · rcases Nat.lt_or_ge j vs.length with hj1|hj1
          · rw [List.getElem?_append_left hj1] at hj;exact h3 j u hj
          · rw [List.getElem?_append_right hj1] at hj
            have h5:=c2 _ _ hj
            rw [Addr.add_add,h2,show m * Pr.cellsOf e+(j - m * Pr.cellsOf e)=j by omega] at h5
            exact h5
        · rcases Nat.lt_or_ge i xs.length with hi1|hi1
          · rw [List.getElem?_append_left hi1] at hi
            have h5:=h4 i z hi
            have h6:i * Pr.cellsOf e+Pr.cellsOf e≤vs.length:=by rw [h2,← Nat.succ_mul];exact Nat.mul_le_mul_right _ (by omega)
            rw [List.drop_append_of_le_length (by omega),List.take_append_of_le_length (by simp;omega)]
            exact h5
          · rw [List.getElem?_append_right hi1] at hi
            have hi2:i=m:=by
              have:=(List.getElem?_eq_some_iff.1 hi).1
              simp at this;omega
            subst hi2
            rw [h1,Nat.sub_self] at hi
            simp at hi
            subst hi
            rw [← h2,List.drop_left,List.take_of_length_le (by omega)]
            exact c3
    obtain⟨vs,xs,h1,h2,h3,h4⟩:=all len (Nat.le_refl _)
    refine⟨xs,⟨_,vs,rfl,⟨some a,cap,by rw [h1],by omega,hm,(fun h=>by cases h),by rw [h1];exact h2,fun j u hj=> ?_⟩,h4⟩,by simp [elemsOf,h1,hlen]⟩
    have hsp:a.spot=none:=by
      cases hv:vs with
      |nil=>rw [hv] at hj;simp at hj
      | cons u0 r=>
        have:=h3 0 u0 (by rw [hv];rfl)
        rw [show a.add 0=a by simp [Addr.add]] at this
        exact zsK this
    exact⟨⟨a,rfl,hsp⟩,by rw [← TP hsp];exact h3 j u hj⟩
theorem weightsAll_mem {e:TypeId}: ∀ {es:List (DataW H)} {d:DataW H},d ∈ es→∀ n ∈ d.weights Pr e,n ∈ DataW.weightsAll Pr e es
  | x::es,d,hd,n,hn=>by
    simp only [DataW.weightsAll,List.mem_append]
    rcases List.mem_cons.1 hd with rfl|hd
    · exact .inl hn
    · exact .inr (weightsAll_mem hd n hn)
theorem zkG {t e:TypeId} (ht:Pr.underlying t=some (.slice e)) {d z:DataW H} (h:Small Pr t d) (hz:z ∈ elemsOf d):Small Pr e z:=by
  cases d<;>simp only [elemsOf,List.not_mem_nil] at hz
  refine List.all_eq_true.2 fun n hn=>List.all_eq_true.1 h n ?_
  simp only [DataW.weights,ht,List.mem_cons,List.mem_append]
  exact .inr (.inl (weightsAll_mem hz n hn))
theorem zmk {t e:TypeId} (ht:Pr.underlying t=some (.slice e)) (hb:Nat.blt 0 (Pr.bytesOf e)=true) {d:DataW H} (h:Small Pr t d):(elemsOf d).length≤140737488355328:=by
  cases d<;>simp only [elemsOf]<;>try exact Nat.zero_le _
  rename_i es ss
  have h1:=List.all_eq_true.1 h ((es.length+ss.length) * Pr.bytesOf e) (by simp [DataW.weights,ht])
  have hb:0<Pr.bytesOf e:=by simpa [Nat.blt_eq] using hb
  refine zqn (Nat.le_trans (Nat.le_trans (Nat.le_add_right _ ss.length) (Nat.le_mul_of_pos_right _ hb)) (by simpa using h1))
theorem op_list {t e:TypeId} {u:U} (ht:Pr.underlying t=some (.slice e)) (hc:Pr.cellsOf e=u.size) (hb:Nat.blt 0 (Pr.bytesOf e)=true) (he:XZ hsh Pr w hF base spare held e (QU u)):
    XZ hsh Pr w hF base spare held t (QL u):=by
  intro fuel cs y h hs
  obtain⟨l,hl,hlen⟩:=zgY (R:=fun _ cs (x:u.den)=>MPs (frzW w hF) (enc alg u x) cs∧wfZ u x) ht hc h (fun n ci z hz ht'=>by
    obtain⟨ps,h1,x,rfl,hx⟩:=he n ci z ht' (zkG ht hs hz)
    exact⟨x,h1,hx⟩)
  have hl':=hl
  obtain⟨v,vs,rfl,_,hx⟩:=hl
  refine⟨[.list u l],⟨ztE (fun _ _ h=>h.1) hl',trivial⟩,l,rfl,by unfold wfS;rw [hlen];exact zmk ht hb hs,fun x hm=> ?_⟩
  obtain⟨i,hi⟩:=List.getElem?_of_mem hm
  exact(hx i x hi).2
def zlK (hsh:TypeId × Value→H) (Pr:Program) (w:World) (hF:Holds w) (base:Nat) (spare:Nat→Bool) (held:Bool):List Field→List (List P→Prop)→Prop
  |[],[]=>True
  |f::fs,Q::Qs=>XZ hsh Pr w hF base spare held f.type Q∧zlK hsh Pr w hF base spare held fs Qs
  |_,_=>False
theorem zlK.nil:zlK hsh Pr w hF base spare held [] []:=trivial
theorem zlK.cons {f:Field} {fs:List Field} {Q:List P→Prop} {Qs:List (List P→Prop)} (h:XZ hsh Pr w hF base spare held f.type Q) (k:zlK hsh Pr w hF base spare held fs Qs):zlK hsh Pr w hF base spare held (f::fs) (Q::Qs):=⟨h,k⟩
theorem MPs.append {S:Frz}: ∀ {a b:List P} {x y:List Value},MPs S a x→MPs S b y→MPs S (a++b) (x++y)
  |[],_,[],_,_,h=>h
  |_::_,_,_::_,_,h,k=>⟨h.1,MPs.append h.2 k⟩
theorem z_one {t:TypeId} {v:Value} {d:DataW H} {ps:List MemPlace} {Q:List P→Prop} (hr:v.oneCell'=true) (h:DataW.Trod hsh Pr w base spare held t v d ps) (hs:Small Pr t d) (ho:XZ hsh Pr w hF base spare held t Q): ∃ qs,MPs (frzW w hF) qs [v]∧Q qs:=by
  obtain⟨fuel,hf⟩:=h
  have hc:v.cells.toList=[v]:=by cases v<;>first|rfl|cases hr
  rw [hc] at hf
  exact ho fuel _ _ hf hs
theorem small_nth {ts:List TypeId} {ds:List (DataW H)} (h:(DataW.weightsEach Pr ts ds).all (· ≤reachBytes)=true) {j:Nat} {t:TypeId} {d:DataW H} (ht:ts[j]? =some t) (hd:ds[j]? =some d):Small Pr t d:=
  List.all_eq_true.2 fun n hn=>List.all_eq_true.1 h n (DataW.weights_mem_each ht hd n hn)
end
end Go.Ab
namespace Go.Proofs
open Go.Shelf
def Tryz.zhl:Go.Shelf.Ren:=⟨fun|161=>230|231=>215|227=>217|233=>218|235=>220|228=>245|197=>239|151=>246|260=>258|152=>261|137=>213|119=>267|224=>243|225=>242|217=>241|266=>259|n=>n,fun|9=>9|4=>4|3=>3|5=>5|117=>246|116=>245|0=>0|124=>249|105=>264|21=>21|119=>279|46=>25|139=>282|138=>281|n=>n,fun|3=>2|4=>3|n=>n⟩
theorem Tryz.lays161:Go.Proofs.Lays.n161 Tryz.prog Tryz.zhl:= {
  mixed:=by kernel_rfl
  f119:=Tryz.func267.trans (congrArg some (by kernel_rfl))
  f137:=Tryz.func213.trans (congrArg some (by kernel_rfl))
  f151:=Tryz.func246.trans (congrArg some (by kernel_rfl))
  f152:=Tryz.func261.trans (congrArg some (by kernel_rfl))
  f161:=Tryz.func230.trans (congrArg some (by kernel_rfl))
  f197:=Tryz.func239.trans (congrArg some (by kernel_rfl))
  f217:=Tryz.func241.trans (congrArg some (by kernel_rfl))
  f224:=Tryz.func243.trans (congrArg some (by kernel_rfl))
  f225:=Tryz.func242.trans (congrArg some (by kernel_rfl))
  f227:=Tryz.func217.trans (congrArg some (by kernel_rfl))
  f228:=Tryz.func245.trans (congrArg some (by kernel_rfl))
  f231:=Tryz.func215.trans (congrArg some (by kernel_rfl))
  f233:=Tryz.func218.trans (congrArg some (by kernel_rfl))
  f235:=Tryz.func220.trans (congrArg some (by kernel_rfl))
  f260:=Tryz.func258.trans (congrArg some (by kernel_rfl))
  f266:=Tryz.func259.trans (congrArg some (by kernel_rfl))
  t0:=Tryz.underlying0
  a0:=Tryz.isAgg0
  z0:=Tryz.sizeOf0
  v0:=Tryz.zeroValue0
  t3:=Tryz.underlying3
  a3:=Tryz.isAgg3
  z3:=Tryz.sizeOf3
  v3:=Tryz.zeroValue3
  t4:=Tryz.underlying4
  a4:=Tryz.isAgg4
  z4:=Tryz.sizeOf4
  v4:=Tryz.zeroValue4
  t5:=Tryz.underlying5
  a5:=Tryz.isAgg5
  z5:=Tryz.sizeOf5
  v5:=Tryz.zeroValue5
  t9:=Tryz.underlying9
  a9:=Tryz.isAgg9
  z9:=Tryz.sizeOf9
  v9:=Tryz.zeroValue9
  t21:=Tryz.underlying21
  a21:=Tryz.isAgg21
  z21:=Tryz.sizeOf21
  v21:=Tryz.zeroValue21
  t46:=Tryz.underlying25
  a46:=Tryz.isAgg25
  z46:=Tryz.sizeOf25
  v46:=Tryz.zeroValue25
  t105:=Tryz.underlying264
  a105:=Tryz.isAgg264
  z105:=Tryz.sizeOf264
  v105:=Tryz.zeroValue264
  t116:=Tryz.underlying245
  a116:=Tryz.isAgg245
  z116:=Tryz.sizeOf245
  t117:=Tryz.underlying246
  a117:=Tryz.isAgg246
  z117:=Tryz.sizeOf246
  v117:=Tryz.zeroValue246
  t119:=Tryz.underlying279
  a119:=Tryz.isAgg279
  z119:=Tryz.sizeOf279
  t124:=Tryz.underlying249
  a124:=Tryz.isAgg249
  z124:=Tryz.sizeOf249
  v124:=Tryz.zeroValue249
  t138:=Tryz.underlying281
  a138:=Tryz.isAgg281
  z138:=Tryz.sizeOf281
  v138:=Tryz.zeroValue281
  t139:=Tryz.underlying282
  a139:=Tryz.isAgg282
  z139:=Tryz.sizeOf282
  v139:=Tryz.zeroValue282
  g3:=by kernel_rfl
  g4:=by kernel_rfl}
def Tryz.zhm:Go.Shelf.Ren:=⟨fun|160=>186|232=>216|231=>215|227=>217|234=>219|233=>218|236=>221|235=>220|228=>245|271=>247|151=>246|197=>239|120=>262|152=>261|260=>258|137=>213|119=>267|224=>243|225=>242|217=>241|266=>259|n=>n,fun|9=>9|4=>4|3=>3|5=>5|117=>246|116=>245|0=>0|124=>249|21=>21|105=>264|46=>25|119=>279|139=>282|138=>281|n=>n,fun|3=>2|4=>3|n=>n⟩
theorem Tryz.lays160:Go.Proofs.Lays.n160 Tryz.prog Tryz.zhm:= {
  mixed:=by kernel_rfl
  f119:=Tryz.func267.trans (congrArg some (by kernel_rfl))
  f120:=Tryz.func262.trans (congrArg some (by kernel_rfl))
  f137:=Tryz.func213.trans (congrArg some (by kernel_rfl))
  f151:=Tryz.func246.trans (congrArg some (by kernel_rfl))
  f152:=Tryz.func261.trans (congrArg some (by kernel_rfl))
  f160:=Tryz.func186.trans (congrArg some (by kernel_rfl))
  f197:=Tryz.func239.trans (congrArg some (by kernel_rfl))
  f217:=Tryz.func241.trans (congrArg some (by kernel_rfl))
  f224:=Tryz.func243.trans (congrArg some (by kernel_rfl))
  f225:=Tryz.func242.trans (congrArg some (by kernel_rfl))
  f227:=Tryz.func217.trans (congrArg some (by kernel_rfl))
  f228:=Tryz.func245.trans (congrArg some (by kernel_rfl))
  f231:=Tryz.func215.trans (congrArg some (by kernel_rfl))
  f232:=Tryz.func216.trans (congrArg some (by kernel_rfl))
  f233:=Tryz.func218.trans (congrArg some (by kernel_rfl))
  f234:=Tryz.func219.trans (congrArg some (by kernel_rfl))
  f235:=Tryz.func220.trans (congrArg some (by kernel_rfl))
  f236:=Tryz.func221.trans (congrArg some (by kernel_rfl))
  f260:=Tryz.func258.trans (congrArg some (by kernel_rfl))
  f266:=Tryz.func259.trans (congrArg some (by kernel_rfl))
  f271:=Tryz.func247.trans (congrArg some (by kernel_rfl))
  t0:=Tryz.underlying0
  a0:=Tryz.isAgg0
  z0:=Tryz.sizeOf0
  v0:=Tryz.zeroValue0
  t3:=Tryz.underlying3
  a3:=Tryz.isAgg3
  z3:=Tryz.sizeOf3
  v3:=Tryz.zeroValue3
  t4:=Tryz.underlying4
  a4:=Tryz.isAgg4
  z4:=Tryz.sizeOf4
  v4:=Tryz.zeroValue4
  t5:=Tryz.underlying5
  a5:=Tryz.isAgg5
  z5:=Tryz.sizeOf5
  v5:=Tryz.zeroValue5
  t9:=Tryz.underlying9
  a9:=Tryz.isAgg9
  z9:=Tryz.sizeOf9
  v9:=Tryz.zeroValue9
  t21:=Tryz.underlying21
  a21:=Tryz.isAgg21
  z21:=Tryz.sizeOf21
  v21:=Tryz.zeroValue21
  t46:=Tryz.underlying25
  a46:=Tryz.isAgg25
  z46:=Tryz.sizeOf25
  v46:=Tryz.zeroValue25
  t105:=Tryz.underlying264
  a105:=Tryz.isAgg264
  z105:=Tryz.sizeOf264
  v105:=Tryz.zeroValue264
  t116:=Tryz.underlying245
  a116:=Tryz.isAgg245
  z116:=Tryz.sizeOf245
  t117:=Tryz.underlying246
  a117:=Tryz.isAgg246
  z117:=Tryz.sizeOf246
  v117:=Tryz.zeroValue246
  t119:=Tryz.underlying279
  a119:=Tryz.isAgg279
  z119:=Tryz.sizeOf279
  t124:=Tryz.underlying249
  a124:=Tryz.isAgg249
  z124:=Tryz.sizeOf249
  v124:=Tryz.zeroValue249
  t138:=Tryz.underlying281
  a138:=Tryz.isAgg281
  z138:=Tryz.sizeOf281
  v138:=Tryz.zeroValue281
  t139:=Tryz.underlying282
  a139:=Tryz.isAgg282
  z139:=Tryz.sizeOf282
  v139:=Tryz.zeroValue282
  g3:=by kernel_rfl
  g4:=by kernel_rfl}
def Tryz.zho:Go.Shelf.Ren:=⟨fun|137=>213|217=>241|266=>259|n=>n,fun|9=>9|5=>5|3=>3|n=>n,fun|n=>n⟩
theorem Tryz.lays137:Go.Proofs.Lays.n137 Tryz.prog Tryz.zho:= {
  mixed:=by kernel_rfl
  f137:=Tryz.func213.trans (congrArg some (by kernel_rfl))
  f217:=Tryz.func241.trans (congrArg some (by kernel_rfl))
  f266:=Tryz.func259.trans (congrArg some (by kernel_rfl))
  t3:=Tryz.underlying3
  a3:=Tryz.isAgg3
  z3:=Tryz.sizeOf3
  v3:=Tryz.zeroValue3
  t5:=Tryz.underlying5
  a5:=Tryz.isAgg5
  z5:=Tryz.sizeOf5
  v5:=Tryz.zeroValue5
  t9:=Tryz.underlying9
  a9:=Tryz.isAgg9
  z9:=Tryz.sizeOf9
  v9:=Tryz.zeroValue9}
def Tryz.zhp:Go.Shelf.Ren:=⟨fun|103=>130|210=>161|206=>64|n=>n,fun|9=>9|4=>4|24=>169|3=>3|n=>n,fun|n=>n⟩
theorem Tryz.ztz:Go.Proofs.Lays.n103 Tryz.prog Tryz.zhp:= {
  mixed:=by kernel_rfl
  f103:=Tryz.func130.trans (congrArg some (by kernel_rfl))
  f206:=Tryz.func64.trans (congrArg some (by kernel_rfl))
  f210:=Tryz.func161.trans (congrArg some (by kernel_rfl))
  t3:=Tryz.underlying3
  a3:=Tryz.isAgg3
  z3:=Tryz.sizeOf3
  v3:=Tryz.zeroValue3
  t4:=Tryz.underlying4
  a4:=Tryz.isAgg4
  z4:=Tryz.sizeOf4
  v4:=Tryz.zeroValue4
  t9:=Tryz.underlying9
  a9:=Tryz.isAgg9
  z9:=Tryz.sizeOf9
  v9:=Tryz.zeroValue9
  t24:=Tryz.underlying169
  a24:=Tryz.isAgg169
  z24:=Tryz.sizeOf169
  v24:=Tryz.zeroValue169}
def Tryz.zfs:Go.Shelf.Ren:=⟨fun|171=>121|243=>156|246=>188|283=>222|284=>223|285=>224|286=>225|129=>249|317=>248|318=>250|319=>251|320=>252|337=>263|338=>264|n=>n,fun|3=>3|9=>9|2=>2|4=>4|171=>250|0=>0|53=>251|37=>22|5=>5|173=>254|212=>268|51=>269|20=>20|213=>270|46=>25|232=>284|233=>285|n=>n,fun|17=>1|18=>4|19=>5|n=>n⟩
theorem Tryz.laysM171:Go.Proofs.LaysM.n171 Tryz.prog Tryz.zfs:= {
  mixed:=by kernel_rfl
  f129:=Tryz.func249.trans (congrArg some (by kernel_rfl))
  f171:=Tryz.func121.trans (congrArg some (by kernel_rfl))
  f243:=Tryz.func156.trans (congrArg some (by kernel_rfl))
  f246:=Tryz.func188.trans (congrArg some (by kernel_rfl))
  f283:=Tryz.func222.trans (congrArg some (by kernel_rfl))
  f284:=Tryz.func223.trans (congrArg some (by kernel_rfl))
  f285:=Tryz.func224.trans (congrArg some (by kernel_rfl))
  f286:=Tryz.func225.trans (congrArg some (by kernel_rfl))
  f317:=Tryz.func248.trans (congrArg some (by kernel_rfl))
  f318:=Tryz.func250.trans (congrArg some (by kernel_rfl))
  f319:=Tryz.func251.trans (congrArg some (by kernel_rfl))
  f320:=Tryz.func252.trans (congrArg some (by kernel_rfl))
  f337:=Tryz.func263.trans (congrArg some (by kernel_rfl))
  f338:=Tryz.func264.trans (congrArg some (by kernel_rfl))
  t0:=Tryz.underlying0
  a0:=Tryz.isAgg0
  z0:=Tryz.sizeOf0
  v0:=Tryz.zeroValue0
  t2:=Tryz.underlying2
  a2:=Tryz.isAgg2
  z2:=Tryz.sizeOf2
  v2:=Tryz.zeroValue2
  t3:=Tryz.underlying3
  a3:=Tryz.isAgg3
  z3:=Tryz.sizeOf3
  v3:=Tryz.zeroValue3
  t4:=Tryz.underlying4
  a4:=Tryz.isAgg4
  z4:=Tryz.sizeOf4
  v4:=Tryz.zeroValue4
  t5:=Tryz.underlying5
  a5:=Tryz.isAgg5
  z5:=Tryz.sizeOf5
  v5:=Tryz.zeroValue5
  t9:=Tryz.underlying9
  a9:=Tryz.isAgg9
  z9:=Tryz.sizeOf9
  v9:=Tryz.zeroValue9
  t20:=Tryz.underlying20
  a20:=Tryz.isAgg20
  z20:=Tryz.sizeOf20
  v20:=Tryz.zeroValue20
  t37:=Tryz.underlying22
  a37:=Tryz.isAgg22
  z37:=Tryz.sizeOf22
  v37:=Tryz.zeroValue22
  t46:=Tryz.underlying25
  a46:=Tryz.isAgg25
  z46:=Tryz.sizeOf25
  v46:=Tryz.zeroValue25
  t51:=Tryz.underlying269
  a51:=Tryz.isAgg269
  z51:=Tryz.sizeOf269
  v51:=Tryz.zeroValue269
  t53:=Tryz.underlying251
  a53:=Tryz.isAgg251
  z53:=Tryz.sizeOf251
  v53:=Tryz.zeroValue251
  t171:=Tryz.underlying250
  a171:=Tryz.isAgg250
  z171:=Tryz.sizeOf250
  v171:=Tryz.zeroValue250
  t173:=Tryz.underlying254
  a173:=Tryz.isAgg254
  z173:=Tryz.sizeOf254
  v173:=Tryz.zeroValue254
  t212:=Tryz.underlying268
  a212:=Tryz.isAgg268
  z212:=Tryz.sizeOf268
  v212:=Tryz.zeroValue268
  t213:=Tryz.underlying270
  a213:=Tryz.isAgg270
  z213:=Tryz.sizeOf270
  t232:=Tryz.underlying284
  a232:=Tryz.isAgg284
  z232:=Tryz.sizeOf284
  v232:=Tryz.zeroValue284
  t233:=Tryz.underlying285
  a233:=Tryz.isAgg285
  z233:=Tryz.sizeOf285
  v233:=Tryz.zeroValue285
  g17:=by kernel_rfl
  g18:=by kernel_rfl
  g19:=by kernel_rfl
  i0:=by kernel_rfl
  i2:=by kernel_rfl
  i3:=by kernel_rfl
  i4:=by kernel_rfl
  i5:=by kernel_rfl
  i9:=by kernel_rfl
  i20:=by kernel_rfl
  i37:=by kernel_rfl
  i46:=by kernel_rfl
  i51:=by kernel_rfl
  i53:=by kernel_rfl
  i171:=by kernel_rfl
  i173:=by kernel_rfl
  i212:=by kernel_rfl
  i232:=by kernel_rfl
  i233:=by kernel_rfl
  m17:=by kernel_rfl
  m18:=by kernel_rfl
  m19:=by kernel_rfl}
def Tryz.zhk:Go.Shelf.Ren:=⟨fun|219=>214|217=>241|225=>242|224=>243|267=>244|266=>259|314=>260|n=>n,fun|9=>9|3=>3|4=>4|5=>5|46=>25|146=>275|51=>269|n=>n,fun|1=>0|n=>n⟩
theorem Tryz.lays219:Go.Proofs.Lays.n219 Tryz.prog Tryz.zhk:= {
  mixed:=by kernel_rfl
  f217:=Tryz.func241.trans (congrArg some (by kernel_rfl))
  f219:=Tryz.func214.trans (congrArg some (by kernel_rfl))
  f224:=Tryz.func243.trans (congrArg some (by kernel_rfl))
  f225:=Tryz.func242.trans (congrArg some (by kernel_rfl))
  f266:=Tryz.func259.trans (congrArg some (by kernel_rfl))
  f267:=Tryz.func244.trans (congrArg some (by kernel_rfl))
  f314:=Tryz.func260.trans (congrArg some (by kernel_rfl))
  t3:=Tryz.underlying3
  a3:=Tryz.isAgg3
  z3:=Tryz.sizeOf3
  v3:=Tryz.zeroValue3
  t4:=Tryz.underlying4
  a4:=Tryz.isAgg4
  z4:=Tryz.sizeOf4
  v4:=Tryz.zeroValue4
  t5:=Tryz.underlying5
  a5:=Tryz.isAgg5
  z5:=Tryz.sizeOf5
  v5:=Tryz.zeroValue5
  t9:=Tryz.underlying9
  a9:=Tryz.isAgg9
  z9:=Tryz.sizeOf9
  v9:=Tryz.zeroValue9
  t46:=Tryz.underlying25
  a46:=Tryz.isAgg25
  z46:=Tryz.sizeOf25
  v46:=Tryz.zeroValue25
  t51:=Tryz.underlying269
  a51:=Tryz.isAgg269
  z51:=Tryz.sizeOf269
  v51:=Tryz.zeroValue269
  t146:=Tryz.underlying275
  a146:=Tryz.isAgg275
  z146:=Tryz.sizeOf275
  v146:=Tryz.zeroValue275
  g1:=by kernel_rfl}
def Tryz.zhn:Go.Shelf.Ren:=⟨fun|144=>149|143=>184|219=>214|217=>241|225=>242|224=>243|267=>244|266=>259|314=>260|n=>n,fun|9=>9|4=>4|3=>3|5=>5|46=>25|146=>275|51=>269|n=>n,fun|1=>0|n=>n⟩
theorem Tryz.lays144:Go.Proofs.Lays.n144 Tryz.prog Tryz.zhn:= {
  mixed:=by kernel_rfl
  f143:=Tryz.func184.trans (congrArg some (by kernel_rfl))
  f144:=Tryz.func149.trans (congrArg some (by kernel_rfl))
  f217:=Tryz.func241.trans (congrArg some (by kernel_rfl))
  f219:=Tryz.func214.trans (congrArg some (by kernel_rfl))
  f224:=Tryz.func243.trans (congrArg some (by kernel_rfl))
  f225:=Tryz.func242.trans (congrArg some (by kernel_rfl))
  f266:=Tryz.func259.trans (congrArg some (by kernel_rfl))
  f267:=Tryz.func244.trans (congrArg some (by kernel_rfl))
  f314:=Tryz.func260.trans (congrArg some (by kernel_rfl))
  t3:=Tryz.underlying3
  a3:=Tryz.isAgg3
  z3:=Tryz.sizeOf3
  v3:=Tryz.zeroValue3
  t4:=Tryz.underlying4
  a4:=Tryz.isAgg4
  z4:=Tryz.sizeOf4
  v4:=Tryz.zeroValue4
  t5:=Tryz.underlying5
  a5:=Tryz.isAgg5
  z5:=Tryz.sizeOf5
  v5:=Tryz.zeroValue5
  t9:=Tryz.underlying9
  a9:=Tryz.isAgg9
  z9:=Tryz.sizeOf9
  v9:=Tryz.zeroValue9
  t46:=Tryz.underlying25
  a46:=Tryz.isAgg25
  z46:=Tryz.sizeOf25
  v46:=Tryz.zeroValue25
  t51:=Tryz.underlying269
  a51:=Tryz.isAgg269
  z51:=Tryz.sizeOf269
  v51:=Tryz.zeroValue269
  t146:=Tryz.underlying275
  a146:=Tryz.isAgg275
  z146:=Tryz.sizeOf275
  v146:=Tryz.zeroValue275
  g1:=by kernel_rfl}
def Tryz.lays99_ren:Go.Shelf.Ren:=⟨fun|99=>37|206=>64|n=>n,fun|9=>9|4=>4|3=>3|n=>n,fun|n=>n⟩
theorem Tryz.lays99:Go.Proofs.Lays.n99 Tryz.prog Tryz.lays99_ren:= {
  mixed:=by kernel_rfl
  f99:=Tryz.func37.trans (congrArg some (by kernel_rfl))
  f206:=Tryz.func64.trans (congrArg some (by kernel_rfl))
  t3:=Tryz.underlying3
  a3:=Tryz.isAgg3
  z3:=Tryz.sizeOf3
  v3:=Tryz.zeroValue3
  t4:=Tryz.underlying4
  a4:=Tryz.isAgg4
  z4:=Tryz.sizeOf4
  v4:=Tryz.zeroValue4
  t9:=Tryz.underlying9
  a9:=Tryz.isAgg9
  z9:=Tryz.sizeOf9
  v9:=Tryz.zeroValue9}
def Tryz.lays146_ren:Go.Shelf.Ren:=⟨fun|146=>147|221=>181|268=>209|138=>210|143=>184|195=>238|197=>239|218=>240|219=>214|260=>258|217=>241|225=>242|224=>243|267=>244|266=>259|314=>260|n=>n,fun|9=>9|31=>132|3=>3|4=>4|0=>0|105=>264|21=>21|5=>5|46=>25|119=>279|139=>282|138=>281|146=>275|51=>269|n=>n,fun|1=>0|3=>2|4=>3|n=>n⟩
theorem Tryz.lays146:Go.Proofs.Lays.n146 Tryz.prog Tryz.lays146_ren:= {
  mixed:=by kernel_rfl
  f138:=Tryz.func210.trans (congrArg some (by kernel_rfl))
  f143:=Tryz.func184.trans (congrArg some (by kernel_rfl))
  f146:=Tryz.func147.trans (congrArg some (by kernel_rfl))
  f195:=Tryz.func238.trans (congrArg some (by kernel_rfl))
  f197:=Tryz.func239.trans (congrArg some (by kernel_rfl))
  f217:=Tryz.func241.trans (congrArg some (by kernel_rfl))
  f218:=Tryz.func240.trans (congrArg some (by kernel_rfl))
  f219:=Tryz.func214.trans (congrArg some (by kernel_rfl))
  f221:=Tryz.func181.trans (congrArg some (by kernel_rfl))
  f224:=Tryz.func243.trans (congrArg some (by kernel_rfl))
  f225:=Tryz.func242.trans (congrArg some (by kernel_rfl))
  f260:=Tryz.func258.trans (congrArg some (by kernel_rfl))
  f266:=Tryz.func259.trans (congrArg some (by kernel_rfl))
  f267:=Tryz.func244.trans (congrArg some (by kernel_rfl))
  f268:=Tryz.func209.trans (congrArg some (by kernel_rfl))
  f314:=Tryz.func260.trans (congrArg some (by kernel_rfl))
  t0:=Tryz.underlying0
  a0:=Tryz.isAgg0
  z0:=Tryz.sizeOf0
  v0:=Tryz.zeroValue0
  t3:=Tryz.underlying3
  a3:=Tryz.isAgg3
  z3:=Tryz.sizeOf3
  v3:=Tryz.zeroValue3
  t4:=Tryz.underlying4
  a4:=Tryz.isAgg4
  z4:=Tryz.sizeOf4
  v4:=Tryz.zeroValue4
  t5:=Tryz.underlying5
  a5:=Tryz.isAgg5
  z5:=Tryz.sizeOf5
  v5:=Tryz.zeroValue5
  t9:=Tryz.underlying9
  a9:=Tryz.isAgg9
  z9:=Tryz.sizeOf9
  v9:=Tryz.zeroValue9
  t21:=Tryz.underlying21
  a21:=Tryz.isAgg21
  z21:=Tryz.sizeOf21
  v21:=Tryz.zeroValue21
  t31:=Tryz.underlying132
  a31:=Tryz.isAgg132
  z31:=Tryz.sizeOf132
  v31:=Tryz.zeroValue132
  t46:=Tryz.underlying25
  a46:=Tryz.isAgg25
  z46:=Tryz.sizeOf25
  v46:=Tryz.zeroValue25
  t51:=Tryz.underlying269
  a51:=Tryz.isAgg269
  z51:=Tryz.sizeOf269
  v51:=Tryz.zeroValue269
  t105:=Tryz.underlying264
  a105:=Tryz.isAgg264
  z105:=Tryz.sizeOf264
  v105:=Tryz.zeroValue264
  t119:=Tryz.underlying279
  a119:=Tryz.isAgg279
  z119:=Tryz.sizeOf279
  t138:=Tryz.underlying281
  a138:=Tryz.isAgg281
  z138:=Tryz.sizeOf281
  v138:=Tryz.zeroValue281
  t139:=Tryz.underlying282
  a139:=Tryz.isAgg282
  z139:=Tryz.sizeOf282
  v139:=Tryz.zeroValue282
  t146:=Tryz.underlying275
  a146:=Tryz.isAgg275
  z146:=Tryz.sizeOf275
  v146:=Tryz.zeroValue275
  g1:=by kernel_rfl
  g3:=by kernel_rfl
  g4:=by kernel_rfl}
open Go.RowKit in
theorem Tryz.strings_IndexByte (s:ByteArray) (c:Int) (w:World):
    Calls Tryz.prog 213 #[.string s,.int .u8 c] w fun e w'=>e=.returned (.int .i64 (Lib.indexByte s.data.toList c.toNat.toUInt8))∧w'=w:=Any.strings_IndexByte Tryz.lays137 s c w
open Go.RowKit in
theorem Tryz.strings_CutPrefix (s p:ByteArray) (w:World):
    Calls Tryz.prog 130 #[.string s,.string p] w fun e w'=>e=.returned (.tuple #[.string ⟨(Lib.trimPrefix s.data.toList p.data.toList).toArray⟩,.bool (Lib.hasPrefix s.data.toList p.data.toList)])∧w'=w:=Any.strings_CutPrefix Tryz.ztz s p w
open Go.RowKit Go.Sort Go.Lib in
theorem Tryz.strconv_Itoa (n:Int) (h0: -9223372036854775808≤n) (h1:n≤9223372036854775807) (w:World) (htab:Lib.TabIs Tryz.prog w "internal/strconv.uint64pow10" .u64 Lib.pow10Tab):
    Calls Tryz.prog 121 #[.int .i64 n] w fun e w'=>e=.returned (.string ⟨(Lib.itoa n).toArray⟩)∧∃ k os,w'=grow (w.drewN k) os:=Any.strconv_Itoa Tryz.laysM171 n h0 h1 w htab
open Go.RowKit Go.Lib in
theorem Tryz.stringslite_Index_one (s:ByteArray) (c:UInt8) (w:World):
    Calls Tryz.prog 214 #[.string s,.string ⟨#[c]⟩] w fun e w'=>e=.returned (.int .i64 (Lib.indexByte s.data.toList c))∧w'=w:=Any.stringslite_Index_one Tryz.lays219 s c w
open Go.RowKit Go.Lib in
theorem Tryz.strings_Contains_one (s:ByteArray) (c:UInt8) (w:World):
    Calls Tryz.prog 149 #[.string s,.string ⟨#[c]⟩] w fun e w'=>e=.returned (.bool (decide (0≤Lib.indexByte s.data.toList c)))∧w'=w:=Any.strings_Contains_one Tryz.lays144 s c w
open Go.RowKit Go.Lib in
theorem Tryz.strings_HasPrefix (s p:ByteArray) (w:World):
    Calls Tryz.prog 37 #[.string s,.string p] w fun e w'=>e=.returned (.bool (Lib.hasPrefix s.data.toList p.data.toList))∧w'=w:=Any.strings_HasPrefix Tryz.lays99 s p w
open Go.RowKit Go.Lib in
theorem Tryz.strings_Split (s sep:ByteArray) (m:Int) (w:World) (hs:s.size<4294967281) (hm:w.cell? ⟨0,0,none⟩=some (.int .i64 m)) (h1:1≤sep.size):
    Calls Tryz.prog 147 #[.string s,.string sep] w fun e w'=>
      e=.returned (.slice (some ⟨w.heap.size,0,none⟩) (Lib.countB s sep+1) (Lib.countB s sep+1))∧w'=w.alloc (.cells ((Lib.splitB sep 0 (Lib.countB s sep) s).map Value.string).toArray 9):=Any.strings_Split Tryz.lays146 (by kernel_rfl) s sep m w hs hm h1
theorem Tryz.strings_Trim_laid (s cutset:ByteArray) (w:World) (hs:s.size≤9223372036854775807) (hcs:cutset.size<4294967281) (hascii: ∀ (j:Nat) b,cutset.data.toList[j]? =some b→b.toNat<128):
    Calls Tryz.prog 186 #[.string s,.string cutset] w fun e w'=>e=.returned (.string ⟨(Lib.trimS s.data.toList cutset.data.toList).toArray⟩)∧Go.RowKit.Below w.heap.size w w':=Any.strings_Trim_laid Tryz.lays160 (by kernel_rfl) s cutset w hs hcs hascii
theorem Tryz.strings_TrimLeft_laid (s cutset:ByteArray) (w:World) (hcs:cutset.size<4294967281) (hascii: ∀ (j:Nat) b,cutset.data.toList[j]? =some b→b.toNat<128):
    Calls Tryz.prog 230 #[.string s,.string cutset] w fun e w'=>e=.returned (.string ⟨(Lib.trimLeftS s.data.toList cutset.data.toList).toArray⟩)∧Go.RowKit.Below w.heap.size w w':=Any.strings_TrimLeft_laid Tryz.lays161 (by kernel_rfl) s cutset w hcs hascii
end Go.Proofs
namespace Go.Ab
open Go Go.Sep
variable [Facts]
theorem zh3 {w w':World} (h:RowKit.Below w.heap.size w w'):Keeps (fun k=>k<w.heap.size) w w':=⟨h.1,h.2,h.3,h.4,h.5⟩
theorem Spc.of_below {Pr:Program} {f:Nat} {args:List D} {hp:List HO} {d:D} (hf: ∃ fn,Pr.funcs[f]? =some fn∧(fn.name == "runtime.NumGoroutine")=false∧fn.body.isNone=false)
    (h: ∀ (S:Frz) (bs:List Value) (w:World) (vs:List Value),Facts.p w→MDs S bs args vs→∃ v,MD S bs d v∧Calls Pr f vs.toArray w fun e w'=>e=.returned v∧RowKit.Below w.heap.size w w'):Spc Pr f args hp (.ret d) hp:=by
  refine⟨hf,fun S K fr w vs hH hM hA=> ?_⟩
  obtain⟨v,hv,hc⟩:=h S _ w vs (At.frz hA).facts hM
  refine hc.mono fun e w' he=> ?_
  obtain⟨he,hb⟩:=he
  subst he
  exact⟨S,K,Frz.le.refl S,Ext.refl _,hH,hA.keep (zh3 hb),hv⟩
end Go.Ab
namespace Go.Proofs.YtmkcejdibmilmaaGreatDoor
open Go Go.Sep Go.Ab
set_option maxRecDepth 100000
theorem zil (s cs:Str):(Lib.trimS s cs).length≤s.length:=by
  unfold Lib.trimS Lib.trimLeftS Lib.trimRightS
  refine Nat.le_trans (List.dropWhile_sublist _).length_le ?_
  rw [List.length_reverse]
  exact Nat.le_trans (List.dropWhile_sublist _).length_le (by rw [List.length_reverse];exact Nat.le_refl _)
theorem YG: ∀ (s:Str) (c:UInt8),-1≤Lib.indexByte s c∧Lib.indexByte s c<s.length
  |[],c=>by simp [Lib.indexByte]
  | b ::l,c=>by
    have:=YG l c
    unfold Lib.indexByte
    rw [List.length_cons]
    split
    · omega
    · split
      · omega
      · omega
theorem zwP (s:Str):Spc Tryz.prog 186 [.v (.one (.p (.str s))),.v (.one (.p (.str ([32,9]))))] [] (.ret (.v (.one (.p (.str (Lib.trimS s [32,9])))))) []:=by
  refine Spc.of_below ⟨_,Tryz.func186,by kernel_rfl,by kernel_rfl⟩ fun S bs w vs _ hM=> ?_
  obtain⟨v,r,rfl⟩: ∃ v r,vs=v::r:=by cases vs with|nil=>exact hM.elim|cons v r=>exact⟨v,r,rfl⟩
  obtain⟨h1,hM⟩:=hM
  obtain⟨v2,r2,rfl⟩: ∃ v r2,r=v::r2:=by cases r with|nil=>exact hM.elim|cons v r=>exact⟨v,r,rfl⟩
  obtain⟨h2,hM⟩:=hM
  obtain rfl:r2=[]:=by cases r2 with|nil=>rfl|cons v r=>exact hM.elim
  cases h1 with
  | str _ hl1=>
    cases h2 with
    | str _ hl2=>
      refine⟨.string (Sep.S (Lib.trimS s [32,9])),.str _ (Nat.le_trans (zil _ _) hl1),?_⟩
      exact Tryz.strings_Trim_laid (Sep.S s) (Sep.S [32,9]) w (by have:=hl1;unfold maxLen at this;exact this) (by decide) (fun j b hb=>by
        have:=List.mem_of_getElem? hb
        rcases(by simpa [Sep.S] using this:b=32∨b=9) with rfl|rfl<;>decide)
def zdc (I:Alg) (args:List D) (hp:List HO):Option CT:=match args,hp with
  |[.v (.one (.p (.str s))),.v (.one (.p (.str ([32,9]))))],[]=>(fun(s:Str)=>(some (.one ⟨I.hid (True),(.ret (.v (.one (.p (.str (I.hid (Lib.trimS s [32,9]))))))),[]⟩):Option CT)) s
  |_,_=>none
theorem zlW:zx Tryz.prog 186 (zdc alg):=by
  intro args hp r h
  unfold zdc at h
  split at h
  · cases h;exact fun hn=>zwP _
  · cases h
def zsx:Know Tryz.prog:=⟨186,zdc,zlW⟩
def zsw:Know Tryz.prog:=⟨186,fun I=>zy I (zdc I),zf zlW⟩
theorem zld (s:Str) (k:Int):Spc Tryz.prog 213 [.v (.one (.p (.str s))),.v (.one (.p (.int .u8 k)))] [] (.ret (.v (.one (.p (.int .i64 (Lib.indexByte s k.toNat.toUInt8)))))) []:=by
  refine Spc.of_below ⟨_,Tryz.func213,by kernel_rfl,by kernel_rfl⟩ fun S bs w vs _ hM=> ?_
  obtain⟨v,r,rfl⟩: ∃ v r,vs=v::r:=by cases vs with|nil=>exact hM.elim|cons v r=>exact⟨v,r,rfl⟩
  obtain⟨h1,hM⟩:=hM
  obtain⟨v2,r2,rfl⟩: ∃ v r2,r=v::r2:=by cases r with|nil=>exact hM.elim|cons v r=>exact⟨v,r,rfl⟩
  obtain⟨h2,hM⟩:=hM
  obtain rfl:r2=[]:=by cases r2 with|nil=>rfl|cons v r=>exact hM.elim
  cases h1 with
  | str _ hl1=>
    cases h2 with
    | int _ _=>
      refine⟨.int .i64 (Lib.indexByte s k.toNat.toUInt8),.int _ _,?_⟩
      refine(Tryz.strings_IndexByte (Sep.S s) k w).mono fun e w' h=> ?_
      obtain⟨he,rfl⟩:=h
      exact⟨he,RowKit.Below.refl _ _⟩
def qL (I:Alg) (args:List D) (hp:List HO):Option CT:=match args,hp with
  |[.v (.one (.p (.str s))),.v (.one (.p (.int .u8 k)))],[]=>(fun(s:Str) (k:Int)=>(some (.one ⟨I.hid (True),(.ret (.v (.one (.p (.int .i64 (I.hid (Lib.indexByte s k.toNat.toUInt8))))))),[]⟩):Option CT)) s k
  |_,_=>none
theorem SE:zx Tryz.prog 213 (qL alg):=by
  intro args hp r h
  unfold qL at h
  split at h
  · cases h;exact fun hn=>zld _ _
  · cases h
def zfD:Know Tryz.prog:=⟨213,qL,SE⟩
def zfC:Know Tryz.prog:=⟨213,fun I=>zy I (qL I),zf SE⟩
theorem ztD (s:Str) (c:UInt8):Spc Tryz.prog 214 [.v (.one (.p (.str s))),.v (.one (.p (.str ([c]))))] [] (.ret (.v (.one (.p (.int .i64 (Lib.indexByte s c)))))) []:=by
  refine Spc.of_below ⟨_,Tryz.func214,by kernel_rfl,by kernel_rfl⟩ fun S bs w vs _ hM=> ?_
  obtain⟨v,r,rfl⟩: ∃ v r,vs=v::r:=by cases vs with|nil=>exact hM.elim|cons v r=>exact⟨v,r,rfl⟩
  obtain⟨h1,hM⟩:=hM
  obtain⟨v2,r2,rfl⟩: ∃ v r2,r=v::r2:=by cases r with|nil=>exact hM.elim|cons v r=>exact⟨v,r,rfl⟩
  obtain⟨h2,hM⟩:=hM
  obtain rfl:r2=[]:=by cases r2 with|nil=>rfl|cons v r=>exact hM.elim
  cases h1 with
  | str _ hl1=>
    cases h2 with
    | str _ _=>
      refine⟨.int .i64 (Lib.indexByte s c),.int _ _,?_⟩
      refine(Tryz.stringslite_Index_one (Sep.S s) c w).mono fun e w' h=> ?_
      obtain⟨he,rfl⟩:=h
      exact⟨he,RowKit.Below.refl _ _⟩
def VB (I:Alg) (args:List D) (hp:List HO):Option CT:=match args,hp with
  |[.v (.one (.p (.str s))),.v (.one (.p (.str ([c]))))],[]=>(fun(s:Str) (c:UInt8)=>(some (.one ⟨I.hid (True),(.ret (.v (.one (.p (.int .i64 (I.hid (Lib.indexByte s c))))))),[]⟩):Option CT)) s c
  |_,_=>none
theorem zfE:zx Tryz.prog 214 (VB alg):=by
  intro args hp r h
  unfold VB at h
  split at h
  · cases h;exact fun hn=>ztD _ _
  · cases h
def znX:Know Tryz.prog:=⟨214,VB,zfE⟩
def znW:Know Tryz.prog:=⟨214,fun I=>zy I (VB I),zf zfE⟩
end Go.Proofs.YtmkcejdibmilmaaGreatDoor
namespace Go.Proofs.YtmkcejdibmilmaaGreatDoor
open Go Go.Sep Go.Ab
set_option maxRecDepth 100000
def lowK (k:Int):Int:=if 65≤k∧k≤90 then k+32 else k
def SS (k:Int):Bool:=decide (48≤k∧k≤57)
def YD (k:Int):Bool:=decide (97≤lowK k∧lowK k≤122)
def marks:Str:=[33,35,36,37,38,39,42,43,45,46,94,95,96,124,126]
def tokB (k:Int):Bool:=SS k||(YD k||decide (0≤Lib.indexByte marks k.toNat.toUInt8))
def zdp (k:Int):Bool:=decide (k=9∨32≤k∧k≠127)
def hexK (k:Int):Int:=if SS k then k - 48 else if YD k&&decide (lowK k≤102) then lowK k - 97+10 else -1
theorem zwN (n:Int) (h:0≤n∧n≤255):IntKind.u8.wrap n=n:=by
  unfold IntKind.wrap
  simp only [show IntKind.u8.signed=false by decide,show IntKind.u8.bits=8 by decide,Bool.false_and,Bool.false_eq_true,if_false]
  omega
theorem wrap64 (n:Int) (h: -9223372036854775808≤n∧n≤9223372036854775807):IntKind.i64.wrap n=n:=by
  unfold IntKind.wrap
  simp only [show IntKind.i64.signed=true by decide,show IntKind.i64.bits=64 by decide]
  split<;>simp_all<;>omega
theorem znK {k:Int} (h:0≤k∧k≤255):0≤lowK k∧lowK k≤255:=by unfold lowK;split<;>omega
theorem zwq (k:Int):Spc Tryz.prog 211 [.v (.one (.p (.int .u8 k)))] [] (.ret (.v (.one (.p (.bool (SS k)))))) []:=by
  refine spcG zh mixed Tryz.func211 (by kernel_rfl) { keep:=some [0,2]} [] (by kernel_rfl) ?_
  intro I X hI hX
  refine orcL ?_;go_invoke;refine orcS (by kernel_rfl) ?_
  simp only [zi,Nat.reduceAdd]
  subst hI
  simp only [nrmA,nrmB]
  unfold SS
  exact⟨fun h=>decide_eq_decide.2 (by omega),fun h=>(decide_eq_false (by omega)).symm⟩
def QY (I:Alg) (args:List D) (hp:List HO):Option CT:=match args,hp with
  |[.v (.one (.p (.int .u8 k)))],[]=>(fun(k:Int)=>(some (.one ⟨I.hid (True),(.ret (.v (.one (.p (.bool (I.hid (SS k))))))),[]⟩):Option CT)) k
  |_,_=>none
theorem zkf:zx Tryz.prog 211 (QY alg):=by
  intro args hp r h
  unfold QY at h
  split at h
  · cases h;exact fun hn=>zwq _
  · cases h
def zke:Know Tryz.prog:=⟨211,QY,zkf⟩
def zkd:Know Tryz.prog:=⟨211,fun I=>zy I (QY I),zf zkf⟩
theorem zvU (k:Int) (hneed:0≤k∧k≤255):Spc Tryz.prog 187 [.v (.one (.p (.int .u8 k)))] [] (.ret (.v (.one (.p (.int .u8 (lowK k)))))) []:=by
  refine spcG zh mixed Tryz.func187 (by kernel_rfl) { keep:=some [0,2]} [] (by kernel_rfl) ?_
  intro I X hI hX
  refine orcL ?_;go_invoke;refine orcS (by kernel_rfl) ?_
  simp only [zi,Nat.reduceAdd]
  subst hI
  simp only [nrmA,nrmB]
  unfold lowK
  (repeat' (first|refine And.intro ?_ ?_|intro _))<;>first|omega|exact True.intro|exact False.elim ‹False›|skip
def Qy (I:Alg) (args:List D) (hp:List HO):Option CT:=match args,hp with
  |[.v (.one (.p (.int .u8 k)))],[]=>(fun(k:Int)=>(some (.one ⟨I.hid (0≤k∧k≤255),(.ret (.v (.one (.p (.int .u8 (I.hid (lowK k))))))),[]⟩):Option CT)) k
  |_,_=>none
theorem zjv:zx Tryz.prog 187 (Qy alg):=by
  intro args hp r h
  unfold Qy at h
  split at h
  · cases h;exact fun hn=>zvU _ hn
  · cases h
def Qx:Know Tryz.prog:=⟨187,Qy,zjv⟩
def Qw:Know Tryz.prog:=⟨187,fun I=>zy I (Qy I),zf zjv⟩
theorem zty (k:Int) (hneed:0≤k∧k≤255):Spc Tryz.prog 212 [.v (.one (.p (.int .u8 k)))] [] (.ret (.v (.one (.p (.bool (YD k)))))) []:=by
  refine spcG zh mixed Tryz.func212 (by kernel_rfl) { keep:=some [0,2]} [Qx,Qw] (by kernel_rfl) ?_
  intro I X hI hX
  refine orcL ?_;go_invoke;refine orcS (by kernel_rfl) ?_
  simp only [zi,Nat.reduceAdd]
  subst hI
  simp only [nrmA,nrmB]
  unfold YD
  (repeat' (first|refine And.intro ?_ ?_|intro _))<;>first|omega|exact True.intro|exact False.elim ‹False›|skip
  all_goals first|exact decide_eq_decide.2 (by omega)|exact(decide_eq_false (by omega)).symm|exact(decide_eq_true (by omega)).symm|(rw [show(k == 127)=decide (k=127) from rfl,← decide_not];exact decide_eq_decide.2 (by omega))
def Vz (I:Alg) (args:List D) (hp:List HO):Option CT:=match args,hp with
  |[.v (.one (.p (.int .u8 k)))],[]=>(fun(k:Int)=>(some (.one ⟨I.hid (0≤k∧k≤255),(.ret (.v (.one (.p (.bool (I.hid (YD k))))))),[]⟩):Option CT)) k
  |_,_=>none
theorem zfr:zx Tryz.prog 212 (Vz alg):=by
  intro args hp r h
  unfold Vz at h
  split at h
  · cases h;exact fun hn=>zty _ hn
  · cases h
def zfq:Know Tryz.prog:=⟨212,Vz,zfr⟩
def zfp:Know Tryz.prog:=⟨212,fun I=>zy I (Vz I),zf zfr⟩
theorem zuR (k:Int) (hneed:0≤k∧k≤255):Spc Tryz.prog 183 [.v (.one (.p (.int .u8 k)))] [] (.ret (.v (.one (.p (.bool (tokB k)))))) []:=by
  refine spcG zh mixed Tryz.func183 (by kernel_rfl) { keep:=some [0,2]} [zfD,zfC,zke,zkd,zfq,zfp] (by kernel_rfl) ?_
  intro I X hI hX
  refine orcL ?_;go_invoke;refine orcS (by kernel_rfl) ?_
  simp only [zi,Nat.reduceAdd]
  subst hI
  simp only [nrmA,nrmB]
  unfold tokB marks
  (repeat' (first|refine And.intro ?_ ?_|intro _))<;>first|omega|exact True.intro|exact False.elim ‹False›|skip
  all_goals simp [*]
def Ry (I:Alg) (args:List D) (hp:List HO):Option CT:=match args,hp with
  |[.v (.one (.p (.int .u8 k)))],[]=>(fun(k:Int)=>(some (.one ⟨I.hid (0≤k∧k≤255),(.ret (.v (.one (.p (.bool (I.hid (tokB k))))))),[]⟩):Option CT)) k
  |_,_=>none
theorem zim:zx Tryz.prog 183 (Ry alg):=by
  intro args hp r h
  unfold Ry at h
  split at h
  · cases h;exact fun hn=>zuR _ hn
  · cases h
def Zy:Know Tryz.prog:=⟨183,Ry,zim⟩
def Ws:Know Tryz.prog:=⟨183,fun I=>zy I (Ry I),zf zim⟩
theorem zpz (k:Int):Spc Tryz.prog 115 [.v (.one (.p (.int .u8 k)))] [] (.ret (.v (.one (.p (.bool (zdp k)))))) []:=by
  refine spcG zh mixed Tryz.func115 (by kernel_rfl) { keep:=some [0,2]} [] (by kernel_rfl) ?_
  intro I X hI hX
  refine orcL ?_;go_invoke;refine orcS (by kernel_rfl) ?_
  simp only [zi,Nat.reduceAdd]
  subst hI
  simp only [nrmA,nrmB]
  unfold zdp
  (repeat' (first|refine And.intro ?_ ?_|intro _))<;>first|omega|exact True.intro|exact False.elim ‹False›|skip
  all_goals first|exact decide_eq_decide.2 (by omega)|exact(decide_eq_false (by omega)).symm|exact(decide_eq_true (by omega)).symm|(rw [show(k == 127)=decide (k=127) from rfl,← decide_not];exact decide_eq_decide.2 (by omega))
def YS (I:Alg) (args:List D) (hp:List HO):Option CT:=match args,hp with
  |[.v (.one (.p (.int .u8 k)))],[]=>(fun(k:Int)=>(some (.one ⟨I.hid (True),(.ret (.v (.one (.p (.bool (I.hid (zdp k))))))),[]⟩):Option CT)) k
  |_,_=>none
theorem zbQ:zx Tryz.prog 115 (YS alg):=by
  intro args hp r h
  unfold YS at h
  split at h
  · cases h;exact fun hn=>zpz _
  · cases h
def rF:Know Tryz.prog:=⟨115,YS,zbQ⟩
def YR:Know Tryz.prog:=⟨115,fun I=>zy I (YS I),zf zbQ⟩
theorem hex_ (k:Int) (hneed:0≤k∧k≤255):Spc Tryz.prog 194 [.v (.one (.p (.int .u8 k)))] [] (.ret (.v (.one (.p (.int .i64 (hexK k)))))) []:=by
  refine spcG zh mixed Tryz.func194 (by kernel_rfl) { keep:=some [0,2]} [zke,zkd,Qx,Qw,zfq,zfp] (by kernel_rfl) ?_
  intro I X hI hX
  refine orcL ?_;go_invoke;refine orcS (by kernel_rfl) ?_
  simp only [zi,Nat.reduceAdd]
  subst hI
  simp only [nrmA,nrmB]
  (repeat' (first|refine And.intro ?_ ?_|intro _))<;>first|omega|exact True.intro|exact False.elim ‹False›|skip
  all_goals first
    |(have:=of_decide_eq_true ‹SS k=true›;omega)
    |(have:=of_decide_eq_true ‹SS k=true›;unfold hexK;rw [if_pos ‹SS k=true›,wrap64 _ (by omega)])
    |(have:=of_decide_eq_true ‹YD k=true›;omega)
    |(have:=of_decide_eq_true ‹YD k=true›;rw [wrap64 _ (by omega)];omega)
    |(have:=of_decide_eq_true ‹YD k=true›;rw [wrap64 _ (by omega)];unfold hexK;simp [*])
    |(unfold hexK;simp [*])
def zjH (I:Alg) (args:List D) (hp:List HO):Option CT:=match args,hp with
  |[.v (.one (.p (.int .u8 k)))],[]=>(fun(k:Int)=>(some (.one ⟨I.hid (0≤k∧k≤255),(.ret (.v (.one (.p (.int .i64 (I.hid (hexK k))))))),[]⟩):Option CT)) k
  |_,_=>none
theorem zr9:zx Tryz.prog 194 (zjH alg):=by
  intro args hp r h
  unfold zjH at h
  split at h
  · cases h;exact fun hn=>hex_ _ hn
  · cases h
def zcy:Know Tryz.prog:=⟨194,zjH,zr9⟩
def zcx:Know Tryz.prog:=⟨194,fun I=>zy I (zjH I),zf zr9⟩
end Go.Proofs.YtmkcejdibmilmaaGreatDoor
namespace Go.Proofs.YtmkcejdibmilmaaGreatDoor
open Go Go.Sep Go.Ab
set_option maxRecDepth 100000
def tokA (s:Str):Bool:=s.all fun c=>tokB (c.toNat:Int)
def WM (s:Str):Bool:=s.all fun c=>zdp (c.toNat:Int)
theorem uF (c:UInt8):0≤(c.toNat:Int)∧(c.toNat:Int)≤255:=by have:=c.toNat_lt;omega
theorem zkw {p:UInt8→Bool} {s:Str} {i:Nat} (h:i<s.length):(s.drop i).all p=(p (s.getD i 0)&&(s.drop (i+1)).all p):=by
  rw [List.drop_eq_getElem_cons h,List.all_cons];simp [h]
theorem zuH (s:Str) (hneed:s.length≤1000000):Spc Tryz.prog 182 [.v (.one (.p (.str s))),.v (.one (.fn 183 []))] [] (.ret (.v (.one (.p (.bool (tokA s)))))) []:=by
  generalize hr:tokA s=r
  refine spcG zh mixed Tryz.func182 (by kernel_rfl) { keep:=some [0,1,4,5,7,8]} [Zy] (by kernel_rfl) ?_
  intro I X hI hX
  refine orcL ?_;go_invoke;refine orcS (by kernel_rfl) ?_
  simp only [zi,Nat.reduceAdd]
  refine zC hI zh mixed [Zy] hX [0,1,7,8] (fun(i:Nat)=>i≤s.length∧tokA (s.drop i)=r) (fun(i:Nat)=>⟨[(0,.v (.one (.p (.str s)))),(1,.v (.one (.fn 183 []))),(7,.v (.one (.p (.int .i64 ((I.len (α:=UInt8) s)))))),(8,.v (.one (.p (.int .i64 i))))],[],18,none⟩) (fun(i:Nat)=>s.length - i) 0 (by kernel_rfl) (by kernel_rfl) ?_ ?_
  · exact⟨Nat.zero_le _,hr⟩
  rintro i ⟨h1,h2⟩ A hA
  refine orcL ?_;go_invoke;refine orcS (by kernel_rfl) ?_
  simp only [zi,Nat.reduceAdd]
  subst hI
  simp only [nrmA,nrmB]
  have hb:=uF (s.getD i 0)
  have hd:i<s.length→tokA (s.drop i)=(tokB (s.getD i 0).toNat&&tokA (s.drop (i+1))):=fun h=>zkw h
  generalize s.getD i 0=x at *
  (repeat' (first|refine And.intro ?_ ?_|intro _))<;>first|omega|exact True.intro|exact False.elim ‹False›|skip
  all_goals first
    |(rw [← h2,hd (by omega)];simp [*];done)
    |(refine hA (i+1) ⟨by omega,?_⟩ (by omega);rw [← h2,hd (by omega)];simp [*];done)
    |(rw [← h2,List.drop_of_length_le (by omega)];rfl)
def UK (I:Alg) (args:List D) (hp:List HO):Option CT:=match args,hp with
  |[.v (.one (.p (.str s))),.v (.one (.fn 183 []))],[]=>(fun(s:Str)=>(some (.one ⟨I.hid (s.length≤1000000),(.ret (.v (.one (.p (.bool (I.hid (tokA s))))))),[]⟩):Option CT)) s
  |_,_=>none
theorem zgO:zx Tryz.prog 182 (UK alg):=by
  intro args hp r h
  unfold UK at h
  split at h
  · cases h;exact fun hn=>zuH _ hn
  · cases h
def UJ:Know Tryz.prog:=⟨182,UK,zgO⟩
def UI:Know Tryz.prog:=⟨182,fun I=>zy I (UK I),zf zgO⟩
theorem zrF (s:Str) (hneed:s.length≤1000000):Spc Tryz.prog 182 [.v (.one (.p (.str s))),.v (.one (.fn 115 []))] [] (.ret (.v (.one (.p (.bool (WM s)))))) []:=by
  generalize hr:WM s=r
  refine spcG zh mixed Tryz.func182 (by kernel_rfl) { keep:=some [0,1,4,5,7,8]} [rF,UJ,UI] (by kernel_rfl) ?_
  intro I X hI hX
  refine orcL ?_;go_invoke;refine orcS (by kernel_rfl) ?_
  simp only [zi,Nat.reduceAdd]
  refine zC hI zh mixed [rF,UJ,UI] hX [0,1,7,8] (fun(i:Nat)=>i≤s.length∧WM (s.drop i)=r) (fun(i:Nat)=>⟨[(0,.v (.one (.p (.str s)))),(1,.v (.one (.fn 115 []))),(7,.v (.one (.p (.int .i64 ((I.len (α:=UInt8) s)))))),(8,.v (.one (.p (.int .i64 i))))],[],18,none⟩) (fun(i:Nat)=>s.length - i) 0 (by kernel_rfl) (by kernel_rfl) ?_ ?_
  · exact⟨Nat.zero_le _,hr⟩
  rintro i ⟨h1,h2⟩ A hA
  refine orcL ?_;go_invoke;refine orcS (by kernel_rfl) ?_
  simp only [zi,Nat.reduceAdd]
  subst hI
  simp only [nrmA,nrmB]
  have hb:=uF (s.getD i 0)
  have hd:i<s.length→WM (s.drop i)=(zdp (s.getD i 0).toNat&&WM (s.drop (i+1))):=fun h=>zkw h
  generalize s.getD i 0=x at *
  (repeat' (first|refine And.intro ?_ ?_|intro _))<;>first|omega|exact True.intro|exact False.elim ‹False›|skip
  all_goals first
    |(rw [← h2,hd (by omega)];simp [*];done)
    |(refine hA (i+1) ⟨by omega,?_⟩ (by omega);rw [← h2,hd (by omega)];simp [*];done)
    |(rw [← h2,List.drop_of_length_le (by omega)];rfl)
def XM (I:Alg) (args:List D) (hp:List HO):Option CT:=match args,hp with
  |[.v (.one (.p (.str s))),.v (.one (.fn 115 []))],[]=>(fun(s:Str)=>(some (.one ⟨I.hid (s.length≤1000000),(.ret (.v (.one (.p (.bool (I.hid (WM s))))))),[]⟩):Option CT)) s
  |_,_=>none
theorem zc9:zx Tryz.prog 182 (XM alg):=by
  intro args hp r h
  unfold XM at h
  split at h
  · cases h;exact fun hn=>zrF _ hn
  · cases h
def zc8:Know Tryz.prog:=⟨182,XM,zc9⟩
def zc7:Know Tryz.prog:=⟨182,fun I=>zy I (XM I),zf zc9⟩
def TQ (s:Str):Bool:=decide (s≠[])&&tokA s
theorem zqN (s:Str) (hneed:s.length≤1000000):Spc Tryz.prog 148 [.v (.one (.p (.str s)))] [] (.ret (.v (.one (.p (.bool (TQ s)))))) []:=by
  refine spcG zh mixed Tryz.func148 (by kernel_rfl) { keep:=some [0,2]} [Zy,Ws,UJ,UI,zc8,zc7] (by kernel_rfl) ?_
  intro I X hI hX
  refine orcL ?_;go_invoke;refine orcS (by kernel_rfl) ?_
  simp only [zi,Nat.reduceAdd]
  subst hI
  simp only [nrmA,nrmB]
  unfold TQ
  (repeat' (first|refine And.intro ?_ ?_|intro _))<;>first|omega|exact True.intro|exact False.elim ‹False›|skip
  all_goals simp [*]
def Xq (I:Alg) (args:List D) (hp:List HO):Option CT:=match args,hp with
  |[.v (.one (.p (.str s)))],[]=>(fun(s:Str)=>(some (.one ⟨I.hid (s.length≤1000000),(.ret (.v (.one (.p (.bool (I.hid (TQ s))))))),[]⟩):Option CT)) s
  |_,_=>none
theorem zcv:zx Tryz.prog 148 (Xq alg):=by
  intro args hp r h
  unfold Xq at h
  split at h
  · cases h;exact fun hn=>zqN _ hn
  · cases h
def Xp:Know Tryz.prog:=⟨148,Xq,zcv⟩
def Xo:Know Tryz.prog:=⟨148,fun I=>zy I (Xq I),zf zcv⟩
theorem zlc (s:Str) (hneed:s.length≤1000000):Spc Tryz.prog 153 [.v (.one (.p (.str s)))] [] (.ret (.v (.one (.p (.bool (WM s)))))) []:=by
  refine spcG zh mixed Tryz.func153 (by kernel_rfl) { keep:=some [0,2]} [rF,YR,UJ,UI,zc8,zc7] (by kernel_rfl) ?_
  intro I X hI hX
  refine orcL ?_;go_invoke;refine orcS (by kernel_rfl) ?_
  simp only [zi,Nat.reduceAdd]
  subst hI
  simp only [nrmA,nrmB]
  exact hneed
def qJ (I:Alg) (args:List D) (hp:List HO):Option CT:=match args,hp with
  |[.v (.one (.p (.str s)))],[]=>(fun(s:Str)=>(some (.one ⟨I.hid (s.length≤1000000),(.ret (.v (.one (.p (.bool (I.hid (WM s))))))),[]⟩):Option CT)) s
  |_,_=>none
theorem SC:zx Tryz.prog 153 (qJ alg):=by
  intro args hp r h
  unfold qJ at h
  split at h
  · cases h;exact fun hn=>zlc _ hn
  · cases h
def uY:Know Tryz.prog:=⟨153,qJ,SC⟩
def uX:Know Tryz.prog:=⟨153,fun I=>zy I (qJ I),zf SC⟩
theorem zxt {p:Int→Prop} [∀ k,Decidable (p k)] (h: ∀ n:Fin 256,p (n.1:Int)) {k:Int} (hk:0≤k∧k≤255):p k:=by
  have:=h ⟨k.toNat,by omega⟩
  rwa [show((k.toNat:Nat):Int)=k by omega] at this
end Go.Proofs.YtmkcejdibmilmaaGreatDoor
namespace Go.Proofs.YtmkcejdibmilmaaGreatDoor
open Go Go.Sep Go.Ab
set_option maxRecDepth 100000
def lowC (x:UInt8):UInt8:=if 65≤x.toNat∧x.toNat≤90 then x+32 else x
def lowS (s:Str):Str:=s.map lowC
theorem uh (s:Str):(lowS s).length=s.length:=by simp [lowS]
theorem zk8 (x:UInt8):((lowC x).toNat:Int)=lowK x.toNat:=by
  unfold lowC lowK
  have:=x.toNat_lt
  split
  · rw [if_pos (by omega),UInt8.toNat_add]
    simp only [show(32:UInt8).toNat=32 from rfl]
    omega
  · rw [if_neg (by omega)]
theorem ztv (x:UInt8):UInt8.ofNat (lowK x.toNat).toNat=lowC x:=by
  rw [← zk8,Int.toNat_natCast,UInt8.ofNat_toNat]
def bl (c:UInt8):Bool:=([32,9]:Str).contains c
theorem zwF (s:Str):Spc Tryz.prog 154 [.v (.one (.p (.str s)))] [] (.ret (.v (.one (.p (.str (Lib.trimS s [32,9])))))) []:=by
  refine spcG zh mixed Tryz.func154 (by kernel_rfl) { keep:=some [0,2]} [zsx,zsw] (by kernel_rfl) ?_
  intro I X hI hX
  refine orcL ?_;go_invoke;refine orcS (by kernel_rfl) ?_
  simp only [zi,Nat.reduceAdd]
  subst hI
  simp only [nrmA,nrmB]
  try trivial
def zac (I:Alg) (args:List D) (hp:List HO):Option CT:=match args,hp with
  |[.v (.one (.p (.str s)))],[]=>(fun(s:Str)=>(some (.one ⟨I.hid (True),(.ret (.v (.one (.p (.str (I.hid (Lib.trimS s [32,9]))))))),[]⟩):Option CT)) s
  |_,_=>none
theorem zkq:zx Tryz.prog 154 (zac alg):=by
  intro args hp r h
  unfold zac at h
  split at h
  · cases h;exact fun hn=>zwF _
  · cases h
def UD:Know Tryz.prog:=⟨154,zac,zkq⟩
def UC:Know Tryz.prog:=⟨154,fun I=>zy I (zac I),zf zkq⟩
theorem zuD (s:Str) (hneed:s.length≤1000000):Spc Tryz.prog 155 [.v (.one (.p (.str s)))] [] (.ret (.v (.one (.p (.str (lowS s)))))) []:=by
  refine spcG zh mixed Tryz.func155 (by kernel_rfl) { keep:=some [0,2,3,4,5,8,9,10]} [Qx,Qw] (by kernel_rfl) ?_
  intro I X hI hX
  refine orcL ?_;go_invoke;refine orcS (by kernel_rfl) ?_
  simp only [zi,Nat.reduceAdd]
  refine zC hI zh mixed [Qx,Qw] hX [0,3,8,9,10] (fun(g:Nat × Str)=>match g with|(i,b)=>i≤s.length∧b=lowS (s.take i)++s.drop i) (fun(g:Nat × Str)=>match g with|(i,b)=>⟨[(0,.v (.one (.p (.str s)))),(3,.v (.one (.row 0))),(8,.v (.one (.row 0))),(9,.v (.one (.p (.int .i64 ((I.len (α:=UInt8) s)))))),(10,.v (.one (.p (.int .i64 i))))],[.row .byte 5 b],23,none⟩) (fun(g:Nat × Str)=>match g with|(i,b)=>s.length - i) (0,s) (by kernel_rfl) (by kernel_rfl) ?_ ?_
  · exact⟨Nat.zero_le _,rfl⟩
  rintro⟨i,b⟩ ⟨h1,h2⟩ A hA
  simp only at hA
  refine orcL ?_;go_invoke;refine orcS (by kernel_rfl) ?_
  simp only [zi,Nat.reduceAdd]
  subst hI
  simp only [nrmA,nrmB]
  have hlen:b.length=s.length:=by rw [h2,List.length_append,uh,List.length_take,List.length_drop];omega
  have hx:i<s.length→b.getD i 0=s.getD i 0:=fun h=>by
    rw [h2,List.getD_eq_getElem?_getD,List.getD_eq_getElem?_getD,List.getElem?_append_right (by rw [uh,List.length_take];omega),uh,List.length_take,List.getElem?_drop]
    congr 2
    omega
  have hset:i<s.length→b.set i (lowC (s.getD i 0))=lowS (s.take (i+1))++s.drop (i+1):=fun h=>by
    have e:(lowS (s.take i)).length=i:=by rw [uh,List.length_take];omega
    rw [h2,List.set_append_right _ _ (by omega),e,Nat.sub_self,List.drop_eq_getElem_cons h,List.set_cons_zero,List.take_succ_eq_append_getElem h,show s.getD i 0=s[i] by simp [h]]
    unfold lowS
    rw [List.map_append,List.append_assoc]
    rfl
  have hby:=uF (s.getD i 0)
  have hlk:=znK hby
  refine⟨fun c=> ?_,fun c=> ?_⟩
  · rw [hx (by omega),ztv,hset (by omega)]
    exact⟨by omega,by omega,by omega,by omega,by omega,by omega,by omega,hA (i+1,_) ⟨by simp only;omega,rfl⟩ (by simp only;omega)⟩
  · rw [h2,List.drop_of_length_le (by omega),List.take_of_length_le (by omega),List.append_nil]
def UE (I:Alg) (args:List D) (hp:List HO):Option CT:=match args,hp with
  |[.v (.one (.p (.str s)))],[]=>(fun(s:Str)=>(some (.one ⟨I.hid (s.length≤1000000),(.ret (.v (.one (.p (.str (I.hid (lowS s))))))),[]⟩):Option CT)) s
  |_,_=>none
theorem zgG:zx Tryz.prog 155 (UE alg):=by
  intro args hp r h
  unfold UE at h
  split at h
  · cases h;exact fun hn=>zuD _ hn
  · cases h
def vg:Know Tryz.prog:=⟨155,UE,zgG⟩
def ve:Know Tryz.prog:=⟨155,fun I=>zy I (UE I),zf zgG⟩
end Go.Proofs.YtmkcejdibmilmaaGreatDoor
namespace Go.Proofs.YtmkcejdibmilmaaGreatDoor
open Go Go.Sep Go.Ab
set_option maxRecDepth 100000
theorem zlU {p:UInt8→Bool} {s:Str} {i:Nat} (h:i≤(s.takeWhile p).length):(i<s.length∧p (s.getD i 0)=true)↔i<(s.takeWhile p).length:=by
  induction s generalizing i with
  |nil=>simp
  | cons c r ih=>
    by_cases hc:p c=true
    · simp only [List.takeWhile_cons,hc,if_true,List.length_cons] at h ⊢
      cases i with
      |zero=>simp [hc]
      | succ i=>
        have:=ih (i:=i) (by omega)
        simp only [List.getD_cons_succ]
        constructor
        · rintro⟨h1,h2⟩;have:=this.1 ⟨by omega,h2⟩;omega
        · intro h1;have:=this.2 (by omega);exact⟨by omega,this.2⟩
    · simp only [List.takeWhile_cons,hc,Bool.false_eq_true,if_false,List.length_nil] at h ⊢
      have:i=0:=by omega
      subst this
      simp [hc]
theorem zsz (p:UInt8→Bool) (s:Str):s.take (s.takeWhile p).length=s.takeWhile p:=by
  induction s with
  |nil=>simp
  |cons c r ih=>by_cases hc:p c=true<;>simp [List.takeWhile_cons,hc,ih]
theorem drop_tw (p:UInt8→Bool) (s:Str):s.drop (s.takeWhile p).length=s.dropWhile p:=by
  induction s with
  |nil=>simp
  |cons c r ih=>by_cases hc:p c=true<;>simp [List.takeWhile_cons,List.dropWhile_cons,hc,ih]
theorem zuP (p:UInt8→Bool) (s:Str):(s.takeWhile p).length≤s.length:=(List.takeWhile_sublist p).length_le
theorem zwo (p:UInt8→Bool) (s:Str):(s.dropWhile p).length≤s.length:=(List.dropWhile_sublist p).length_le
def isTk (c:UInt8):Bool:=tokB (c.toNat:Int)
def tokS (s:Str):Str:=s.takeWhile isTk
def tokE (s:Str):Str:=s.dropWhile isTk
theorem sQ (s:Str):(tokS s).length≤s.length:=zuP _ _
theorem vV (s:Str):(tokE s).length≤s.length:=zwo _ _
theorem zsy (s:Str):(tokS s).length+(tokE s).length=s.length:=by
  have:=congrArg List.length (List.takeWhile_append_dropWhile (p:=isTk) (l:=s))
  rw [List.length_append] at this;exact this
def skS (s:Str):Str:=Lib.trimLeftS s [32,9]
theorem vO (s:Str):(skS s).length≤s.length:=by
  unfold skS Lib.trimLeftS
  exact(List.dropWhile_sublist _).length_le
def uG (s:Str) (c:UInt8):Bool:=s.head? == some c
theorem zcz {s:Str} {c:UInt8} (h:uG s c=true):0<s.length:=by
  cases s with
  |nil=>simp [uG] at h
  |cons a r=>simp
theorem zcA {s:Str} {c:UInt8}:uG s c=true↔0<s.length∧s.getD 0 0=c:=by
  cases s with
  |nil=>simp [uG]
  |cons a r=>simp [uG]
theorem drop1 (s:Str):List.take (s.length - Int.toNat 1) (List.drop (Int.toNat 1) s)=s.drop 1:=by
  show List.take (s.length - 1) (List.drop 1 s)=s.drop 1
  exact List.take_of_length_le (by simp)
def quoF:Str→Option (Str × Str)
  |[]=>none
  |[x]=>if x=34 then some ([],[]) else none
  |x::y::r=>if x=34 then some ([],y::r) else if x=92 then(quoF r).map (fun p=>(y::p.1,p.2)) else(quoF (y::r)).map (fun p=>(x::p.1,p.2))
def quoV (s:Str):Str:=match quoF s with|some p=>p.1|none=>[]
def quoR (s:Str):Str:=match quoF s with|some p=>p.2|none=>[]
theorem Qo: ∀ (s:Str) (p:Str × Str),quoF s=some p→p.1.length+p.2.length<s.length
  |[],p,h=>by simp [quoF] at h
  | [x],p,h=>by
    simp only [quoF] at h
    split at h
    · cases h;simp
    · cases h
  | x ::y::r,p,h=>by
    simp only [quoF] at h
    split at h
    · cases h;simp
    · split at h
      · rw [Option.map_eq_some_iff] at h
        obtain⟨q,hq,rfl⟩:=h
        have:=Qo r q hq
        simp only [List.length_cons];omega
      · rw [Option.map_eq_some_iff] at h
        obtain⟨q,hq,rfl⟩:=h
        have:=Qo (y::r) q hq
        simp only [List.length_cons] at this ⊢;omega
theorem zqp (s:Str):(quoR s).length≤s.length:=by
  unfold quoR
  split
  · rename_i p h;have:=Qo _ _ h;omega
  · simp
theorem zqo (s:Str):(quoV s).length≤s.length:=by
  unfold quoV
  split
  · rename_i p h;have:=Qo _ _ h;omega
  · simp
def parM (s:Str):Int × Fld × Str:=
  if tokS s=[] then(5,⟨[],[]⟩,tokE s)
  else if uG (tokE s) 61=false then(5,⟨[],[]⟩,tokE s)
  else if uG ((tokE s).drop 1) 34=true then
    if(quoF ((tokE s).drop 2)).isSome=true then(0,⟨lowS (tokS s),quoV ((tokE s).drop 2)⟩,quoR ((tokE s).drop 2)) else(14,⟨[],[]⟩,[])
  else if tokS ((tokE s).drop 1)=[] then(5,⟨[],[]⟩,tokE ((tokE s).drop 1))
  else(0,⟨lowS (tokS s),tokS ((tokE s).drop 1)⟩,tokE ((tokE s).drop 1))
theorem zdB (s:Str):(parM s).2.2.length≤s.length∧(parM s).2.1.name.length≤s.length∧(parM s).2.1.value.length≤s.length:=by
  have h1:=vV s
  have h2:=vV ((tokE s).drop 1)
  have h3:=zqp ((tokE s).drop 2)
  have h4:=zqo ((tokE s).drop 2)
  have h5:=sQ s
  have h6:=sQ ((tokE s).drop 1)
  simp only [List.length_drop] at h2 h3 h4 h6
  unfold parM
  repeat' split
  all_goals simp only [List.length_nil,uh];omega
def getP (l:List Fld) (n:Str):Str × Bool:=match l.find? (fun f=>f.name == n) with|some f=>(f.value,true)|none=>([],false)
def medL:Nat→Str→List Fld→Int × List Fld × Str
  |0,s,ps=>(5,ps,s)
  | n +1,s,ps=>
    if uG s 59=true then
      if(parM (skS (s.drop 1))).1≠0 then((parM (skS (s.drop 1))).1,ps,(parM (skS (s.drop 1))).2.2)
      else if(getP ps (parM (skS (s.drop 1))).2.1.name).2=true then(9,ps,(parM (skS (s.drop 1))).2.2)
      else if ps.length=8 then(8,ps,(parM (skS (s.drop 1))).2.2)
      else medL n (skS (parM (skS (s.drop 1))).2.2) (ps++[(parM (skS (s.drop 1))).2.1])
    else if s=[] then(0,ps,s) else(5,ps,s)
def medB (w:Str) (s:Str):Int × Med × Str:=((medL ((skS s).length+1) (skS s) []).1,⟨w,(medL ((skS s).length+1) (skS s) []).2.1⟩,(medL ((skS s).length+1) (skS s) []).2.2)
def medA (s:Str):Int × Med × Str:=
  if tokS s=[] then(5,⟨[],[]⟩,tokE s)
  else if uG (tokE s) 47=true then
    if tokS ((tokE s).drop 1)=[] then(5,⟨[],[]⟩,tokE ((tokE s).drop 1))
    else medB (lowS (tokS s)++([47]++lowS (tokS ((tokE s).drop 1)))) (tokE ((tokE s).drop 1))
  else medB (lowS (tokS s)) (tokE s)
def wX (s:Str):Int × Med × Str:=medA (skS s)
def xN (s:Str):Med × Int:=if WM s=false then(⟨[],[]⟩,3) else if(wX s).1=0 then((wX s).2.1,0) else(⟨[],[]⟩,(wX s).1)
theorem zfe (s:Str):(parM s).1=0∨(parM s).1=5∨(parM s).1=14:=by
  unfold parM
  repeat' split
  all_goals simp
def ixP (l:List Fld) (n:Str):Int:=if l.findIdx (fun f=>f.name == n)<l.length then(l.findIdx (fun f=>f.name == n):Int) else -1
theorem ztM (l:List Fld) (n:Str):getP l n=if 0≤ixP l n then((l.getD (ixP l n).toNat ⟨[],[]⟩).value,true) else([],false):=by
  unfold getP ixP
  rw [List.find?_eq_getElem?_findIdx]
  by_cases h:l.findIdx (fun f=>f.name == n)<l.length
  · rw [if_pos h,if_pos (by omega),List.getElem?_eq_getElem h]
    simp [List.getD_eq_getElem?_getD,h]
  · rw [if_neg h,if_neg (by omega),List.getElem?_eq_none (by omega)]
end Go.Proofs.YtmkcejdibmilmaaGreatDoor
namespace Go.Proofs.YtmkcejdibmilmaaGreatDoor
open Go Go.Sep Go.Ab
set_option maxRecDepth 100000
theorem zlX (s:Str):Spc Tryz.prog 230 [.v (.one (.p (.str s))),.v (.one (.p (.str ([32,9]))))] [] (.ret (.v (.one (.p (.str ((skS s))))))) []:=by
  refine Spc.of_below ⟨_,Tryz.func230,by kernel_rfl,by kernel_rfl⟩ fun S bs w vs _ hM=> ?_
  obtain⟨v,r,rfl⟩: ∃ v r,vs=v::r:=by cases vs with|nil=>exact hM.elim|cons v r=>exact⟨v,r,rfl⟩
  obtain⟨h1,hM⟩:=hM
  obtain⟨v2,r2,rfl⟩: ∃ v r2,r=v::r2:=by cases r with|nil=>exact hM.elim|cons v r=>exact⟨v,r,rfl⟩
  obtain⟨h2,hM⟩:=hM
  obtain rfl:r2=[]:=by cases r2 with|nil=>rfl|cons v r=>exact hM.elim
  cases h1 with
  | str _ hl1=>
    cases h2 with
    | str _ hl2=>
      refine⟨.string (Sep.S (skS s)),.str _ (Nat.le_trans (vO _) hl1),?_⟩
      exact Tryz.strings_TrimLeft_laid (Sep.S s) (Sep.S [32,9]) w (by decide) (fun j b hb=>by
        have:=List.mem_of_getElem? hb
        rcases(by simpa [Sep.S] using this:b=32∨b=9) with rfl|rfl<;>decide)
def Zx (I:Alg) (args:List D) (hp:List HO):Option CT:=match args,hp with
  |[.v (.one (.p (.str s))),.v (.one (.p (.str ([32,9]))))],[]=>(fun(s:Str)=>(some (.one ⟨I.hid (True),(.ret (.v (.one (.p (.str (I.hid ((skS s)))))))),[]⟩):Option CT)) s
  |_,_=>none
theorem zal:zx Tryz.prog 230 (Zx alg):=by
  intro args hp r h
  unfold Zx at h
  split at h
  · cases h;exact fun hn=>zlX _
  · cases h
def zgT:Know Tryz.prog:=⟨230,Zx,zal⟩
def zgS:Know Tryz.prog:=⟨230,fun I=>zy I (Zx I),zf zal⟩
theorem ztk (b:Bool) (c:Int) (hneed:b=false):Spc Tryz.prog 199 [.v (.one (.p (.bool b))),.v (.one (.p (.int .i64 c)))] [] (.ret (.tup [])) []:=by
  refine spcG zh mixed Tryz.func199 (by kernel_rfl) { keep:=some [0,1]} [] (by kernel_rfl) ?_
  intro I X hI hX
  refine orcL ?_;go_invoke;refine orcS (by kernel_rfl) ?_
  simp only [zi,Nat.reduceAdd]
  subst hI
  simp only [nrmA,nrmB]
  (repeat' (first|refine And.intro ?_ ?_|intro _))<;>first|omega|exact True.intro|exact False.elim ‹False›|skip
  all_goals simp_all
theorem ztj (b:Bool) (c:Int) (hneed:b=true):Spc Tryz.prog 199 [.v (.one (.p (.bool b))),.v (.one (.p (.int .i64 c)))] [] (.pan (.ifc 210 false [(.int .i64 c)])) []:=by
  refine spcG zh mixed Tryz.func199 (by kernel_rfl) { keep:=some [0,1]} [] (by kernel_rfl) ?_
  intro I X hI hX
  refine orcL ?_;go_invoke;refine orcS (by kernel_rfl) ?_
  simp only [zi,Nat.reduceAdd]
  subst hI
  simp only [nrmA,nrmB]
  (repeat' (first|refine And.intro ?_ ?_|intro _))<;>first|omega|exact True.intro|exact False.elim ‹False›|skip
  all_goals simp_all
def Qv (I:Alg) (args:List D) (hp:List HO):Option CT:=match args,hp with
  |[.v (.one (.p (.bool b))),.v (.one (.p (.int .i64 c)))],[]=>(fun(b:Bool) (c:Int)=>(some (.br (I.hid (b)) (.one ⟨I.hid (b=true),(.pan (.ifc 210 false [(.int .i64 c)])),[]⟩) (.one ⟨I.hid (b=false),(.ret (.tup [])),[]⟩)):Option CT)) b c
  |_,_=>none
theorem zjk:zx Tryz.prog 199 (Qv alg):=by
  intro args hp r h
  unfold Qv at h
  split at h
  · cases h;exact⟨fun _ hn=>ztj _ _ hn,fun _ hn=>ztk _ _ hn⟩
  · cases h
def wW:Know Tryz.prog:=⟨199,Qv,zjk⟩
def wV:Know Tryz.prog:=⟨199,fun I=>zy I (Qv I),zf zjk⟩
theorem zqA (s:Str):Spc Tryz.prog 195 [.v (.one (.ptr 0 0))] [.pack [.obj 214 [(.p (.str s))]]] (.ret (.tup [])) [.pack [.obj 214 [(.p (.str ((skS s))))]]]:=by
  refine spcG zh mixed Tryz.func195 (by kernel_rfl) { keep:=some [0]} [zgT,zgS] (by kernel_rfl) ?_
  intro I X hI hX
  refine orcL ?_;go_invoke;refine orcS (by kernel_rfl) ?_
  simp only [zi,Nat.reduceAdd]
  subst hI
  simp only [nrmA,nrmB,nrlB,reduceCtorEq,HO.pack.injEq,HO.obj.injEq]
  try trivial
def Xg (I:Alg) (args:List D) (hp:List HO):Option CT:=match args,hp with
  |[.v (.one (.ptr 0 0))],[.pack [.obj 214 [(.p (.str s))]]]=>(fun(s:Str)=>(some (.one ⟨I.hid (True),(.ret (.tup [])),[.pack [.obj 214 [(.p (.str (I.hid ((skS s)))))]]]⟩):Option CT)) s
  |_,_=>none
theorem zcj:zx Tryz.prog 195 (Xg alg):=by
  intro args hp r h
  unfold Xg at h
  split at h
  · cases h;exact fun hn=>zqA _
  · cases h
def Xf:Know Tryz.prog:=⟨195,Xg,zcj⟩
def Xe:Know Tryz.prog:=⟨195,fun I=>zy I (Xg I),zf zcj⟩
theorem zvF (s:Str) (k:Int) (hneed:0≤k∧k≤255):Spc Tryz.prog 197 [.v (.one (.ptr 0 0)),.v (.one (.p (.int .u8 k)))] [.pack [.obj 214 [(.p (.str s))]]] (.ret (.v (.one (.p (.bool ((uG s (UInt8.ofNat k.toNat)))))))) [.pack [.obj 214 [(.p (.str ((if uG s (UInt8.ofNat k.toNat)=true then s.drop 1 else s))))]]]:=by
  generalize hr:uG s (UInt8.ofNat k.toNat)=r
  refine spcG zh mixed Tryz.func197 (by kernel_rfl) { keep:=some [0,1,4,5]} [] (by kernel_rfl) ?_
  intro I X hI hX
  refine orcL ?_;go_invoke;refine orcS (by kernel_rfl) ?_
  simp only [zi,Nat.reduceAdd]
  subst hI
  simp only [nrmA,nrmB,nrlB,reduceCtorEq,HO.pack.injEq,HO.obj.injEq]
  have hk:((UInt8.ofNat k.toNat).toNat:Int)=k:=by rw [UInt8.toNat_ofNat',Nat.mod_eq_of_lt (by omega)];omega
  have hk2: ∀ c:UInt8,(c.toNat:Int)=k↔c=UInt8.ofNat k.toNat:=fun c=>⟨fun h=>by rw [← h];simp,fun h=>by rw [h];exact hk⟩
  rw [drop1]
  have hs:s=[]↔s.length=0:=List.length_eq_zero_iff.symm
  rw [hs]
  cases r with
  | true=>
    obtain⟨h1,h2⟩:=zcA.1 hr
    have hkk:=(hk2 _).2 h2
    rw [hkk]
    (repeat' (first|refine And.intro ?_ ?_|intro _))<;>first|omega|exact True.intro|exact False.elim ‹False›|skip
    all_goals first|omega|(simp;done)|(simp_all;done)
  | false=>
    have h1:0<s.length→¬ ((s.getD 0 0).toNat:Int)=k:=fun h q=>by rw [zcA.2 ⟨h,(hk2 _).1 q⟩] at hr;cases hr
    (repeat' (first|refine And.intro ?_ ?_|intro _))<;>first|omega|exact True.intro|exact False.elim ‹False›|skip
    all_goals first|omega|(simp;done)|(exfalso;exact h1 (by omega) ‹_›)|(have:=h1 (by omega);simp_all;done)|trace_state
def Qr (I:Alg) (args:List D) (hp:List HO):Option CT:=match args,hp with
  |[.v (.one (.ptr 0 0)),.v (.one (.p (.int .u8 k)))],[.pack [.obj 214 [(.p (.str s))]]]=>(fun(s:Str) (k:Int)=>(some (.one ⟨I.hid (0≤k∧k≤255),(.ret (.v (.one (.p (.bool (I.hid ((uG s (UInt8.ofNat k.toNat))))))))),[.pack [.obj 214 [(.p (.str (I.hid ((if uG s (UInt8.ofNat k.toNat)=true then s.drop 1 else s)))))]]]⟩):Option CT)) s k
  |_,_=>none
theorem zjh:zx Tryz.prog 197 (Qr alg):=by
  intro args hp r h
  unfold Qr at h
  split at h
  · cases h;exact fun hn=>zvF _ _ hn
  · cases h
def Xd:Know Tryz.prog:=⟨197,Qr,zjh⟩
def Xc:Know Tryz.prog:=⟨197,fun I=>zy I (Qr I),zf zjh⟩
theorem zvA (s:Str) (hneed:s.length≤1000000∧¬ tokS s=[]):Spc Tryz.prog 196 [.v (.one (.ptr 0 0))] [.pack [.obj 214 [(.p (.str s))]]] (.ret (.v (.one (.p (.str ((tokS s))))))) [.pack [.obj 214 [(.p (.str ((tokE s))))]]]:=by
  obtain⟨hl,hne⟩:=hneed
  refine spcG zh mixed Tryz.func196 (by kernel_rfl) { keep:=some [0,2,3,4]} [Zy,Ws,wW,wV] (by kernel_rfl) ?_
  intro I X hI hX
  refine orcL ?_;go_invoke;refine orcS (by kernel_rfl) ?_
  simp only [zi,Nat.reduceAdd]
  refine zC hI zh mixed [Zy,Ws,wW,wV] hX [0,3] (fun(i:Nat)=>i≤(tokS s).length) (fun(i:Nat)=>⟨[(0,.v (.one (.ptr 0 0))),(3,.v (.one (.p (.int .i64 i))))],[.pack [.obj 214 [(.p (.str s))]]],42,none⟩) (fun(i:Nat)=>s.length - i) 0 (by kernel_rfl) (by kernel_rfl) ?_ ?_
  · exact Nat.zero_le _
  rintro i h1 A hA
  refine orcL ?_;go_invoke;refine orcS (by kernel_rfl) ?_
  simp only [zi,Nat.reduceAdd]
  subst hI
  simp only [nrmA,nrmB,nrlB,reduceCtorEq,HO.pack.injEq,HO.obj.injEq]
  have hb:=uF (s.getD i 0)
  have hs:=zlU (p:=isTk) (s:=s) h1
  have hle:=sQ s
  have ht:=zsz isTk s
  have hd:=drop_tw isTk s
  unfold isTk at hs
  change _↔i<(tokS s).length at hs
  change s.take (tokS s).length=tokS s at ht
  change s.drop (tokS s).length=tokE s at hd
  have hlen:=zsy s
  have hend: ¬ i<(tokS s).length→i=(tokS s).length:=fun h=>by omega
  generalize s.getD i 0=x at *
  have hgo:i<(tokS s).length→A ⟨[(0,.v (.one (.ptr 0 0))),(3,.v (.one (.p (.int .i64 (((i:Int)+1))))))],[.pack [.obj 214 [(.p (.str s))]]],42,none⟩:=fun h=>hA (i+1) (by omega) (by omega)
  by_cases hi:i<(tokS s).length
  · have hi2:=hs.2 hi
    clear hs hend ht hd hA
    (repeat' (first|refine And.intro ?_ ?_|intro _))<;>first|omega|exact True.intro|exact False.elim ‹False›|skip
    all_goals first
      |omega
      |exact hgo hi
      |(exfalso;simp_all;done)
  · have hx:i<s.length→tokB (x.toNat:Int)=true→False:=fun a b=>hi (hs.1 ⟨a,b⟩)
    have hi2:=hend hi
    clear hs hend hA hgo
    subst hi2
    rw [ht]
    have hcut:List.take (s.length - (tokS s).length) (List.drop (tokS s).length s)=tokE s:=by rw [hd];exact List.take_of_length_le (by omega)
    rw [hcut]
    (repeat' (first|refine And.intro ?_ ?_|intro _))<;>first|omega|exact True.intro|exact False.elim ‹False›|skip
    all_goals first
      |omega
      |(exfalso;exact hx (by omega) ‹_›)
      |(exfalso;exact hne ‹_›)
      |(simp [hne];done)
theorem zvz (s:Str) (hneed:s.length≤1000000∧tokS s=[]):Spc Tryz.prog 196 [.v (.one (.ptr 0 0))] [.pack [.obj 214 [(.p (.str s))]]] (.pan (.ifc 210 false [(.int .i64 5)])) [.pack [.obj 214 [(.p (.str ((tokE s))))]]]:=by
  obtain⟨hl,hne⟩:=hneed
  refine spcG zh mixed Tryz.func196 (by kernel_rfl) { keep:=some [0,2,3,4]} [Zy,Ws,wW,wV] (by kernel_rfl) ?_
  intro I X hI hX
  refine orcL ?_;go_invoke;refine orcS (by kernel_rfl) ?_
  simp only [zi,Nat.reduceAdd]
  refine zC hI zh mixed [Zy,Ws,wW,wV] hX [0,3] (fun(i:Nat)=>i≤(tokS s).length) (fun(i:Nat)=>⟨[(0,.v (.one (.ptr 0 0))),(3,.v (.one (.p (.int .i64 i))))],[.pack [.obj 214 [(.p (.str s))]]],42,none⟩) (fun(i:Nat)=>s.length - i) 0 (by kernel_rfl) (by kernel_rfl) ?_ ?_
  · exact Nat.zero_le _
  rintro i h1 A hA
  refine orcL ?_;go_invoke;refine orcS (by kernel_rfl) ?_
  simp only [zi,Nat.reduceAdd]
  subst hI
  simp only [nrmA,nrmB,nrlB,reduceCtorEq,HO.pack.injEq,HO.obj.injEq]
  have hb:=uF (s.getD i 0)
  have hs:=zlU (p:=isTk) (s:=s) h1
  have hd:=drop_tw isTk s
  unfold isTk at hs
  change _↔i<(tokS s).length at hs
  change s.drop (tokS s).length=tokE s at hd
  rw [hne] at h1 hs hd
  simp only [List.length_nil] at h1 hs hd
  have h0:i=0:=by omega
  subst h0
  generalize s.getD 0 0=x at *
  have hx:0<s.length→tokB (x.toNat:Int)=true→False:=fun a b=>absurd (hs.1 ⟨a,b⟩) (by omega)
  have hcut:List.take (s.length - 0) (List.drop 0 s)=tokE s:=by rw [hd];exact List.take_of_length_le (by have:=vV s;omega)
  clear hs hA
  simp only [Int.toNat_natCast,List.take_zero,hcut] at *
  (repeat' (first|refine And.intro ?_ ?_|intro _))<;>first|omega|exact True.intro|exact False.elim ‹False›|skip
  all_goals first
    |omega
    |(exfalso;exact hx (by omega) ‹_›)
    |(exfalso;rename_i hq;exact hq rfl)
    |(simp;done)
def zdC (I:Alg) (args:List D) (hp:List HO):Option CT:=match args,hp with
  |[.v (.one (.ptr 0 0))],[.pack [.obj 214 [(.p (.str s))]]]=>(fun(s:Str)=>(some (.br (I.hid (decide (tokS s=[]))) (.one ⟨I.hid (s.length≤1000000∧tokS s=[]),(.pan (.ifc 210 false [(.int .i64 5)])),[.pack [.obj 214 [(.p (.str (I.hid ((tokE s)))))]]]⟩) (.one ⟨I.hid (s.length≤1000000∧¬ tokS s=[]),(.ret (.v (.one (.p (.str (I.hid ((tokS s)))))))),[.pack [.obj 214 [(.p (.str (I.hid ((tokE s)))))]]]⟩)):Option CT)) s
  |_,_=>none
theorem znq:zx Tryz.prog 196 (zdC alg):=by
  intro args hp r h
  unfold zdC at h
  split at h
  · cases h;exact⟨fun _ hn=>zvz _ hn,fun _ hn=>zvA _ hn⟩
  · cases h
def U5:Know Tryz.prog:=⟨196,zdC,znq⟩
def U4:Know Tryz.prog:=⟨196,fun I=>zy I (zdC I),zf znq⟩
theorem zvC (s:Str) (hneed:s.length≤1000000∧(quoF s).isSome=true):Spc Tryz.prog 231 [.v (.one (.ptr 0 0))] [.pack [.obj 214 [(.p (.str s))]]] (.ret (.v (.one (.p (.str ((quoV s))))))) [.pack [.obj 214 [(.p (.str ((quoR s))))]]]:=by
  obtain⟨hl,hne⟩:=hneed
  refine spcG zh mixed Tryz.func231 (by kernel_rfl) { nr:=[3],keep:=some [0,2,3,4]} [wW,wV] (by kernel_rfl) ?_
  intro I X hI hX
  refine orcL ?_;go_invoke;refine orcS (by kernel_rfl) ?_
  simp only [zi,Nat.reduceAdd]
  refine zC hI zh mixed [wW,wV] hX [0,3] (fun(g:Str × Str)=>match g with|(b,t)=>b.length+t.length≤s.length∧quoF s=(quoF t).map (fun p=>(b++p.1,p.2))) (fun(g:Str × Str)=>match g with|(b,t)=>⟨[(0,.v (.one (.ptr 0 0))),(3,.v (.one (.row 1)))],[.pack [.obj 214 [(.p (.str t))]],.row .byte 5 b],53,none⟩) (fun(g:Str × Str)=>match g with|(b,t)=>t.length) ([],s) (by kernel_rfl) (by kernel_rfl) ?_ ?_
  · exact⟨by simp,by simp⟩
  rintro⟨b,t⟩ ⟨h1,h2⟩ A hA
  refine orcL ?_;go_invoke;refine orcS (by kernel_rfl) ?_
  simp only [zi,Nat.reduceAdd]
  subst hI
  simp only [nrmA,nrmB,nrlB,reduceCtorEq,HO.pack.injEq,HO.obj.injEq]
  have hb:=uF (t.getD 0 0)
  rw [drop1]
  have hq: ∀ r:Str × Str,quoF s=some r→True:=fun _ _=>trivial
  cases t with
  | nil=>
    simp only [quoF,Option.map_none] at h2
    (repeat' (first|refine And.intro ?_ ?_|intro _))<;>first|omega|exact True.intro|exact False.elim ‹False›|skip
    all_goals first
      |omega
      |(simp_all;done)
  |cons x t=>
  cases t with
  | nil=>
    simp only [quoF] at h2
    have h34:((x.toNat:Int)=34)↔x=34:=Za x 34
    have h92:((x.toNat:Int)=92)↔x=92:=Za x 92
    simp only [List.getD_cons_zero,h34,h92,List.drop_succ_cons,List.drop_zero,List.length_cons,List.length_nil] at *
    have hgo: ¬ x=34→A ⟨[(0,.v (.one (.ptr 0 0))),(3,.v (.one (.row 1)))],[.pack [.obj 214 [(.p (.str ([])))]],.row .byte 5 ((b++[x]))],53,none⟩:=fun h=>hA (b++[x],[]) ⟨by simp;omega,by rw [h2,if_neg h];rfl⟩ (by simp)
    have hv:x=34→quoV s=b∧quoR s=[]:=fun h=>by unfold quoV quoR;rw [h2,if_pos h];simp
    clear hA
    (repeat' (first|refine And.intro ?_ ?_|intro _))<;>first|omega|exact True.intro|exact False.elim ‹False›|skip
    all_goals first
      |omega
      |exact(hv ‹_›).1.symm
      |exact(hv ‹_›).2.symm
      |exact hgo ‹_›
      |(simp_all;done)
  | cons y t=>
    simp only [quoF] at h2
    have h34:((x.toNat:Int)=34)↔x=34:=Za x 34
    have h92:((x.toNat:Int)=92)↔x=92:=Za x 92
    have hy:=uF y
    have hyt:List.take (t.length+1 - Int.toNat 1) (List.drop (Int.toNat 1) (y::t))=t:=by simpa using drop1 (y::t)
    simp only [List.getD_cons_zero,h34,h92,List.drop_succ_cons,List.drop_zero,List.length_cons] at *
    have hgoY: ¬ x=34→x=92→A ⟨[(0,.v (.one (.ptr 0 0))),(3,.v (.one (.row 1)))],[.pack [.obj 214 [(.p (.str t))]],.row .byte 5 ((b++[y]))],53,none⟩:=fun h k=>hA (b++[y],t) ⟨by simp;omega,by rw [h2,if_neg h,if_pos k,Option.map_map];congr 1;funext p;simp⟩ (by simp;omega)
    have hgoX: ¬ x=34→¬ x=92→A ⟨[(0,.v (.one (.ptr 0 0))),(3,.v (.one (.row 1)))],[.pack [.obj 214 [(.p (.str ((y::t))))]],.row .byte 5 ((b++[x]))],53,none⟩:=fun h k=>hA (b++[x],y::t) ⟨by simp;omega,by rw [h2,if_neg h,if_neg k,Option.map_map];congr 1;funext p;simp⟩ (by simp)
    have hv:x=34→quoV s=b∧quoR s=y::t:=fun h=>by unfold quoV quoR;rw [h2,if_pos h];simp
    clear hA
    simp only [List.length_nil,Nat.zero_add]
    first|rw [hyt]|skip
    (repeat' (first|refine And.intro ?_ ?_|intro _))<;>first|omega|exact True.intro|exact False.elim ‹False›|skip
    all_goals first
      |omega
      |exact(hv ‹_›).1.symm
      |exact(hv ‹_›).2.symm
      |exact hgoX ‹_› ‹_›
      |exact hgoY ‹_› ‹_›
      |(simp_all;done)
theorem zvB (s:Str) (hneed:s.length≤1000000∧(quoF s).isSome=false):Spc Tryz.prog 231 [.v (.one (.ptr 0 0))] [.pack [.obj 214 [(.p (.str s))]]] (.pan (.ifc 210 false [(.int .i64 14)])) [.pack [.obj 214 [(.p (.str ([])))]]]:=by
  obtain⟨hl,hne⟩:=hneed
  refine spcG zh mixed Tryz.func231 (by kernel_rfl) { nr:=[3],keep:=some [0,2,3,4]} [wW,wV] (by kernel_rfl) ?_
  intro I X hI hX
  refine orcL ?_;go_invoke;refine orcS (by kernel_rfl) ?_
  simp only [zi,Nat.reduceAdd]
  refine zC hI zh mixed [wW,wV] hX [0,3] (fun(g:Str × Str)=>match g with|(b,t)=>b.length+t.length≤s.length∧quoF s=(quoF t).map (fun p=>(b++p.1,p.2))) (fun(g:Str × Str)=>match g with|(b,t)=>⟨[(0,.v (.one (.ptr 0 0))),(3,.v (.one (.row 1)))],[.pack [.obj 214 [(.p (.str t))]],.row .byte 5 b],53,none⟩) (fun(g:Str × Str)=>match g with|(b,t)=>t.length) ([],s) (by kernel_rfl) (by kernel_rfl) ?_ ?_
  · exact⟨by simp,by simp⟩
  rintro⟨b,t⟩ ⟨h1,h2⟩ A hA
  refine orcL ?_;go_invoke;refine orcS (by kernel_rfl) ?_
  simp only [zi,Nat.reduceAdd]
  subst hI
  simp only [nrmA,nrmB,nrlB,reduceCtorEq,HO.pack.injEq,HO.obj.injEq]
  have hb:=uF (t.getD 0 0)
  rw [drop1]
  have hq: ∀ r:Str × Str,quoF s=some r→True:=fun _ _=>trivial
  cases t with
  | nil=>
    simp only [quoF,Option.map_none] at h2
    (repeat' (first|refine And.intro ?_ ?_|intro _))<;>first|omega|exact True.intro|exact False.elim ‹False›|skip
    all_goals first
      |omega
      |(simp_all;done)
  |cons x t=>
  cases t with
  | nil=>
    simp only [quoF] at h2
    have h34:((x.toNat:Int)=34)↔x=34:=Za x 34
    have h92:((x.toNat:Int)=92)↔x=92:=Za x 92
    simp only [List.getD_cons_zero,h34,h92,List.drop_succ_cons,List.drop_zero,List.length_cons,List.length_nil] at *
    have hgo: ¬ x=34→A ⟨[(0,.v (.one (.ptr 0 0))),(3,.v (.one (.row 1)))],[.pack [.obj 214 [(.p (.str ([])))]],.row .byte 5 ((b++[x]))],53,none⟩:=fun h=>hA (b++[x],[]) ⟨by simp;omega,by rw [h2,if_neg h];rfl⟩ (by simp)
    have hv:x=34→quoV s=b∧quoR s=[]:=fun h=>by unfold quoV quoR;rw [h2,if_pos h];simp
    clear hA
    (repeat' (first|refine And.intro ?_ ?_|intro _))<;>first|omega|exact True.intro|exact False.elim ‹False›|skip
    all_goals first
      |omega
      |exact(hv ‹_›).1.symm
      |exact(hv ‹_›).2.symm
      |exact hgo ‹_›
      |(simp_all;done)
  | cons y t=>
    simp only [quoF] at h2
    have h34:((x.toNat:Int)=34)↔x=34:=Za x 34
    have h92:((x.toNat:Int)=92)↔x=92:=Za x 92
    have hy:=uF y
    have hyt:List.take (t.length+1 - Int.toNat 1) (List.drop (Int.toNat 1) (y::t))=t:=by simpa using drop1 (y::t)
    simp only [List.getD_cons_zero,h34,h92,List.drop_succ_cons,List.drop_zero,List.length_cons] at *
    have hgoY: ¬ x=34→x=92→A ⟨[(0,.v (.one (.ptr 0 0))),(3,.v (.one (.row 1)))],[.pack [.obj 214 [(.p (.str t))]],.row .byte 5 ((b++[y]))],53,none⟩:=fun h k=>hA (b++[y],t) ⟨by simp;omega,by rw [h2,if_neg h,if_pos k,Option.map_map];congr 1;funext p;simp⟩ (by simp;omega)
    have hgoX: ¬ x=34→¬ x=92→A ⟨[(0,.v (.one (.ptr 0 0))),(3,.v (.one (.row 1)))],[.pack [.obj 214 [(.p (.str ((y::t))))]],.row .byte 5 ((b++[x]))],53,none⟩:=fun h k=>hA (b++[x],y::t) ⟨by simp;omega,by rw [h2,if_neg h,if_neg k,Option.map_map];congr 1;funext p;simp⟩ (by simp)
    have hv:x=34→quoV s=b∧quoR s=y::t:=fun h=>by unfold quoV quoR;rw [h2,if_pos h];simp
    clear hA
    simp only [List.length_nil,Nat.zero_add]
    first|rw [hyt]|skip
    (repeat' (first|refine And.intro ?_ ?_|intro _))<;>first|omega|exact True.intro|exact False.elim ‹False›|skip
    all_goals first
      |omega
      |exact(hv ‹_›).1.symm
      |exact(hv ‹_›).2.symm
      |exact hgoX ‹_› ‹_›
      |exact hgoY ‹_› ‹_›
      |(simp_all;done)
def zdD (I:Alg) (args:List D) (hp:List HO):Option CT:=match args,hp with
  |[.v (.one (.ptr 0 0))],[.pack [.obj 214 [(.p (.str s))]]]=>(fun(s:Str)=>(some (.br (I.hid ((quoF s).isSome)) (.one ⟨I.hid (s.length≤1000000∧(quoF s).isSome=true),(.ret (.v (.one (.p (.str (I.hid ((quoV s)))))))),[.pack [.obj 214 [(.p (.str (I.hid ((quoR s)))))]]]⟩) (.one ⟨I.hid (s.length≤1000000∧(quoF s).isSome=false),(.pan (.ifc 210 false [(.int .i64 14)])),[.pack [.obj 214 [(.p (.str (I.hid ([]))))]]]⟩)):Option CT)) s
  |_,_=>none
theorem znt:zx Tryz.prog 231 (zdD alg):=by
  intro args hp r h
  unfold zdD at h
  split at h
  · cases h;exact⟨fun _ hn=>zvC _ hn,fun _ hn=>zvB _ hn⟩
  · cases h
def zns:Know Tryz.prog:=⟨231,zdD,znt⟩
def znr:Know Tryz.prog:=⟨231,fun I=>zy I (zdD I),zf znt⟩
theorem zvE (s:Str) (hneed:s.length≤1000000∧(parM s).1=0):Spc Tryz.prog 198 [.v (.one (.ptr 0 0))] [.pack [.obj 214 [(.p (.str s))]]] (.ret (.v (.agg [(.p (.str ((parM s).2.1.name))),(.p (.str ((parM s).2.1.value)))]))) [.pack [.obj 214 [(.p (.str ((parM s).2.2)))]]]:=by
  obtain⟨hl,hc⟩:=hneed
  generalize hr:parM s=r at hc
  obtain⟨c,⟨n,v⟩,z⟩:=r
  simp only at hc
  subst hc
  refine spcG zh mixed Tryz.func198 (by kernel_rfl) { keep:=some [0,2,3]} [vg,ve,wW,wV,Xd,Xc,U5,U4,zns,znr] (by kernel_rfl) ?_
  intro I X hI hX
  refine orcL ?_;go_invoke;refine orcS (by kernel_rfl) ?_
  simp only [zi,Nat.reduceAdd]
  subst hI
  simp only [nrmA,nrmB,nrlB,reduceCtorEq,HO.pack.injEq,HO.obj.injEq]
  unfold parM at hr
  have hl1:=sQ s
  have hl2:=vV s
  simp only [show UInt8.ofNat (Int.toNat 61)=61 from rfl,show UInt8.ofNat (Int.toNat 34)=34 from rfl] at *
  (repeat' (first|refine And.intro ?_ ?_|intro _))<;>first|omega|exact True.intro|exact False.elim ‹False›|skip
  all_goals first
    |omega
    |(simp_all;done)
    |(simp_all;omega)
theorem zvD (s:Str) (hneed:s.length≤1000000∧¬ (parM s).1=0):Spc Tryz.prog 198 [.v (.one (.ptr 0 0))] [.pack [.obj 214 [(.p (.str s))]]] (.pan (.ifc 210 false [(.int .i64 ((parM s).1))])) [.pack [.obj 214 [(.p (.str ((parM s).2.2)))]]]:=by
  obtain⟨hl,hc⟩:=hneed
  generalize hr:parM s=r at hc
  obtain⟨c,⟨n,v⟩,z⟩:=r
  simp only at hc
  refine spcG zh mixed Tryz.func198 (by kernel_rfl) { keep:=some [0,2,3]} [vg,ve,wW,wV,Xd,Xc,U5,U4,zns,znr] (by kernel_rfl) ?_
  intro I X hI hX
  refine orcL ?_;go_invoke;refine orcS (by kernel_rfl) ?_
  simp only [zi,Nat.reduceAdd]
  subst hI
  simp only [nrmA,nrmB,nrlB,reduceCtorEq,HO.pack.injEq,HO.obj.injEq]
  unfold parM at hr
  have hl1:=sQ s
  have hl2:=vV s
  simp only [show UInt8.ofNat (Int.toNat 61)=61 from rfl,show UInt8.ofNat (Int.toNat 34)=34 from rfl] at *
  (repeat' (first|refine And.intro ?_ ?_|intro _))<;>first|omega|exact True.intro|exact False.elim ‹False›|skip
  all_goals first
    |omega
    |(simp_all;done)
    |(simp_all;omega)
    |(by_cases hq:tokS (List.drop 1 (tokE s))=[]<;>simp_all;done)
def zdG (I:Alg) (args:List D) (hp:List HO):Option CT:=match args,hp with
  |[.v (.one (.ptr 0 0))],[.pack [.obj 214 [(.p (.str s))]]]=>(fun(s:Str)=>(some (.br (I.hid (decide ((parM s).1=0))) (.one ⟨I.hid (s.length≤1000000∧(parM s).1=0),(.ret (.v (.agg [(.p (.str (I.hid ((parM s).2.1.name)))),(.p (.str (I.hid ((parM s).2.1.value))))]))),[.pack [.obj 214 [(.p (.str (I.hid ((parM s).2.2))))]]]⟩) (.one ⟨I.hid (s.length≤1000000∧¬ (parM s).1=0),(.pan (.ifc 210 false [(.int .i64 (I.hid ((parM s).1)))])),[.pack [.obj 214 [(.p (.str (I.hid ((parM s).2.2))))]]]⟩)):Option CT)) s
  |_,_=>none
theorem znu:zx Tryz.prog 198 (zdG alg):=by
  intro args hp r h
  unfold zdG at h
  split at h
  · cases h;exact⟨fun _ hn=>zvE _ hn,fun _ hn=>zvD _ hn⟩
  · cases h
def zdF:Know Tryz.prog:=⟨198,zdG,znu⟩
def zdE:Know Tryz.prog:=⟨198,fun I=>zy I (zdG I),zf znu⟩
end Go.Proofs.YtmkcejdibmilmaaGreatDoor
namespace Go.Proofs.YtmkcejdibmilmaaGreatDoor
open Go Go.Sep Go.Ab
set_option maxRecDepth 100000
theorem zvK (a b n:Str):Spc Tryz.prog 190 [.v (.agg [(.p (.str a)),(.p (.str b))]),.v (.one (.ptr 0 0))] [.pack [.obj 9 [(.p (.str n))]]] (.ret (.v (.one (.p (.bool ((a == n))))))) [.pack [.obj 9 [(.p (.str n))]]]:=by
  refine spcG zh mixed Tryz.func190 (by kernel_rfl) { keep:=some [0,1,2,3]} [] (by kernel_rfl) ?_
  intro I X hI hX
  refine orcL ?_;go_invoke;refine orcS (by kernel_rfl) ?_
  simp only [zi,Nat.reduceAdd]
  subst hI
  simp only [nrmA,nrmB,nrlB,reduceCtorEq,HO.pack.injEq,HO.obj.injEq]
  try trivial
def Qu (I:Alg) (args:List D) (hp:List HO):Option CT:=match args,hp with
  |[.v (.agg [(.p (.str a)),(.p (.str b))]),.v (.one (.ptr 0 0))],[.pack [.obj 9 [(.p (.str n))]]]=>(fun(a b n:Str)=>(some (.one ⟨I.hid (True),(.ret (.v (.one (.p (.bool (I.hid ((a == n)))))))),[.pack [.obj 9 [(.p (.str n))]]]⟩):Option CT)) a b n
  |_,_=>none
theorem zjj:zx Tryz.prog 190 (Qu alg):=by
  intro args hp r h
  unfold Qu at h
  split at h
  · cases h;exact fun hn=>zvK _ _ _
  · cases h
def zdJ:Know Tryz.prog:=⟨190,Qu,zjj⟩
def zqz:Know Tryz.prog:=⟨190,fun I=>zy I (Qu I),zf zjj⟩
set_option maxHeartbeats 1000000 in
theorem pIx_ (l:List Fld) (n:Str) (hneed:l.length≤1000000):Spc Tryz.prog 189 [.v (.one (.p (.list .fld l))),.v (.one (.fn 190 [.ptr 0 0]))] [.pack [.obj 9 [(.p (.str n))]]] (.ret (.v (.one (.p (.int .i64 ((ixP l n))))))) [.pack [.obj 9 [(.p (.str n))]]]:=by
  refine spcG zh mixed Tryz.func189 (by kernel_rfl) { keep:=some [0,1,4,5,7,8]} [zdJ] (by kernel_rfl) ?_
  intro I X hI hX
  refine orcL ?_;go_invoke;refine orcS (by kernel_rfl) ?_
  simp only [zi,Nat.reduceAdd]
  refine zC hI zh mixed [zdJ] hX [0,1,7,8] (fun(i:Nat)=>i≤l.length∧i≤l.findIdx (fun f=>f.name == n)) (fun(i:Nat)=>⟨[(0,.v (.one (.p (.list .fld l)))),(1,.v (.one (.fn 190 [.ptr 0 0]))),(7,.v (.one (.p (.int .i64 ((I.len (α:=Fld) l)))))),(8,.v (.one (.p (.int .i64 i))))],[.pack [.obj 9 [(.p (.str n))]]],19,none⟩) (fun(i:Nat)=>l.length - i) 0 (by kernel_rfl) (by kernel_rfl) ?_ ?_
  · exact⟨Nat.zero_le _,Nat.zero_le _⟩
  rintro i ⟨h1,h2⟩ A hA
  refine orcL ?_;go_invoke;refine orcS (by kernel_rfl) ?_
  simp only [zi,Nat.reduceAdd]
  subst hI
  simp only [nrmA,nrmB,nrlB,reduceCtorEq,HO.pack.injEq,HO.obj.injEq]
  have hfl:l.findIdx (fun f=>f.name == n)≤l.length:=List.findIdx_le_length
  have hyes:i<l.length→(l.getD i ⟨[],[]⟩).name=n→ixP l n=i:=fun h hid=>by
    have h0:l.findIdx (fun f=>f.name == n)≤i:=by
      refine Nat.le_of_not_lt fun hlt=> ?_
      have:=List.not_of_lt_findIdx hlt
      rw [List.getD_eq_getElem?_getD,List.getElem?_eq_getElem h] at hid
      simp only [Option.getD_some] at hid
      rw [hid] at this;simp at this
    unfold ixP
    rw [if_pos (by omega)];omega
  have hno:i<l.length→¬ (l.getD i ⟨[],[]⟩).name=n→i+1≤l.findIdx (fun f=>f.name == n):=fun h hid=>by
    refine Nat.lt_of_le_of_ne h2 fun e=>hid ?_
    have hlt:l.findIdx (fun f=>f.name == n)<l.length:=by omega
    have:=List.findIdx_getElem (xs:=l) (p:=fun f=>f.name == n) (w:=hlt)
    have h9:l.getD i ⟨[],[]⟩=l[l.findIdx (fun f=>f.name == n)]:=by simp [e,List.getD_eq_getElem?_getD,hlt]
    rw [h9];simpa using this
  have hend: ¬ i<l.length→ixP l n= -1:=fun h=>by unfold ixP;rw [if_neg (by omega)]
  generalize l.getD i ⟨[],[]⟩=x at *
  (repeat' (first|refine And.intro ?_ ?_|intro _))<;>first|omega|exact True.intro|exact False.elim ‹False›|skip
  all_goals first
    |omega
    |(exact(hyes (by omega) ‹_›).symm)
    |(exact hA (i+1) ⟨by omega,hno (by omega) ‹_›⟩ (by omega))
    |(exact(hend (by omega)).symm)
def zji (I:Alg) (args:List D) (hp:List HO):Option CT:=match args,hp with
  |[.v (.one (.p (.list .fld l))),.v (.one (.fn 190 [.ptr 0 0]))],[.pack [.obj 9 [(.p (.str n))]]]=>(fun(l:List Fld) (n:Str)=>(some (.one ⟨I.hid (l.length≤1000000),(.ret (.v (.one (.p (.int .i64 (I.hid ((ixP l n)))))))),[.pack [.obj 9 [(.p (.str n))]]]⟩):Option CT)) l n
  |_,_=>none
theorem zrW:zx Tryz.prog 189 (zji alg):=by
  intro args hp r h
  unfold zji at h
  split at h
  · cases h;exact fun hn=>pIx_ _ _ hn
  · cases h
def zvJ:Know Tryz.prog:=⟨189,zji,zrW⟩
def zvI:Know Tryz.prog:=⟨189,fun I=>zy I (zji I),zf zrW⟩
theorem zvZ (l:List Fld) (n:Str): -1≤ixP l n∧ixP l n<l.length:=by unfold ixP;split<;>omega
theorem zxb (w:Str) (l:List Fld) (n:Str) (hneed:l.length≤1000000):Spc Tryz.prog 157 [.v (.agg [(.p (.str w)),(.p (.list .fld l))]),.v (.one (.p (.str n)))] [] (.ret (.tup [(.one (.p (.str ((getP l n).1)))),(.one (.p (.bool ((getP l n).2))))])) []:=by
  rw [ztM]
  have hx:=zvZ l n
  refine spcG zh mixed Tryz.func157 (by kernel_rfl) { keep:=some [0,1,2,3,4,5,6]} [zdJ,zqz,zvJ,zvI] (by kernel_rfl) ?_
  intro I X hI hX
  refine orcL ?_;go_invoke;refine orcS (by kernel_rfl) ?_
  simp only [zi,Nat.reduceAdd]
  subst hI
  simp only [nrmA,nrmB]
  (repeat' (first|refine And.intro ?_ ?_|intro _))<;>first|omega|exact True.intro|exact False.elim ‹False›|skip
  all_goals first
    |omega
    |(rw [if_pos (by omega)])
    |(rw [if_neg (by omega)])
def zdI (I:Alg) (args:List D) (hp:List HO):Option CT:=match args,hp with
  |[.v (.agg [(.p (.str w)),(.p (.list .fld l))]),.v (.one (.p (.str n)))],[]=>(fun(w:Str) (l:List Fld) (n:Str)=>(some (.one ⟨I.hid (l.length≤1000000),(.ret (.tup [(.one (.p (.str (I.hid ((getP l n).1))))),(.one (.p (.bool (I.hid ((getP l n).2)))))])),[]⟩):Option CT)) w l n
  |_,_=>none
theorem znw:zx Tryz.prog 157 (zdI alg):=by
  intro args hp r h
  unfold zdI at h
  split at h
  · cases h;exact fun hn=>zxb _ _ _ hn
  · cases h
def U7:Know Tryz.prog:=⟨157,zdI,znw⟩
def U6:Know Tryz.prog:=⟨157,fun I=>zy I (zdI I),zf znw⟩
def cfgM:Cfg:= { sl:=[⟨179,1,.fld,some 201⟩]}
set_option maxHeartbeats 4000000 in
theorem zvH (s:Str) (hneed:s.length≤1000000∧(wX s).1=0):Spc Tryz.prog 164 [.v (.one (.ptr 0 0))] [.pack [.obj 214 [(.p (.str s))]]] (.ret (.v (.agg [(.p (.str ((wX s).2.1.word))),(.p (.list .fld ((wX s).2.1.params)))]))) [.pack [.obj 214 [(.p (.str ((wX s).2.2)))]]]:=by
  obtain⟨hl,hc⟩:=hneed
  generalize hr:wX s=r at hc
  obtain⟨c,⟨w,ps⟩,z⟩:=r
  simp only at hc
  subst hc
  refine spcG zh mixed Tryz.func164 (by kernel_rfl) { cfgM with lend:=[157],keep:=some [0,2,3,4,6]} [vg,ve,wW,wV,Xf,Xe,Xd,Xc,U5,U4,zdF,zdE,U7,U6] (by kernel_rfl) ?_
  intro I X hI hX
  refine orcL ?_;go_invoke;refine orcS (by kernel_rfl) ?_
  simp only [zi,Nat.reduceAdd]
  have hh: ∀ {α:Type} (x:α),I.hid x=x:=by subst hI;intros;rfl
  have key : ∀ (w0 t0:Str),t0.length≤1000000→((medL (t0.length+1) t0 []).1,(⟨w0,(medL (t0.length+1) t0 []).2.1⟩:Med),(medL (t0.length+1) t0 []).2.2)=(0,⟨w,ps⟩,z)→Ok Tryz.prog X (fun o h=>o=AOut.ret (D.v (V0.agg [C.p (P.str w),C.p (P.list U.fld ps)]))∧h=[HO.pack [HO.obj 214 [C.p (P.str z)]]]) (leaf I tab { cfgM with lend:=[157],keep:=some [0,2,3,4,6]} [⟨uI Tryz.f164,finK I tab { cfgM with lend:=[157],keep:=some [0,2,3,4,6]} 1 Tryz.f164⟩] 0 [1,1,1,1,0,1,0] ⟨[(3,.v (.one (.ptr 2 0))),(2,.v (.one (.ptr 1 0))),(0,.v (.one (.ptr 0 0)))],[.pack [.obj 214 [(.p (.str t0))]],.obj 179 [(.p (.str ([]))),.nilS],.obj 179 [(.p (.str w0)),.nilS]],60,none⟩):=by
    intro w0 t0 ht0 hm
    simp only [Prod.mk.injEq,Med.mk.injEq] at hm
    obtain⟨hm1,⟨rfl,hm2⟩,hm3⟩:=hm
    refine zC hI zh mixed [vg,ve,wW,wV,Xf,Xe,Xd,Xc,U5,U4,zdF,zdE,U7,U6] hX [0,2,3] (fun(g:Str × List Fld)=>match g with|(t,l)=>t.length≤1000000∧l.length≤8∧∃ n,t.length<n∧medL n t l=(0,ps,z)) (fun(g:Str × List Fld)=>match g with|(t,l)=>⟨[(0,.v (.one (.ptr 0 0))),(2,.v (.one (.ptr 1 0))),(3,.v (.one (.ptr 2 0)))],[.pack [.obj 214 [(.p (.str t))]],.pack [.obj 179 [(.p (.str ([]))),(.row 1)],.row .fld 201 ([])],.pack [.obj 179 [(.p (.str w0)),(.row 1)],.row .fld 201 l]],60,none⟩) (fun(g:Str × List Fld)=>match g with|(t,l)=>t.length) (t0,[]) (by kernel_rfl) (by kernel_rfl) ?_ ?_
    · exact⟨ht0,by simp,t0.length+1,by omega,by rw [← hm1,← hm2,← hm3]⟩
    rintro⟨t,l⟩ ⟨ht,hl8,n,hn,hm⟩ A hA
    clear hm1 hm2 hm3 hr
    simp only at hA
    refine orcL ?_;go_invoke;refine orcS (by kernel_rfl) ?_
    simp only [zi,Nat.reduceAdd]
    cases n with
    |zero=>omega
    |succ n=>
    simp only [medL] at hm
    have hgo:=hA (skS (parM (skS (t.drop 1))).2.2,l++[(parM (skS (t.drop 1))).2.1])
    have hpl:=zdB (skS (t.drop 1))
    have hpc:=zfe (skS (t.drop 1))
    have hsl:=vO (t.drop 1)
    have hsr:=vO (parM (skS (t.drop 1))).2.2
    rw [List.length_drop] at hsl
    clear hA
    simp only [hh,show UInt8.ofNat (Int.toNat 59)=59 from rfl]
    subst hI
    by_cases h59:uG t 59=true
    · have hpos:=zcz h59
      simp only [h59,if_true] at hm ⊢
      have hgo2:(parM (skS (t.drop 1))).1=0→(getP l (parM (skS (t.drop 1))).2.1.name).2=false→¬ l.length=8→_:=fun h1 h2 h3=>hgo ⟨by simp only;omega,by simp only [List.length_append,List.length_cons,List.length_nil];omega,n,by simp only;omega,by
        rw [if_neg (fun h=>h h1),if_neg (by rw [h2];exact Bool.false_ne_true),if_neg h3] at hm;exact hm⟩ (by simp only;omega)
      clear hgo
      simp only at hgo2
      generalize parM (skS (t.drop 1))=p at *
      obtain⟨pc,⟨pn,pv⟩,pr⟩:=p
      simp only at hgo2 hm hpl hpc hsl hsr ⊢
      simp only [nrmA,nrmB,nrlB,reduceCtorEq,List.length_cons,List.length_nil]
      (repeat' (first|refine And.intro ?_ ?_|intro _))<;>first|omega|exact True.intro|exact False.elim ‹False›|skip
      all_goals first
        |omega
        |assumption
        | (by_cases hpz:pc=0
           · exact hpz
           · rw [if_pos hpz] at hm;simp only [Prod.mk.injEq] at hm;exact hm.1)
        |exact hgo2 ‹_› ‹_› (by omega)
        |(exfalso;rw [if_neg (fun h=>h ‹pc=0›),if_neg (by rw [‹(getP l pn).2=false›];exact Bool.false_ne_true),if_pos (by omega)] at hm;simp_all;done)
        |(rw [if_neg (fun h=>h ‹pc=0›),if_neg (by rw [‹(getP l pn).2=false›];exact Bool.false_ne_true),if_pos (by omega)] at hm;simp_all;done)
        |(exfalso;simp_all;done)
        |(simp_all;done)
    · have h59:uG t 59=false:=by simpa using h59
      simp only [h59,Bool.false_eq_true,if_false] at hm ⊢
      simp only [nrmA,nrmB,nrlB,reduceCtorEq,List.length_cons,List.length_nil]
      (repeat' (first|refine And.intro ?_ ?_|intro _))<;>first|omega|exact True.intro|exact False.elim ‹False›|skip
      all_goals first
        |omega
        |(exfalso;simp_all;done)
        |(simp_all;done)
        |(by_cases hte:t=[]<;>simp_all;done)
  have hl1:=vO s
  have hl2:=vV (skS s)
  have hl3:=sQ (skS s)
  simp only [hh,show UInt8.ofNat (Int.toNat 47)=47 from rfl,decide_eq_true_eq,decide_eq_false_iff_not]
  unfold wX medA at hr
  generalize skS s=t at *
  have hl4:=sQ ((tokE t).drop 1)
  have hl5:=vV ((tokE t).drop 1)
  rw [List.length_drop] at hl4 hl5
  (repeat' (first|refine And.intro ?_ ?_|intro _))
  all_goals try first|trivial|assumption|omega|(exfalso;simp_all;done)|(subst hI;(try(simp only [nrmA,nrmB,nrlB,reduceCtorEq,List.length_cons,List.length_nil,uh]))<;>first|omega|(simp_all [uh];done)|(simp_all [uh];omega))
  all_goals(have happ: ∀ a b:Str,I.app (α:=UInt8) a b=a++b:=by subst hI;intros;rfl)
  all_goals try simp only [happ]
  all_goals first
    | (rename_i q1 q2 q3
       rw [if_neg q1,if_pos q2] at hr
       simp only [q2,if_true] at q3 ⊢
       rw [if_neg q3] at hr
       have hsk:=vO (tokE ((tokE t).drop 1))
       exact key _ _ (by omega) hr)
    | (rename_i q1 q2
       rw [if_neg q1,if_neg (by simp [q2])] at hr
       simp only [q2,Bool.false_eq_true,if_false] at ⊢
       have hsk:=vO (tokE t)
       exact key _ _ (by omega) hr)
set_option maxHeartbeats 4000000 in
theorem zvG (s:Str) (hneed:s.length≤1000000∧¬ (wX s).1=0):Spc Tryz.prog 164 [.v (.one (.ptr 0 0))] [.pack [.obj 214 [(.p (.str s))]]] (.pan (.ifc 210 false [(.int .i64 ((wX s).1))])) [.pack [.obj 214 [(.p (.str ((wX s).2.2)))]]]:=by
  obtain⟨hl,hc⟩:=hneed
  generalize hr:wX s=r at hc
  obtain⟨c,⟨w,ps⟩,z⟩:=r
  simp only at hc
  refine spcG zh mixed Tryz.func164 (by kernel_rfl) { cfgM with lend:=[157],keep:=some [0,2,3,4,6]} [vg,ve,wW,wV,Xf,Xe,Xd,Xc,U5,U4,zdF,zdE,U7,U6] (by kernel_rfl) ?_
  intro I X hI hX
  refine orcL ?_;go_invoke;refine orcS (by kernel_rfl) ?_
  simp only [zi,Nat.reduceAdd]
  have hh: ∀ {α:Type} (x:α),I.hid x=x:=by subst hI;intros;rfl
  have key : ∀ (w0 t0:Str),t0.length≤1000000→((medL (t0.length+1) t0 []).1,(⟨w0,(medL (t0.length+1) t0 []).2.1⟩:Med),(medL (t0.length+1) t0 []).2.2)=(c,⟨w,ps⟩,z)→Ok Tryz.prog X (fun o h=>o=AOut.pan (C.ifc 210 false [P.int IntKind.i64 c])∧h=[HO.pack [HO.obj 214 [C.p (P.str z)]]]) (leaf I tab { cfgM with lend:=[157],keep:=some [0,2,3,4,6]} [⟨uI Tryz.f164,finK I tab { cfgM with lend:=[157],keep:=some [0,2,3,4,6]} 1 Tryz.f164⟩] 0 [1,1,1,1,0,1,0] ⟨[(3,.v (.one (.ptr 2 0))),(2,.v (.one (.ptr 1 0))),(0,.v (.one (.ptr 0 0)))],[.pack [.obj 214 [(.p (.str t0))]],.obj 179 [(.p (.str ([]))),.nilS],.obj 179 [(.p (.str w0)),.nilS]],60,none⟩):=by
    intro w0 t0 ht0 hm
    simp only [Prod.mk.injEq,Med.mk.injEq] at hm
    obtain⟨hm1,⟨rfl,hm2⟩,hm3⟩:=hm
    refine zC hI zh mixed [vg,ve,wW,wV,Xf,Xe,Xd,Xc,U5,U4,zdF,zdE,U7,U6] hX [0,2,3] (fun(g:Str × List Fld)=>match g with|(t,l)=>t.length≤1000000∧l.length≤8∧∃ n,t.length<n∧medL n t l=(c,ps,z)) (fun(g:Str × List Fld)=>match g with|(t,l)=>⟨[(0,.v (.one (.ptr 0 0))),(2,.v (.one (.ptr 1 0))),(3,.v (.one (.ptr 2 0)))],[.pack [.obj 214 [(.p (.str t))]],.pack [.obj 179 [(.p (.str ([]))),(.row 1)],.row .fld 201 ([])],.pack [.obj 179 [(.p (.str w0)),(.row 1)],.row .fld 201 l]],60,none⟩) (fun(g:Str × List Fld)=>match g with|(t,l)=>t.length) (t0,[]) (by kernel_rfl) (by kernel_rfl) ?_ ?_
    · exact⟨ht0,by simp,t0.length+1,by omega,by rw [← hm1,← hm2,← hm3]⟩
    rintro⟨t,l⟩ ⟨ht,hl8,n,hn,hm⟩ A hA
    clear hm1 hm2 hm3 hr
    simp only at hA
    refine orcL ?_;go_invoke;refine orcS (by kernel_rfl) ?_
    simp only [zi,Nat.reduceAdd]
    cases n with
    |zero=>omega
    |succ n=>
    simp only [medL] at hm
    have hgo:=hA (skS (parM (skS (t.drop 1))).2.2,l++[(parM (skS (t.drop 1))).2.1])
    have hpl:=zdB (skS (t.drop 1))
    have hpc:=zfe (skS (t.drop 1))
    have hsl:=vO (t.drop 1)
    have hsr:=vO (parM (skS (t.drop 1))).2.2
    rw [List.length_drop] at hsl
    clear hA
    simp only [hh,show UInt8.ofNat (Int.toNat 59)=59 from rfl]
    subst hI
    by_cases h59:uG t 59=true
    · have hpos:=zcz h59
      simp only [h59,if_true] at hm ⊢
      have hgo2:(parM (skS (t.drop 1))).1=0→(getP l (parM (skS (t.drop 1))).2.1.name).2=false→¬ l.length=8→_:=fun h1 h2 h3=>hgo ⟨by simp only;omega,by simp only [List.length_append,List.length_cons,List.length_nil];omega,n,by simp only;omega,by
        rw [if_neg (fun h=>h h1),if_neg (by rw [h2];exact Bool.false_ne_true),if_neg h3] at hm;exact hm⟩ (by simp only;omega)
      clear hgo
      simp only at hgo2
      generalize parM (skS (t.drop 1))=p at *
      obtain⟨pc,⟨pn,pv⟩,pr⟩:=p
      simp only at hgo2 hm hpl hpc hsl hsr ⊢
      simp only [nrmA,nrmB,nrlB,reduceCtorEq,List.length_cons,List.length_nil]
      (repeat' (first|refine And.intro ?_ ?_|intro _))<;>first|omega|exact True.intro|exact False.elim ‹False›|skip
      all_goals first
        |omega
        |assumption
        | (by_cases hpz:pc=0
           · exact hpz
           · rw [if_pos hpz] at hm;simp only [Prod.mk.injEq] at hm;exact hm.1)
        |exact hgo2 ‹_› ‹_› (by omega)
        |(exfalso;rw [if_neg (fun h=>h ‹pc=0›),if_neg (by rw [‹(getP l pn).2=false›];exact Bool.false_ne_true),if_pos (by omega)] at hm;simp_all;done)
        |(rw [if_neg (fun h=>h ‹pc=0›),if_neg (by rw [‹(getP l pn).2=false›];exact Bool.false_ne_true),if_pos (by omega)] at hm;simp_all;done)
        |(exfalso;simp_all;done)
        |(simp_all;done)
    · have h59:uG t 59=false:=by simpa using h59
      simp only [h59,Bool.false_eq_true,if_false] at hm ⊢
      simp only [nrmA,nrmB,nrlB,reduceCtorEq,List.length_cons,List.length_nil]
      (repeat' (first|refine And.intro ?_ ?_|intro _))<;>first|omega|exact True.intro|exact False.elim ‹False›|skip
      all_goals first
        |omega
        |(exfalso;simp_all;done)
        |(simp_all;done)
        |(by_cases hte:t=[]<;>simp_all;done)
  have hl1:=vO s
  have hl2:=vV (skS s)
  have hl3:=sQ (skS s)
  simp only [hh,show UInt8.ofNat (Int.toNat 47)=47 from rfl,decide_eq_true_eq,decide_eq_false_iff_not]
  unfold wX medA at hr
  generalize skS s=t at *
  have hl4:=sQ ((tokE t).drop 1)
  have hl5:=vV ((tokE t).drop 1)
  rw [List.length_drop] at hl4 hl5
  (repeat' (first|refine And.intro ?_ ?_|intro _))
  all_goals try first|trivial|assumption|omega|(exfalso;simp_all;done)|(subst hI;(try(simp only [nrmA,nrmB,nrlB,reduceCtorEq,List.length_cons,List.length_nil,uh]))<;>first|omega|(simp_all [uh];done)|(simp_all [uh];omega))
  all_goals(have happ: ∀ a b:Str,I.app (α:=UInt8) a b=a++b:=by subst hI;intros;rfl)
  all_goals try simp only [happ]
  all_goals first
    | (rename_i q1 q2 q3
       rw [if_neg q1,if_pos q2] at hr
       simp only [q2,if_true] at q3 ⊢
       rw [if_neg q3] at hr
       have hsk:=vO (tokE ((tokE t).drop 1))
       exact key _ _ (by omega) hr)
    | (rename_i q1 q2
       rw [if_neg q1,if_neg (by simp [q2])] at hr
       simp only [q2,Bool.false_eq_true,if_false] at ⊢
       have hsk:=vO (tokE t)
       exact key _ _ (by omega) hr)
def zdH (I:Alg) (args:List D) (hp:List HO):Option CT:=match args,hp with
  |[.v (.one (.ptr 0 0))],[.pack [.obj 214 [(.p (.str s))]]]=>(fun(s:Str)=>(some (.br (I.hid (decide ((wX s).1=0))) (.one ⟨I.hid (s.length≤1000000∧(wX s).1=0),(.ret (.v (.agg [(.p (.str (I.hid ((wX s).2.1.word)))),(.p (.list .fld (I.hid ((wX s).2.1.params))))]))),[.pack [.obj 214 [(.p (.str (I.hid ((wX s).2.2))))]]]⟩) (.one ⟨I.hid (s.length≤1000000∧¬ (wX s).1=0),(.pan (.ifc 210 false [(.int .i64 (I.hid ((wX s).1)))])),[.pack [.obj 214 [(.p (.str (I.hid ((wX s).2.2))))]]]⟩)):Option CT)) s
  |_,_=>none
theorem znv:zx Tryz.prog 164 (zdH alg):=by
  intro args hp r h
  unfold zdH at h
  split at h
  · cases h;exact⟨fun _ hn=>zvH _ hn,fun _ hn=>zvG _ hn⟩
  · cases h
def zti:Know Tryz.prog:=⟨164,zdH,znv⟩
def zth:Know Tryz.prog:=⟨164,fun I=>zy I (zdH I),zf znv⟩
end Go.Proofs.YtmkcejdibmilmaaGreatDoor
namespace Go.Proofs.YtmkcejdibmilmaaGreatDoor
open Go Go.Sep Go.Ab
set_option maxRecDepth 100000
theorem zvM (w:Str) (l:List Fld) (n:Int) (s:Str):SpcD Tryz.prog 163 [.ptr 0 0,.ptr 1 0] .ret [.obj 179 [.p (.str w),.p (.list .fld l)],.obj 3 [.p (.int .i64 n)],.pack [.obj 214 [.p (.str s)]]] .ret [.obj 179 [.p (.str w),.p (.list .fld l)],.obj 3 [.p (.int .i64 n)],.obj 214 [.p (.str s)]]:=by
  refine UO zh mixed Tryz.func163 (by kernel_rfl) { flat:=true} [] (rest:=_) rfl (by kernel_rfl) ?_
  intro I X hI hX
  refine orcL ?_;go_invoke;refine orcS (by kernel_rfl) ?_
  simp only [zi,Nat.reduceAdd]
  try trivial
theorem zvL (w:Str) (n k:Int) (s:Str):SpcD Tryz.prog 163 [.ptr 0 0,.ptr 1 0] (.pan (.ifc 210 false [.int .i64 k])) [.obj 179 [.p (.str w),.nilS],.obj 3 [.p (.int .i64 n)],.pack [.obj 214 [.p (.str s)]]] .ret [.obj 179 [.p (.str []),.nilS],.obj 3 [.p (.int .i64 k)],.obj 214 [.p (.str s)]]:=by
  refine UO zh mixed Tryz.func163 (by kernel_rfl) { flat:=true} [] (rest:=_) rfl (by kernel_rfl) ?_
  intro I X hI hX
  refine orcL ?_;go_invoke;refine orcS (by kernel_rfl) ?_
  simp only [zi,Nat.reduceAdd]
  try trivial
def zxc:Door Tryz.prog where
  g:=163
  c :=fun _ m caps hp=>match m,caps,hp with
    |.ret,[.ptr 0 0,.ptr 1 0],[.obj 179 [.p (.str w),.p (.list .fld l)],.obj 3 [.p (.int .i64 n)],.pack [.obj 214 [.p (.str s)]]]=>some (True,.ret,[.obj 179 [.p (.str w),.p (.list .fld l)],.obj 3 [.p (.int .i64 n)],.obj 214 [.p (.str s)]])
    |.pan (.ifc 210 false [.int .i64 k]),[.ptr 0 0,.ptr 1 0],[.obj 179 [.p (.str w),.nilS],.obj 3 [.p (.int .i64 n)],.pack [.obj 214 [.p (.str s)]]]=>some (True,.ret,[.obj 179 [.p (.str []),.nilS],.obj 3 [.p (.int .i64 k)],.obj 214 [.p (.str s)]])
    |_,_,_=>none
  ok:=by
    intro m caps hp p m' hp' h _
    split at h
    · cases h;exact zvM _ _ _ _
    · cases h;exact zvL _ _ _ _
    · cases h
theorem ztg (s:Str) (hneed:s.length≤1000000):Spc Tryz.prog 133 [.v (.one (.p (.str s)))] [] (.ret (.tup [(.agg [(.p (.str ((xN s).1.word))),(.p (.list .fld ((xN s).1.params)))]),(.one (.p (.int .i64 ((xN s).2))))])) []:=by
  generalize hr:xN s=r
  obtain⟨⟨w,ps⟩,c⟩:=r
  unfold xN at hr
  refine zu8 zh mixed Tryz.func133 (by kernel_rfl) { cfgM with keep:=some [0,2,3,4]} [uY,uX,zti,zth] zxc (by kernel_rfl) ?_
  intro I X hI hX
  refine orcL ?_;go_invoke;refine orcS (by kernel_rfl) ?_
  simp only [zi,Nat.reduceAdd]
  subst hI
  simp only [nrmA,nrmB,nrlB,reduceCtorEq,V0.agg.injEq]
  (repeat' (first|refine And.intro ?_ ?_|intro _))<;>first|omega|exact True.intro|exact False.elim ‹False›|skip
  all_goals first|(simp_all;done)|trace_state
def Vq (I:Alg) (args:List D) (hp:List HO):Option CT:=match args,hp with
  |[.v (.one (.p (.str s)))],[]=>(fun(s:Str)=>(some (.one ⟨I.hid (s.length≤1000000),(.ret (.tup [(.agg [(.p (.str (I.hid ((xN s).1.word)))),(.p (.list .fld (I.hid ((xN s).1.params))))]),(.one (.p (.int .i64 (I.hid ((xN s).2)))))])),[]⟩):Option CT)) s
  |_,_=>none
theorem zfg:zx Tryz.prog 133 (Vq alg):=by
  intro args hp r h
  unfold Vq at h
  split at h
  · cases h;exact fun hn=>ztg _ hn
  · cases h
def vI:Know Tryz.prog:=⟨133,Vq,zfg⟩
def vH:Know Tryz.prog:=⟨133,fun I=>zy I (Vq I),zf zfg⟩
end Go.Proofs.YtmkcejdibmilmaaGreatDoor
namespace Go.Proofs.YtmkcejdibmilmaaGreatDoor
open Go Go.Sep Go.Ab
set_option maxRecDepth 100000
end Go.Proofs.YtmkcejdibmilmaaGreatDoor
namespace Go.Proofs.YtmkcejdibmilmaaGreatDoor
open Go Go.Sep Go.Ab
set_option maxRecDepth 100000
def cutB (s:Str) (c:UInt8):Str × Str × Bool:=
  if 0≤Lib.indexByte s c then(s.take (Lib.indexByte s c).toNat,s.drop ((Lib.indexByte s c).toNat+1),true) else(s,[],false)
def vS (s:Str):Fld × Int:=
  if(cutB s 58).2.2=false then(⟨[],[]⟩,5)
  else if TQ (cutB s 58).1=false then(⟨[],[]⟩,6)
  else if 40<(cutB s 58).1.length then(⟨[],[]⟩,4)
  else if WM (cutB s 58).2.1=false then(⟨[],[]⟩,3)
  else(⟨(cutB s 58).1,Lib.trimS (cutB s 58).2.1 [32,9]⟩,0)
def textF (f:Fld):Str × Int:=
  if TQ f.name=false then([],6)
  else if 40<f.name.length∨200<f.name.length+2+f.value.length then([],4)
  else if WM f.value=false∨¬ Lib.trimS f.value [32,9]=f.value then([],3)
  else(f.name++[58,32]++f.value,0)
theorem zee (s:Str) (c:UInt8):(cutB s c).1.length≤s.length∧(cutB s c).2.1.length≤s.length:=by
  unfold cutB
  split
  · simp only [List.length_take,List.length_drop];omega
  · simp
theorem zvd (s:Str) (c:UInt8) (hneed:s.length≤1000000):Spc Tryz.prog 185 [.v (.one (.p (.str s))),.v (.one (.p (.str ([c]))))] [] (.ret (.tup [(.one (.p (.str ((cutB s c).1)))),(.one (.p (.str ((cutB s c).2.1)))),(.one (.p (.bool ((cutB s c).2.2))))])) []:=by
  generalize hr:cutB s c=r
  obtain⟨a,b,d⟩:=r
  refine spcG zh mixed Tryz.func185 (by kernel_rfl) { keep:=some [0,1,4,5,6,7]} [znX,znW] (by kernel_rfl) ?_
  intro I X hI hX
  refine orcL ?_;go_invoke;refine orcS (by kernel_rfl) ?_
  simp only [zi,Nat.reduceAdd]
  subst hI
  simp only [nrmA,nrmB]
  have hx:=YG s c
  simp only [List.length_cons,List.length_nil]
  refine⟨fun h=> ?_,fun h=> ?_⟩
  · rw [cutB,if_pos h] at hr
    simp only [Prod.mk.injEq] at hr
    obtain⟨rfl,rfl,rfl⟩:=hr
    refine⟨by omega,by omega,by omega,?_⟩
    rw [show(Lib.indexByte s c+((0+1:Nat):Int)).toNat=(Lib.indexByte s c).toNat+1 by omega]
    have e:List.take (s.length - ((Lib.indexByte s c).toNat+1)) (List.drop ((Lib.indexByte s c).toNat+1) s)=List.drop ((Lib.indexByte s c).toNat+1) s:=List.take_of_length_le (by rw [List.length_drop];exact Nat.le_refl _)
    rw [e]
  · rw [cutB,if_neg h] at hr
    simp only [Prod.mk.injEq] at hr
    obtain⟨rfl,rfl,rfl⟩:=hr
    rfl
def RX (I:Alg) (args:List D) (hp:List HO):Option CT:=match args,hp with
  |[.v (.one (.p (.str s))),.v (.one (.p (.str ([c]))))],[]=>(fun(s:Str) (c:UInt8)=>(some (.one ⟨I.hid (s.length≤1000000),(.ret (.tup [(.one (.p (.str (I.hid ((cutB s c).1))))),(.one (.p (.str (I.hid ((cutB s c).2.1))))),(.one (.p (.bool (I.hid ((cutB s c).2.2)))))])),[]⟩):Option CT)) s c
  |_,_=>none
theorem ziH:zx Tryz.prog 185 (RX alg):=by
  intro args hp r h
  unfold RX at h
  split at h
  · cases h;exact fun hn=>zvd _ _ hn
  · cases h
def zpS:Know Tryz.prog:=⟨185,RX,ziH⟩
def zpR:Know Tryz.prog:=⟨185,fun I=>zy I (RX I),zf ziH⟩
theorem zw1 (s:Str) (c:UInt8) (hneed:s.length≤1000000):Spc Tryz.prog 152 [.v (.one (.p (.str s))),.v (.one (.p (.str ([c]))))] [] (.ret (.tup [(.one (.p (.str ((cutB s c).1)))),(.one (.p (.str ((cutB s c).2.1)))),(.one (.p (.bool ((cutB s c).2.2))))])) []:=by
  refine spcG zh mixed Tryz.func152 (by kernel_rfl) { keep:=some [0,1,4,5,6]} [zpS,zpR] (by kernel_rfl) ?_
  intro I X hI hX
  refine orcL ?_;go_invoke;refine orcS (by kernel_rfl) ?_
  simp only [zi,Nat.reduceAdd]
  subst hI
  simp only [nrmA,nrmB]
  exact hneed
def zdu (I:Alg) (args:List D) (hp:List HO):Option CT:=match args,hp with
  |[.v (.one (.p (.str s))),.v (.one (.p (.str ([c]))))],[]=>(fun(s:Str) (c:UInt8)=>(some (.one ⟨I.hid (s.length≤1000000),(.ret (.tup [(.one (.p (.str (I.hid ((cutB s c).1))))),(.one (.p (.str (I.hid ((cutB s c).2.1))))),(.one (.p (.bool (I.hid ((cutB s c).2.2)))))])),[]⟩):Option CT)) s c
  |_,_=>none
theorem zmD:zx Tryz.prog 152 (zdu alg):=by
  intro args hp r h
  unfold zdu at h
  split at h
  · cases h;exact fun hn=>zw1 _ _ hn
  · cases h
def zmC:Know Tryz.prog:=⟨152,zdu,zmD⟩
def zmB:Know Tryz.prog:=⟨152,fun I=>zy I (zdu I),zf zmD⟩
theorem zvy (s:Str) (hneed:s.length≤1000000):Spc Tryz.prog 118 [.v (.one (.p (.str s)))] [] (.ret (.tup [(.agg [(.p (.str ((vS s).1.name))),(.p (.str ((vS s).1.value)))]),(.one (.p (.int .i64 ((vS s).2))))])) []:=by
  generalize hr:vS s=r
  obtain⟨⟨a,b⟩,d⟩:=r
  refine spcG zh mixed Tryz.func118 (by kernel_rfl) { keep:=some [0,2,3,4,5,6]} [Xp,Xo,uY,uX,UD,UC,zmC,zmB] (by kernel_rfl) ?_
  intro I X hI hX
  refine orcL ?_;go_invoke;refine orcS (by kernel_rfl) ?_
  simp only [zi,Nat.reduceAdd]
  subst hI
  simp only [nrmA,nrmB]
  have hl:=zee s 58
  unfold vS at hr
  (repeat' (first|refine And.intro ?_ ?_|intro _))<;>first|omega|exact True.intro|exact False.elim ‹False›|skip
  all_goals first
    |(rw [if_pos (by assumption)] at hr;cases hr;rfl)
    |(rw [if_neg (by simp [*]),if_pos (by assumption)] at hr;cases hr;rfl)
    |(rw [if_neg (by simp [*]),if_neg (by simp [*]),if_pos (by omega)] at hr;cases hr;rfl)
    |(rw [if_neg (by simp [*]),if_neg (by simp [*]),if_neg (by omega),if_pos (by assumption)] at hr;cases hr;rfl)
    |(rw [if_neg (by simp [*]),if_neg (by simp [*]),if_neg (by omega),if_neg (by simp [*])] at hr;cases hr;rfl)
def Qq (I:Alg) (args:List D) (hp:List HO):Option CT:=match args,hp with
  |[.v (.one (.p (.str s)))],[]=>(fun(s:Str)=>(some (.one ⟨I.hid (s.length≤1000000),(.ret (.tup [(.agg [(.p (.str (I.hid ((vS s).1.name)))),(.p (.str (I.hid ((vS s).1.value))))]),(.one (.p (.int .i64 (I.hid ((vS s).2)))))])),[]⟩):Option CT)) s
  |_,_=>none
theorem zjg:zx Tryz.prog 118 (Qq alg):=by
  intro args hp r h
  unfold Qq at h
  split at h
  · cases h;exact fun hn=>zvy _ hn
  · cases h
def Vp:Know Tryz.prog:=⟨118,Qq,zjg⟩
def Vo:Know Tryz.prog:=⟨118,fun I=>zy I (Qq I),zf zjg⟩
theorem zwR (n v:Str) (hneed:n.length≤1000000∧v.length≤1000000):Spc Tryz.prog 122 [.v (.agg [(.p (.str n)),(.p (.str v))])] [] (.ret (.tup [(.one (.p (.str ((textF ⟨n,v⟩).1)))),(.one (.p (.int .i64 ((textF ⟨n,v⟩).2))))])) []:=by
  generalize hr:textF ⟨n,v⟩=r
  obtain⟨a,d⟩:=r
  refine spcG zh mixed Tryz.func122 (by kernel_rfl) { keep:=some [0,1,2,3,4]} [Xp,Xo,uY,uX,UD,UC] (by kernel_rfl) ?_
  intro I X hI hX
  refine orcL ?_;go_invoke;refine orcS (by kernel_rfl) ?_
  simp only [zi,Nat.reduceAdd]
  subst hI
  simp only [nrmA,nrmB]
  simp only [List.length_append,List.length_cons,List.length_nil]
  unfold textF at hr
  simp only at hr
  (repeat' (first|refine And.intro ?_ ?_|intro _))<;>first|omega|exact True.intro|exact False.elim ‹False›|skip
  all_goals first
    |(rw [if_pos (by assumption)] at hr;cases hr;rfl)
    |(rw [if_neg (by simp [*]),if_pos (by omega)] at hr;cases hr;rfl)
    |(rw [if_neg (by simp [*]),if_neg (by omega),if_pos (.inl (by assumption))] at hr;cases hr;rfl)
    |(rw [if_neg (by simp [*]),if_neg (by omega),if_pos (.inr (by assumption))] at hr;cases hr;rfl)
    |(rw [if_neg (by simp [*]),if_neg (by omega),if_neg (by simp [*])] at hr;cases hr;rfl)
def zdd (I:Alg) (args:List D) (hp:List HO):Option CT:=match args,hp with
  |[.v (.agg [(.p (.str n)),(.p (.str v))])],[]=>(fun(n v:Str)=>(some (.one ⟨I.hid (n.length≤1000000∧v.length≤1000000),(.ret (.tup [(.one (.p (.str (I.hid ((textF ⟨n,v⟩).1))))),(.one (.p (.int .i64 (I.hid ((textF ⟨n,v⟩).2)))))])),[]⟩):Option CT)) n v
  |_,_=>none
theorem zl2:zx Tryz.prog 122 (zdd alg):=by
  intro args hp r h
  unfold zdd at h
  split at h
  · cases h;exact fun hn=>zwR _ _ hn
  · cases h
def zl1:Know Tryz.prog:=⟨122,zdd,zl2⟩
def zl0:Know Tryz.prog:=⟨122,fun I=>zy I (zdd I),zf zl2⟩
end Go.Proofs.YtmkcejdibmilmaaGreatDoor
namespace Go.Proofs.YtmkcejdibmilmaaGreatDoor
open Go Go.Sep Go.Ab
set_option maxRecDepth 100000
end Go.Proofs.YtmkcejdibmilmaaGreatDoor
namespace Go.Proofs.YtmkcejdibmilmaaGreatDoor
open Go Go.Sep Go.Ab
set_option maxRecDepth 100000
end Go.Proofs.YtmkcejdibmilmaaGreatDoor
namespace Go.Proofs.YtmkcejdibmilmaaGreatDoor
open Go Go.Sep Go.Ab
set_option maxRecDepth 100000
def valsF (l:List Fld) (n:Str):List Str:=(l.filter fun f=>decide (lowS f.name=lowS n)).map (·.value)
theorem zxq (l:List Fld) (n:Str) (hneed:l.length≤1000∧n.length≤1000000∧∀ f ∈ l,f.name.length≤1000000∧f.value.length≤1000000):Spc Tryz.prog 120 [.v (.one (.p (.list .fld l))),.v (.one (.p (.str n)))] [] (.ret (.v (.one (.row 0)))) [.row .str 9 ((valsF l n))]:=by
  refine spcG zh mixed Tryz.func120 (by kernel_rfl) { nr:=[5],keep:=some [0,1,4,5,7,8,9,10]} [vg,ve] (by kernel_rfl) ?_
  intro I X hI hX
  refine orcL ?_;go_invoke;refine orcS (by kernel_rfl) ?_
  simp only [zi,Nat.reduceAdd]
  refine zC hI zh mixed [vg,ve] hX [0,1,5,8,9,10] (fun(g:Nat × List Str)=>match g with|(i,o)=>i≤l.length∧o=valsF (l.take i) n) (fun(g:Nat × List Str)=>match g with|(i,o)=>⟨[(0,.v (.one (.p (.list .fld l)))),(1,.v (.one (.p (.str n)))),(5,.v (.one (.row 0))),(8,.v (.one (.p (.list .fld l)))),(9,.v (.one (.p (.int .i64 ((I.len (α:=Fld) l)))))),(10,.v (.one (.p (.int .i64 i))))],[.row .str 9 o],27,none⟩) (fun(g:Nat × List Str)=>match g with|(i,o)=>l.length - i) (0,[]) (by kernel_rfl) (by kernel_rfl) ?_ ?_
  · exact⟨Nat.zero_le _,rfl⟩
  rintro⟨i,o⟩ ⟨h1,h2⟩ A hA
  simp only at hA
  refine orcL ?_;go_invoke;refine orcS (by kernel_rfl) ?_
  simp only [zi,Nat.reduceAdd]
  subst hI
  simp only [nrmA,nrmB]
  have hx:i<l.length→(l.getD i ⟨[],[]⟩) ∈ l:=fun h=>by rw [show l.getD i ⟨[],[]⟩=l[i] by simp [h]];exact List.getElem_mem h
  have hs:i<l.length→valsF (l.take (i+1)) n=if lowS (l.getD i ⟨[],[]⟩).name=lowS n then o++[(l.getD i ⟨[],[]⟩).value] else o:=fun h=>by
    rw [show l.getD i ⟨[],[]⟩=l[i] by simp [h],List.take_succ_eq_append_getElem h,h2]
    unfold valsF
    rw [List.filter_append,List.map_append]
    by_cases hc:lowS l[i].name=lowS n<;>simp [hc]
  have hol:o.length≤i:=by
    rw [h2]
    unfold valsF
    rw [List.length_map]
    exact Nat.le_trans (List.length_filter_le _ _) (by rw [List.length_take];omega)
  have hn:=fun h=>hneed.2.2 _ (hx h)
  generalize l.getD i ⟨[],[]⟩=x at *
  simp only [List.length_cons,List.length_nil]
  (repeat' (first|refine And.intro ?_ ?_|intro _))<;>first|omega|exact True.intro|exact False.elim ‹False›|skip
  all_goals first
    |(have:=hn (by omega);omega)
    |exact hA (i+1,_) ⟨by simp only;omega,by simp only;rw [hs (by omega),if_pos (by assumption)]⟩ (by simp only;omega)
    |exact hA (i+1,_) ⟨by simp only;omega,by simp only;rw [hs (by omega),if_neg (by assumption)]⟩ (by simp only;omega)
    |(rw [h2,List.take_of_length_le (by omega)])
def zd9 (I:Alg) (args:List D) (hp:List HO):Option CT:=match args,hp with
  |[.v (.one (.p (.list .fld l))),.v (.one (.p (.str n)))],[]=>(fun(l:List Fld) (n:Str)=>(some (.one ⟨I.hid (l.length≤1000∧n.length≤1000000∧∀ f ∈ l,f.name.length≤1000000∧f.value.length≤1000000),(.ret (.v (.one (.row 0)))),[.row .str 9 (I.hid ((valsF l n)))]⟩):Option CT)) l n
  |_,_=>none
theorem zoB:zx Tryz.prog 120 (zd9 alg):=by
  intro args hp r h
  unfold zd9 at h
  split at h
  · cases h;exact fun hn=>zxq _ _ hn
  · cases h
def zbm:Know Tryz.prog:=⟨120,zd9,zoB⟩
def zbl:Know Tryz.prog:=⟨120,fun I=>zy I (zd9 I),zf zoB⟩
end Go.Proofs.YtmkcejdibmilmaaGreatDoor
namespace Go.Proofs.YtmkcejdibmilmaaGreatDoor
open Go Go.Sep Go.Ab
set_option maxRecDepth 100000
def oneF (l:List Str):Str × Int:=if l.length=0 then([],10) else if l.length=1 then(l.getD 0 [],0) else([],9)
theorem zxn (l:List Fld) (n:Str) (hneed:l.length≤1000∧n.length≤1000000∧∀ f ∈ l,f.name.length≤1000000∧f.value.length≤1000000):Spc Tryz.prog 126 [.v (.one (.p (.list .fld l))),.v (.one (.p (.str n)))] [] (.ret (.tup [(.one (.p (.str ((oneF (valsF l n)).1)))),(.one (.p (.int .i64 ((oneF (valsF l n)).2))))])) []:=by
  generalize hr:oneF (valsF l n)=r
  obtain⟨a,d⟩:=r
  refine spcG zh mixed Tryz.func126 (by kernel_rfl) { keep:=some [0,1,4,5,6,11]} [zbm,zbl] (by kernel_rfl) ?_
  intro I X hI hX
  refine orcL ?_;go_invoke;refine orcS (by kernel_rfl) ?_
  simp only [zi,Nat.reduceAdd]
  subst hI
  simp only [nrmA,nrmB]
  unfold oneF at hr
  (repeat' (first|refine And.intro ?_ ?_|intro _))<;>first|omega|exact True.intro|exact False.elim ‹False›|skip
  all_goals first
    |assumption
    |exact(hneed.2.2 _ (by assumption)).1
    |exact(hneed.2.2 _ (by assumption)).2
    |(rw [if_pos (by omega)] at hr;cases hr;rfl)
    |(rw [if_neg (by omega),if_pos (by omega)] at hr;cases hr;rfl)
    |(rw [if_neg (by omega),if_neg (by omega)] at hr;cases hr;rfl)
def zd6 (I:Alg) (args:List D) (hp:List HO):Option CT:=match args,hp with
  |[.v (.one (.p (.list .fld l))),.v (.one (.p (.str n)))],[]=>(fun(l:List Fld) (n:Str)=>(some (.one ⟨I.hid (l.length≤1000∧n.length≤1000000∧∀ f ∈ l,f.name.length≤1000000∧f.value.length≤1000000),(.ret (.tup [(.one (.p (.str (I.hid ((oneF (valsF l n)).1))))),(.one (.p (.int .i64 (I.hid ((oneF (valsF l n)).2)))))])),[]⟩):Option CT)) l n
  |_,_=>none
theorem zow:zx Tryz.prog 126 (zd6 alg):=by
  intro args hp r h
  unfold zd6 at h
  split at h
  · cases h;exact fun hn=>zxn _ _ hn
  · cases h
def TB:Know Tryz.prog:=⟨126,zd6,zow⟩
def Tz:Know Tryz.prog:=⟨126,fun I=>zy I (zd6 I),zf zow⟩
end Go.Proofs.YtmkcejdibmilmaaGreatDoor
namespace Go.Proofs.YtmkcejdibmilmaaGreatDoor
open Go Go.Sep Go.Ab
set_option maxRecDepth 100000
def numG (base:Int):Int→Str→Int × Bool
  |n,[]=>(n,true)
  |n,c::l=>if hexK c.toNat<0∨base≤hexK c.toNat then(0,false) else numG base (n * base+hexK c.toNat) l
def numA (s:Str) (base most:Int):Int × Bool:=if s=[]∨most<s.length then(0,false) else numG base 0 s
def top9:Nat→Nat
  |0=>0
  |i+1=>16 * top9 i+15
theorem zlY {i:Nat} (h:i≤9):top9 i≤68719476735:=(by decide: ∀ i:Fin 10,top9 i.1≤68719476735) ⟨i,by omega⟩
theorem zfi {base n:Int} {s:Str} {i:Nat} (h:i<s.length):numG base n (s.drop i)=if hexK (s.getD i 0).toNat<0∨base≤hexK (s.getD i 0).toNat then(0,false) else numG base (n * base+hexK (s.getD i 0).toNat) (s.drop (i+1)):=by
  rw [List.drop_eq_getElem_cons h,numG];simp [h]
theorem zdV {k:Int} (hk:0≤k∧k≤255): -1≤hexK k∧hexK k≤15:=zxt (p:=fun k=> -1≤hexK k∧hexK k≤15) (by decide+kernel) hk
theorem znB (s:Str):Spc Tryz.prog 162 [.v (.one (.p (.str s))),.v (.one (.p (.int .i64 10))),.v (.one (.p (.int .i64 9)))] [] (.ret (.tup [(.one (.p (.int .i64 ((numA s 10 9).1)))),(.one (.p (.bool ((numA s 10 9).2))))])) []:=by
  generalize hr:numA s 10 9=r
  refine spcG zh mixed Tryz.func162 (by kernel_rfl) { keep:=some [0,1,2,6,7,8,9,10,20,21]} [zcy,zcx] (by kernel_rfl) ?_
  intro I X hI hX
  refine orcL ?_;go_invoke;refine orcS (by kernel_rfl) ?_
  simp only [zi,Nat.reduceAdd]
  have hne:s≠[]→¬ (9:Int)<s.length→numG 10 0 s=r:=fun h1 h2=>by rw [← hr,numA,if_neg (fun h=>by rcases h with h|h;exact h1 h;exact h2 h)]
  have hyes:(s=[]∨(9:Int)<s.length)→r=(0,false):=fun h=>by rw [← hr,numA,if_pos h]
  refine⟨fun c1=> ?_,fun c1=>⟨fun c2=> ?_,fun c2=> ?_⟩⟩
  · subst hI
    simp only [nrmA,nrmB] at c1
    rw [hyes (.inl c1)]
    simp
  · subst hI
    simp only [nrmA,nrmB] at c2
    rw [hyes (.inr c2)]
    simp
  have d1:s≠[]:=by
    subst hI
    simp only [nrmA,nrmB] at c1
    exact c1
  have d2:s.length≤9:=by
    subst hI
    simp only [nrmA,nrmB] at c2
    omega
  refine zC hI zh mixed [zcy,zcx] hX [0,1,2,8,20,21] (fun(g:Nat × Int)=>match g with|(i,n)=>i≤s.length∧0≤n∧n≤top9 i∧numG 10 n (s.drop i)=r) (fun(g:Nat × Int)=>match g with|(i,n)=>⟨[(0,.v (.one (.p (.str s)))),(1,.v (.one (.p (.int .i64 10)))),(2,.v (.one (.p (.int .i64 9)))),(8,.v (.one (.p (.int .i64 n)))),(20,.v (.one (.p (.int .i64 ((I.len (α:=UInt8) s)))))),(21,.v (.one (.p (.int .i64 i))))],[],42,none⟩) (fun(g:Nat × Int)=>match g with|(i,n)=>s.length - i) (0,0) (by kernel_rfl) (by kernel_rfl) ?_ ?_
  · exact⟨Nat.zero_le _,Int.le_refl _,Int.le_refl _,hne d1 (by omega)⟩
  rintro⟨i,n⟩ ⟨h1,h2,h3,h4⟩ A hA
  simp only at hA
  refine orcL ?_;go_invoke;refine orcS (by kernel_rfl) ?_
  simp only [zi,Nat.reduceAdd]
  subst hI
  simp only [nrmA,nrmB]
  have hb:=uF (s.getD i 0)
  have hk:=zdV hb
  have hd:i<s.length→_:=fun h=>zfi (base:=10) (n:=n) h
  have ht:i≤9:=by omega
  have ht:=zlY ht
  have ht2:top9 (i+1)=16 * top9 i+15:=rfl
  generalize s.getD i 0=x at *
  generalize hexK (x.toNat:Int)=k at *
  (repeat' (first|refine And.intro ?_ ?_|intro _))<;>first|omega|exact True.intro|exact False.elim ‹False›|skip
  all_goals first
    |omega
    |(rw [← h4,hd (by omega),if_pos (.inl (by omega))])
    |(rw [← h4,hd (by omega),if_pos (.inr (by omega))])
    |(refine hA (i+1,_) ⟨by simp only;omega,by simp only;omega,by simp only;omega,?_⟩ (by simp only;omega);rw [← h4,hd (by omega),if_neg (by omega)])
    |(rw [← h4,List.drop_of_length_le (by omega)];rfl)
def ZN (I:Alg) (args:List D) (hp:List HO):Option CT:=match args,hp with
  |[.v (.one (.p (.str s))),.v (.one (.p (.int .i64 10))),.v (.one (.p (.int .i64 9)))],[]=>(fun(s:Str)=>(some (.one ⟨I.hid (True),(.ret (.tup [(.one (.p (.int .i64 (I.hid ((numA s 10 9).1))))),(.one (.p (.bool (I.hid ((numA s 10 9).2)))))])),[]⟩):Option CT)) s
  |_,_=>none
theorem zaK:zx Tryz.prog 162 (ZN alg):=by
  intro args hp r h
  unfold ZN at h
  split at h
  · cases h;exact fun hn=>znB _
  · cases h
def ZM:Know Tryz.prog:=⟨162,ZN,zaK⟩
def ZL:Know Tryz.prog:=⟨162,fun I=>zy I (ZN I),zf zaK⟩
theorem znA (s:Str):Spc Tryz.prog 162 [.v (.one (.p (.str s))),.v (.one (.p (.int .i64 16))),.v (.one (.p (.int .i64 6)))] [] (.ret (.tup [(.one (.p (.int .i64 ((numA s 16 6).1)))),(.one (.p (.bool ((numA s 16 6).2))))])) []:=by
  generalize hr:numA s 16 6=r
  refine spcG zh mixed Tryz.func162 (by kernel_rfl) { keep:=some [0,1,2,6,7,8,9,10,20,21]} [zcy,zcx,ZM,ZL] (by kernel_rfl) ?_
  intro I X hI hX
  refine orcL ?_;go_invoke;refine orcS (by kernel_rfl) ?_
  simp only [zi,Nat.reduceAdd]
  have hne:s≠[]→¬ (6:Int)<s.length→numG 16 0 s=r:=fun h1 h2=>by rw [← hr,numA,if_neg (fun h=>by rcases h with h|h;exact h1 h;exact h2 h)]
  have hyes:(s=[]∨(6:Int)<s.length)→r=(0,false):=fun h=>by rw [← hr,numA,if_pos h]
  refine⟨fun c1=> ?_,fun c1=>⟨fun c2=> ?_,fun c2=> ?_⟩⟩
  · subst hI
    simp only [nrmA,nrmB] at c1
    rw [hyes (.inl c1)]
    simp
  · subst hI
    simp only [nrmA,nrmB] at c2
    rw [hyes (.inr c2)]
    simp
  have d1:s≠[]:=by
    subst hI
    simp only [nrmA,nrmB] at c1
    exact c1
  have d2:s.length≤6:=by
    subst hI
    simp only [nrmA,nrmB] at c2
    omega
  refine zC hI zh mixed [zcy,zcx,ZM,ZL] hX [0,1,2,8,20,21] (fun(g:Nat × Int)=>match g with|(i,n)=>i≤s.length∧0≤n∧n≤top9 i∧numG 16 n (s.drop i)=r) (fun(g:Nat × Int)=>match g with|(i,n)=>⟨[(0,.v (.one (.p (.str s)))),(1,.v (.one (.p (.int .i64 16)))),(2,.v (.one (.p (.int .i64 6)))),(8,.v (.one (.p (.int .i64 n)))),(20,.v (.one (.p (.int .i64 ((I.len (α:=UInt8) s)))))),(21,.v (.one (.p (.int .i64 i))))],[],42,none⟩) (fun(g:Nat × Int)=>match g with|(i,n)=>s.length - i) (0,0) (by kernel_rfl) (by kernel_rfl) ?_ ?_
  · exact⟨Nat.zero_le _,Int.le_refl _,Int.le_refl _,hne d1 (by omega)⟩
  rintro⟨i,n⟩ ⟨h1,h2,h3,h4⟩ A hA
  simp only at hA
  refine orcL ?_;go_invoke;refine orcS (by kernel_rfl) ?_
  simp only [zi,Nat.reduceAdd]
  subst hI
  simp only [nrmA,nrmB]
  have hb:=uF (s.getD i 0)
  have hk:=zdV hb
  have hd:i<s.length→_:=fun h=>zfi (base:=16) (n:=n) h
  have ht:i≤9:=by omega
  have ht:=zlY ht
  have ht2:top9 (i+1)=16 * top9 i+15:=rfl
  generalize s.getD i 0=x at *
  generalize hexK (x.toNat:Int)=k at *
  (repeat' (first|refine And.intro ?_ ?_|intro _))<;>first|omega|exact True.intro|exact False.elim ‹False›|skip
  all_goals first
    |omega
    |(rw [← h4,hd (by omega),if_pos (.inl (by omega))])
    |(rw [← h4,hd (by omega),if_pos (.inr (by omega))])
    |(refine hA (i+1,_) ⟨by simp only;omega,by simp only;omega,by simp only;omega,?_⟩ (by simp only;omega);rw [← h4,hd (by omega),if_neg (by omega)])
    |(rw [← h4,List.drop_of_length_le (by omega)];rfl)
def ZK (I:Alg) (args:List D) (hp:List HO):Option CT:=match args,hp with
  |[.v (.one (.p (.str s))),.v (.one (.p (.int .i64 16))),.v (.one (.p (.int .i64 6)))],[]=>(fun(s:Str)=>(some (.one ⟨I.hid (True),(.ret (.tup [(.one (.p (.int .i64 (I.hid ((numA s 16 6).1))))),(.one (.p (.bool (I.hid ((numA s 16 6).2)))))])),[]⟩):Option CT)) s
  |_,_=>none
theorem zaJ:zx Tryz.prog 162 (ZK alg):=by
  intro args hp r h
  unfold ZK at h
  split at h
  · cases h;exact fun hn=>znA _
  · cases h
def zaI:Know Tryz.prog:=⟨162,ZK,zaJ⟩
def zaH:Know Tryz.prog:=⟨162,fun I=>zy I (ZK I),zf zaJ⟩
theorem zhT (s:Str):Spc Tryz.prog 180 [.v (.one (.p (.str s)))] [] (.ret (.tup [(.one (.p (.int .i64 ((numA s 16 6).1)))),(.one (.p (.bool ((numA s 16 6).2))))])) []:=by
  refine spcG zh mixed Tryz.func180 (by kernel_rfl) { keep:=some [0,2,3]} [ZM,ZL,zaI,zaH] (by kernel_rfl) ?_
  intro I X hI hX
  refine orcL ?_;go_invoke;refine orcS (by kernel_rfl) ?_
  simp only [zi,Nat.reduceAdd]
  subst hI
  simp only [nrmA,nrmB]
  try trivial
def rE (I:Alg) (args:List D) (hp:List HO):Option CT:=match args,hp with
  |[.v (.one (.p (.str s)))],[]=>(fun(s:Str)=>(some (.one ⟨I.hid (True),(.ret (.tup [(.one (.p (.int .i64 (I.hid ((numA s 16 6).1))))),(.one (.p (.bool (I.hid ((numA s 16 6).2)))))])),[]⟩):Option CT)) s
  |_,_=>none
theorem UF:zx Tryz.prog 180 (rE alg):=by
  intro args hp r h
  unfold rE at h
  split at h
  · cases h;exact fun hn=>zhT _
  · cases h
def zek:Know Tryz.prog:=⟨180,rE,UF⟩
def zej:Know Tryz.prog:=⟨180,fun I=>zy I (rE I),zf UF⟩
end Go.Proofs.YtmkcejdibmilmaaGreatDoor
namespace Go.Proofs.YtmkcejdibmilmaaGreatDoor
open Go Go.Sep Go.Ab
set_option maxRecDepth 100000
theorem zrE (s:Str):Spc Tryz.prog 131 [.v (.one (.p (.str s)))] [] (.ret (.tup [(.one (.p (.int .i64 ((numA s 10 9).1)))),(.one (.p (.bool ((numA s 10 9).2))))])) []:=by
  refine spcG zh mixed Tryz.func131 (by kernel_rfl) { keep:=some [0,2,3]} [ZM,ZL,zaI,zaH] (by kernel_rfl) ?_
  intro I X hI hX
  refine orcL ?_;go_invoke;refine orcS (by kernel_rfl) ?_
  simp only [zi,Nat.reduceAdd]
  subst hI
  simp only [nrmA,nrmB]
  try trivial
def XL (I:Alg) (args:List D) (hp:List HO):Option CT:=match args,hp with
  |[.v (.one (.p (.str s)))],[]=>(fun(s:Str)=>(some (.one ⟨I.hid (True),(.ret (.tup [(.one (.p (.int .i64 (I.hid ((numA s 10 9).1))))),(.one (.p (.bool (I.hid ((numA s 10 9).2)))))])),[]⟩):Option CT)) s
  |_,_=>none
theorem zc5:zx Tryz.prog 131 (XL alg):=by
  intro args hp r h
  unfold XL at h
  split at h
  · cases h;exact fun hn=>zrE _
  · cases h
def rJ:Know Tryz.prog:=⟨131,XL,zc5⟩
def rH:Know Tryz.prog:=⟨131,fun I=>zy I (XL I),zf zc5⟩
theorem zfj: ∀ (s:Str) (n:Int),0≤n→(numG 10 n s).1+1≤(n+1) * 10 ^ s.length∧0≤(numG 10 n s).1
  |[],n,h=>by simp [numG];exact h
  | c ::l,n,h=>by
    have h16:(0:Int)<10 ^ l.length:=Int.pow_pos (by decide)
    have e:((n+1) * 10 ^ (c::l).length:Int)=((n+1) * 10) * 10 ^ l.length:=by rw [List.length_cons,Int.pow_succ,Int.mul_assoc,Int.mul_comm (10 ^ l.length) 10]
    rw [e,numG]
    split
    · have h1:(1:Int) * 1≤((n+1) * 10) * 10 ^ l.length:=Int.mul_le_mul (by omega) (by omega) (by decide) (by omega)
      exact⟨by simpa using h1,Int.le_refl _⟩
    · rename_i hc
      have h2:=zfj l (n * 10+hexK c.toNat) (by omega)
      exact⟨Int.le_trans h2.1 (Int.mul_le_mul_of_nonneg_right (by omega) (by omega)),h2.2⟩
theorem uK (x:Str):0≤(numA x 10 9).1∧(numA x 10 9).1<1000000000:=by
  unfold numA
  split
  · exact by decide
  · rename_i h
    have h1:=zfj x 0 (Int.le_refl _)
    have h2:x.length≤9:=by omega
    have h3:(10:Int) ^ x.length≤10 ^ 9:=by
      have:(10 ^ x.length:Nat)≤10 ^ 9:=Nat.pow_le_pow_right (by decide) h2
      exact_mod_cast this
    refine⟨h1.2,?_⟩
    have h4:(10:Int) ^ 9=1000000000:=by decide
    omega
end Go.Proofs.YtmkcejdibmilmaaGreatDoor
namespace Go.Proofs.YtmkcejdibmilmaaGreatDoor
open Go Go.Sep Go.Ab
set_option maxRecDepth 100000
theorem zwz (l:Str) (hneed:l.length≤100000000):Spc Tryz.prog 52 [.v (.one (.p (.list .byte l)))] [] (.ret (.v (.one (.row 0)))) [.row .byte 5 l]:=by
  refine spcG zh mixed Tryz.func52 (by kernel_rfl) { keep:=some [0,2]} [] (by kernel_rfl) ?_
  intro I X hI hX
  refine orcL ?_;go_invoke;refine orcS (by kernel_rfl) ?_
  simp only [zi,Nat.reduceAdd]
  subst hI
  dsimp only [alg]
  have h2:((([]:Str).length:Nat):Int)+((l.length:Nat):Int)≤140737488355328:=by simp;omega
  refine⟨fun h=>⟨⟨trivial,?_⟩,h2,trivial,rfl⟩,fun h=>⟨h2,trivial,rfl⟩⟩
  have:l=[]:=List.eq_nil_of_length_eq_zero (by have:=eq_of_beq h;omega)
  subst this;rfl
def Q5 (I:Alg) (args:List D) (hp:List HO):Option CT:=match args,hp with
  |[.v (.one (.p (.list .byte l)))],[]=>(fun(l:Str)=>(some (.one ⟨I.hid (l.length≤100000000),(.ret (.v (.one (.row 0)))),[.row .byte 5 l]⟩):Option CT)) l
  |_,_=>none
theorem zkh:zx Tryz.prog 52 (Q5 alg):=by
  intro args hp r h
  unfold Q5 at h
  split at h
  · cases h;exact fun hn=>zwz _ hn
  · cases h
def QZ:Know Tryz.prog:=⟨52,Q5,zkh⟩
def Uu:Know Tryz.prog:=⟨52,fun I=>zy I (Q5 I),zf zkh⟩
theorem zkJ (x y:Str):Spc Tryz.prog 11 [.v (.one (.p (.list .byte x))),.v (.one (.p (.list .byte y)))] [] (.ret (.v (.one (.p (.bool (x == y)))))) []:=by
  refine spcG zh mixed Tryz.func11 (by kernel_rfl) { keep:=some [0,1,4]} [] (by kernel_rfl) ?_
  intro I X hI hX
  refine orcL ?_;go_invoke;refine orcS (by kernel_rfl) ?_
  simp only [zi,Nat.reduceAdd]
  subst hI
  exact⟨rfl,trivial⟩
def qE (I:Alg) (args:List D) (hp:List HO):Option CT:=match args,hp with
  |[.v (.one (.p (.list .byte x))),.v (.one (.p (.list .byte y)))],[]=>(fun(x y:Str)=>(some (.one ⟨I.hid (True),(.ret (.v (.one (.p (.bool (I.hid (x == y))))))),[]⟩):Option CT)) x y
  |_,_=>none
theorem Si:zx Tryz.prog 11 (qE alg):=by
  intro args hp r h
  unfold qE at h
  split at h
  · cases h;exact fun hn=>zkJ _ _
  · cases h
def xB:Know Tryz.prog:=⟨11,qE,Si⟩
def xA:Know Tryz.prog:=⟨11,fun I=>zy I (qE I),zf Si⟩
end Go.Proofs.YtmkcejdibmilmaaGreatDoor
namespace Go.Proofs.YtmkcejdibmilmaaGreatDoor
open Go Go.Sep Go.Ab
def upl0:Upl:=⟨0,0,[],[],0⟩
def atU (l:List Upl) (id:Int):Nat:=l.findIdx fun u=>u.id == id
def xh (l:List Upl) (id:Int):Upl:=l.getD (atU l id) upl0
def xO:List Upl→Int
  |[]=>0
  |u::l=>u.bytes.length+xO l
def creC (l:List Upl) (size:Int) (m:Str):Int:=
  if size< -1 then 1 else if 2000<size∨100<m.length then 4 else if WM m=false∨¬ Lib.trimS m [32,9]=m then 3 else if l.length=12 then 8 else 0
def creL (l:List Upl) (n size:Int) (m:Str):List Upl:=if creC l size m=0 then l++[⟨n+1,size,m,[],0⟩] else l
def creN (l:List Upl) (n size:Int) (m:Str):Int:=if creC l size m=0 then n+1 else n
def creI (l:List Upl) (n size:Int) (m:Str):Int:=if creC l size m=0 then n+1 else 0
def appC (l:List Upl) (id off:Int) (b:Str):Int:=
  if l.length≤atU l id then 10
  else if ¬ (xh l id).sent=0 then 19
  else if ¬ off=(xh l id).bytes.length then 17
  else if 2000<(xh l id).bytes.length+b.length∨0≤(xh l id).size∧(xh l id).size<(xh l id).bytes.length+b.length then 4
  else if 6000<xO l+b.length then 16 else 0
def appL (l:List Upl) (id off:Int) (b:Str):List Upl:=if appC l id off b=0 then l.set (atU l id) { xh l id with bytes:=(xh l id).bytes++b} else l
def decC (l:List Upl) (id size:Int):Int:=
  if l.length≤atU l id then 10
  else if 0≤(xh l id).size then 18
  else if size<0 then 1
  else if 2000<size∨size<(xh l id).bytes.length then 4 else 0
def decL (l:List Upl) (id size:Int):List Upl:=if decC l id size=0 then l.set (atU l id) { xh l id with size:=size} else l
def droC (l:List Upl) (id:Int):Int:=if l.length≤atU l id then 10 else 0
def droL (l:List Upl) (id:Int):List Upl:=l.eraseIdx (atU l id)
def begC (l:List Upl) (id:Int):Int:=
  if l.length≤atU l id then 10
  else if ¬ (xh l id).sent=0 then 19
  else if ¬ (xh l id).size=(xh l id).bytes.length then 14 else 0
def begL (l:List Upl) (id:Int):List Upl:=if begC l id=0 then l.set (atU l id) { xh l id with sent:=1} else l
def endC (l:List Upl) (id:Int):Int:=
  if l.length≤atU l id then 10
  else if ¬ (xh l id).sent=1 then 19 else 0
def endL (l:List Upl) (id:Int):List Upl:=if endC l id=0 then l.set (atU l id) { xh l id with sent:=2} else l
structure zwL (u:Upl):Prop where
  bl:u.bytes.length≤2000
  s1: -1≤u.size
  s2:u.size≤2000
  nl:u.note.length≤100
  bs:0≤u.size→(u.bytes.length:Int)≤u.size
  t0:0≤u.sent
  t2:u.sent≤2
  wh:u.sent≠0→u.size=u.bytes.length
structure zF (l:List Upl) (n:Int):Prop where
  n0:0≤n
  cnt:l.length≤12
  srt:l.Pairwise fun a b=>a.id<b.id
  ids: ∀ u ∈ l,1≤u.id∧u.id≤n
  each: ∀ u ∈ l,zwL u
  tot:xO l≤6000
theorem zsL:zF [] 0:=⟨by decide,by decide,List.Pairwise.nil,fun _ h=>by simp at h,fun _ h=>by simp at h,by decide⟩
theorem zpb (l:List Upl) (id:Int):atU l id≤l.length:=List.findIdx_le_length
theorem vw {l:List Upl} {id:Int} (h:atU l id<l.length):xh l id=l[atU l id]:=by unfold xh;simp [h]
theorem rM {l:List Upl} {id:Int} (h:atU l id<l.length):xh l id ∈ l:=by rw [vw h];exact List.getElem_mem h
theorem zdb {l:List Upl} {id:Int} (h:atU l id<l.length):(xh l id).id=id:=by
  rw [vw h]
  have h2:(l[atU l id].id == id)=true:=List.findIdx_getElem (p:=fun u:Upl=>u.id == id) (w:=h)
  simpa using h2
theorem zlQ (a b:List Upl):xO (a++b)=xO a+xO b:=by
  induction a with
  |nil=>simp [xO]
  |cons u a ih=>simp only [List.cons_append,xO,ih];omega
theorem Yk: ∀ l:List Upl,0≤xO l
  |[]=>by decide
  |u::l=>by have:=Yk l;simp only [xO];omega
theorem zeA: ∀ {l:List Upl} {i:Nat} {u:Upl} (h:i<l.length),xO (l.set i u)=xO l - l[i].bytes.length+u.bytes.length
  |v::l,0,u,h=>by simp only [List.set_cons_zero,xO,List.getElem_cons_zero];omega
  | v::l,i+1,u,h=>by
    have:=zeA (l:=l) (i:=i) (u:=u) (by simpa using h)
    simp only [List.set_cons_succ,xO,List.getElem_cons_succ,this];omega
theorem zai: ∀ (l:List Upl) (i:Nat),xO (l.eraseIdx i)≤xO l
  |[],_=>by simp [xO]
  |v::l,0=>by simp only [List.eraseIdx_cons_zero,xO];omega
  |v::l,i+1=>by have:=zai l i;simp only [List.eraseIdx_cons_succ,xO];omega
theorem zdl {l:List Upl} {n:Int} (h:zF l n) {i:Nat} (hi:i<l.length) {u:Upl} (hid:u.id=l[i].id) (hu:zwL u) (ht:xO l - l[i].bytes.length+u.bytes.length≤6000):zF (l.set i u) n:=by
  refine⟨h.n0,by rw [List.length_set];exact h.cnt,?_,fun v hv=> ?_,fun v hv=> ?_,by rw [zeA hi];exact ht⟩
  · have h1:=List.pairwise_map (f:=fun u:Upl=>u.id) (R:=(· < ·)) (l:=l)
    have h2:=List.pairwise_map (f:=fun u:Upl=>u.id) (R:=(· < ·)) (l:=l.set i u)
    rw [List.map_set,hid] at h2
    have e:(l.map fun u:Upl=>u.id).set i l[i].id=l.map fun u:Upl=>u.id:=by
      have:=List.set_getElem_self (show i<(l.map fun u:Upl=>u.id).length by simpa using hi)
      simpa using this
    rw [e] at h2
    exact h2.1 (h1.2 h.srt)
  · rcases List.mem_or_eq_of_mem_set hv with hv|rfl
    · exact h.ids v hv
    · rw [hid];exact h.ids _ (List.getElem_mem hi)
  · rcases List.mem_or_eq_of_mem_set hv with hv|rfl
    · exact h.each v hv
    · exact hu
theorem zwv {l:List Upl} {n:Int} (h:zF l n) (size:Int) (m:Str):zF (creL l n size m) (creN l n size m):=by
  unfold creL creN
  split
  · rename_i hc
    unfold creC at hc
    split at hc
    · cases hc
    split at hc
    · cases hc
    split at hc
    · cases hc
    split at hc
    · cases hc
    have hcnt:=h.cnt
    have hn:=h.n0
    refine⟨by omega,by simp;omega,?_,fun u hu=> ?_,fun u hu=> ?_,?_⟩
    · rw [List.pairwise_append]
      refine⟨h.srt,by simp,fun a ha b hb=> ?_⟩
      simp only [List.mem_singleton] at hb
      subst hb
      have:=(h.ids a ha).2
      show a.id<n+1
      omega
    · rcases List.mem_append.1 hu with hu|hu
      · have:=h.ids u hu;omega
      · simp only [List.mem_singleton] at hu;subst hu;exact⟨by show 1≤n+1;omega,by show n+1≤n+1;omega⟩
    · rcases List.mem_append.1 hu with hu|hu
      · exact h.each u hu
      · simp only [List.mem_singleton] at hu;subst hu
        exact⟨by simp,by simp only;omega,by simp only;omega,by simp only;omega,fun _=>by simpa,by simp,by simp,fun h=>absurd rfl h⟩
    · rw [zlQ];have:=h.tot;simp [xO];omega
  · exact h
theorem zwJ {l:List Upl} {n:Int} (h:zF l n) (id off:Int) (b:Str):zF (appL l id off b) n:=by
  unfold appL
  split
  · rename_i hc
    unfold appC at hc
    split at hc
    · cases hc
    rename_i h1
    have hi:atU l id<l.length:=by omega
    have hu:=h.each _ (rM hi)
    split at hc
    · cases hc
    split at hc
    · cases hc
    split at hc
    · cases hc
    split at hc
    · cases hc
    rename_i h2 h3 h4 h5
    refine zdl h hi (by show(xh l id).id=_;rw [vw hi]) ?_ ?_
    · refine⟨?_,hu.s1,hu.s2,hu.nl,?_,hu.t0,hu.t2,fun hs=>absurd (by simpa using h2) hs⟩
      · show((xh l id).bytes++b).length≤2000;rw [List.length_append];omega
      · intro hs;show((((xh l id).bytes++b).length:Nat):Int)≤(xh l id).size;rw [List.length_append]
        have hs:0≤(xh l id).size:=hs
        omega
    · show xO l - _+((((xh l id).bytes++b).length:Nat):Int)≤6000
      rw [List.length_append,← vw hi];omega
  · exact h
theorem zwt {l:List Upl} {n:Int} (h:zF l n) (id size:Int):zF (decL l id size) n:=by
  unfold decL
  split
  · rename_i hc
    unfold decC at hc
    split at hc
    · cases hc
    rename_i h1
    have hi:atU l id<l.length:=by omega
    have hu:=h.each _ (rM hi)
    split at hc
    · cases hc
    split at hc
    · cases hc
    split at hc
    · cases hc
    rename_i h2 h3 h4
    refine zdl h hi (by show(xh l id).id=_;rw [vw hi]) ?_ ?_
    · refine⟨hu.bl,by show -1≤size;omega,by show size≤2000;omega,hu.nl,fun _=>by show(((xh l id).bytes.length:Nat):Int)≤size;omega,hu.t0,hu.t2,fun hs=> ?_⟩
      have:=hu.wh hs
      omega
    · show xO l - _+(((xh l id).bytes.length:Nat):Int)≤6000
      rw [← vw hi];have:=h.tot;omega
  · exact h
theorem zwp {l:List Upl} {n:Int} (h:zF l n) (id:Int):zF (droL l id) n:=by
  unfold droL
  have hs:=List.eraseIdx_sublist l (atU l id)
  refine⟨h.n0,Nat.le_trans hs.length_le h.cnt,h.srt.sublist hs,fun u hu=>h.ids u (hs.subset hu),fun u hu=>h.each u (hs.subset hu),Int.le_trans (zai _ _) h.tot⟩
theorem zwG {l:List Upl} {n:Int} (h:zF l n) (id:Int):zF (begL l id) n:=by
  unfold begL
  split
  · rename_i hc
    unfold begC at hc
    split at hc
    · cases hc
    rename_i h1
    have hi:atU l id<l.length:=by omega
    have hu:=h.each _ (rM hi)
    split at hc
    · cases hc
    split at hc
    · cases hc
    rename_i h2 h3
    refine zdl h hi (by show(xh l id).id=_;rw [vw hi]) ⟨hu.bl,hu.s1,hu.s2,hu.nl,hu.bs,by show(0:Int)≤1;decide,by show(1:Int)≤2;decide,fun _=>by simpa using h3⟩ ?_
    show xO l - _+(((xh l id).bytes.length:Nat):Int)≤6000
    rw [← vw hi];have:=h.tot;omega
  · exact h
theorem zwn {l:List Upl} {n:Int} (h:zF l n) (id:Int):zF (endL l id) n:=by
  unfold endL
  split
  · rename_i hc
    unfold endC at hc
    split at hc
    · cases hc
    rename_i h1
    have hi:atU l id<l.length:=by omega
    have hu:=h.each _ (rM hi)
    split at hc
    · cases hc
    rename_i h2
    refine zdl h hi (by show(xh l id).id=_;rw [vw hi]) ⟨hu.bl,hu.s1,hu.s2,hu.nl,hu.bs,by show(0:Int)≤2;decide,by show(2:Int)≤2;decide,fun _=>hu.wh (by simp only [Decidable.not_not] at h2;omega)⟩ ?_
    show xO l - _+(((xh l id).bytes.length:Nat):Int)≤6000
    rw [← vw hi];have:=h.tot;omega
  · exact h
theorem zxx {l:List Upl} (h:l.Pairwise fun a b=>a.id<b.id) {i:Nat} (hi:i<l.length):atU l l[i].id=i:=by
  unfold atU
  rw [List.findIdx_eq hi]
  refine⟨by simp,fun j hj=> ?_⟩
  have:=List.pairwise_iff_getElem.1 h j i (by omega) hi hj
  simp only [beq_eq_false_iff_ne,ne_eq]
  omega
theorem zoo {l:List Upl} (h:l.Pairwise fun a b=>a.id<b.id) (id:Int):(l.filter fun u=> !(u.id == id))=droL l id:=by
  induction l with
  |nil=>simp [droL]
  | cons u l ih=>
    have h:=List.pairwise_cons.1 h
    unfold droL atU at *
    rw [List.filter_cons,List.findIdx_cons]
    by_cases hu:u.id=id
    · have e:(u.id == id)=true:=by simpa using hu
      rw [e]
      simp only [Bool.not_true,Bool.false_eq_true,if_false,cond_true,List.eraseIdx_cons_zero]
      refine List.filter_eq_self.2 fun v hv=> ?_
      have:=h.1 v hv
      simp;omega
    · have e:(u.id == id)=false:=by simpa using hu
      rw [e]
      simp only [Bool.not_false,if_true,cond_false,List.eraseIdx_cons_succ,ih h.2]
end Go.Proofs.YtmkcejdibmilmaaGreatDoor
namespace Go.Proofs.YtmkcejdibmilmaaGreatDoor
open Go Go.Sep Go.Ab
set_option maxRecDepth 100000
theorem zvc (a b:Int) (m y:Str) (t d:Int):Spc Tryz.prog 91 [.v (.agg [(.p (.int .i64 a)),(.p (.int .i64 b)),(.p (.str m)),(.p (.list .byte y)),(.p (.int .i64 t))]),.v (.one (.ptr 0 0))] [.pack [.obj 3 [(.p (.int .i64 d))]]] (.ret (.v (.one (.p (.bool ((a == d))))))) [.pack [.obj 3 [(.p (.int .i64 d))]]]:=by
  refine spcG zh mixed Tryz.func91 (by kernel_rfl) { keep:=some [0,1,2,3]} [] (by kernel_rfl) ?_
  intro I X hI hX
  refine orcL ?_;go_invoke;refine orcS (by kernel_rfl) ?_
  simp only [zi,Nat.reduceAdd]
  subst hI
  simp only [nrmA,nrmB,nrlB,reduceCtorEq,HO.pack.injEq,HO.obj.injEq]
def RU (I:Alg) (args:List D) (hp:List HO):Option CT:=match args,hp with
  |[.v (.agg [(.p (.int .i64 a)),(.p (.int .i64 b)),(.p (.str m)),(.p (.list .byte y)),(.p (.int .i64 t))]),.v (.one (.ptr 0 0))],[.pack [.obj 3 [(.p (.int .i64 d))]]]=>(fun(a b:Int) (m y:Str) (t d:Int)=>(some (.one ⟨I.hid (True),(.ret (.v (.one (.p (.bool (I.hid ((a == d)))))))),[.pack [.obj 3 [(.p (.int .i64 d))]]]⟩):Option CT)) a b m y t d
  |_,_=>none
theorem ziE:zx Tryz.prog 91 (RU alg):=by
  intro args hp r h
  unfold RU at h
  split at h
  · cases h;exact fun hn=>zvc _ _ _ _ _ _
  · cases h
def RS:Know Tryz.prog:=⟨91,RU,ziE⟩
def ziD:Know Tryz.prog:=⟨91,fun I=>zy I (RU I),zf ziE⟩
def ixU (l:List Upl) (id:Int):Int:=if atU l id<l.length then(atU l id:Int) else -1
theorem zkt {l:List Upl} {id:Int} {i:Nat} (h:i<l.length) (hp:i≤atU l id):(if(l.getD i upl0).id=id then atU l id=i else i+1≤atU l id):=by
  rw [show l.getD i upl0=l[i] by simp [h]]
  split
  · rename_i he
    rcases Nat.lt_or_ge i (atU l id) with h1|h1
    · have:=List.not_of_lt_findIdx (p:=fun u:Upl=>u.id == id) (xs:=l) (i:=i) h1
      simp [he] at this
    · omega
  · rename_i he
    rcases Nat.lt_or_ge i (atU l id) with h1|h1
    · omega
    · have e:atU l id=i:=by omega
      have h2:=zdb (l:=l) (id:=id) (by omega)
      rw [vw (by omega)] at h2
      simp only [e] at h2
      exact absurd h2 he
theorem zwX (l:List Upl) (d:Int) (hneed:l.length≤1000000):Spc Tryz.prog 90 [.v (.one (.p (.list .upl l))),.v (.one (.fn 91 [.ptr 0 0]))] [.pack [.obj 3 [(.p (.int .i64 d))]]] (.ret (.v (.one (.p (.int .i64 ((ixU l d))))))) [.pack [.obj 3 [(.p (.int .i64 d))]]]:=by
  refine spcG zh mixed Tryz.func90 (by kernel_rfl) { keep:=some [0,1,4,5,7,8]} [RS] (by kernel_rfl) ?_
  intro I X hI hX
  refine orcL ?_;go_invoke;refine orcS (by kernel_rfl) ?_
  simp only [zi,Nat.reduceAdd]
  refine zC hI zh mixed [RS] hX [0,1,7,8] (fun(i:Nat)=>i≤l.length∧i≤atU l d) (fun(i:Nat)=>⟨[(0,.v (.one (.p (.list .upl l)))),(1,.v (.one (.fn 91 [.ptr 0 0]))),(7,.v (.one (.p (.int .i64 ((I.len (α:=Upl) l)))))),(8,.v (.one (.p (.int .i64 i))))],[.pack [.obj 3 [(.p (.int .i64 d))]]],19,none⟩) (fun(i:Nat)=>l.length - i) 0 (by kernel_rfl) (by kernel_rfl) ?_ ?_
  · exact⟨Nat.zero_le _,Nat.zero_le _⟩
  rintro i ⟨h1,h2⟩ A hA
  refine orcL ?_;go_invoke;refine orcS (by kernel_rfl) ?_
  simp only [zi,Nat.reduceAdd]
  subst hI
  simp only [nrmA,nrmB]
  have hx:=fun h=>zkt (l:=l) (id:=d) (i:=i) h h2
  have hle:=zpb l d
  have e0:(⟨0,0,[],[],0⟩:Upl)=upl0:=rfl
  simp only [e0]
  unfold ixU
  (repeat' (first|refine And.intro ?_ ?_|intro _))<;>first|omega|exact True.intro|exact False.elim ‹False›|skip
  all_goals first
    |(have h3:=hx (by omega);rw [if_pos (by assumption)] at h3;rw [if_pos (by omega),h3])
    |(have h3:=hx (by omega);rw [if_neg (by assumption)] at h3;exact hA (i+1) ⟨by omega,h3⟩ (by omega))
    |(rw [if_neg (by omega)])
def zdm (I:Alg) (args:List D) (hp:List HO):Option CT:=match args,hp with
  |[.v (.one (.p (.list .upl l))),.v (.one (.fn 91 [.ptr 0 0]))],[.pack [.obj 3 [(.p (.int .i64 d))]]]=>(fun(l:List Upl) (d:Int)=>(some (.one ⟨I.hid (l.length≤1000000),(.ret (.v (.one (.p (.int .i64 (I.hid ((ixU l d)))))))),[.pack [.obj 3 [(.p (.int .i64 d))]]]⟩):Option CT)) l d
  |_,_=>none
theorem zmi:zx Tryz.prog 90 (zdm alg):=by
  intro args hp r h
  unfold zdm at h
  split at h
  · cases h;exact fun hn=>zwX _ _ hn
  · cases h
def UR:Know Tryz.prog:=⟨90,zdm,zmi⟩
def UQ:Know Tryz.prog:=⟨90,fun I=>zy I (zdm I),zf zmi⟩
def zbs:Cfg:= { sl:=[⟨88,0,.upl,some 86⟩,⟨68,0,.upl,some 86⟩]}
theorem znR {l:List Upl} {id:Int} (h:atU l id<l.length):ixU l id=(atU l id:Int):=by unfold ixU;rw [if_pos h]
theorem znS {l:List Upl} {id:Int} (h: ¬ atU l id<l.length):ixU l id= -1:=by unfold ixU;rw [if_neg h]
theorem zw3 (l:List Upl) (n id:Int) (hneed:l.length≤1000000∧atU l id<l.length):Spc Tryz.prog 51 [.v (.one (.ptr 0 0)),.v (.one (.p (.int .i64 id)))] [.obj 88 [(.row 1),(.p (.int .i64 n))],.row .upl 86 l] (.ret (.tup [(.one (.ept .upl 1 ((atU l id:Int)) 0)),(.one (.p (.int .i64 0)))])) [.obj 88 [(.row 1),(.p (.int .i64 n))],.row .upl 86 l]:=by
  obtain⟨h1,h2⟩:=hneed
  refine spcG zh mixed Tryz.func51 (by kernel_rfl) { flat:=true,keep:=some [0,1,3,4,5,6]} [RS,ziD,UR,UQ] (by kernel_rfl) ?_
  intro I X hI hX
  refine orcL ?_;go_invoke;refine orcS (by kernel_rfl) ?_
  simp only [zi,Nat.reduceAdd]
  subst hI
  simp only [nrmA,nrmB,znR h2]
  (repeat' (first|refine And.intro ?_ ?_|intro _))<;>first|omega|exact True.intro|exact False.elim ‹False›|skip
theorem zw2 (l:List Upl) (n id:Int) (hneed:l.length≤1000000∧¬ atU l id<l.length):Spc Tryz.prog 51 [.v (.one (.ptr 0 0)),.v (.one (.p (.int .i64 id)))] [.obj 88 [(.row 1),(.p (.int .i64 n))],.row .upl 86 l] (.ret (.tup [(.one (.p (.val (.pointer none)))),(.one (.p (.int .i64 10)))])) [.obj 88 [(.row 1),(.p (.int .i64 n))],.row .upl 86 l]:=by
  obtain⟨h1,h2⟩:=hneed
  refine spcG zh mixed Tryz.func51 (by kernel_rfl) { flat:=true,keep:=some [0,1,3,4,5,6]} [RS,ziD,UR,UQ] (by kernel_rfl) ?_
  intro I X hI hX
  refine orcL ?_;go_invoke;refine orcS (by kernel_rfl) ?_
  simp only [zi,Nat.reduceAdd]
  subst hI
  simp only [nrmA,nrmB,znS h2]
  (repeat' (first|refine And.intro ?_ ?_|intro _))<;>first|omega|exact True.intro|exact False.elim ‹False›|skip
def ziT (I:Alg) (args:List D) (hp:List HO):Option CT:=match args,hp with
  |[.v (.one (.ptr 0 0)),.v (.one (.p (.int .i64 id)))],[.obj 88 [(.row 1),(.p (.int .i64 n))],.row .upl 86 l]=>(fun(l:List Upl) (n id:Int)=>(some (.br (I.hid (decide (atU l id<l.length))) (.one ⟨I.hid (l.length≤1000000∧atU l id<l.length),(.ret (.tup [(.one (.ept .upl 1 (I.hid ((atU l id:Int))) 0)),(.one (.p (.int .i64 0)))])),[.obj 88 [(.row 1),(.p (.int .i64 n))],.row .upl 86 l]⟩) (.one ⟨I.hid (l.length≤1000000∧¬ atU l id<l.length),(.ret (.tup [(.one (.p (.val (.pointer none)))),(.one (.p (.int .i64 10)))])),[.obj 88 [(.row 1),(.p (.int .i64 n))],.row .upl 86 l]⟩)):Option CT)) l n id
  |_,_=>none
theorem zrO:zx Tryz.prog 51 (ziT alg):=by
  intro args hp r h
  unfold ziT at h
  split at h
  · cases h;exact⟨fun _ hn=>zw3 _ _ _ hn,fun _ hn=>zw2 _ _ _ hn⟩
  · cases h
def zb4:Know Tryz.prog:=⟨51,ziT,zrO⟩
def zb3:Know Tryz.prog:=⟨51,fun I=>zy I (ziT I),zf zrO⟩
theorem zmv (l:List Upl) (n:Int) (hneed:xO l≤1000000∧l.length≤1000000):Spc Tryz.prog 232 [.v (.one (.ptr 0 0))] [.obj 88 [(.row 1),(.p (.int .i64 n))],.row .upl 86 l] (.ret (.v (.one (.p (.int .i64 ((xO l))))))) [.obj 88 [(.row 1),(.p (.int .i64 n))],.row .upl 86 l]:=by
  obtain⟨hu,hl⟩:=hneed
  refine spcG zh mixed Tryz.func232 (by kernel_rfl) { flat:=true,keep:=some [0,2,3,5,9,10,11]} [] (by kernel_rfl) ?_
  intro I X hI hX
  refine orcL ?_;go_invoke;refine orcS (by kernel_rfl) ?_
  simp only [zi,Nat.reduceAdd]
  refine zC hI zh mixed [] hX [0,3,9,10,11] (fun(g:Nat × Int)=>match g with|(i,a)=>i≤l.length∧0≤a∧a+xO (l.drop i)=xO l) (fun(g:Nat × Int)=>match g with|(i,a)=>⟨[(0,.v (.one (.ptr 0 0))),(3,.v (.one (.p (.int .i64 a)))),(9,.v (.one (.row 1))),(10,.v (.one (.p (.int .i64 ((I.len (α:=Upl) l)))))),(11,.v (.one (.p (.int .i64 i))))],[.obj 88 [(.row 1),(.p (.int .i64 n))],.row .upl 86 l],22,none⟩) (fun(g:Nat × Int)=>match g with|(i,a)=>l.length - i) (0,0) (by kernel_rfl) (by kernel_rfl) ?_ ?_
  · exact⟨Nat.zero_le _,Int.le_refl _,by simp⟩
  rintro⟨i,a⟩ ⟨h1,h2,h3⟩ A hA
  simp only at hA
  refine orcL ?_;go_invoke;refine orcS (by kernel_rfl) ?_
  simp only [zi,Nat.reduceAdd]
  subst hI
  simp only [nrmA,nrmB]
  have hd:i<l.length→xO (l.drop i)=(l.getD i ⟨0,0,[],[],0⟩).bytes.length+xO (l.drop (i+1)):=fun h=>by
    rw [List.drop_eq_getElem_cons h];simp [xO,h]
  have hn:=Yk (l.drop (i+1))
  have hn0: ¬ i<l.length→xO (l.drop i)=0:=fun h=>by rw [List.drop_of_length_le (by omega)];rfl
  generalize l.getD i ⟨0,0,[],[],0⟩=x at *
  (repeat' (first|refine And.intro ?_ ?_|intro _))<;>first|omega|exact True.intro|exact False.elim ‹False›|skip
  all_goals first
    |(have:=hd (by omega);omega)
    |(have:=hd (by omega);refine hA (i+1,_) ⟨by simp only;omega,by simp only;omega,by simp only;omega⟩ (by simp only;omega))
    |(have:=hn0 (by omega);simp only [show a=xO l by omega])
def WQ (I:Alg) (args:List D) (hp:List HO):Option CT:=match args,hp with
  |[.v (.one (.ptr 0 0))],[.obj 88 [(.row 1),(.p (.int .i64 n))],.row .upl 86 l]=>(fun(l:List Upl) (n:Int)=>(some (.one ⟨I.hid (xO l≤1000000∧l.length≤1000000),(.ret (.v (.one (.p (.int .i64 (I.hid ((xO l)))))))),[.obj 88 [(.row 1),(.p (.int .i64 n))],.row .upl 86 l]⟩):Option CT)) l n
  |_,_=>none
theorem zeS:zx Tryz.prog 232 (WQ alg):=by
  intro args hp r h
  unfold WQ at h
  split at h
  · cases h;exact fun hn=>zmv _ _ hn
  · cases h
def zmu:Know Tryz.prog:=⟨232,WQ,zeS⟩
def zmt:Know Tryz.prog:=⟨232,fun I=>zy I (WQ I),zf zeS⟩
theorem zvg (l:List Upl) (n:Int) (hneed:xO l≤1000000∧l.length≤1000000):Spc Tryz.prog 232 [.v (.one (.ptr 0 0))] [.pack [.obj 88 [(.row 1),(.p (.int .i64 n))],.row .upl 86 l]] (.ret (.v (.one (.p (.int .i64 ((xO l))))))) [.pack [.obj 88 [(.row 1),(.p (.int .i64 n))],.row .upl 86 l]]:=
  Spc.packed (ex:=[]) (zmv l n hneed) rfl (by simp) rfl
def Qb (I:Alg) (args:List D) (hp:List HO):Option CT:=match args,hp with
  |[.v (.one (.ptr 0 0))],[.pack [.obj 88 [(.row 1),(.p (.int .i64 n))],.row .upl 86 l]]=>(fun(l:List Upl) (n:Int)=>(some (.one ⟨I.hid (xO l≤1000000∧l.length≤1000000),(.ret (.v (.one (.p (.int .i64 (I.hid ((xO l)))))))),[.pack [.obj 88 [(.row 1),(.p (.int .i64 n))],.row .upl 86 l]]⟩):Option CT)) l n
  |_,_=>none
theorem ziN:zx Tryz.prog 232 (Qb alg):=by
  intro args hp r h
  unfold Qb at h
  split at h
  · cases h;exact fun hn=>zvg _ _ hn
  · cases h
def zpZ:Know Tryz.prog:=⟨232,Qb,ziN⟩
def zpY:Know Tryz.prog:=⟨232,fun I=>zy I (Qb I),zf ziN⟩
theorem zxi (n:Int) (hneed:0≤n∧n≤1000000):Spc Tryz.prog 257 [.v (.one .nilS),.v (.one (.p (.int .i64 n)))] [] (.ret (.v (.one (.row 0)))) [.row .byte 5 ([])]:=by
  refine spcG zh mixed Tryz.func257 (by kernel_rfl) { cut:=[0],keep:=some [0,1,4]} [] (by kernel_rfl) ?_
  intro I X hI hX
  refine orcL ?_;go_invoke;refine orcS (by kernel_rfl) ?_
  simp only [zi,Nat.reduceAdd]
  subst hI
  simp only [nrmA,nrmB,nrlB,reduceCtorEq]
  simp only [List.length_replicate,List.take_zero]
  (repeat' (first|refine And.intro ?_ ?_|intro _))<;>first|omega|exact True.intro|exact False.elim ‹False›|skip
  all_goals trivial
def zdW (I:Alg) (args:List D) (hp:List HO):Option CT:=match args,hp with
  |[.v (.one .nilS),.v (.one (.p (.int .i64 n)))],[]=>(fun(n:Int)=>(some (.one ⟨I.hid (0≤n∧n≤1000000),(.ret (.v (.one (.row 0)))),[.row .byte 5 (I.hid ([]))]⟩):Option CT)) n
  |_,_=>none
theorem zn0:zx Tryz.prog 257 (zdW alg):=by
  intro args hp r h
  unfold zdW at h
  split at h
  · cases h;exact fun hn=>zxi _ hn
  · cases h
def zhw:Know Tryz.prog:=⟨257,zdW,zn0⟩
def zhv:Know Tryz.prog:=⟨257,fun I=>zy I (zdW I),zf zn0⟩
theorem zgp {ls:List Str} {i:Nat} (h:i<ls.length):(ls.take (i+1)).flatten=(ls.take i).flatten++ls.getD i []:=by
  rw [List.take_succ_eq_append_getElem h,List.flatten_append];simp [h]
theorem zd2 (ls:List Str) (i:Nat):(ls.take i).flatten.length≤ls.flatten.length:=by
  have:=congrArg (fun l:List Str=>l.flatten.length) (List.take_append_drop i ls)
  simp only [List.flatten_append,List.length_append] at this
  omega
theorem zuv (ls:List Str) (hneed:ls.flatten.length≤1000000∧ls.length≤1000):Spc Tryz.prog 233 [.v (.one (.p (.list .bytes ls)))] [] (.ret (.v (.one (.row 0)))) [.row .byte 5 ls.flatten]:=by
  obtain⟨hl,hk⟩:=hneed
  refine spcG zh mixed Tryz.func233 (by kernel_rfl) { nils:=[257],keep:=some [0,2,3,5,6,8,9,10,11,25,26,27]} [zhw,zhv] (by kernel_rfl) ?_
  intro I X hI hX
  refine orcL ?_;go_invoke;refine orcS (by kernel_rfl) ?_
  simp only [zi,Nat.reduceAdd]
  refine zC hI zh mixed [zhw,zhv] hX [0,3,9,10,11] (fun(g:Nat × Int)=>match g with|(i,a)=>i≤ls.length∧a=(ls.take i).flatten.length) (fun(g:Nat × Int)=>match g with|(i,a)=>⟨[(0,.v (.one (.p (.list .bytes ls)))),(3,.v (.one (.p (.int .i64 a)))),(9,.v (.one (.p (.list .bytes ls)))),(10,.v (.one (.p (.int .i64 ((I.len (α:=List UInt8) ls)))))),(11,.v (.one (.p (.int .i64 i))))],[],36,none⟩) (fun(g:Nat × Int)=>match g with|(i,a)=>ls.length - i) (0,0) (by kernel_rfl) (by kernel_rfl) ?_ ?_
  · exact⟨Nat.zero_le _,by simp⟩
  rintro⟨i,a⟩ ⟨h1,h2⟩ A hA
  simp only at hA
  refine orcL ?_;go_invoke;refine orcS (by kernel_rfl) ?_
  simp only [zi,Nat.reduceAdd]
  have hx:i<ls.length→_:=zgp (ls:=ls) (i:=i)
  have hy:=zd2 ls (i+1)
  have hz:=zd2 ls i
  refine⟨fun c1=> ?_,fun c1=>⟨?_,?_⟩⟩
  · subst hI
    simp only [nrmA,nrmB] at c1
    simp only [nrmA,nrmB]
    have hx:=congrArg List.length (hx (by omega))
    rw [List.length_append] at hx
    generalize ls.getD i []=x at *
    (repeat' (first|refine And.intro ?_ ?_|intro _))<;>first|omega|exact True.intro|exact False.elim ‹False›|skip
    exact hA (i+1,_) ⟨by simp only;omega,by simp only;omega⟩ (by simp only;omega)
  · subst hI
    simp only [nrmA,nrmB]
    omega
  · have hi:i=ls.length:=by
      subst hI
      simp only [nrmA,nrmB] at c1
      omega
    have hil:(I.hid ([]:Str))=[]:=by subst hI;rfl
    rw [hil]
    refine zC hI zh mixed [zhw,zhv] hX [6,25,26,27] (fun(g:Nat × Str)=>match g with|(j,o)=>j≤ls.length∧o=(ls.take j).flatten) (fun(g:Nat × Str)=>match g with|(j,o)=>⟨[(6,.v (.one (.row 0))),(25,.v (.one (.p (.list .bytes ls)))),(26,.v (.one (.p (.int .i64 ((I.len (α:=List UInt8) ls)))))),(27,.v (.one (.p (.int .i64 j))))],[.row .byte 5 o],36,none⟩) (fun(g:Nat × Str)=>match g with|(j,o)=>ls.length - j) (0,[]) (by kernel_rfl) (by kernel_rfl) ?_ ?_
    · exact⟨Nat.zero_le _,rfl⟩
    rintro⟨j,o⟩ ⟨k1,k2⟩ B hB
    simp only at hB
    refine orcL ?_;go_invoke;refine orcS (by kernel_rfl) ?_
    simp only [zi,Nat.reduceAdd]
    subst hI
    simp only [nrmA,nrmB,nrlB,reduceCtorEq]
    have hx:j<ls.length→_:=zgp (ls:=ls) (i:=j)
    have hy:=zd2 ls (j+1)
    have hz:=zd2 ls j
    have hw: ¬ j<ls.length→o=ls.flatten:=fun h=>by rw [k2,List.take_of_length_le (by omega)]
    rw [k2] at hw ⊢
    refine⟨fun c=> ?_,fun c=>hw (by omega)⟩
    have hx:=hx (by omega)
    rw [← hx]
    have hx2:=congrArg List.length hx
    rw [List.length_append] at hx2
    generalize ls.getD j []=x at *
    (repeat' (first|refine And.intro ?_ ?_|intro _))<;>first|omega|exact True.intro|exact False.elim ‹False›|skip
    exact hB (j+1,(ls.take (j+1)).flatten) ⟨by simp only;omega,rfl⟩ (by simp only;omega)
def Ut (I:Alg) (args:List D) (hp:List HO):Option CT:=match args,hp with
  |[.v (.one (.p (.list .bytes ls)))],[]=>(fun(ls:List Str)=>(some (.one ⟨I.hid (ls.flatten.length≤1000000∧ls.length≤1000),(.ret (.v (.one (.row 0)))),[.row .byte 5 ls.flatten]⟩):Option CT)) ls
  |_,_=>none
theorem zgB:zx Tryz.prog 233 (Ut alg):=by
  intro args hp r h
  unfold Ut at h
  split at h
  · cases h;exact fun hn=>zuv _ hn
  · cases h
def zoS:Know Tryz.prog:=⟨233,Ut,zgB⟩
def zoR:Know Tryz.prog:=⟨233,fun I=>zy I (Ut I),zf zgB⟩
theorem X0 {l:List Upl} {n:Int} (h:zF l n):l.length≤1000000∧xO l≤1000000:=by
  have:=h.cnt;have:=h.tot;omega
theorem zp4 (l:List Upl) (n size:Int) (m:Str) (hneed:zF l n∧n≤1000000∧m.length≤1000000):Spc Tryz.prog 200 [.v (.one (.ptr 0 0)),.v (.one (.p (.int .i64 size))),.v (.one (.p (.str m)))] [.pack [.obj 88 [(.row 1),(.p (.int .i64 n))],.row .upl 86 l]] (.ret (.tup [(.one (.p (.int .i64 ((creI l n size m))))),(.one (.p (.int .i64 ((creC l size m)))))])) [.pack [.obj 88 [(.row 1),(.p (.int .i64 ((creN l n size m))))],.row .upl 86 ((creL l n size m))]]:=by
  obtain⟨hs,hn,hm⟩:=hneed
  have hc:=hs.cnt
  have h0:=hs.n0
  generalize hi:creI l n size m=ri
  generalize he:creC l size m=re
  generalize hl:creL l n size m=rl
  generalize hN:creN l n size m=rn
  refine spcG zh mixed Tryz.func200 (by kernel_rfl) { zbs with keep:=some [0,1,2,6,7]} [uY,uX,UD,UC] (by kernel_rfl) ?_
  intro I X hI hX
  refine orcL ?_;go_invoke;refine orcS (by kernel_rfl) ?_
  simp only [zi,Nat.reduceAdd]
  subst hI
  simp only [nrmA,nrmB,nrlB,reduceCtorEq,HO.pack.injEq,HO.obj.injEq]
  unfold creI at hi
  unfold creL at hl
  unfold creN at hN
  rw [he] at hi hl hN
  unfold creC at he
  simp only [List.length_cons,List.length_nil]
  (repeat' (first|refine And.intro ?_ ?_|intro _))<;>first|omega|exact True.intro|exact False.elim ‹False›|skip
  all_goals((repeat(first|rewrite [if_pos (by first|omega|assumption|(simp only [*,or_self,or_true,true_or,or_false,false_or,not_true_eq_false,not_false_eq_true,Bool.false_eq_true,Bool.true_eq_false,and_self,and_true,true_and];done)|(simp only [*];omega)|(simp [*];done)|(simp [*];omega))] at he|rewrite [if_neg (by first|omega|assumption|(simp only [*,or_self,or_true,true_or,or_false,false_or,not_true_eq_false,not_false_eq_true,Bool.false_eq_true,Bool.true_eq_false,and_self,and_true,true_and];done)|(simp only [*];omega)|(simp [*];done)|(simp [*];omega))] at he));subst he;((repeat(first|rewrite [if_pos (by first|omega|assumption|(simp only [*,or_self,or_true,true_or,or_false,false_or,not_true_eq_false,not_false_eq_true,Bool.false_eq_true,Bool.true_eq_false,and_self,and_true,true_and];done)|(simp only [*];omega)|(simp [*];done)|(simp [*];omega))] at hi|rewrite [if_neg (by first|omega|assumption|(simp only [*,or_self,or_true,true_or,or_false,false_or,not_true_eq_false,not_false_eq_true,Bool.false_eq_true,Bool.true_eq_false,and_self,and_true,true_and];done)|(simp only [*];omega)|(simp [*];done)|(simp [*];omega))] at hi)));((repeat(first|rewrite [if_pos (by first|omega|assumption|(simp only [*,or_self,or_true,true_or,or_false,false_or,not_true_eq_false,not_false_eq_true,Bool.false_eq_true,Bool.true_eq_false,and_self,and_true,true_and];done)|(simp only [*];omega)|(simp [*];done)|(simp [*];omega))] at hl|rewrite [if_neg (by first|omega|assumption|(simp only [*,or_self,or_true,true_or,or_false,false_or,not_true_eq_false,not_false_eq_true,Bool.false_eq_true,Bool.true_eq_false,and_self,and_true,true_and];done)|(simp only [*];omega)|(simp [*];done)|(simp [*];omega))] at hl)));((repeat(first|rewrite [if_pos (by first|omega|assumption|(simp only [*,or_self,or_true,true_or,or_false,false_or,not_true_eq_false,not_false_eq_true,Bool.false_eq_true,Bool.true_eq_false,and_self,and_true,true_and];done)|(simp only [*];omega)|(simp [*];done)|(simp [*];omega))] at hN|rewrite [if_neg (by first|omega|assumption|(simp only [*,or_self,or_true,true_or,or_false,false_or,not_true_eq_false,not_false_eq_true,Bool.false_eq_true,Bool.true_eq_false,and_self,and_true,true_and];done)|(simp only [*];omega)|(simp [*];done)|(simp [*];omega))] at hN)));subst hi;subst hl;subst hN;first|rfl|omega)
def Y3 (I:Alg) (args:List D) (hp:List HO):Option CT:=match args,hp with
  |[.v (.one (.ptr 0 0)),.v (.one (.p (.int .i64 size))),.v (.one (.p (.str m)))],[.pack [.obj 88 [(.row 1),(.p (.int .i64 n))],.row .upl 86 l]]=>(fun(l:List Upl) (n size:Int) (m:Str)=>(some (.one ⟨I.hid (zF l n∧n≤1000000∧m.length≤1000000),(.ret (.tup [(.one (.p (.int .i64 (I.hid ((creI l n size m)))))),(.one (.p (.int .i64 (I.hid ((creC l size m))))))])),[.pack [.obj 88 [(.row 1),(.p (.int .i64 (I.hid ((creN l n size m)))))],.row .upl 86 (I.hid ((creL l n size m)))]]⟩):Option CT)) l n size m
  |_,_=>none
theorem zb2:zx Tryz.prog 200 (Y3 alg):=by
  intro args hp r h
  unfold Y3 at h
  split at h
  · cases h;exact fun hn=>zp4 _ _ _ _ hn
  · cases h
def zkL:Know Tryz.prog:=⟨200,Y3,zb2⟩
def zkK:Know Tryz.prog:=⟨200,fun I=>zy I (Y3 I),zf zb2⟩
theorem zp7 (l:List Upl) (n id off:Int) (b:Str) (hneed:zF l n∧b.length≤1000000):Spc Tryz.prog 201 [.v (.one (.ptr 0 0)),.v (.one (.p (.int .i64 id))),.v (.one (.p (.int .i64 off))),.v (.one (.p (.list .byte b)))] [.pack [.obj 88 [(.row 1),(.p (.int .i64 n))],.row .upl 86 l]] (.ret (.v (.one (.p (.int .i64 ((appC l id off b))))))) [.pack [.obj 88 [(.row 1),(.p (.int .i64 n))],.row .upl 86 ((appL l id off b))]]:=by
  obtain⟨hs,hb⟩:=hneed
  have hf:=X0 hs
  generalize he:appC l id off b=re
  generalize hl:appL l id off b=rl
  refine spcG zh mixed Tryz.func201 (by kernel_rfl) { zbs with bare:=[51,232],keep:=some [0,1,2,3,8,9,10,11]} [zb4,zb3,zmu,zmt,zpZ,zpY,zoS,zoR] (by kernel_rfl) ?_
  intro I X hI hX
  refine orcL ?_;go_invoke;refine orcS (by kernel_rfl) ?_
  simp only [zi,Nat.reduceAdd]
  subst hI
  simp only [nrmA,nrmB,nrlB,reduceCtorEq,HO.pack.injEq,HO.obj.injEq]
  unfold appL at hl
  rw [he] at hl
  unfold appC at he
  unfold xh upl0 at he hl
  simp only [List.flatten_cons,List.flatten_nil,List.append_nil,List.length_append,List.length_cons,List.length_nil]
  have hx:atU l id<l.length→_:=fun h=>hs.each _ (rM h)
  unfold xh upl0 at hx
  generalize l.getD (atU l id) ⟨0,0,[],[],0⟩=x at *
  have hu0:=Yk l
  have hb1:=fun h=>(hx h).bl
  have hb2:=fun h=>(hx h).s1
  have hb3:=fun h=>(hx h).s2
  (repeat' (first|refine And.intro ?_ ?_|intro _))<;>first|omega|exact True.intro|exact False.elim ‹False›|skip
  all_goals first
    |(have:=hb1 (by omega);have:=hb2 (by omega);have:=hb3 (by omega);omega)
    |exact hf.1
    |exact hf.2
    |((repeat(first|rewrite [if_pos (by first|omega|assumption|(simp only [*,or_self,or_true,true_or,or_false,false_or,not_true_eq_false,not_false_eq_true,Bool.false_eq_true,Bool.true_eq_false,and_self,and_true,true_and];done)|(simp only [*];omega)|(simp [*];done)|(simp [*];omega))] at he|rewrite [if_neg (by first|omega|assumption|(simp only [*,or_self,or_true,true_or,or_false,false_or,not_true_eq_false,not_false_eq_true,Bool.false_eq_true,Bool.true_eq_false,and_self,and_true,true_and];done)|(simp only [*];omega)|(simp [*];done)|(simp [*];omega))] at he));subst he;((repeat(first|rewrite [if_pos (by first|omega|assumption|(simp only [*,or_self,or_true,true_or,or_false,false_or,not_true_eq_false,not_false_eq_true,Bool.false_eq_true,Bool.true_eq_false,and_self,and_true,true_and];done)|(simp only [*];omega)|(simp [*];done)|(simp [*];omega))] at hl|rewrite [if_neg (by first|omega|assumption|(simp only [*,or_self,or_true,true_or,or_false,false_or,not_true_eq_false,not_false_eq_true,Bool.false_eq_true,Bool.true_eq_false,and_self,and_true,true_and];done)|(simp only [*];omega)|(simp [*];done)|(simp [*];omega))] at hl)));subst hl;first|rfl|omega)
def Y4 (I:Alg) (args:List D) (hp:List HO):Option CT:=match args,hp with
  |[.v (.one (.ptr 0 0)),.v (.one (.p (.int .i64 id))),.v (.one (.p (.int .i64 off))),.v (.one (.p (.list .byte b)))],[.pack [.obj 88 [(.row 1),(.p (.int .i64 n))],.row .upl 86 l]]=>(fun(l:List Upl) (n id off:Int) (b:Str)=>(some (.one ⟨I.hid (zF l n∧b.length≤1000000),(.ret (.v (.one (.p (.int .i64 (I.hid ((appC l id off b)))))))),[.pack [.obj 88 [(.row 1),(.p (.int .i64 n))],.row .upl 86 (I.hid ((appL l id off b)))]]⟩):Option CT)) l n id off b
  |_,_=>none
theorem zb5:zx Tryz.prog 201 (Y4 alg):=by
  intro args hp r h
  unfold Y4 at h
  split at h
  · cases h;exact fun hn=>zp7 _ _ _ _ _ hn
  · cases h
def zkN:Know Tryz.prog:=⟨201,Y4,zb5⟩
def zkM:Know Tryz.prog:=⟨201,fun I=>zy I (Y4 I),zf zb5⟩
end Go.Proofs.YtmkcejdibmilmaaGreatDoor
