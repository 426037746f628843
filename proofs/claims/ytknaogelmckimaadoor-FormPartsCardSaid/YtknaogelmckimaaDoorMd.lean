/- Texts of this proof, one behind the other: ParC ParD FrmB LnA FrmC FrmD FldP FrmE EvJ FrmF FrmG FrmH FrmI FrmS FrmT. -/
import Derived.Test.YtknaogelmckimaaDoorMc
set_option linter.all false
namespace Go.Proofs.YtknaogelmckimaaDoor
open Go Go.Sep Go.Ab
set_option maxRecDepth 100000
theorem zhz (a b n:Str):Spc Tryd.prog 53 [.v (.agg [(.p (.str a)),(.p (.str b))]),.v (.one (.ptr 0 0))] [.pack [.obj 9 [(.p (.str n))]]] (.ret (.v (.one (.p (.bool ((a == n))))))) [.pack [.obj 9 [(.p (.str n))]]]:=by
  refine spcG zk mixed Tryd.func53 (by kernel_rfl) { keep:=some [0,1,2,3]} [] (by kernel_rfl) ?_
  intro I X hI hX
  refine zh (.fin (.ret (.v (.one (.p (.bool (I.seq a n)))))) [(.pack [(.obj 9 [(.p (.str n))])])]) (by kernel_rfl) ?_
  simp only [zq]
  subst hI
  simp only [nrmA,nrmB,nrlB,reduceCtorEq,HO.pack.injEq,HO.obj.injEq]
  try trivial
def YT (I:Alg) (args:List D) (hp:List HO):Option CT:=match args,hp with
  |[.v (.agg [(.p (.str a)),(.p (.str b))]),.v (.one (.ptr 0 0))],[.pack [.obj 9 [(.p (.str n))]]]=>(fun(a b n:Str)=>(some (.one ⟨I.hid (True),(.ret (.v (.one (.p (.bool (I.hid ((a == n)))))))),[.pack [.obj 9 [(.p (.str n))]]]⟩):Option CT)) a b n
  |_,_=>none
theorem zaH:zx Tryd.prog 53 (YT alg):=by
  intro args hp r h
  unfold YT at h
  split at h
  · cases h;exact fun hn=>zhz _ _ _
  · cases h
def V5:Know Tryd.prog:=⟨53,YT,zaH⟩
def zeI:Know Tryd.prog:=⟨53,fun I=>zA I (YT I),zf zaH⟩
def ixP (l:List Fld) (n:Str):Int:=if l.findIdx (fun f=>f.name == n)<l.length then(l.findIdx (fun f=>f.name == n):Int) else -1
set_option maxHeartbeats 1000000 in
theorem pIx_ (l:List Fld) (n:Str) (hneed:l.length≤1000000):Spc Tryd.prog 52 [.v (.one (.p (.list .fld l))),.v (.one (.fn 53 [.ptr 0 0]))] [.pack [.obj 9 [(.p (.str n))]]] (.ret (.v (.one (.p (.int .i64 ((ixP l n))))))) [.pack [.obj 9 [(.p (.str n))]]]:=by
  refine spcG zk mixed Tryd.func52 (by kernel_rfl) { keep:=some [0,1,4,5,7,8]} [V5] (by kernel_rfl) ?_
  intro I X hI hX
  refine zh (.code 0 [1,0,1,0] ⟨[(8,(.v (.one (.p (.int .i64 0))))),(7,(.v (.one (.p (.int .i64 (I.len (α:=Fld) l)))))),(4,(.v (.one (.p (.int .i64 0))))),(0,(.v (.one (.p (.list .fld l))))),(1,(.v (.one (.fn 53 [(.ptr 0 0)]))))],[(.pack [(.obj 9 [(.p (.str n))])])],19,none⟩) (by kernel_rfl) ?_
  simp only [zq]
  refine zu hI zk mixed [V5] hX [0,1,7,8] (fun(i:Nat)=>i≤l.length∧i≤l.findIdx (fun f=>f.name == n)) (fun(i:Nat)=>⟨[(0,.v (.one (.p (.list .fld l)))),(1,.v (.one (.fn 53 [.ptr 0 0]))),(7,.v (.one (.p (.int .i64 ((I.len (α:=Fld) l)))))),(8,.v (.one (.p (.int .i64 i))))],[.pack [.obj 9 [(.p (.str n))]]],19,none⟩) (fun(i:Nat)=>l.length - i) 0 (by kernel_rfl) (by kernel_rfl) ?_ ?_
  · exact⟨Nat.zero_le _,Nat.zero_le _⟩
  rintro i ⟨h1,h2⟩ A hA
  refine zh (let y0:HO:=.pack [(.obj 9 [(.p (.str n))])];let y1:=I.inb (Nat.cast i) (I.len (α:=Fld) l);.br (I.ilt (Nat.cast i) (I.len (α:=Fld) l)) (.need y1 (.need y1 (.need (I.hid (α:=(Prop)) True) (.br (I.hid (α:=Bool) (BEq.beq (Fld.name (I.get (α:=Fld) l (Fld.mk ([]:Str) ([]:Str)) (Nat.cast i))) n)) (.fin (.ret (.v (.one (.p (.int .i64 (Nat.cast i)))))) [y0]) (.need (I.inr Go.IntKind.i64 (I.add (Nat.cast i) 1)) (.need (A ⟨[(0,(.v (.one (.p (.list .fld l))))),(1,(.v (.one (.fn 53 [(.ptr 0 0)])))),(7,(.v (.one (.p (.int .i64 (I.len (α:=Fld) l)))))),(8,(.v (.one (.p (.int .i64 (I.add (Nat.cast i) 1))))))],[y0],19,none⟩) .qed)))))) (.fin (.ret (.v (.one (.p (.int .i64 (Neg.neg (1:Int))))))) [y0])) (by kernel_rfl) ?_
  simp only [zq]
  subst hI
  simp only [nrmA,nrmB,nrlB,reduceCtorEq,HO.pack.injEq,HO.obj.injEq]
  have hfl:l.findIdx (fun f=>f.name == n)≤l.length:=List.findIdx_le_length
  have hyes:i<l.length→(l.getD i ⟨[],[]⟩).name=n→ixP l n=i:=fun h hid=>by
    have h0:l.findIdx (fun f=>f.name == n)≤i:=by
      refine Nat.le_of_not_lt fun hlt=> ?_
      have:=List.not_of_lt_findIdx hlt
      rw [List.getD_eq_getElem?_getD,List.getElem?_eq_getElem h] at hid
      simp only [Option.getD_some] at hid
      rw [hid] at this;simp at this
    unfold ixP
    rw [if_pos (by omega)];omega
  have hno:i<l.length→¬ (l.getD i ⟨[],[]⟩).name=n→i+1≤l.findIdx (fun f=>f.name == n):=fun h hid=>by
    refine Nat.lt_of_le_of_ne h2 fun e=>hid ?_
    have hlt:l.findIdx (fun f=>f.name == n)<l.length:=by omega
    have:=List.findIdx_getElem (xs:=l) (p:=fun f=>f.name == n) (w:=hlt)
    have h9:l.getD i ⟨[],[]⟩=l[l.findIdx (fun f=>f.name == n)]:=by simp [e,List.getD_eq_getElem?_getD,hlt]
    rw [h9];simpa using this
  have hend: ¬ i<l.length→ixP l n= -1:=fun h=>by unfold ixP;rw [if_neg (by omega)]
  generalize l.getD i ⟨[],[]⟩=x at *
  (repeat' (first|refine And.intro ?_ ?_|intro _))<;>first|omega|exact True.intro|exact False.elim ‹False›|skip
  all_goals first
    |omega
    |(exact(hyes (by omega) ‹_›).symm)
    |(exact hA (i+1) ⟨by omega,hno (by omega) ‹_›⟩ (by omega))
    |(exact(hend (by omega)).symm)
def zaG (I:Alg) (args:List D) (hp:List HO):Option CT:=match args,hp with
  |[.v (.one (.p (.list .fld l))),.v (.one (.fn 53 [.ptr 0 0]))],[.pack [.obj 9 [(.p (.str n))]]]=>(fun(l:List Fld) (n:Str)=>(some (.one ⟨I.hid (l.length≤1000000),(.ret (.v (.one (.p (.int .i64 (I.hid ((ixP l n)))))))),[.pack [.obj 9 [(.p (.str n))]]]⟩):Option CT)) l n
  |_,_=>none
theorem zfr:zx Tryd.prog 52 (zaG alg):=by
  intro args hp r h
  unfold zaG at h
  split at h
  · cases h;exact fun hn=>pIx_ _ _ hn
  · cases h
def zhy:Know Tryd.prog:=⟨52,zaG,zfr⟩
def zhx:Know Tryd.prog:=⟨52,fun I=>zA I (zaG I),zf zfr⟩
theorem zhP (l:List Fld) (n:Str): -1≤ixP l n∧ixP l n<l.length:=by unfold ixP;split<;>omega
theorem zgC (l:List Fld) (n:Str):getP l n=if 0≤ixP l n then((l.getD (ixP l n).toNat ⟨[],[]⟩).value,true) else([],false):=by
  unfold getP ixP
  rw [List.find?_eq_getElem?_findIdx]
  by_cases h:l.findIdx (fun f=>f.name == n)<l.length
  · rw [if_pos h,if_pos (by omega),List.getElem?_eq_getElem h]
    simp [List.getD_eq_getElem?_getD,h]
  · rw [if_neg h,if_neg (by omega),List.getElem?_eq_none (by omega)]
theorem zis (w:Str) (l:List Fld) (n:Str) (hneed:l.length≤1000000):Spc Tryd.prog 29 [.v (.agg [(.p (.str w)),(.p (.list .fld l))]),.v (.one (.p (.str n)))] [] (.ret (.tup [(.one (.p (.str ((getP l n).1)))),(.one (.p (.bool ((getP l n).2))))])) []:=by
  rw [zgC]
  have hx:=zhP l n
  refine spcG zk mixed Tryd.func29 (by kernel_rfl) { keep:=some [0,1,2,3,4,5,6]} [V5,zeI,zhy,zhx] (by kernel_rfl) ?_
  intro I X hI hX
  refine zh (let y0:=I.inb (I.hid (α:=Int) (ixP l n)) (I.len (α:=Fld) l);.need (I.hid (α:=(Prop)) (LE.le (List.length l) 1000000)) (.br (I.ilt (I.hid (α:=Int) (ixP l n)) 0) (.fin (.ret (.tup [(.one (.p (.str ([]:Str)))),(.one (.p (.bool Bool.false)))])) []) (.need y0 (.need y0 (.fin (.ret (.tup [(.one (.p (.str (Fld.value (I.get (α:=Fld) l (Fld.mk ([]:Str) ([]:Str)) (I.hid (α:=Int) (ixP l n))))))),(.one (.p (.bool Bool.true)))])) []))))) (by kernel_rfl) ?_
  simp only [zq]
  subst hI
  simp only [nrmA,nrmB]
  (repeat' (first|refine And.intro ?_ ?_|intro _))<;>first|omega|exact True.intro|exact False.elim ‹False›|skip
  all_goals first
    |omega
    |(rw [if_pos (by omega)])
    |(rw [if_neg (by omega)])
def V4 (I:Alg) (args:List D) (hp:List HO):Option CT:=match args,hp with
  |[.v (.agg [(.p (.str w)),(.p (.list .fld l))]),.v (.one (.p (.str n)))],[]=>(fun(w:Str) (l:List Fld) (n:Str)=>(some (.one ⟨I.hid (l.length≤1000000),(.ret (.tup [(.one (.p (.str (I.hid ((getP l n).1))))),(.one (.p (.bool (I.hid ((getP l n).2)))))])),[]⟩):Option CT)) w l n
  |_,_=>none
theorem zcR:zx Tryd.prog 29 (V4 alg):=by
  intro args hp r h
  unfold V4 at h
  split at h
  · cases h;exact fun hn=>zis _ _ _ hn
  · cases h
def XB:Know Tryd.prog:=⟨29,V4,zcR⟩
def XA:Know Tryd.prog:=⟨29,fun I=>zA I (V4 I),zf zcR⟩
def cfgM:Cfg:= { sl:=[⟨72,1,.fld,some 98⟩]}
set_option maxHeartbeats 4000000 in
theorem zhw (s:Str) (hneed:s.length≤1000000∧(zY s).1=0):Spc Tryd.prog 51 [.v (.one (.ptr 0 0))] [.pack [.obj 95 [(.p (.str s))]]] (.ret (.v (.agg [(.p (.str ((zY s).2.1.word))),(.p (.list .fld ((zY s).2.1.params)))]))) [.pack [.obj 95 [(.p (.str ((zY s).2.2)))]]]:=by
  obtain⟨hl,hc⟩:=hneed
  generalize hr:zY s=r at hc
  obtain⟨c,⟨w,ps⟩,z⟩:=r
  simp only at hc
  subst hc
  refine spcG zk mixed Tryd.func51 (by kernel_rfl) { cfgM with lend:=[29],keep:=some [0,2,3,4,6]} [xK,xJ,yQ,yP,sZ,sW,sV,sU,ZN,ZM,VY,VX,XB,XA] (by kernel_rfl) ?_
  intro I X hI hX
  refine zh (let y11:=I.hid (α:=Str) (tokE (I.hid (α:=Str) (skS s)));let y0:=I.hid (α:=Str) (ite (Eq (zC y11 (UInt8.ofNat (Int.toNat (47:Int)))) Bool.true) (List.drop 1 y11) y11);let y12:=I.hid (α:=Str) (tokS (I.hid (α:=Str) (skS s)));let y1:=I.few (I.add (I.len (α:=UInt8) (I.hid (α:=Str) (lowS y12))) (I.len (α:=UInt8) (I.app (α:=UInt8) ([47]:Str) (I.hid (α:=Str) (lowS (I.hid (α:=Str) (tokS y0))))))) 1000000000;let y2:HO:=.obj 72 [(.p (.str (I.app (α:=UInt8) (I.hid (α:=Str) (lowS y12)) (I.app (α:=UInt8) ([47]:Str) (I.hid (α:=Str) (lowS (I.hid (α:=Str) (tokS y0)))))))),.nilS];let y3:=I.few (I.add (I.len (α:=UInt8) ([47]:Str)) (I.len (α:=UInt8) (I.hid (α:=Str) (lowS (I.hid (α:=Str) (tokS y0)))))) 1000000000;let y4:HO:=.pack [(.obj 95 [(.p (.str (I.hid (α:=Str) (skS (I.hid (α:=Str) (tokE y0))))))])];let y5:=I.hid (α:=(Prop)) (LE.le (List.length (I.hid (α:=Str) (tokS y0))) 1000000);let y6:HO:=.obj 72 [(.p (.str ([]:Str))),.nilS];let y7:=I.hid (α:=(Prop)) (And (LE.le (List.length y0) 1000000) (Not (Eq (tokS y0) ([]:Str))));let y8:=I.hid (α:=(Prop)) (And (LE.le (List.length y0) 1000000) (Eq (tokS y0) ([]:Str)));let y9:=I.hid (α:=Bool) (Decidable.decide (Eq (tokS y0) ([]:Str)));let y10:HO:=.pack [(.obj 95 [(.p (.str (I.hid (α:=Str) (tokE y0))))])];.need (I.hid (α:=(Prop)) True) (.br (I.hid (α:=Bool) (Decidable.decide (Eq (tokS (I.hid (α:=Str) (skS s))) ([]:Str)))) (.need (I.hid (α:=(Prop)) (And (LE.le (List.length (I.hid (α:=Str) (skS s))) 1000000) (Eq (tokS (I.hid (α:=Str) (skS s))) ([]:Str)))) (.fin (.pan (.ifc 91 .false [(.int .i64 5)])) [(.pack [(.obj 95 [(.p (.str y11))])])])) (.need (I.hid (α:=(Prop)) (And (LE.le (List.length (I.hid (α:=Str) (skS s))) 1000000) (Not (Eq (tokS (I.hid (α:=Str) (skS s))) ([]:Str))))) (.need (I.hid (α:=(Prop)) (LE.le (List.length y12) 1000000)) (.need (I.hid (α:=(Prop)) (And (LE.le (0:Int) (47:Int)) (LE.le (47:Int) (255:Int)))) (.br (I.hid (α:=Bool) (zC y11 (UInt8.ofNat (Int.toNat (47:Int))))) (.both (.br y9 (.need y8 (.fin (.pan (.ifc 91 .false [(.int .i64 5)])) [y10])) (.need y7 (.need y5 (.need y3 (.need y1 (.need (I.hid (α:=(Prop)) True) (.code 0 [1,1,1,1,0,1,0] ⟨[(3,(.v (.one (.ptr 2 0)))),(2,(.v (.one (.ptr 1 0)))),(0,(.v (.one (.ptr 0 0))))],[y4,y6,y2],60,none⟩))))))) (.br y9 (.need y8 (.fin (.pan (.ifc 91 .false [(.int .i64 5)])) [y10])) (.need y7 (.both (.need y5 (.need y3 (.need y1 (.need (I.hid (α:=(Prop)) True) (.code 0 [1,1,1,1,0,1,0] ⟨[(3,(.v (.one (.ptr 2 0)))),(2,(.v (.one (.ptr 1 0)))),(0,(.v (.one (.ptr 0 0))))],[y4,y6,y2],60,none⟩))))) (.need y5 (.need y3 (.need y1 (.need (I.hid (α:=(Prop)) True) (.code 0 [1,1,1,1,0,1,0] ⟨[(3,(.v (.one (.ptr 2 0)))),(2,(.v (.one (.ptr 1 0)))),(0,(.v (.one (.ptr 0 0))))],[y4,y6,y2],60,none⟩))))))))) (.need (I.hid (α:=(Prop)) True) (.code 0 [1,1,1,1,0,1,0] ⟨[(3,(.v (.one (.ptr 2 0)))),(2,(.v (.one (.ptr 1 0)))),(0,(.v (.one (.ptr 0 0))))],[(.pack [(.obj 95 [(.p (.str (I.hid (α:=Str) (skS y0))))])]),y6,(.obj 72 [(.p (.str (I.hid (α:=Str) (lowS y12)))),.nilS])],60,none⟩)))))))) (by kernel_rfl) ?_
  simp only [zq]
  have hh: ∀ {α:Type} (x:α),I.hid x=x:=by subst hI;intros;rfl
  have key : ∀ (w0 t0:Str),t0.length≤1000000→((medL (t0.length+1) t0 []).1,(⟨w0,(medL (t0.length+1) t0 []).2.1⟩:Med),(medL (t0.length+1) t0 []).2.2)=(0,⟨w,ps⟩,z)→Ok Tryd.prog X (fun o h=>o=AOut.ret (D.v (V0.agg [C.p (P.str w),C.p (P.list U.fld ps)]))∧h=[HO.pack [HO.obj 95 [C.p (P.str z)]]]) (leaf I tab { cfgM with lend:=[29],keep:=some [0,2,3,4,6]} [⟨xk Tryd.f51,finK I tab { cfgM with lend:=[29],keep:=some [0,2,3,4,6]} 1 Tryd.f51⟩] 0 [1,1,1,1,0,1,0] ⟨[(3,.v (.one (.ptr 2 0))),(2,.v (.one (.ptr 1 0))),(0,.v (.one (.ptr 0 0)))],[.pack [.obj 95 [(.p (.str t0))]],.obj 72 [(.p (.str ([]))),.nilS],.obj 72 [(.p (.str w0)),.nilS]],60,none⟩):=by
    intro w0 t0 ht0 hm
    simp only [Prod.mk.injEq,Med.mk.injEq] at hm
    obtain⟨hm1,⟨rfl,hm2⟩,hm3⟩:=hm
    refine zu hI zk mixed [xK,xJ,yQ,yP,sZ,sW,sV,sU,ZN,ZM,VY,VX,XB,XA] hX [0,2,3] (fun(g:Str × List Fld)=>match g with|(t,l)=>t.length≤1000000∧l.length≤8∧∃ n,t.length<n∧medL n t l=(0,ps,z)) (fun(g:Str × List Fld)=>match g with|(t,l)=>⟨[(0,.v (.one (.ptr 0 0))),(2,.v (.one (.ptr 1 0))),(3,.v (.one (.ptr 2 0)))],[.pack [.obj 95 [(.p (.str t))]],.pack [.obj 72 [(.p (.str ([]))),(.row 1)],.row .fld 98 ([])],.pack [.obj 72 [(.p (.str w0)),(.row 1)],.row .fld 98 l]],60,none⟩) (fun(g:Str × List Fld)=>match g with|(t,l)=>t.length) (t0,[]) (by kernel_rfl) (by kernel_rfl) ?_ ?_
    · exact⟨ht0,by simp,t0.length+1,by omega,by rw [← hm1,← hm2,← hm3]⟩
    rintro⟨t,l⟩ ⟨ht,hl8,n,hn,hm⟩ A hA
    clear hm1 hm2 hm3 hr
    simp only at hA
    refine zh (let y0:=I.hid (α:=Str) (ite (Eq (zC t (UInt8.ofNat (Int.toNat (59:Int)))) Bool.true) (List.drop 1 t) t);let y1:=I.hid (α:=Str) (Fld.name (Prod.fst (Prod.snd (parM (I.hid (α:=Str) (skS y0))))));let y2:=I.hid (α:=Str) (Prod.snd (Prod.snd (parM (I.hid (α:=Str) (skS y0)))));let y3:=I.hid (α:=Str) (Fld.value (Prod.fst (Prod.snd (parM (I.hid (α:=Str) (skS y0))))));let y4:=I.hid (α:=Bool) (Prod.snd (getP l y1));let y5:HO:=.pack [(.obj 95 [(.p (.str y2))])];let y6:HO:=.pack [(.obj 95 [(.p (.str y0))])];.need (I.hid (α:=(Prop)) (And (LE.le (0:Int) (59:Int)) (LE.le (59:Int) (255:Int)))) (.br (I.hid (α:=Bool) (zC t (UInt8.ofNat (Int.toNat (59:Int))))) (.need (I.hid (α:=(Prop)) True) (.br (I.hid (α:=Bool) (Decidable.decide (Eq (Prod.fst (parM (I.hid (α:=Str) (skS y0)))) (0:Int)))) (.need (I.hid (α:=(Prop)) (And (LE.le (List.length (I.hid (α:=Str) (skS y0))) 1000000) (Eq (Prod.fst (parM (I.hid (α:=Str) (skS y0)))) (0:Int)))) (.need (I.hid (α:=(Prop)) (LE.le (List.length l) 1000000)) (.br (I.hid (α:=Bool) y4) (.need (I.hid (α:=(Prop)) (Eq y4 Bool.true)) (.fin (.pan (.ifc 91 .false [(.int .i64 9)])) [y5])) (.need (I.hid (α:=(Prop)) (Eq y4 Bool.false)) (.br (I.hid (α:=Bool) (I.ieq (I.len (α:=Fld) l) 8)) (.need (I.hid (α:=(Prop)) (Eq (I.ieq (I.len (α:=Fld) l) 8) Bool.true)) (.fin (.pan (.ifc 91 .false [(.int .i64 8)])) [y5])) (.need (I.hid (α:=(Prop)) (Eq (I.ieq (I.len (α:=Fld) l) 8) Bool.false)) (.need (I.few (I.add (I.len (α:=Fld) l) (I.len (α:=Fld) ([(Fld.mk y1 y3)]:List Fld))) 100000000) (.need (I.hid (α:=(Prop)) True) (.need (A ⟨[(0,(.v (.one (.ptr 0 0)))),(2,(.v (.one (.ptr 1 0)))),(3,(.v (.one (.ptr 2 0))))],[(.pack [(.obj 95 [(.p (.str (I.hid (α:=Str) (skS y2))))])]),(.pack [(.obj 72 [(.p (.str ([]:Str))),(.row 1)]),(.row .fld 98 ([]:List Fld))]),(.pack [(.obj 72 [(.p (.str w0)),(.row 1)]),(.row .fld 98 (I.app (α:=Fld) l ([(Fld.mk y1 y3)]:List Fld)))])],60,none⟩) .qed))))))))) (.need (I.hid (α:=(Prop)) (And (LE.le (List.length (I.hid (α:=Str) (skS y0))) 1000000) (Not (Eq (Prod.fst (parM (I.hid (α:=Str) (skS y0)))) (0:Int))))) (.fin (.pan (.ifc 91 .false [(.int .i64 (I.hid (α:=Int) (Prod.fst (parM (I.hid (α:=Str) (skS y0))))))])) [y5])))) (.br (I.hid (α:=Bool) (I.bnot (I.seq y0 ([]:Str)))) (.need (I.hid (α:=(Prop)) (Eq (I.bnot (I.seq y0 ([]:Str))) Bool.true)) (.fin (.pan (.ifc 91 .false [(.int .i64 5)])) [y6])) (.need (I.hid (α:=(Prop)) (Eq (I.bnot (I.seq y0 ([]:Str))) Bool.false)) (.fin (.ret (.v (.agg [(.p (.str w0)),(.p (.list .fld l))]))) [y6]))))) (by kernel_rfl) ?_
    simp only [zq]
    cases n with
    |zero=>omega
    |succ n=>
    simp only [medL] at hm
    have hgo:=hA (skS (parM (skS (t.drop 1))).2.2,l++[(parM (skS (t.drop 1))).2.1])
    have hpl:=VT (skS (t.drop 1))
    have hpc:=Tf (skS (t.drop 1))
    have hsl:=yT (t.drop 1)
    have hsr:=yT (parM (skS (t.drop 1))).2.2
    rw [List.length_drop] at hsl
    clear hA
    simp only [hh,show UInt8.ofNat (Int.toNat 59)=59 from rfl]
    subst hI
    by_cases h59:zC t 59=true
    · have hpos:=Vg h59
      simp only [h59,if_true] at hm ⊢
      have hgo2:(parM (skS (t.drop 1))).1=0→(getP l (parM (skS (t.drop 1))).2.1.name).2=false→¬ l.length=8→_:=fun h1 h2 h3=>hgo ⟨by simp only;omega,by simp only [List.length_append,List.length_cons,List.length_nil];omega,n,by simp only;omega,by
        rw [if_neg (fun h=>h h1),if_neg (by rw [h2];exact Bool.false_ne_true),if_neg h3] at hm;exact hm⟩ (by simp only;omega)
      clear hgo
      simp only at hgo2
      generalize parM (skS (t.drop 1))=p at *
      obtain⟨pc,⟨pn,pv⟩,pr⟩:=p
      simp only at hgo2 hm hpl hpc hsl hsr ⊢
      simp only [nrmA,nrmB,nrlB,reduceCtorEq,List.length_cons,List.length_nil]
      (repeat' (first|refine And.intro ?_ ?_|intro _))<;>first|omega|exact True.intro|exact False.elim ‹False›|skip
      all_goals first
        |omega
        |assumption
        | (by_cases hpz:pc=0
           · exact hpz
           · rw [if_pos hpz] at hm;simp only [Prod.mk.injEq] at hm;exact hm.1)
        |exact hgo2 ‹_› ‹_› (by omega)
        |(exfalso;rw [if_neg (fun h=>h ‹pc=0›),if_neg (by rw [‹(getP l pn).2=false›];exact Bool.false_ne_true),if_pos (by omega)] at hm;simp_all;done)
        |(rw [if_neg (fun h=>h ‹pc=0›),if_neg (by rw [‹(getP l pn).2=false›];exact Bool.false_ne_true),if_pos (by omega)] at hm;simp_all;done)
        |(exfalso;simp_all;done)
        |(simp_all;done)
    · have h59:zC t 59=false:=by simpa using h59
      simp only [h59,Bool.false_eq_true,if_false] at hm ⊢
      simp only [nrmA,nrmB,nrlB,reduceCtorEq,List.length_cons,List.length_nil]
      (repeat' (first|refine And.intro ?_ ?_|intro _))<;>first|omega|exact True.intro|exact False.elim ‹False›|skip
      all_goals first
        |omega
        |(exfalso;simp_all;done)
        |(simp_all;done)
        |(by_cases hte:t=[]<;>simp_all;done)
  have hl1:=yT s
  have hl2:=xu (skS s)
  have hl3:=yF (skS s)
  simp only [hh,show UInt8.ofNat (Int.toNat 47)=47 from rfl,decide_eq_true_eq,decide_eq_false_iff_not]
  unfold zY medA at hr
  generalize skS s=t at *
  have hl4:=yF ((tokE t).drop 1)
  have hl5:=xu ((tokE t).drop 1)
  rw [List.length_drop] at hl4 hl5
  (repeat' (first|refine And.intro ?_ ?_|intro _))
  all_goals try first|trivial|assumption|omega|(exfalso;simp_all;done)|(subst hI;(try(simp only [nrmA,nrmB,nrlB,reduceCtorEq,List.length_cons,List.length_nil,yI]))<;>first|omega|(simp_all [yI];done)|(simp_all [yI];omega))
  all_goals(have happ: ∀ a b:Str,I.app (α:=UInt8) a b=a++b:=by subst hI;intros;rfl)
  all_goals try simp only [happ]
  all_goals first
    | (rename_i q1 q2 q3
       rw [if_neg q1,if_pos q2] at hr
       simp only [q2,if_true] at q3 ⊢
       rw [if_neg q3] at hr
       have hsk:=yT (tokE ((tokE t).drop 1))
       exact key _ _ (by omega) hr)
    | (rename_i q1 q2
       rw [if_neg q1,if_neg (by simp [q2])] at hr
       simp only [q2,Bool.false_eq_true,if_false] at ⊢
       have hsk:=yT (tokE t)
       exact key _ _ (by omega) hr)
set_option maxHeartbeats 4000000 in
theorem zhv (s:Str) (hneed:s.length≤1000000∧¬ (zY s).1=0):Spc Tryd.prog 51 [.v (.one (.ptr 0 0))] [.pack [.obj 95 [(.p (.str s))]]] (.pan (.ifc 91 false [(.int .i64 ((zY s).1))])) [.pack [.obj 95 [(.p (.str ((zY s).2.2)))]]]:=by
  obtain⟨hl,hc⟩:=hneed
  generalize hr:zY s=r at hc
  obtain⟨c,⟨w,ps⟩,z⟩:=r
  simp only at hc
  refine spcG zk mixed Tryd.func51 (by kernel_rfl) { cfgM with lend:=[29],keep:=some [0,2,3,4,6]} [xK,xJ,yQ,yP,sZ,sW,sV,sU,ZN,ZM,VY,VX,XB,XA] (by kernel_rfl) ?_
  intro I X hI hX
  refine zh (let y11:=I.hid (α:=Str) (tokE (I.hid (α:=Str) (skS s)));let y0:=I.hid (α:=Str) (ite (Eq (zC y11 (UInt8.ofNat (Int.toNat (47:Int)))) Bool.true) (List.drop 1 y11) y11);let y12:=I.hid (α:=Str) (tokS (I.hid (α:=Str) (skS s)));let y1:=I.few (I.add (I.len (α:=UInt8) (I.hid (α:=Str) (lowS y12))) (I.len (α:=UInt8) (I.app (α:=UInt8) ([47]:Str) (I.hid (α:=Str) (lowS (I.hid (α:=Str) (tokS y0))))))) 1000000000;let y2:HO:=.obj 72 [(.p (.str (I.app (α:=UInt8) (I.hid (α:=Str) (lowS y12)) (I.app (α:=UInt8) ([47]:Str) (I.hid (α:=Str) (lowS (I.hid (α:=Str) (tokS y0)))))))),.nilS];let y3:=I.few (I.add (I.len (α:=UInt8) ([47]:Str)) (I.len (α:=UInt8) (I.hid (α:=Str) (lowS (I.hid (α:=Str) (tokS y0)))))) 1000000000;let y4:HO:=.pack [(.obj 95 [(.p (.str (I.hid (α:=Str) (skS (I.hid (α:=Str) (tokE y0))))))])];let y5:=I.hid (α:=(Prop)) (LE.le (List.length (I.hid (α:=Str) (tokS y0))) 1000000);let y6:HO:=.obj 72 [(.p (.str ([]:Str))),.nilS];let y7:=I.hid (α:=(Prop)) (And (LE.le (List.length y0) 1000000) (Not (Eq (tokS y0) ([]:Str))));let y8:=I.hid (α:=(Prop)) (And (LE.le (List.length y0) 1000000) (Eq (tokS y0) ([]:Str)));let y9:=I.hid (α:=Bool) (Decidable.decide (Eq (tokS y0) ([]:Str)));let y10:HO:=.pack [(.obj 95 [(.p (.str (I.hid (α:=Str) (tokE y0))))])];.need (I.hid (α:=(Prop)) True) (.br (I.hid (α:=Bool) (Decidable.decide (Eq (tokS (I.hid (α:=Str) (skS s))) ([]:Str)))) (.need (I.hid (α:=(Prop)) (And (LE.le (List.length (I.hid (α:=Str) (skS s))) 1000000) (Eq (tokS (I.hid (α:=Str) (skS s))) ([]:Str)))) (.fin (.pan (.ifc 91 .false [(.int .i64 5)])) [(.pack [(.obj 95 [(.p (.str y11))])])])) (.need (I.hid (α:=(Prop)) (And (LE.le (List.length (I.hid (α:=Str) (skS s))) 1000000) (Not (Eq (tokS (I.hid (α:=Str) (skS s))) ([]:Str))))) (.need (I.hid (α:=(Prop)) (LE.le (List.length y12) 1000000)) (.need (I.hid (α:=(Prop)) (And (LE.le (0:Int) (47:Int)) (LE.le (47:Int) (255:Int)))) (.br (I.hid (α:=Bool) (zC y11 (UInt8.ofNat (Int.toNat (47:Int))))) (.both (.br y9 (.need y8 (.fin (.pan (.ifc 91 .false [(.int .i64 5)])) [y10])) (.need y7 (.need y5 (.need y3 (.need y1 (.need (I.hid (α:=(Prop)) True) (.code 0 [1,1,1,1,0,1,0] ⟨[(3,(.v (.one (.ptr 2 0)))),(2,(.v (.one (.ptr 1 0)))),(0,(.v (.one (.ptr 0 0))))],[y4,y6,y2],60,none⟩))))))) (.br y9 (.need y8 (.fin (.pan (.ifc 91 .false [(.int .i64 5)])) [y10])) (.need y7 (.both (.need y5 (.need y3 (.need y1 (.need (I.hid (α:=(Prop)) True) (.code 0 [1,1,1,1,0,1,0] ⟨[(3,(.v (.one (.ptr 2 0)))),(2,(.v (.one (.ptr 1 0)))),(0,(.v (.one (.ptr 0 0))))],[y4,y6,y2],60,none⟩))))) (.need y5 (.need y3 (.need y1 (.need (I.hid (α:=(Prop)) True) (.code 0 [1,1,1,1,0,1,0] ⟨[(3,(.v (.one (.ptr 2 0)))),(2,(.v (.one (.ptr 1 0)))),(0,(.v (.one (.ptr 0 0))))],[y4,y6,y2],60,none⟩))))))))) (.need (I.hid (α:=(Prop)) True) (.code 0 [1,1,1,1,0,1,0] ⟨[(3,(.v (.one (.ptr 2 0)))),(2,(.v (.one (.ptr 1 0)))),(0,(.v (.one (.ptr 0 0))))],[(.pack [(.obj 95 [(.p (.str (I.hid (α:=Str) (skS y0))))])]),y6,(.obj 72 [(.p (.str (I.hid (α:=Str) (lowS y12)))),.nilS])],60,none⟩)))))))) (by kernel_rfl) ?_
  simp only [zq]
  have hh: ∀ {α:Type} (x:α),I.hid x=x:=by subst hI;intros;rfl
  have key : ∀ (w0 t0:Str),t0.length≤1000000→((medL (t0.length+1) t0 []).1,(⟨w0,(medL (t0.length+1) t0 []).2.1⟩:Med),(medL (t0.length+1) t0 []).2.2)=(c,⟨w,ps⟩,z)→Ok Tryd.prog X (fun o h=>o=AOut.pan (C.ifc 91 false [P.int IntKind.i64 c])∧h=[HO.pack [HO.obj 95 [C.p (P.str z)]]]) (leaf I tab { cfgM with lend:=[29],keep:=some [0,2,3,4,6]} [⟨xk Tryd.f51,finK I tab { cfgM with lend:=[29],keep:=some [0,2,3,4,6]} 1 Tryd.f51⟩] 0 [1,1,1,1,0,1,0] ⟨[(3,.v (.one (.ptr 2 0))),(2,.v (.one (.ptr 1 0))),(0,.v (.one (.ptr 0 0)))],[.pack [.obj 95 [(.p (.str t0))]],.obj 72 [(.p (.str ([]))),.nilS],.obj 72 [(.p (.str w0)),.nilS]],60,none⟩):=by
    intro w0 t0 ht0 hm
    simp only [Prod.mk.injEq,Med.mk.injEq] at hm
    obtain⟨hm1,⟨rfl,hm2⟩,hm3⟩:=hm
    refine zu hI zk mixed [xK,xJ,yQ,yP,sZ,sW,sV,sU,ZN,ZM,VY,VX,XB,XA] hX [0,2,3] (fun(g:Str × List Fld)=>match g with|(t,l)=>t.length≤1000000∧l.length≤8∧∃ n,t.length<n∧medL n t l=(c,ps,z)) (fun(g:Str × List Fld)=>match g with|(t,l)=>⟨[(0,.v (.one (.ptr 0 0))),(2,.v (.one (.ptr 1 0))),(3,.v (.one (.ptr 2 0)))],[.pack [.obj 95 [(.p (.str t))]],.pack [.obj 72 [(.p (.str ([]))),(.row 1)],.row .fld 98 ([])],.pack [.obj 72 [(.p (.str w0)),(.row 1)],.row .fld 98 l]],60,none⟩) (fun(g:Str × List Fld)=>match g with|(t,l)=>t.length) (t0,[]) (by kernel_rfl) (by kernel_rfl) ?_ ?_
    · exact⟨ht0,by simp,t0.length+1,by omega,by rw [← hm1,← hm2,← hm3]⟩
    rintro⟨t,l⟩ ⟨ht,hl8,n,hn,hm⟩ A hA
    clear hm1 hm2 hm3 hr
    simp only at hA
    refine zh (let y0:=I.hid (α:=Str) (ite (Eq (zC t (UInt8.ofNat (Int.toNat (59:Int)))) Bool.true) (List.drop 1 t) t);let y1:=I.hid (α:=Str) (Fld.name (Prod.fst (Prod.snd (parM (I.hid (α:=Str) (skS y0))))));let y2:=I.hid (α:=Str) (Prod.snd (Prod.snd (parM (I.hid (α:=Str) (skS y0)))));let y3:=I.hid (α:=Str) (Fld.value (Prod.fst (Prod.snd (parM (I.hid (α:=Str) (skS y0))))));let y4:=I.hid (α:=Bool) (Prod.snd (getP l y1));let y5:HO:=.pack [(.obj 95 [(.p (.str y2))])];let y6:HO:=.pack [(.obj 95 [(.p (.str y0))])];.need (I.hid (α:=(Prop)) (And (LE.le (0:Int) (59:Int)) (LE.le (59:Int) (255:Int)))) (.br (I.hid (α:=Bool) (zC t (UInt8.ofNat (Int.toNat (59:Int))))) (.need (I.hid (α:=(Prop)) True) (.br (I.hid (α:=Bool) (Decidable.decide (Eq (Prod.fst (parM (I.hid (α:=Str) (skS y0)))) (0:Int)))) (.need (I.hid (α:=(Prop)) (And (LE.le (List.length (I.hid (α:=Str) (skS y0))) 1000000) (Eq (Prod.fst (parM (I.hid (α:=Str) (skS y0)))) (0:Int)))) (.need (I.hid (α:=(Prop)) (LE.le (List.length l) 1000000)) (.br (I.hid (α:=Bool) y4) (.need (I.hid (α:=(Prop)) (Eq y4 Bool.true)) (.fin (.pan (.ifc 91 .false [(.int .i64 9)])) [y5])) (.need (I.hid (α:=(Prop)) (Eq y4 Bool.false)) (.br (I.hid (α:=Bool) (I.ieq (I.len (α:=Fld) l) 8)) (.need (I.hid (α:=(Prop)) (Eq (I.ieq (I.len (α:=Fld) l) 8) Bool.true)) (.fin (.pan (.ifc 91 .false [(.int .i64 8)])) [y5])) (.need (I.hid (α:=(Prop)) (Eq (I.ieq (I.len (α:=Fld) l) 8) Bool.false)) (.need (I.few (I.add (I.len (α:=Fld) l) (I.len (α:=Fld) ([(Fld.mk y1 y3)]:List Fld))) 100000000) (.need (I.hid (α:=(Prop)) True) (.need (A ⟨[(0,(.v (.one (.ptr 0 0)))),(2,(.v (.one (.ptr 1 0)))),(3,(.v (.one (.ptr 2 0))))],[(.pack [(.obj 95 [(.p (.str (I.hid (α:=Str) (skS y2))))])]),(.pack [(.obj 72 [(.p (.str ([]:Str))),(.row 1)]),(.row .fld 98 ([]:List Fld))]),(.pack [(.obj 72 [(.p (.str w0)),(.row 1)]),(.row .fld 98 (I.app (α:=Fld) l ([(Fld.mk y1 y3)]:List Fld)))])],60,none⟩) .qed))))))))) (.need (I.hid (α:=(Prop)) (And (LE.le (List.length (I.hid (α:=Str) (skS y0))) 1000000) (Not (Eq (Prod.fst (parM (I.hid (α:=Str) (skS y0)))) (0:Int))))) (.fin (.pan (.ifc 91 .false [(.int .i64 (I.hid (α:=Int) (Prod.fst (parM (I.hid (α:=Str) (skS y0))))))])) [y5])))) (.br (I.hid (α:=Bool) (I.bnot (I.seq y0 ([]:Str)))) (.need (I.hid (α:=(Prop)) (Eq (I.bnot (I.seq y0 ([]:Str))) Bool.true)) (.fin (.pan (.ifc 91 .false [(.int .i64 5)])) [y6])) (.need (I.hid (α:=(Prop)) (Eq (I.bnot (I.seq y0 ([]:Str))) Bool.false)) (.fin (.ret (.v (.agg [(.p (.str w0)),(.p (.list .fld l))]))) [y6]))))) (by kernel_rfl) ?_
    simp only [zq]
    cases n with
    |zero=>omega
    |succ n=>
    simp only [medL] at hm
    have hgo:=hA (skS (parM (skS (t.drop 1))).2.2,l++[(parM (skS (t.drop 1))).2.1])
    have hpl:=VT (skS (t.drop 1))
    have hpc:=Tf (skS (t.drop 1))
    have hsl:=yT (t.drop 1)
    have hsr:=yT (parM (skS (t.drop 1))).2.2
    rw [List.length_drop] at hsl
    clear hA
    simp only [hh,show UInt8.ofNat (Int.toNat 59)=59 from rfl]
    subst hI
    by_cases h59:zC t 59=true
    · have hpos:=Vg h59
      simp only [h59,if_true] at hm ⊢
      have hgo2:(parM (skS (t.drop 1))).1=0→(getP l (parM (skS (t.drop 1))).2.1.name).2=false→¬ l.length=8→_:=fun h1 h2 h3=>hgo ⟨by simp only;omega,by simp only [List.length_append,List.length_cons,List.length_nil];omega,n,by simp only;omega,by
        rw [if_neg (fun h=>h h1),if_neg (by rw [h2];exact Bool.false_ne_true),if_neg h3] at hm;exact hm⟩ (by simp only;omega)
      clear hgo
      simp only at hgo2
      generalize parM (skS (t.drop 1))=p at *
      obtain⟨pc,⟨pn,pv⟩,pr⟩:=p
      simp only at hgo2 hm hpl hpc hsl hsr ⊢
      simp only [nrmA,nrmB,nrlB,reduceCtorEq,List.length_cons,List.length_nil]
      (repeat' (first|refine And.intro ?_ ?_|intro _))<;>first|omega|exact True.intro|exact False.elim ‹False›|skip
      all_goals first
        |omega
        |assumption
        | (by_cases hpz:pc=0
           · exact hpz
           · rw [if_pos hpz] at hm;simp only [Prod.mk.injEq] at hm;exact hm.1)
        |exact hgo2 ‹_› ‹_› (by omega)
        |(exfalso;rw [if_neg (fun h=>h ‹pc=0›),if_neg (by rw [‹(getP l pn).2=false›];exact Bool.false_ne_true),if_pos (by omega)] at hm;simp_all;done)
        |(rw [if_neg (fun h=>h ‹pc=0›),if_neg (by rw [‹(getP l pn).2=false›];exact Bool.false_ne_true),if_pos (by omega)] at hm;simp_all;done)
        |(exfalso;simp_all;done)
        |(simp_all;done)
    · have h59:zC t 59=false:=by simpa using h59
      simp only [h59,Bool.false_eq_true,if_false] at hm ⊢
      simp only [nrmA,nrmB,nrlB,reduceCtorEq,List.length_cons,List.length_nil]
      (repeat' (first|refine And.intro ?_ ?_|intro _))<;>first|omega|exact True.intro|exact False.elim ‹False›|skip
      all_goals first
        |omega
        |(exfalso;simp_all;done)
        |(simp_all;done)
        |(by_cases hte:t=[]<;>simp_all;done)
  have hl1:=yT s
  have hl2:=xu (skS s)
  have hl3:=yF (skS s)
  simp only [hh,show UInt8.ofNat (Int.toNat 47)=47 from rfl,decide_eq_true_eq,decide_eq_false_iff_not]
  unfold zY medA at hr
  generalize skS s=t at *
  have hl4:=yF ((tokE t).drop 1)
  have hl5:=xu ((tokE t).drop 1)
  rw [List.length_drop] at hl4 hl5
  (repeat' (first|refine And.intro ?_ ?_|intro _))
  all_goals try first|trivial|assumption|omega|(exfalso;simp_all;done)|(subst hI;(try(simp only [nrmA,nrmB,nrlB,reduceCtorEq,List.length_cons,List.length_nil,yI]))<;>first|omega|(simp_all [yI];done)|(simp_all [yI];omega))
  all_goals(have happ: ∀ a b:Str,I.app (α:=UInt8) a b=a++b:=by subst hI;intros;rfl)
  all_goals try simp only [happ]
  all_goals first
    | (rename_i q1 q2 q3
       rw [if_neg q1,if_pos q2] at hr
       simp only [q2,if_true] at q3 ⊢
       rw [if_neg q3] at hr
       have hsk:=yT (tokE ((tokE t).drop 1))
       exact key _ _ (by omega) hr)
    | (rename_i q1 q2
       rw [if_neg q1,if_neg (by simp [q2])] at hr
       simp only [q2,Bool.false_eq_true,if_false] at ⊢
       have hsk:=yT (tokE t)
       exact key _ _ (by omega) hr)
def V3 (I:Alg) (args:List D) (hp:List HO):Option CT:=match args,hp with
  |[.v (.one (.ptr 0 0))],[.pack [.obj 95 [(.p (.str s))]]]=>(fun(s:Str)=>(some (.br (I.hid (decide ((zY s).1=0))) (.one ⟨I.hid (s.length≤1000000∧(zY s).1=0),(.ret (.v (.agg [(.p (.str (I.hid ((zY s).2.1.word)))),(.p (.list .fld (I.hid ((zY s).2.1.params))))]))),[.pack [.obj 95 [(.p (.str (I.hid ((zY s).2.2))))]]]⟩) (.one ⟨I.hid (s.length≤1000000∧¬ (zY s).1=0),(.pan (.ifc 91 false [(.int .i64 (I.hid ((zY s).1)))])),[.pack [.obj 95 [(.p (.str (I.hid ((zY s).2.2))))]]]⟩)):Option CT)) s
  |_,_=>none
theorem zcQ:zx Tryd.prog 51 (V3 alg):=by
  intro args hp r h
  unfold V3 at h
  split at h
  · cases h;exact⟨fun _ hn=>zhw _ hn,fun _ hn=>zhv _ hn⟩
  · cases h
def zgh:Know Tryd.prog:=⟨51,V3,zcQ⟩
def zgg:Know Tryd.prog:=⟨51,fun I=>zA I (V3 I),zf zcQ⟩
end Go.Proofs.YtknaogelmckimaaDoor
namespace Go.Proofs.YtknaogelmckimaaDoor
open Go Go.Sep Go.Ab
set_option maxRecDepth 100000
theorem zhB (w:Str) (l:List Fld) (n:Int) (s:Str):SpcD Tryd.prog 50 [.ptr 0 0,.ptr 1 0] .ret [.obj 72 [.p (.str w),.p (.list .fld l)],.obj 3 [.p (.int .i64 n)],.pack [.obj 95 [.p (.str s)]]] .ret [.obj 72 [.p (.str w),.p (.list .fld l)],.obj 3 [.p (.int .i64 n)],.obj 95 [.p (.str s)]]:=by
  refine WJ zk mixed Tryd.func50 (by kernel_rfl) { flat:=true} [] (rest:=_) rfl (by kernel_rfl) ?_
  intro I X hI hX
  refine zh (.fin (.ret (.tup [])) [(.obj 72 [(.p (.str w)),(.p (.list .fld l))]),(.obj 3 [(.p (.int .i64 n))]),(.obj 95 [(.p (.str s))])]) (by kernel_rfl) ?_
  simp only [zq]
  try trivial
theorem zhA (w:Str) (n k:Int) (s:Str):SpcD Tryd.prog 50 [.ptr 0 0,.ptr 1 0] (.pan (.ifc 91 false [.int .i64 k])) [.obj 72 [.p (.str w),.nilS],.obj 3 [.p (.int .i64 n)],.pack [.obj 95 [.p (.str s)]]] .ret [.obj 72 [.p (.str []),.nilS],.obj 3 [.p (.int .i64 k)],.obj 95 [.p (.str s)]]:=by
  refine WJ zk mixed Tryd.func50 (by kernel_rfl) { flat:=true} [] (rest:=_) rfl (by kernel_rfl) ?_
  intro I X hI hX
  refine zh (.fin (.ret (.tup [])) [(.obj 72 [(.p (.str ([]:Str))),.nilS]),(.obj 3 [(.p (.int .i64 k))]),(.obj 95 [(.p (.str s))])]) (by kernel_rfl) ?_
  simp only [zq]
  try trivial
def zit:Door Tryd.prog where
  g:=50
  c :=fun _ m caps hp=>match m,caps,hp with
    |.ret,[.ptr 0 0,.ptr 1 0],[.obj 72 [.p (.str w),.p (.list .fld l)],.obj 3 [.p (.int .i64 n)],.pack [.obj 95 [.p (.str s)]]]=>some (True,.ret,[.obj 72 [.p (.str w),.p (.list .fld l)],.obj 3 [.p (.int .i64 n)],.obj 95 [.p (.str s)]])
    |.pan (.ifc 91 false [.int .i64 k]),[.ptr 0 0,.ptr 1 0],[.obj 72 [.p (.str w),.nilS],.obj 3 [.p (.int .i64 n)],.pack [.obj 95 [.p (.str s)]]]=>some (True,.ret,[.obj 72 [.p (.str []),.nilS],.obj 3 [.p (.int .i64 k)],.obj 95 [.p (.str s)]])
    |_,_,_=>none
  ok:=by
    intro m caps hp p m' hp' h _
    split at h
    · cases h;exact zhB _ _ _ _
    · cases h;exact zhA _ _ _ _
    · cases h
theorem zgf (s:Str) (hneed:s.length≤1000000):Spc Tryd.prog 28 [.v (.one (.p (.str s)))] [] (.ret (.tup [(.agg [(.p (.str ((zN s).1.word))),(.p (.list .fld ((zN s).1.params)))]),(.one (.p (.int .i64 ((zN s).2))))])) []:=by
  generalize hr:zN s=r
  obtain⟨⟨w,ps⟩,c⟩:=r
  unfold zN at hr
  refine ziq zk mixed Tryd.func28 (by kernel_rfl) { cfgM with keep:=some [0,2,3,4]} [su,tZ,zgh,zgg] zit (by kernel_rfl) ?_
  intro I X hI hX
  refine zh (.need (I.hid (α:=(Prop)) (LE.le (List.length s) 1000000)) (.br (I.bnot (I.hid (α:=Bool) (wF s))) (.fin (.ret (.tup [(.agg [(.p (.str ([]:Str))),(.p (.list .fld ([]:List Fld)))]),(.one (.p (.int .i64 3)))])) []) (.br (I.hid (α:=Bool) (Decidable.decide (Eq (Prod.fst (zY s)) (0:Int)))) (.need (I.hid (α:=(Prop)) (And (LE.le (List.length s) 1000000) (Eq (Prod.fst (zY s)) (0:Int)))) (.need True (.fin (.ret (.tup [(.agg [(.p (.str (I.hid (α:=Str) (Go.Ab.Med.word (Prod.fst (Prod.snd (zY s))))))),(.p (.list .fld (I.hid (α:=(List Fld)) (Go.Ab.Med.params (Prod.fst (Prod.snd (zY s)))))))]),(.one (.p (.int .i64 0)))])) []))) (.need (I.hid (α:=(Prop)) (And (LE.le (List.length s) 1000000) (Not (Eq (Prod.fst (zY s)) (0:Int))))) (.need True (.fin (.ret (.tup [(.agg [(.p (.str ([]:Str))),(.p (.list .fld ([]:List Fld)))]),(.one (.p (.int .i64 (I.hid (α:=Int) (Prod.fst (zY s))))))])) [])))))) (by kernel_rfl) ?_
  simp only [zq]
  subst hI
  simp only [nrmA,nrmB,nrlB,reduceCtorEq,V0.agg.injEq]
  (repeat' (first|refine And.intro ?_ ?_|intro _))<;>first|omega|exact True.intro|exact False.elim ‹False›|skip
  all_goals first|(simp_all;done)|trace_state
def qX (I:Alg) (args:List D) (hp:List HO):Option CT:=match args,hp with
  |[.v (.one (.p (.str s)))],[]=>(fun(s:Str)=>(some (.one ⟨I.hid (s.length≤1000000),(.ret (.tup [(.agg [(.p (.str (I.hid ((zN s).1.word)))),(.p (.list .fld (I.hid ((zN s).1.params))))]),(.one (.p (.int .i64 (I.hid ((zN s).2)))))])),[]⟩):Option CT)) s
  |_,_=>none
theorem Tj:zx Tryd.prog 28 (qX alg):=by
  intro args hp r h
  unfold qX at h
  split at h
  · cases h;exact fun hn=>zgf _ hn
  · cases h
def zcO:Know Tryd.prog:=⟨28,qX,Tj⟩
def zcN:Know Tryd.prog:=⟨28,fun I=>zA I (qX I),zf Tj⟩
end Go.Proofs.YtknaogelmckimaaDoor
namespace Go.Proofs.YtknaogelmckimaaDoor
open Go Go.Sep Go.Ab
set_option maxRecDepth 100000
theorem VS: ∀ (n:Nat) (r:Str),r.length≤n→∀ v,pctM r=some v→v.length≤r.length
  |n,[],_,v,h=>by rw [pctM] at h;cases h;exact Nat.le_refl _
  |0,c::r,h,_,_=>by simp at h
  | n + 1,c::r,hl,v,h=>by
    rw [List.length_cons] at hl
    rw [pctM.eq_def] at h
    simp only at h
    split at h
    · cases hp:pctM r with
      |none=>rw [hp] at h;cases h
      | some u=>
        rw [hp] at h;cases h
        have:=VS n r (by omega) u hp
        simp only [List.length_cons];omega
    · split at h
      · rename_i a b r'
        split at h
        · cases h
        · cases hp:pctM r' with
          |none=>rw [hp] at h;cases h
          | some u=>
            rw [hp] at h;cases h
            have:=VS n r' (by simp only [List.length_cons] at hl;omega) u hp
            simp only [List.length_cons];omega
      · cases h
theorem zfa (s:Str):(extV s).length≤s.length:=by
  unfold extV extM
  split
  · simp
  · cases h:pctM (s.drop 7) with
    |none=>simp
    | some v=>
      have:=VS _ _ (Nat.le_refl _) v h
      rw [List.length_drop] at this
      simp only [Option.getD_some];omega
def PsOk (N:Nat) (l:List Fld):Prop:=l.length≤8∧∀ f ∈ l,f.value.length≤N
theorem zc0 (N:Nat): ∀ (n:Nat) (s:Str) (ps:List Fld),s.length≤N→PsOk N ps→PsOk N (medL n s ps).2.1
  |0,s,ps,_,h=>h
  | n + 1, s,ps,hs,h=>by
    rw [medL]
    have h1:=yT (s.drop 1)
    have h2:=VT (skS (s.drop 1))
    have h3:=yT (parM (skS (s.drop 1))).2.2
    rw [List.length_drop] at h1
    split
    · split
      · exact h
      · split
        · exact h
        · split
          · exact h
          · rename_i h8
            refine zc0 N n _ _ (by omega) ⟨by rw [List.length_append,List.length_singleton];have:=h.1;omega,fun f hf=> ?_⟩
            rcases List.mem_append.1 hf with h5|h5
            · exact h.2 f h5
            · rw [List.mem_singleton.1 h5];omega
    · split<;>exact h
theorem Td (s:Str):PsOk s.length (zN s).1.params:=by
  have h0:PsOk s.length []:=⟨by decide,fun f h=>by cases h⟩
  have hb: ∀ w t:Str,t.length≤s.length→PsOk s.length (medB w t).2.1.params:=fun w t ht=>by
    have h1:=yT t
    exact zc0 s.length _ _ [] (by omega) h0
  have h1:=yT s
  have h2:=xu (skS s)
  have h3:=xu ((tokE (skS s)).drop 1)
  rw [List.length_drop] at h3
  have hm:PsOk s.length (zY s).2.1.params:=by
    unfold zY medA
    split
    · exact h0
    · split
      · split
        · exact h0
        · exact hb _ _ (by omega)
      · exact hb _ _ (by omega)
  unfold zN
  split
  · exact h0
  · split
    · exact hm
    · exact h0
theorem za5 {N:Nat} {l:List Fld} (h: ∀ f ∈ l,f.value.length≤N) (n:Str):(getP l n).1.length≤N:=by
  unfold getP
  cases hf:l.find? (fun f=>f.name == n) with
  |none=>simp
  |some f=>exact h f (List.mem_of_find?_eq_some hf)
theorem zaL {N:Nat} {l:List Fld} (h: ∀ f ∈ l,f.value.length≤N) (n:Str):(oneF (valsF l n)).1.length≤N:=by
  unfold oneF
  split
  · simp
  · split
    · rename_i h1
      match hv:valsF l n,h1 with
      | [x],_=>
        have:x ∈ valsF l n:=by rw [hv];exact List.mem_singleton.2 rfl
        unfold valsF at this
        obtain⟨f,hf,rfl⟩:=List.mem_map.1 this
        exact h f (List.mem_filter.1 hf).1
    · simp
theorem zh6 (l:List Fld) (hneed:l.length≤1000∧∀ f ∈ l,f.name.length≤1000000∧f.value.length≤1000000):Spc Tryd.prog 14 [.v (.one (.p (.list .fld l)))] [] (.ret (.tup [(.agg [(.p (.str ((yw l).1.name))),(.p (.str ((yw l).1.file))),(.p (.str ((yw l).1.type))),.nilS]),(.one (.p (.int .i64 ((yw l).2))))])) []:=by
  obtain⟨hl,hf⟩:=hneed
  generalize hr:yw l=r
  refine spcG zk mixed Tryd.func14 (by kernel_rfl) { raw:=true,keep:=some [0,2,3,4,5,6,7,8,9,10,11,12,13,77]} [zgV,zgU,zgX,zgW,Uk,Uj,XB,XA,zcO,zcN] (by kernel_rfl) ?_
  intro I X hI hX
  refine zh (let y3:=([99,111,110,116,101,110,116,45,100,105,115,112,111,115,105,116,105,111,110]:Str);let y8:=I.hid (α:=Str) (Prod.fst (oneF (valsF l y3)));let y0:=I.hid (α:=(List Fld)) (Go.Ab.Med.params (Prod.fst (zN y8)));let y1:=I.hid (α:=Int) (Prod.snd (oneF (valsF l ([99,111,110,116,101,110,116,45,116,121,112,101]:Str))));let y2:=I.hid (α:=(Prop)) (And (LE.le (List.length l) 1000) (And (LE.le (List.length ([99,111,110,116,101,110,116,45,116,121,112,101]:Str)) 1000000) (∀ (f:Fld),f ∈ l→List.length f.name≤1000000∧List.length f.value≤1000000)));let y4:=I.hid (α:=Str) (Prod.fst (getP y0 ([110,97,109,101]:Str)));let y5:=I.hid (α:=Str) (Prod.fst (getP y0 ([102,105,108,101,110,97,109,101,42]:Str)));let y6:=I.hid (α:=Str) (Prod.fst (oneF (valsF l ([99,111,110,116,101,110,116,45,116,121,112,101]:Str))));let y7:=I.hid (α:=Str) (Prod.fst (getP y0 ([102,105,108,101,110,97,109,101]:Str)));let y9:=I.hid (α:=(Prop)) (LE.le (List.length y0) 1000000);let y10:=I.hid (α:=Str) (xZ (I.hid (α:=Str) (extV y5)));let y11:=I.hid (α:=Int) (Prod.snd (oneF (valsF l y3)));let y12:=I.hid (α:=Int) (Prod.snd (zN y8));.need (I.hid (α:=(Prop)) (And (LE.le (List.length l) 1000) (And (LE.le (List.length y3) 1000000) (∀ (f:Fld),f ∈ l→List.length f.name≤1000000∧List.length f.value≤1000000)))) (.br (I.bnot (I.ieq y11 0)) (.fin (.ret (.tup [(.agg [(.p (.str ([]:Str))),(.p (.str ([]:Str))),(.p (.str ([]:Str))),.nilS]),(.one (.p (.int .i64 y11)))])) []) (.need (I.hid (α:=(Prop)) (LE.le (List.length y8) 1000000)) (.br (I.bnot (I.ieq y12 0)) (.fin (.ret (.tup [(.agg [(.p (.str ([]:Str))),(.p (.str ([]:Str))),(.p (.str ([]:Str))),.nilS]),(.one (.p (.int .i64 y12)))])) []) (.br (I.bnot (I.seq (I.hid (α:=Str) (Go.Ab.Med.word (Prod.fst (zN y8)))) ([102,111,114,109,45,100,97,116,97]:Str))) (.fin (.ret (.tup [(.agg [(.p (.str ([]:Str))),(.p (.str ([]:Str))),(.p (.str ([]:Str))),.nilS]),(.one (.p (.int .i64 11)))])) []) (.need y9 (.br (I.bnot (I.hid (α:=Bool) (Prod.snd (getP y0 ([110,97,109,101]:Str))))) (.fin (.ret (.tup [(.agg [(.p (.str ([]:Str))),(.p (.str ([]:Str))),(.p (.str ([]:Str))),.nilS]),(.one (.p (.int .i64 6)))])) []) (.need y9 (.need y9 (.br (I.hid (α:=Bool) (Prod.snd (getP y0 ([102,105,108,101,110,97,109,101,42]:Str)))) (.need (I.hid (α:=(Prop)) (LE.le (List.length y5) 1000000)) (.br (I.bnot (I.hid (α:=Bool) (extB y5))) (.fin (.ret (.tup [(.agg [(.p (.str ([]:Str))),(.p (.str ([]:Str))),(.p (.str ([]:Str))),.nilS]),(.one (.p (.int .i64 5)))])) []) (.br (I.hid (α:=Bool) (extB y5)) (.need (I.hid (α:=(Prop)) (LE.le (List.length (I.hid (α:=Str) (extV y5))) 1000000)) (.need y2 (.br (I.ieq y1 0) (.fin (.ret (.tup [(.agg [(.p (.str y4)),(.p (.str y10)),(.p (.str y6)),.nilS]),(.one (.p (.int .i64 0)))])) []) (.br (I.ieq y1 9) (.fin (.ret (.tup [(.agg [(.p (.str ([]:Str))),(.p (.str ([]:Str))),(.p (.str ([]:Str))),.nilS]),(.one (.p (.int .i64 y1)))])) []) (.fin (.ret (.tup [(.agg [(.p (.str y4)),(.p (.str y10)),(.p (.str ([]:Str))),.nilS]),(.one (.p (.int .i64 0)))])) []))))) (.need y2 (.br (I.ieq y1 0) (.fin (.ret (.tup [(.agg [(.p (.str y4)),(.p (.str ([]:Str))),(.p (.str y6)),.nilS]),(.one (.p (.int .i64 0)))])) []) (.br (I.ieq y1 9) (.fin (.ret (.tup [(.agg [(.p (.str ([]:Str))),(.p (.str ([]:Str))),(.p (.str ([]:Str))),.nilS]),(.one (.p (.int .i64 y1)))])) []) (.fin (.ret (.tup [(.agg [(.p (.str y4)),(.p (.str ([]:Str))),(.p (.str ([]:Str))),.nilS]),(.one (.p (.int .i64 0)))])) []))))))) (.br (I.hid (α:=Bool) (Prod.snd (getP y0 ([102,105,108,101,110,97,109,101]:Str)))) (.need (I.hid (α:=(Prop)) (LE.le (List.length y7) 1000000)) (.need y2 (.br (I.ieq y1 0) (.fin (.ret (.tup [(.agg [(.p (.str y4)),(.p (.str (I.hid (α:=Str) (xZ y7)))),(.p (.str y6)),.nilS]),(.one (.p (.int .i64 0)))])) []) (.br (I.ieq y1 9) (.fin (.ret (.tup [(.agg [(.p (.str ([]:Str))),(.p (.str ([]:Str))),(.p (.str ([]:Str))),.nilS]),(.one (.p (.int .i64 y1)))])) []) (.fin (.ret (.tup [(.agg [(.p (.str y4)),(.p (.str (I.hid (α:=Str) (xZ y7)))),(.p (.str ([]:Str))),.nilS]),(.one (.p (.int .i64 0)))])) []))))) (.need y2 (.br (I.ieq y1 0) (.fin (.ret (.tup [(.agg [(.p (.str y4)),(.p (.str ([]:Str))),(.p (.str y6)),.nilS]),(.one (.p (.int .i64 0)))])) []) (.br (I.ieq y1 9) (.fin (.ret (.tup [(.agg [(.p (.str ([]:Str))),(.p (.str ([]:Str))),(.p (.str ([]:Str))),.nilS]),(.one (.p (.int .i64 y1)))])) []) (.fin (.ret (.tup [(.agg [(.p (.str y4)),(.p (.str ([]:Str))),(.p (.str ([]:Str))),.nilS]),(.one (.p (.int .i64 0)))])) []))))))))))))))) (by kernel_rfl) ?_
  simp only [zq]
  try rw [show([99,111,110,116,101,110,116,45,100,105,115,112,111,115,105,116,105,111,110]:Str)=yR from rfl]
  try rw [show([99,111,110,116,101,110,116,45,116,121,112,101]:Str)=Zx from rfl]
  try rw [show([102,111,114,109,45,100,97,116,97]:Str)=Rn from rfl]
  try rw [show([102,105,108,101,110,97,109,101]:Str)=QF from rfl]
  try rw [show([102,105,108,101,110,97,109,101,42]:Str)=Yx from rfl]
  try rw [show([110,97,109,101]:Str)=zcX from rfl]
  have hk1:yR.length≤1000000:=by decide
  have hk2:Zx.length≤1000000:=by decide
  have hv:=zaL (fun f h=>(hf f h).2) yR
  have hp:=Td (oneF (valsF l yR)).1
  have hg:=fun n=>za5 hp.2 n
  have hg1:=hg Yx
  have hg2:=hg QF
  have hx:=zfa (getP (zN (oneF (valsF l yR)).1).1.params Yx).1
  unfold yw at hr
  subst hI
  simp only [nrmA,nrmB,nrlB,reduceCtorEq]
  have hpl:=hp.1
  clear hp hg
  generalize oneF (valsF l Zx)=t at *
  generalize getP (zN (oneF (valsF l yR)).1).1.params Yx=x at *
  generalize getP (zN (oneF (valsF l yR)).1).1.params QF=f at *
  generalize getP (zN (oneF (valsF l yR)).1).1.params zcX=n at *
  generalize zN (oneF (valsF l yR)).1=m at *
  generalize oneF (valsF l yR)=a at *
  unfold zeH zge partT at hr
  (repeat' (first|refine And.intro ?_ ?_|intro _))<;>first|omega|exact True.intro|exact False.elim ‹False›|skip
  all_goals first
    |omega
    |exact hl
    |exact hk1
    |exact hk2
    |exact(hf _ ‹_›).1
    |exact(hf _ ‹_›).2
    |exact absurd (‹extB x.fst=true›.symm.trans ‹extB x.fst=false›) (by decide)
    |(subst hr;clear hf hX hv hg1 hg2 hx hpl hl hk1 hk2;simp [*,prt0];done)
def Xa (I:Alg) (args:List D) (hp:List HO):Option CT:=match args,hp with
  |[.v (.one (.p (.list .fld l)))],[]=>(fun(l:List Fld)=>(some (.one ⟨I.hid (l.length≤1000∧∀ f ∈ l,f.name.length≤1000000∧f.value.length≤1000000),(.ret (.tup [(.agg [(.p (.str (I.hid ((yw l).1.name)))),(.p (.str (I.hid ((yw l).1.file)))),(.p (.str (I.hid ((yw l).1.type)))),.nilS]),(.one (.p (.int .i64 (I.hid ((yw l).2)))))])),[]⟩):Option CT)) l
  |_,_=>none
theorem zbj:zx Tryd.prog 14 (Xa alg):=by
  intro args hp r h
  unfold Xa at h
  split at h
  · cases h;exact fun hn=>zh6 _ hn
  · cases h
def Um:Know Tryd.prog:=⟨14,Xa,zbj⟩
def Ul:Know Tryd.prog:=⟨14,fun I=>zA I (Xa I),zf zbj⟩
end Go.Proofs.YtknaogelmckimaaDoor
namespace Go.Proofs.YtknaogelmckimaaDoor
open Go Go.Sep Go.Ab
set_option maxRecDepth 100000
def zg1:Cfg:= { sl:=[⟨106,0,.byte,some 5⟩]}
theorem zhL:Spc Tryd.prog 45 [] [] (.ret (.v (.one (.ptr 0 0)))) [.pack [.obj 106 [(.row 1),(.p (.bool false)),(.p (.int .i64 0))],.row .byte 5 ([])]]:=by
  refine spcG zk mixed Tryd.func45 (by kernel_rfl) { zg1 with keep:=some [0]} [] (by kernel_rfl) ?_
  intro I X hI hX
  refine zh (.fin (.ret (.v (.one (.ptr 0 0)))) [(.pack [(.obj 106 [(.row 1),(.p (.bool Bool.false)),(.p (.int .i64 0))]),(.row .byte 5 ([]:Str))])]) (by kernel_rfl) ?_
  simp only [zq]
  trivial
def Y1 (I:Alg) (args:List D) (hp:List HO):Option CT:=match args,hp with
  |[],[]=>(fun(_:Unit)=>(some (.one ⟨I.hid (True),(.ret (.v (.one (.ptr 0 0)))),[.pack [.obj 106 [(.row 1),(.p (.bool false)),(.p (.int .i64 0))],.row .byte 5 (I.hid ([]))]]⟩):Option CT)) ()
  |_,_=>none
theorem zaX:zx Tryd.prog 45 (Y1 alg):=by
  intro args hp r h
  unfold Y1 at h
  split at h
  · cases h;exact fun hn=>zhL
  · cases h
def zaW:Know Tryd.prog:=⟨45,Y1,zaX⟩
def zaV:Know Tryd.prog:=⟨45,fun I=>zA I (Y1 I),zf zaX⟩
theorem zgs (b:Str) (cr:Bool) (code c:Int):Spc Tryd.prog 61 [.v (.one (.ptr 0 0)),.v (.one (.p (.int .i64 c)))] [.pack [.obj 106 [(.row 1),(.p (.bool cr)),(.p (.int .i64 code))],.row .byte 5 b]] (.ret (.tup [(.one (.p (.str ([])))),(.one (.p (.bool false))),(.one (.p (.int .i64 c)))])) [.pack [.obj 106 [(.row 1),(.p (.bool cr)),(.p (.int .i64 c))],.row .byte 5 b]]:=by
  refine spcG zk mixed Tryd.func61 (by kernel_rfl) { zg1 with keep:=some [0,1,4,5,6]} [] (by kernel_rfl) ?_
  intro I X hI hX
  refine zh (.fin (.ret (.tup [(.one (.p (.str ([]:Str)))),(.one (.p (.bool Bool.false))),(.one (.p (.int .i64 c)))])) [(.pack [(.obj 106 [(.row 1),(.p (.bool cr)),(.p (.int .i64 c))]),(.row .byte 5 b)])]) (by kernel_rfl) ?_
  simp only [zq]
  subst hI
  simp only [nrmA,nrmB,nrlB,reduceCtorEq,HO.pack.injEq,HO.obj.injEq]
  try trivial
def Zd (I:Alg) (args:List D) (hp:List HO):Option CT:=match args,hp with
  |[.v (.one (.ptr 0 0)),.v (.one (.p (.int .i64 c)))],[.pack [.obj 106 [(.row 1),(.p (.bool cr)),(.p (.int .i64 code))],.row .byte 5 b]]=>(fun(b:Str) (cr:Bool) (code c:Int)=>(some (.one ⟨I.hid (True),(.ret (.tup [(.one (.p (.str (I.hid ([]))))),(.one (.p (.bool false))),(.one (.p (.int .i64 c)))])),[.pack [.obj 106 [(.row 1),(.p (.bool cr)),(.p (.int .i64 c))],.row .byte 5 b]]⟩):Option CT)) b cr code c
  |_,_=>none
theorem TD:zx Tryd.prog 61 (Zd alg):=by
  intro args hp r h
  unfold Zd at h
  split at h
  · cases h;exact fun hn=>zgs _ _ _ _
  · cases h
def zc4:Know Tryd.prog:=⟨61,Zd,TD⟩
def zc3:Know Tryd.prog:=⟨61,fun I=>zA I (Zd I),zf TD⟩
set_option maxHeartbeats 4000000 in
theorem zgr (b:Str) (cr:Bool) (code k:Int) (hneed:0≤k∧k≤255∧b.length≤1000000):Spc Tryd.prog 46 [.v (.one (.ptr 0 0)),.v (.one (.p (.int .u8 k)))] [.pack [.obj 106 [(.row 1),(.p (.bool cr)),(.p (.int .i64 code))],.row .byte 5 b]] (.ret (.tup [(.one (.p (.str ((lnF ⟨b,cr,code⟩ (UInt8.ofNat k.toNat)).2.1)))),(.one (.p (.bool ((lnF ⟨b,cr,code⟩ (UInt8.ofNat k.toNat)).2.2.1)))),(.one (.p (.int .i64 ((lnF ⟨b,cr,code⟩ (UInt8.ofNat k.toNat)).2.2.2))))])) [.pack [.obj 106 [(.row 1),(.p (.bool ((lnF ⟨b,cr,code⟩ (UInt8.ofNat k.toNat)).1.cr))),(.p (.int .i64 ((lnF ⟨b,cr,code⟩ (UInt8.ofNat k.toNat)).1.code)))],.row .byte 5 ((lnF ⟨b,cr,code⟩ (UInt8.ofNat k.toNat)).1.b)]]:=by
  obtain⟨hk0,hk1,hbl⟩:=hneed
  have hkk:((UInt8.ofNat k.toNat).toNat:Int)=k:=by rw [UInt8.toNat_ofNat',Nat.mod_eq_of_lt (by omega)];omega
  generalize hr:lnF ⟨b,cr,code⟩ (UInt8.ofNat k.toNat)=r
  have h10:UInt8.ofNat k.toNat=10↔k=10:=⟨fun h=>by rw [h] at hkk;exact hkk.symm,fun h=>by subst h;rfl⟩
  have h13:UInt8.ofNat k.toNat=13↔k=13:=⟨fun h=>by rw [h] at hkk;exact hkk.symm,fun h=>by subst h;rfl⟩
  unfold lnF zhf at hr
  rw [hkk] at hr
  simp only [h10,h13] at hr
  obtain⟨⟨rb,rc,rcode⟩,rt,ro,re⟩:=r
  refine spcG zk mixed Tryd.func46 (by kernel_rfl) { zg1 with nr:=[8],keep:=some [0,1,4,5,6,7]} [wL,sK,zc4,zc3] (by kernel_rfl) ?_
  intro I X hI hX
  refine zh (let y0:HO:=.pack [(.obj 106 [(.row 1),(.p (.bool cr)),(.p (.int .i64 code))]),(.row .byte 5 (I.app (α:=UInt8) b ([(I.i2b k)]:Str)))];let y1:HO:=.pack [(.obj 106 [(.row 1),(.p (.bool Bool.false)),(.p (.int .i64 code))]),(.row .byte 5 ([]:Str))];let y2:=I.few (I.add (I.len (α:=UInt8) b) (I.len (α:=UInt8) ([(I.i2b k)]:Str))) 140737488355328;let y3:HO:=.pack [(.obj 106 [(.row 1),(.p (.bool Bool.true)),(.p (.int .i64 code))]),(.row .byte 5 b)];let y4:HO:=.pack [(.obj 106 [(.row 1),(.p (.bool cr)),(.p (.int .i64 3))]),(.row .byte 5 b)];let y5:HO:=.pack [(.obj 106 [(.row 1),(.p (.bool cr)),(.p (.int .i64 4))]),(.row .byte 5 b)];let y6:HO:=.pack [(.obj 106 [(.row 1),(.p (.bool cr)),(.p (.int .i64 2))]),(.row .byte 5 b)];let y7:=I.bnot (I.hid (α:=Bool) (wQ k));let y8:=I.ieq (I.len (α:=UInt8) b) 200;.br (I.bnot (I.ieq code 0)) (.fin (.ret (.tup [(.one (.p (.str ([]:Str)))),(.one (.p (.bool Bool.false))),(.one (.p (.int .i64 code)))])) [(.pack [(.obj 106 [(.row 1),(.p (.bool cr)),(.p (.int .i64 code))]),(.row .byte 5 b)])]) (.br cr (.br (I.bnot (I.ieq k 10)) (.need (I.hid (α:=(Prop)) True) (.fin (.ret (.tup [(.one (.p (.str (I.hid (α:=Str) ([]:Str))))),(.one (.p (.bool Bool.false))),(.one (.p (.int .i64 2)))])) [y6])) (.br (I.bnot cr) (.br (I.ieq k 10) (.need (I.hid (α:=(Prop)) True) (.fin (.ret (.tup [(.one (.p (.str (I.hid (α:=Str) ([]:Str))))),(.one (.p (.bool Bool.false))),(.one (.p (.int .i64 2)))])) [y6])) (.br cr (.fin (.ret (.tup [(.one (.p (.str b))),(.one (.p (.bool Bool.true))),(.one (.p (.int .i64 0)))])) [y1]) (.br (I.ieq k 13) (.fin (.ret (.tup [(.one (.p (.str ([]:Str)))),(.one (.p (.bool Bool.false))),(.one (.p (.int .i64 0)))])) [y3]) (.need (I.hid (α:=(Prop)) True) (.br y7 (.need (I.hid (α:=(Prop)) True) (.fin (.ret (.tup [(.one (.p (.str (I.hid (α:=Str) ([]:Str))))),(.one (.p (.bool Bool.false))),(.one (.p (.int .i64 3)))])) [y4])) (.br y8 (.need (I.hid (α:=(Prop)) True) (.fin (.ret (.tup [(.one (.p (.str (I.hid (α:=Str) ([]:Str))))),(.one (.p (.bool Bool.false))),(.one (.p (.int .i64 4)))])) [y5])) (.need (I.inr Go.IntKind.u8 k) (.need y2 (.fin (.ret (.tup [(.one (.p (.str ([]:Str)))),(.one (.p (.bool Bool.false))),(.one (.p (.int .i64 0)))])) [y0]))))))))) (.br cr (.fin (.ret (.tup [(.one (.p (.str b))),(.one (.p (.bool Bool.true))),(.one (.p (.int .i64 0)))])) [y1]) (.br (I.ieq k 13) (.fin (.ret (.tup [(.one (.p (.str ([]:Str)))),(.one (.p (.bool Bool.false))),(.one (.p (.int .i64 0)))])) [y3]) (.need (I.hid (α:=(Prop)) True) (.br y7 (.need (I.hid (α:=(Prop)) True) (.fin (.ret (.tup [(.one (.p (.str (I.hid (α:=Str) ([]:Str))))),(.one (.p (.bool Bool.false))),(.one (.p (.int .i64 3)))])) [y4])) (.br y8 (.need (I.hid (α:=(Prop)) True) (.fin (.ret (.tup [(.one (.p (.str (I.hid (α:=Str) ([]:Str))))),(.one (.p (.bool Bool.false))),(.one (.p (.int .i64 4)))])) [y5])) (.need (I.inr Go.IntKind.u8 k) (.need y2 (.fin (.ret (.tup [(.one (.p (.str ([]:Str)))),(.one (.p (.bool Bool.false))),(.one (.p (.int .i64 0)))])) [y0])))))))))) (.br (I.bnot cr) (.br (I.ieq k 10) (.need (I.hid (α:=(Prop)) True) (.fin (.ret (.tup [(.one (.p (.str (I.hid (α:=Str) ([]:Str))))),(.one (.p (.bool Bool.false))),(.one (.p (.int .i64 2)))])) [y6])) (.br cr (.fin (.ret (.tup [(.one (.p (.str b))),(.one (.p (.bool Bool.true))),(.one (.p (.int .i64 0)))])) [y1]) (.br (I.ieq k 13) (.fin (.ret (.tup [(.one (.p (.str ([]:Str)))),(.one (.p (.bool Bool.false))),(.one (.p (.int .i64 0)))])) [y3]) (.need (I.hid (α:=(Prop)) True) (.br y7 (.need (I.hid (α:=(Prop)) True) (.fin (.ret (.tup [(.one (.p (.str (I.hid (α:=Str) ([]:Str))))),(.one (.p (.bool Bool.false))),(.one (.p (.int .i64 3)))])) [y4])) (.br y8 (.need (I.hid (α:=(Prop)) True) (.fin (.ret (.tup [(.one (.p (.str (I.hid (α:=Str) ([]:Str))))),(.one (.p (.bool Bool.false))),(.one (.p (.int .i64 4)))])) [y5])) (.need (I.inr Go.IntKind.u8 k) (.need y2 (.fin (.ret (.tup [(.one (.p (.str ([]:Str)))),(.one (.p (.bool Bool.false))),(.one (.p (.int .i64 0)))])) [y0]))))))))) (.br cr (.fin (.ret (.tup [(.one (.p (.str b))),(.one (.p (.bool Bool.true))),(.one (.p (.int .i64 0)))])) [y1]) (.br (I.ieq k 13) (.fin (.ret (.tup [(.one (.p (.str ([]:Str)))),(.one (.p (.bool Bool.false))),(.one (.p (.int .i64 0)))])) [y3]) (.need (I.hid (α:=(Prop)) True) (.br y7 (.need (I.hid (α:=(Prop)) True) (.fin (.ret (.tup [(.one (.p (.str (I.hid (α:=Str) ([]:Str))))),(.one (.p (.bool Bool.false))),(.one (.p (.int .i64 3)))])) [y4])) (.br y8 (.need (I.hid (α:=(Prop)) True) (.fin (.ret (.tup [(.one (.p (.str (I.hid (α:=Str) ([]:Str))))),(.one (.p (.bool Bool.false))),(.one (.p (.int .i64 4)))])) [y5])) (.need (I.inr Go.IntKind.u8 k) (.need y2 (.fin (.ret (.tup [(.one (.p (.str ([]:Str)))),(.one (.p (.bool Bool.false))),(.one (.p (.int .i64 0)))])) [y0]))))))))))) (by kernel_rfl) ?_
  simp only [zq]
  subst hI
  simp only [nrmA,nrmB,nrlB,reduceCtorEq,HO.pack.injEq,HO.obj.injEq]
  generalize UInt8.ofNat k.toNat=c at *
  cases cr
  all_goals simp only [Bool.false_eq_true,if_false,if_true] at hr
  all_goals(repeat' (first|refine And.intro ?_ ?_|intro _))<;>first|omega|exact True.intro|exact False.elim ‹False›|skip
  all_goals first
    |omega
    |(exfalso;simp at *;done)
    |(((repeat(first|rewrite [if_pos (by first|omega|assumption|(simp only [*,or_self,or_true,true_or,or_false,false_or,not_true_eq_false,not_false_eq_true,Bool.false_eq_true,Bool.true_eq_false,and_self,and_true,true_and];done)|(simp only [*];omega)|(simp [*];done)|(simp [*];omega))] at hr|rewrite [if_neg (by first|omega|assumption|(simp only [*,or_self,or_true,true_or,or_false,false_or,not_true_eq_false,not_false_eq_true,Bool.false_eq_true,Bool.true_eq_false,and_self,and_true,true_and];done)|(simp only [*];omega)|(simp [*];done)|(simp [*];omega))] at hr)));cases hr;first|rfl|done|with_reducible assumption|exact⟨rfl,rfl,rfl⟩|(simp;done)|(simp;omega))
def Zc (I:Alg) (args:List D) (hp:List HO):Option CT:=match args,hp with
  |[.v (.one (.ptr 0 0)),.v (.one (.p (.int .u8 k)))],[.pack [.obj 106 [(.row 1),(.p (.bool cr)),(.p (.int .i64 code))],.row .byte 5 b]]=>(fun(b:Str) (cr:Bool) (code k:Int)=>(some (.one ⟨I.hid (0≤k∧k≤255∧b.length≤1000000),(.ret (.tup [(.one (.p (.str (I.hid ((lnF ⟨b,cr,code⟩ (UInt8.ofNat k.toNat)).2.1))))),(.one (.p (.bool (I.hid ((lnF ⟨b,cr,code⟩ (UInt8.ofNat k.toNat)).2.2.1))))),(.one (.p (.int .i64 (I.hid ((lnF ⟨b,cr,code⟩ (UInt8.ofNat k.toNat)).2.2.2)))))])),[.pack [.obj 106 [(.row 1),(.p (.bool (I.hid ((lnF ⟨b,cr,code⟩ (UInt8.ofNat k.toNat)).1.cr)))),(.p (.int .i64 (I.hid ((lnF ⟨b,cr,code⟩ (UInt8.ofNat k.toNat)).1.code))))],.row .byte 5 (I.hid ((lnF ⟨b,cr,code⟩ (UInt8.ofNat k.toNat)).1.b))]]⟩):Option CT)) b cr code k
  |_,_=>none
theorem TB:zx Tryd.prog 46 (Zc alg):=by
  intro args hp r h
  unfold Zc at h
  split at h
  · cases h;exact fun hn=>zgr _ _ _ _ hn
  · cases h
def TA:Know Tryd.prog:=⟨46,Zc,TB⟩
def Tz:Know Tryd.prog:=⟨46,fun I=>zA I (Zc I),zf TB⟩
end Go.Proofs.YtknaogelmckimaaDoor
namespace Go.Proofs.YtknaogelmckimaaDoor
open Go Go.Sep Go.Ab
set_option maxRecDepth 100000
def cfgF:Cfg:= { sl:=[⟨106,0,.byte,some 5⟩,⟨84,0,.byte,some 5⟩,⟨84,1,.int,some 3⟩,⟨55,3,.fld,some 67⟩,⟨55,7,.evt,some 63⟩]}
def zO (f:Fm):Prop:=f.out.length≤10000000
def fm9 (f:Fm):Prop:=f.out.length≤9000000
theorem u8k {k:Int} (h0:0≤k) (h1:k≤255) (n:Nat) (hn:n<256):(UInt8.ofNat k.toNat=UInt8.ofNat n)=(k=n):=by
  rw [← UInt8.toNat_inj,UInt8.toNat_ofNat',UInt8.toNat_ofNat',Nat.mod_eq_of_lt hn,Nat.mod_eq_of_lt (by omega)]
  exact propext ⟨fun h=>by omega,fun h=>by omega⟩
theorem zgI (m:Str) (hd:Int) (bs:List Int) (p:Int) (fs:List Fld) (pa sk co:Int) (out:List Evt) (k:Int) (ea eb:Str) (ei:Int) (ef:List Fld) (en:Int) (ebs ex ey ez et:Str) (ec:Int) (hneed:zO ⟨m,hd,bs,p,none,fs,pa,sk,co,out⟩):Spc Tryd.prog 60 [.v (.one (.ptr 0 0)),.v (.agg [(.p (.int .i64 k)),(.p (.str ea)),(.p (.str eb)),(.p (.int .i64 ei)),(.p (.list .fld ef)),(.p (.int .i64 en)),(.p (.list .byte ebs)),(.p (.str ex)),(.p (.str ey)),(.p (.str ez)),(.p (.nl et)),(.p (.int .i64 ec))])] [.abs (.fm ⟨m,hd,bs,p,none,fs,pa,sk,co,out⟩)] (.ret (.tup [])) [.abs (.fm ⟨m,hd,bs,p,none,fs,pa,sk,co,(out++[⟨k,⟨ea,eb,ei,ef,en⟩,ebs,⟨ex,ey,ez,et⟩,ec⟩])⟩)]:=by
  unfold zO at hneed
  simp only at hneed
  refine spcG zk mixed Tryd.func60 (by kernel_rfl) { cfgF with keep:=some [0,1,3]} [] (by kernel_rfl) ?_
  intro I X hI hX
  refine zh (let y0:=I.few (I.add (I.len (α:=Go.Ab.Evt) out) (I.len (α:=Go.Ab.Evt) ([(Go.Ab.Evt.mk k (Hd.mk ea eb ei ef en) ebs (Go.Ab.Prt.mk ex ey ez et) ec)]:List Go.Ab.Evt))) 100000000;.both (.need y0 (.fin (.ret (.tup [])) [(.abs (.fm (Go.Ab.Fm.mk m hd bs p (Option.none) fs pa sk co (I.app (α:=Go.Ab.Evt) out ([(Go.Ab.Evt.mk k (Hd.mk ea eb ei ef en) ebs (Go.Ab.Prt.mk ex ey ez et) ec)]:List Go.Ab.Evt)))))])) (.need y0 (.fin (.ret (.tup [])) [(.abs (.fm (Go.Ab.Fm.mk m hd bs p (Option.none) fs pa sk co (I.app (α:=Go.Ab.Evt) out ([(Go.Ab.Evt.mk k (Hd.mk ea eb ei ef en) ebs (Go.Ab.Prt.mk ex ey ez et) ec)]:List Go.Ab.Evt)))))]))) (by kernel_rfl) ?_
  simp only [zq]
  subst hI
  simp only [nrmA,nrmB,nrlB,reduceCtorEq,HO.abs.injEq,Gh.fm.injEq,Fm.mk.injEq]
  (repeat' (first|refine And.intro ?_ ?_|intro _))<;>first|omega|exact True.intro|exact False.elim ‹False›|skip
  all_goals first
    |omega
    |rfl
    |with_reducible assumption
    |(simp only [List.length_cons,List.length_nil];omega)
    |(unfold zO;simp only;omega)
    |(simp;done)
def Zj (I:Alg) (args:List D) (hp:List HO):Option CT:=match args,hp with
  |[.v (.one (.ptr 0 0)),.v (.agg [(.p (.int .i64 k)),(.p (.str ea)),(.p (.str eb)),(.p (.int .i64 ei)),(.p (.list .fld ef)),(.p (.int .i64 en)),(.p (.list .byte ebs)),(.p (.str ex)),(.p (.str ey)),(.p (.str ez)),(.p (.nl et)),(.p (.int .i64 ec))])],[.abs (.fm ⟨m,hd,bs,p,none,fs,pa,sk,co,out⟩)]=>(fun(m:Str) (hd:Int) (bs:List Int) (p:Int) (fs:List Fld) (pa sk co:Int) (out:List Evt) (k:Int) (ea eb:Str) (ei:Int) (ef:List Fld) (en:Int) (ebs ex ey ez et:Str) (ec:Int)=>(some (.one ⟨I.hid (zO ⟨m,hd,bs,p,none,fs,pa,sk,co,out⟩),(.ret (.tup [])),[.abs (.fm ⟨m,hd,bs,p,none,fs,pa,sk,co,(I.hid (out++[⟨k,⟨ea,eb,ei,ef,en⟩,ebs,⟨ex,ey,ez,et⟩,ec⟩]))⟩)]⟩):Option CT)) m hd bs p fs pa sk co out k ea eb ei ef en ebs ex ey ez et ec
  |_,_=>none
theorem SL:zx Tryd.prog 60 (Zj alg):=by
  intro args hp r h
  unfold Zj at h
  split at h
  · cases h;exact fun hn=>zgI _ _ _ _ _ _ _ _ _ _ _ _ _ _ _ _ _ _ _ _ _ hn
  · cases h
def xG:Know Tryd.prog:=⟨60,Zj,SL⟩
def xE:Know Tryd.prog:=⟨60,fun I=>zA I (Zj I),zf SL⟩
theorem zgH (m:Str) (hd:Int) (bs:List Int) (p:Int) (ln:Ln) (fs:List Fld) (pa sk co:Int) (out:List Evt) (k:Int) (ea eb:Str) (ei:Int) (ef:List Fld) (en:Int) (ebs ex ey ez et:Str) (ec:Int) (hneed:zO ⟨m,hd,bs,p,some ln,fs,pa,sk,co,out⟩):Spc Tryd.prog 60 [.v (.one (.ptr 0 0)),.v (.agg [(.p (.int .i64 k)),(.p (.str ea)),(.p (.str eb)),(.p (.int .i64 ei)),(.p (.list .fld ef)),(.p (.int .i64 en)),(.p (.list .byte ebs)),(.p (.str ex)),(.p (.str ey)),(.p (.str ez)),(.p (.nl et)),(.p (.int .i64 ec))])] [.abs (.fm ⟨m,hd,bs,p,some ln,fs,pa,sk,co,out⟩)] (.ret (.tup [])) [.abs (.fm ⟨m,hd,bs,p,some ln,fs,pa,sk,co,(out++[⟨k,⟨ea,eb,ei,ef,en⟩,ebs,⟨ex,ey,ez,et⟩,ec⟩])⟩)]:=by
  unfold zO at hneed
  simp only at hneed
  refine spcG zk mixed Tryd.func60 (by kernel_rfl) { cfgF with keep:=some [0,1,3]} [xG,xE] (by kernel_rfl) ?_
  intro I X hI hX
  refine zh (let y0:=I.few (I.add (I.len (α:=Go.Ab.Evt) out) (I.len (α:=Go.Ab.Evt) ([(Go.Ab.Evt.mk k (Hd.mk ea eb ei ef en) ebs (Go.Ab.Prt.mk ex ey ez et) ec)]:List Go.Ab.Evt))) 100000000;.both (.need y0 (.fin (.ret (.tup [])) [(.abs (.fm (Go.Ab.Fm.mk m hd bs p (Option.some (Go.Ab.Ln.mk (Go.Ab.Ln.b ln) (Go.Ab.Ln.cr ln) (Go.Ab.Ln.code ln))) fs pa sk co (I.app (α:=Go.Ab.Evt) out ([(Go.Ab.Evt.mk k (Hd.mk ea eb ei ef en) ebs (Go.Ab.Prt.mk ex ey ez et) ec)]:List Go.Ab.Evt)))))])) (.need y0 (.fin (.ret (.tup [])) [(.abs (.fm (Go.Ab.Fm.mk m hd bs p (Option.some (Go.Ab.Ln.mk (Go.Ab.Ln.b ln) (Go.Ab.Ln.cr ln) (Go.Ab.Ln.code ln))) fs pa sk co (I.app (α:=Go.Ab.Evt) out ([(Go.Ab.Evt.mk k (Hd.mk ea eb ei ef en) ebs (Go.Ab.Prt.mk ex ey ez et) ec)]:List Go.Ab.Evt)))))]))) (by kernel_rfl) ?_
  simp only [zq]
  subst hI
  simp only [nrmA,nrmB,nrlB,reduceCtorEq,HO.abs.injEq,Gh.fm.injEq,Fm.mk.injEq]
  (repeat' (first|refine And.intro ?_ ?_|intro _))<;>first|omega|exact True.intro|exact False.elim ‹False›|skip
  all_goals first
    |omega
    |rfl
    |with_reducible assumption
    |(simp only [List.length_cons,List.length_nil];omega)
    |(unfold zO;simp only;omega)
    |(simp;done)
def Zi (I:Alg) (args:List D) (hp:List HO):Option CT:=match args,hp with
  |[.v (.one (.ptr 0 0)),.v (.agg [(.p (.int .i64 k)),(.p (.str ea)),(.p (.str eb)),(.p (.int .i64 ei)),(.p (.list .fld ef)),(.p (.int .i64 en)),(.p (.list .byte ebs)),(.p (.str ex)),(.p (.str ey)),(.p (.str ez)),(.p (.nl et)),(.p (.int .i64 ec))])],[.abs (.fm ⟨m,hd,bs,p,some ln,fs,pa,sk,co,out⟩)]=>(fun(m:Str) (hd:Int) (bs:List Int) (p:Int) (ln:Ln) (fs:List Fld) (pa sk co:Int) (out:List Evt) (k:Int) (ea eb:Str) (ei:Int) (ef:List Fld) (en:Int) (ebs ex ey ez et:Str) (ec:Int)=>(some (.one ⟨I.hid (zO ⟨m,hd,bs,p,some ln,fs,pa,sk,co,out⟩),(.ret (.tup [])),[.abs (.fm ⟨m,hd,bs,p,some ln,fs,pa,sk,co,(I.hid (out++[⟨k,⟨ea,eb,ei,ef,en⟩,ebs,⟨ex,ey,ez,et⟩,ec⟩]))⟩)]⟩):Option CT)) m hd bs p ln fs pa sk co out k ea eb ei ef en ebs ex ey ez et ec
  |_,_=>none
theorem SK:zx Tryd.prog 60 (Zi alg):=by
  intro args hp r h
  unfold Zi at h
  split at h
  · cases h;exact fun hn=>zgH _ _ _ _ _ _ _ _ _ _ _ _ _ _ _ _ _ _ _ _ _ _ hn
  · cases h
def wz:Know Tryd.prog:=⟨60,Zi,SK⟩
def wu:Know Tryd.prog:=⟨60,fun I=>zA I (Zi I),zf SK⟩
theorem zbc (m:Str) (hd:Int) (bs:List Int) (p:Int) (fs:List Fld) (pa sk co:Int) (out:List Evt) (c:Int) (hneed:zO ⟨m,hd,bs,p,none,fs,pa,sk,co,out⟩):Spc Tryd.prog 44 [.v (.one (.ptr 0 0)),.v (.one (.p (.int .i64 c)))] [.abs (.fm ⟨m,hd,bs,p,none,fs,pa,sk,co,out⟩)] (.ret (.tup [])) [.abs (.fm ((zH ⟨m,hd,bs,p,none,fs,pa,sk,co,out⟩ c)))]:=by
  unfold zO at hneed
  simp only at hneed
  refine spcG zk mixed Tryd.func44 (by kernel_rfl) { cfgF with keep:=some [0,1]} [xG,xE,wz,wu] (by kernel_rfl) ?_
  intro I X hI hX
  refine zh (.need (I.hid (α:=(Prop)) (zO (Go.Ab.Fm.mk m hd bs (8:Int) (Option.none) fs pa sk c out))) (.fin (.ret (.tup [])) [(.abs (.fm (Go.Ab.Fm.mk m hd bs (8:Int) (Option.none) fs pa sk c (I.hid (α:=(List Go.Ab.Evt)) (HAppend.hAppend out ([(Go.Ab.Evt.mk (4:Int) (Hd.mk ([]:Str) ([]:Str) (0:Int) ([]:List Fld) (0:Int)) ([]:Str) (Go.Ab.Prt.mk ([]:Str) ([]:Str) ([]:Str) ([]:Str)) c)]:List Go.Ab.Evt))))))])) (by kernel_rfl) ?_
  simp only [zq]
  subst hI
  simp only [nrmA,nrmB,nrlB,reduceCtorEq,HO.abs.injEq,Gh.fm.injEq,Fm.mk.injEq]
  (repeat' (first|refine And.intro ?_ ?_|intro _))<;>first|omega|exact True.intro|exact False.elim ‹False›|skip
  all_goals first
    |omega
    |rfl
    |with_reducible assumption
    |(simp only [List.length_cons,List.length_nil];omega)
    |(unfold zO;simp only;omega)
    |(simp;done)
def rJ (I:Alg) (args:List D) (hp:List HO):Option CT:=match args,hp with
  |[.v (.one (.ptr 0 0)),.v (.one (.p (.int .i64 c)))],[.abs (.fm ⟨m,hd,bs,p,none,fs,pa,sk,co,out⟩)]=>(fun(m:Str) (hd:Int) (bs:List Int) (p:Int) (fs:List Fld) (pa sk co:Int) (out:List Evt) (c:Int)=>(some (.one ⟨I.hid (zO ⟨m,hd,bs,p,none,fs,pa,sk,co,out⟩),(.ret (.tup [])),[.abs (.fm (I.hid ((zH ⟨m,hd,bs,p,none,fs,pa,sk,co,out⟩ c))))]⟩):Option CT)) m hd bs p fs pa sk co out c
  |_,_=>none
theorem Vr:zx Tryd.prog 44 (rJ alg):=by
  intro args hp r h
  unfold rJ at h
  split at h
  · cases h;exact fun hn=>zbc _ _ _ _ _ _ _ _ _ _ hn
  · cases h
def zcb:Know Tryd.prog:=⟨44,rJ,Vr⟩
def zca:Know Tryd.prog:=⟨44,fun I=>zA I (rJ I),zf Vr⟩
theorem ze0 (m:Str) (hd:Int) (bs:List Int) (p:Int) (ln:Ln) (fs:List Fld) (pa sk co:Int) (out:List Evt) (c:Int) (hneed:zO ⟨m,hd,bs,p,some ln,fs,pa,sk,co,out⟩):Spc Tryd.prog 44 [.v (.one (.ptr 0 0)),.v (.one (.p (.int .i64 c)))] [.abs (.fm ⟨m,hd,bs,p,some ln,fs,pa,sk,co,out⟩)] (.ret (.tup [])) [.abs (.fm ((zH ⟨m,hd,bs,p,some ln,fs,pa,sk,co,out⟩ c)))]:=by
  unfold zO at hneed
  simp only at hneed
  refine spcG zk mixed Tryd.func44 (by kernel_rfl) { cfgF with keep:=some [0,1]} [xG,xE,wz,wu,zcb,zca] (by kernel_rfl) ?_
  intro I X hI hX
  refine zh (.need (I.hid (α:=(Prop)) (zO (Go.Ab.Fm.mk m hd bs (8:Int) (Option.some (Go.Ab.Ln.mk (Go.Ab.Ln.b ln) (Go.Ab.Ln.cr ln) (Go.Ab.Ln.code ln))) fs pa sk c out))) (.fin (.ret (.tup [])) [(.abs (.fm (Go.Ab.Fm.mk m hd bs (8:Int) (Option.some (Go.Ab.Ln.mk (Go.Ab.Ln.b ln) (Go.Ab.Ln.cr ln) (Go.Ab.Ln.code ln))) fs pa sk c (I.hid (α:=(List Go.Ab.Evt)) (HAppend.hAppend out ([(Go.Ab.Evt.mk (4:Int) (Hd.mk ([]:Str) ([]:Str) (0:Int) ([]:List Fld) (0:Int)) ([]:Str) (Go.Ab.Prt.mk ([]:Str) ([]:Str) ([]:Str) ([]:Str)) c)]:List Go.Ab.Evt))))))])) (by kernel_rfl) ?_
  simp only [zq]
  subst hI
  simp only [nrmA,nrmB,nrlB,reduceCtorEq,HO.abs.injEq,Gh.fm.injEq,Fm.mk.injEq]
  (repeat' (first|refine And.intro ?_ ?_|intro _))<;>first|omega|exact True.intro|exact False.elim ‹False›|skip
  all_goals first
    |omega
    |rfl
    |with_reducible assumption
    |(simp only [List.length_cons,List.length_nil];omega)
    |(unfold zO;simp only;omega)
    |(simp;done)
theorem zgO (f:Fm) (c:Int) (hneed:zO f):Spc Tryd.prog 44 [.v (.one (.ptr 0 0)),.v (.one (.p (.int .i64 c)))] [.abs (.fm f)] (.ret (.tup [])) [.abs (.fm ((zH f c)))]:=by
  obtain⟨m,hd,bs,p,ln,fs,pa,sk,co,out⟩:=f
  cases ln with
  |none=>exact zbc m hd bs p fs pa sk co out c hneed
  |some ln=>exact ze0 m hd bs p ln fs pa sk co out c hneed
def Zo (I:Alg) (args:List D) (hp:List HO):Option CT:=match args,hp with
  |[.v (.one (.ptr 0 0)),.v (.one (.p (.int .i64 c)))],[.abs (.fm f)]=>(fun(f:Fm) (c:Int)=>(some (.one ⟨I.hid (zO f),(.ret (.tup [])),[.abs (.fm (I.hid ((zH f c))))]⟩):Option CT)) f c
  |_,_=>none
theorem S9:zx Tryd.prog 44 (Zo alg):=by
  intro args hp r h
  unfold Zo at h
  split at h
  · cases h;exact fun hn=>zgO _ _ hn
  · cases h
def wC:Know Tryd.prog:=⟨44,Zo,S9⟩
def wB:Know Tryd.prog:=⟨44,fun I=>zA I (Zo I),zf S9⟩
theorem Vx (m:Str) (hd:Int) (bs:List Int) (p:Int) (fs:List Fld) (pa sk co:Int) (out:List Evt) (k:Int) (hneed:zO ⟨m,hd,bs,p,none,fs,pa,sk,co,out⟩∧0≤k∧k≤255):Spc Tryd.prog 43 [.v (.one (.ptr 0 0)),.v (.one (.p (.int .u8 k)))] [.abs (.fm ⟨m,hd,bs,p,none,fs,pa,sk,co,out⟩)] (.ret (.tup [])) [.abs (.fm ((yx ⟨m,hd,bs,p,none,fs,pa,sk,co,out⟩ (UInt8.ofNat k.toNat))))]:=by
  obtain⟨hneed,h0,h1⟩:=hneed
  have hc:=fun n=>u8k h0 h1 n
  have h45:(UInt8.ofNat k.toNat=45)=(k=45):=hc 45 (by decide)
  have h32:(UInt8.ofNat k.toNat=32)=(k=32):=hc 32 (by decide)
  have h9:(UInt8.ofNat k.toNat=9)=(k=9):=hc 9 (by decide)
  have h13:(UInt8.ofNat k.toNat=13)=(k=13):=hc 13 (by decide)
  clear hc
  generalize UInt8.ofNat k.toNat=c at *
  unfold zO at hneed
  simp only at hneed
  generalize hr:yx ⟨m,hd,bs,p,none,fs,pa,sk,co,out⟩ c=r
  unfold yx at hr
  simp only [h45,h32,h9,h13] at hr
  refine spcG zk mixed Tryd.func43 (by kernel_rfl) { cfgF with keep:=some [0,1,4]} [xG,xE,wz,wu,wC,wB] (by kernel_rfl) ?_
  intro I X hI hX
  refine zh (let y0:=I.hid (α:=Go.Ab.Fm) (zH (Go.Ab.Fm.mk m hd bs p (Option.none) fs pa sk co out) (5:Int));let y1:=I.hid (α:=(Prop)) (zO (Go.Ab.Fm.mk m hd bs p (Option.none) fs pa sk co out));let y2:=I.hid (α:=(List Go.Ab.Evt)) (HAppend.hAppend out ([(Go.Ab.Evt.mk (3:Int) (Hd.mk ([]:Str) ([]:Str) (0:Int) ([]:List Fld) (0:Int)) ([]:Str) (Go.Ab.Prt.mk ([]:Str) ([]:Str) ([]:Str) ([]:Str)) (0:Int))]:List Go.Ab.Evt));let y3:=I.hid (α:=(Prop)) (zO (Go.Ab.Fm.mk m hd bs (7:Int) (Option.none) fs pa sk co out));.br (I.ieq k 32) (.br (I.ieq p 1) (.br (I.ieq k 45) (.fin (.ret (.tup [])) [(.abs (.fm (Go.Ab.Fm.mk m hd bs (2:Int) (Option.none) fs pa sk co out)))]) (.br (I.ieq p 2) (.br (I.ieq k 45) (.need y3 (.fin (.ret (.tup [])) [(.abs (.fm (Go.Ab.Fm.mk m hd bs (7:Int) (Option.none) fs pa sk co y2)))])) (.br (I.bnot (I.ieq p 2)) (.fin (.ret (.tup [])) [(.abs (.fm (Go.Ab.Fm.mk m hd bs (3:Int) (Option.none) fs pa sk co out)))]) (.br (I.bnot (I.ieq p 2)) (.br (I.ieq k 13) (.fin (.ret (.tup [])) [(.abs (.fm (Go.Ab.Fm.mk m hd bs (4:Int) (Option.none) fs pa sk co out)))]) (.need y1 (.fin (.ret (.tup [])) [(.abs (.fm y0))]))) (.need y1 (.fin (.ret (.tup [])) [(.abs (.fm y0))]))))) (.br (I.bnot (I.ieq p 2)) (.fin (.ret (.tup [])) [(.abs (.fm (Go.Ab.Fm.mk m hd bs (3:Int) (Option.none) fs pa sk co out)))]) (.br (I.bnot (I.ieq p 2)) (.br (I.ieq k 13) (.fin (.ret (.tup [])) [(.abs (.fm (Go.Ab.Fm.mk m hd bs (4:Int) (Option.none) fs pa sk co out)))]) (.need y1 (.fin (.ret (.tup [])) [(.abs (.fm y0))]))) (.need y1 (.fin (.ret (.tup [])) [(.abs (.fm y0))])))))) (.br (I.ieq p 2) (.br (I.ieq k 45) (.need y3 (.fin (.ret (.tup [])) [(.abs (.fm (Go.Ab.Fm.mk m hd bs (7:Int) (Option.none) fs pa sk co y2)))])) (.br (I.bnot (I.ieq p 2)) (.fin (.ret (.tup [])) [(.abs (.fm (Go.Ab.Fm.mk m hd bs (3:Int) (Option.none) fs pa sk co out)))]) (.br (I.bnot (I.ieq p 2)) (.br (I.ieq k 13) (.fin (.ret (.tup [])) [(.abs (.fm (Go.Ab.Fm.mk m hd bs (4:Int) (Option.none) fs pa sk co out)))]) (.need y1 (.fin (.ret (.tup [])) [(.abs (.fm y0))]))) (.need y1 (.fin (.ret (.tup [])) [(.abs (.fm y0))]))))) (.br (I.bnot (I.ieq p 2)) (.fin (.ret (.tup [])) [(.abs (.fm (Go.Ab.Fm.mk m hd bs (3:Int) (Option.none) fs pa sk co out)))]) (.br (I.bnot (I.ieq p 2)) (.br (I.ieq k 13) (.fin (.ret (.tup [])) [(.abs (.fm (Go.Ab.Fm.mk m hd bs (4:Int) (Option.none) fs pa sk co out)))]) (.need y1 (.fin (.ret (.tup [])) [(.abs (.fm y0))]))) (.need y1 (.fin (.ret (.tup [])) [(.abs (.fm y0))])))))) (.br (I.ieq p 1) (.br (I.ieq k 45) (.fin (.ret (.tup [])) [(.abs (.fm (Go.Ab.Fm.mk m hd bs (2:Int) (Option.none) fs pa sk co out)))]) (.br (I.ieq p 2) (.br (I.ieq k 45) (.need y3 (.fin (.ret (.tup [])) [(.abs (.fm (Go.Ab.Fm.mk m hd bs (7:Int) (Option.none) fs pa sk co y2)))])) (.br (I.bnot (I.ieq p 2)) (.br (I.ieq k 9) (.fin (.ret (.tup [])) [(.abs (.fm (Go.Ab.Fm.mk m hd bs (3:Int) (Option.none) fs pa sk co out)))]) (.br (I.bnot (I.ieq p 2)) (.br (I.ieq k 13) (.fin (.ret (.tup [])) [(.abs (.fm (Go.Ab.Fm.mk m hd bs (4:Int) (Option.none) fs pa sk co out)))]) (.need y1 (.fin (.ret (.tup [])) [(.abs (.fm y0))]))) (.need y1 (.fin (.ret (.tup [])) [(.abs (.fm y0))])))) (.br (I.bnot (I.ieq p 2)) (.br (I.ieq k 13) (.fin (.ret (.tup [])) [(.abs (.fm (Go.Ab.Fm.mk m hd bs (4:Int) (Option.none) fs pa sk co out)))]) (.need y1 (.fin (.ret (.tup [])) [(.abs (.fm y0))]))) (.need y1 (.fin (.ret (.tup [])) [(.abs (.fm y0))]))))) (.br (I.bnot (I.ieq p 2)) (.br (I.ieq k 9) (.fin (.ret (.tup [])) [(.abs (.fm (Go.Ab.Fm.mk m hd bs (3:Int) (Option.none) fs pa sk co out)))]) (.br (I.bnot (I.ieq p 2)) (.br (I.ieq k 13) (.fin (.ret (.tup [])) [(.abs (.fm (Go.Ab.Fm.mk m hd bs (4:Int) (Option.none) fs pa sk co out)))]) (.need y1 (.fin (.ret (.tup [])) [(.abs (.fm y0))]))) (.need y1 (.fin (.ret (.tup [])) [(.abs (.fm y0))])))) (.br (I.bnot (I.ieq p 2)) (.br (I.ieq k 13) (.fin (.ret (.tup [])) [(.abs (.fm (Go.Ab.Fm.mk m hd bs (4:Int) (Option.none) fs pa sk co out)))]) (.need y1 (.fin (.ret (.tup [])) [(.abs (.fm y0))]))) (.need y1 (.fin (.ret (.tup [])) [(.abs (.fm y0))])))))) (.br (I.ieq p 2) (.br (I.ieq k 45) (.need y3 (.fin (.ret (.tup [])) [(.abs (.fm (Go.Ab.Fm.mk m hd bs (7:Int) (Option.none) fs pa sk co y2)))])) (.br (I.bnot (I.ieq p 2)) (.br (I.ieq k 9) (.fin (.ret (.tup [])) [(.abs (.fm (Go.Ab.Fm.mk m hd bs (3:Int) (Option.none) fs pa sk co out)))]) (.br (I.bnot (I.ieq p 2)) (.br (I.ieq k 13) (.fin (.ret (.tup [])) [(.abs (.fm (Go.Ab.Fm.mk m hd bs (4:Int) (Option.none) fs pa sk co out)))]) (.need y1 (.fin (.ret (.tup [])) [(.abs (.fm y0))]))) (.need y1 (.fin (.ret (.tup [])) [(.abs (.fm y0))])))) (.br (I.bnot (I.ieq p 2)) (.br (I.ieq k 13) (.fin (.ret (.tup [])) [(.abs (.fm (Go.Ab.Fm.mk m hd bs (4:Int) (Option.none) fs pa sk co out)))]) (.need y1 (.fin (.ret (.tup [])) [(.abs (.fm y0))]))) (.need y1 (.fin (.ret (.tup [])) [(.abs (.fm y0))]))))) (.br (I.bnot (I.ieq p 2)) (.br (I.ieq k 9) (.fin (.ret (.tup [])) [(.abs (.fm (Go.Ab.Fm.mk m hd bs (3:Int) (Option.none) fs pa sk co out)))]) (.br (I.bnot (I.ieq p 2)) (.br (I.ieq k 13) (.fin (.ret (.tup [])) [(.abs (.fm (Go.Ab.Fm.mk m hd bs (4:Int) (Option.none) fs pa sk co out)))]) (.need y1 (.fin (.ret (.tup [])) [(.abs (.fm y0))]))) (.need y1 (.fin (.ret (.tup [])) [(.abs (.fm y0))])))) (.br (I.bnot (I.ieq p 2)) (.br (I.ieq k 13) (.fin (.ret (.tup [])) [(.abs (.fm (Go.Ab.Fm.mk m hd bs (4:Int) (Option.none) fs pa sk co out)))]) (.need y1 (.fin (.ret (.tup [])) [(.abs (.fm y0))]))) (.need y1 (.fin (.ret (.tup [])) [(.abs (.fm y0))]))))))) (by kernel_rfl) ?_
  simp only [zq]
  subst hI
  simp only [nrmA,nrmB,nrlB,reduceCtorEq,HO.abs.injEq,Gh.fm.injEq]
  (repeat' (first|refine And.intro ?_ ?_|intro _))<;>first|omega|exact True.intro|exact False.elim ‹False›|skip
  all_goals first
    |omega
    |(unfold zO;simp only;omega)
    |(subst hr;simp [*,zH,evE,hd0,prt0];done)
def vN (I:Alg) (args:List D) (hp:List HO):Option CT:=match args,hp with
  |[.v (.one (.ptr 0 0)),.v (.one (.p (.int .u8 k)))],[.abs (.fm ⟨m,hd,bs,p,none,fs,pa,sk,co,out⟩)]=>(fun(m:Str) (hd:Int) (bs:List Int) (p:Int) (fs:List Fld) (pa sk co:Int) (out:List Evt) (k:Int)=>(some (.one ⟨I.hid (zO ⟨m,hd,bs,p,none,fs,pa,sk,co,out⟩∧0≤k∧k≤255),(.ret (.tup [])),[.abs (.fm (I.hid ((yx ⟨m,hd,bs,p,none,fs,pa,sk,co,out⟩ (UInt8.ofNat k.toNat)))))]⟩):Option CT)) m hd bs p fs pa sk co out k
  |_,_=>none
theorem Yu:zx Tryd.prog 43 (vN alg):=by
  intro args hp r h
  unfold vN at h
  split at h
  · cases h;exact fun hn=>Vx _ _ _ _ _ _ _ _ _ _ hn
  · cases h
def Ri:Know Tryd.prog:=⟨43,vN,Yu⟩
def Rh:Know Tryd.prog:=⟨43,fun I=>zA I (vN I),zf Yu⟩
theorem zcc (m:Str) (hd:Int) (bs:List Int) (p:Int) (ln:Ln) (fs:List Fld) (pa sk co:Int) (out:List Evt) (k:Int) (hneed:zO ⟨m,hd,bs,p,some ln,fs,pa,sk,co,out⟩∧0≤k∧k≤255):Spc Tryd.prog 43 [.v (.one (.ptr 0 0)),.v (.one (.p (.int .u8 k)))] [.abs (.fm ⟨m,hd,bs,p,some ln,fs,pa,sk,co,out⟩)] (.ret (.tup [])) [.abs (.fm ((yx ⟨m,hd,bs,p,some ln,fs,pa,sk,co,out⟩ (UInt8.ofNat k.toNat))))]:=by
  obtain⟨hneed,h0,h1⟩:=hneed
  have hc:=fun n=>u8k h0 h1 n
  have h45:(UInt8.ofNat k.toNat=45)=(k=45):=hc 45 (by decide)
  have h32:(UInt8.ofNat k.toNat=32)=(k=32):=hc 32 (by decide)
  have h9:(UInt8.ofNat k.toNat=9)=(k=9):=hc 9 (by decide)
  have h13:(UInt8.ofNat k.toNat=13)=(k=13):=hc 13 (by decide)
  clear hc
  generalize UInt8.ofNat k.toNat=c at *
  unfold zO at hneed
  simp only at hneed
  generalize hr:yx ⟨m,hd,bs,p,some ln,fs,pa,sk,co,out⟩ c=r
  unfold yx at hr
  simp only [h45,h32,h9,h13] at hr
  refine spcG zk mixed Tryd.func43 (by kernel_rfl) { cfgF with keep:=some [0,1,4]} [xG,xE,wz,wu,wC,wB,Ri,Rh] (by kernel_rfl) ?_
  intro I X hI hX
  refine zh (let y0:=I.hid (α:=Go.Ab.Fm) (zH (Go.Ab.Fm.mk m hd bs p (Option.some (Go.Ab.Ln.mk (Go.Ab.Ln.b ln) (Go.Ab.Ln.cr ln) (Go.Ab.Ln.code ln))) fs pa sk co out) (5:Int));let y1:=I.hid (α:=(Prop)) (zO (Go.Ab.Fm.mk m hd bs p (Option.some (Go.Ab.Ln.mk (Go.Ab.Ln.b ln) (Go.Ab.Ln.cr ln) (Go.Ab.Ln.code ln))) fs pa sk co out));let y2:=I.hid (α:=(List Go.Ab.Evt)) (HAppend.hAppend out ([(Go.Ab.Evt.mk (3:Int) (Hd.mk ([]:Str) ([]:Str) (0:Int) ([]:List Fld) (0:Int)) ([]:Str) (Go.Ab.Prt.mk ([]:Str) ([]:Str) ([]:Str) ([]:Str)) (0:Int))]:List Go.Ab.Evt));let y3:=I.hid (α:=(Prop)) (zO (Go.Ab.Fm.mk m hd bs (7:Int) (Option.some (Go.Ab.Ln.mk (Go.Ab.Ln.b ln) (Go.Ab.Ln.cr ln) (Go.Ab.Ln.code ln))) fs pa sk co out));.br (I.ieq k 32) (.br (I.ieq p 1) (.br (I.ieq k 45) (.fin (.ret (.tup [])) [(.abs (.fm (Go.Ab.Fm.mk m hd bs (2:Int) (Option.some (Go.Ab.Ln.mk (Go.Ab.Ln.b ln) (Go.Ab.Ln.cr ln) (Go.Ab.Ln.code ln))) fs pa sk co out)))]) (.br (I.ieq p 2) (.br (I.ieq k 45) (.need y3 (.fin (.ret (.tup [])) [(.abs (.fm (Go.Ab.Fm.mk m hd bs (7:Int) (Option.some (Go.Ab.Ln.mk (Go.Ab.Ln.b ln) (Go.Ab.Ln.cr ln) (Go.Ab.Ln.code ln))) fs pa sk co y2)))])) (.br (I.bnot (I.ieq p 2)) (.fin (.ret (.tup [])) [(.abs (.fm (Go.Ab.Fm.mk m hd bs (3:Int) (Option.some (Go.Ab.Ln.mk (Go.Ab.Ln.b ln) (Go.Ab.Ln.cr ln) (Go.Ab.Ln.code ln))) fs pa sk co out)))]) (.br (I.bnot (I.ieq p 2)) (.br (I.ieq k 13) (.fin (.ret (.tup [])) [(.abs (.fm (Go.Ab.Fm.mk m hd bs (4:Int) (Option.some (Go.Ab.Ln.mk (Go.Ab.Ln.b ln) (Go.Ab.Ln.cr ln) (Go.Ab.Ln.code ln))) fs pa sk co out)))]) (.need y1 (.fin (.ret (.tup [])) [(.abs (.fm y0))]))) (.need y1 (.fin (.ret (.tup [])) [(.abs (.fm y0))]))))) (.br (I.bnot (I.ieq p 2)) (.fin (.ret (.tup [])) [(.abs (.fm (Go.Ab.Fm.mk m hd bs (3:Int) (Option.some (Go.Ab.Ln.mk (Go.Ab.Ln.b ln) (Go.Ab.Ln.cr ln) (Go.Ab.Ln.code ln))) fs pa sk co out)))]) (.br (I.bnot (I.ieq p 2)) (.br (I.ieq k 13) (.fin (.ret (.tup [])) [(.abs (.fm (Go.Ab.Fm.mk m hd bs (4:Int) (Option.some (Go.Ab.Ln.mk (Go.Ab.Ln.b ln) (Go.Ab.Ln.cr ln) (Go.Ab.Ln.code ln))) fs pa sk co out)))]) (.need y1 (.fin (.ret (.tup [])) [(.abs (.fm y0))]))) (.need y1 (.fin (.ret (.tup [])) [(.abs (.fm y0))])))))) (.br (I.ieq p 2) (.br (I.ieq k 45) (.need y3 (.fin (.ret (.tup [])) [(.abs (.fm (Go.Ab.Fm.mk m hd bs (7:Int) (Option.some (Go.Ab.Ln.mk (Go.Ab.Ln.b ln) (Go.Ab.Ln.cr ln) (Go.Ab.Ln.code ln))) fs pa sk co y2)))])) (.br (I.bnot (I.ieq p 2)) (.fin (.ret (.tup [])) [(.abs (.fm (Go.Ab.Fm.mk m hd bs (3:Int) (Option.some (Go.Ab.Ln.mk (Go.Ab.Ln.b ln) (Go.Ab.Ln.cr ln) (Go.Ab.Ln.code ln))) fs pa sk co out)))]) (.br (I.bnot (I.ieq p 2)) (.br (I.ieq k 13) (.fin (.ret (.tup [])) [(.abs (.fm (Go.Ab.Fm.mk m hd bs (4:Int) (Option.some (Go.Ab.Ln.mk (Go.Ab.Ln.b ln) (Go.Ab.Ln.cr ln) (Go.Ab.Ln.code ln))) fs pa sk co out)))]) (.need y1 (.fin (.ret (.tup [])) [(.abs (.fm y0))]))) (.need y1 (.fin (.ret (.tup [])) [(.abs (.fm y0))]))))) (.br (I.bnot (I.ieq p 2)) (.fin (.ret (.tup [])) [(.abs (.fm (Go.Ab.Fm.mk m hd bs (3:Int) (Option.some (Go.Ab.Ln.mk (Go.Ab.Ln.b ln) (Go.Ab.Ln.cr ln) (Go.Ab.Ln.code ln))) fs pa sk co out)))]) (.br (I.bnot (I.ieq p 2)) (.br (I.ieq k 13) (.fin (.ret (.tup [])) [(.abs (.fm (Go.Ab.Fm.mk m hd bs (4:Int) (Option.some (Go.Ab.Ln.mk (Go.Ab.Ln.b ln) (Go.Ab.Ln.cr ln) (Go.Ab.Ln.code ln))) fs pa sk co out)))]) (.need y1 (.fin (.ret (.tup [])) [(.abs (.fm y0))]))) (.need y1 (.fin (.ret (.tup [])) [(.abs (.fm y0))])))))) (.br (I.ieq p 1) (.br (I.ieq k 45) (.fin (.ret (.tup [])) [(.abs (.fm (Go.Ab.Fm.mk m hd bs (2:Int) (Option.some (Go.Ab.Ln.mk (Go.Ab.Ln.b ln) (Go.Ab.Ln.cr ln) (Go.Ab.Ln.code ln))) fs pa sk co out)))]) (.br (I.ieq p 2) (.br (I.ieq k 45) (.need y3 (.fin (.ret (.tup [])) [(.abs (.fm (Go.Ab.Fm.mk m hd bs (7:Int) (Option.some (Go.Ab.Ln.mk (Go.Ab.Ln.b ln) (Go.Ab.Ln.cr ln) (Go.Ab.Ln.code ln))) fs pa sk co y2)))])) (.br (I.bnot (I.ieq p 2)) (.br (I.ieq k 9) (.fin (.ret (.tup [])) [(.abs (.fm (Go.Ab.Fm.mk m hd bs (3:Int) (Option.some (Go.Ab.Ln.mk (Go.Ab.Ln.b ln) (Go.Ab.Ln.cr ln) (Go.Ab.Ln.code ln))) fs pa sk co out)))]) (.br (I.bnot (I.ieq p 2)) (.br (I.ieq k 13) (.fin (.ret (.tup [])) [(.abs (.fm (Go.Ab.Fm.mk m hd bs (4:Int) (Option.some (Go.Ab.Ln.mk (Go.Ab.Ln.b ln) (Go.Ab.Ln.cr ln) (Go.Ab.Ln.code ln))) fs pa sk co out)))]) (.need y1 (.fin (.ret (.tup [])) [(.abs (.fm y0))]))) (.need y1 (.fin (.ret (.tup [])) [(.abs (.fm y0))])))) (.br (I.bnot (I.ieq p 2)) (.br (I.ieq k 13) (.fin (.ret (.tup [])) [(.abs (.fm (Go.Ab.Fm.mk m hd bs (4:Int) (Option.some (Go.Ab.Ln.mk (Go.Ab.Ln.b ln) (Go.Ab.Ln.cr ln) (Go.Ab.Ln.code ln))) fs pa sk co out)))]) (.need y1 (.fin (.ret (.tup [])) [(.abs (.fm y0))]))) (.need y1 (.fin (.ret (.tup [])) [(.abs (.fm y0))]))))) (.br (I.bnot (I.ieq p 2)) (.br (I.ieq k 9) (.fin (.ret (.tup [])) [(.abs (.fm (Go.Ab.Fm.mk m hd bs (3:Int) (Option.some (Go.Ab.Ln.mk (Go.Ab.Ln.b ln) (Go.Ab.Ln.cr ln) (Go.Ab.Ln.code ln))) fs pa sk co out)))]) (.br (I.bnot (I.ieq p 2)) (.br (I.ieq k 13) (.fin (.ret (.tup [])) [(.abs (.fm (Go.Ab.Fm.mk m hd bs (4:Int) (Option.some (Go.Ab.Ln.mk (Go.Ab.Ln.b ln) (Go.Ab.Ln.cr ln) (Go.Ab.Ln.code ln))) fs pa sk co out)))]) (.need y1 (.fin (.ret (.tup [])) [(.abs (.fm y0))]))) (.need y1 (.fin (.ret (.tup [])) [(.abs (.fm y0))])))) (.br (I.bnot (I.ieq p 2)) (.br (I.ieq k 13) (.fin (.ret (.tup [])) [(.abs (.fm (Go.Ab.Fm.mk m hd bs (4:Int) (Option.some (Go.Ab.Ln.mk (Go.Ab.Ln.b ln) (Go.Ab.Ln.cr ln) (Go.Ab.Ln.code ln))) fs pa sk co out)))]) (.need y1 (.fin (.ret (.tup [])) [(.abs (.fm y0))]))) (.need y1 (.fin (.ret (.tup [])) [(.abs (.fm y0))])))))) (.br (I.ieq p 2) (.br (I.ieq k 45) (.need y3 (.fin (.ret (.tup [])) [(.abs (.fm (Go.Ab.Fm.mk m hd bs (7:Int) (Option.some (Go.Ab.Ln.mk (Go.Ab.Ln.b ln) (Go.Ab.Ln.cr ln) (Go.Ab.Ln.code ln))) fs pa sk co y2)))])) (.br (I.bnot (I.ieq p 2)) (.br (I.ieq k 9) (.fin (.ret (.tup [])) [(.abs (.fm (Go.Ab.Fm.mk m hd bs (3:Int) (Option.some (Go.Ab.Ln.mk (Go.Ab.Ln.b ln) (Go.Ab.Ln.cr ln) (Go.Ab.Ln.code ln))) fs pa sk co out)))]) (.br (I.bnot (I.ieq p 2)) (.br (I.ieq k 13) (.fin (.ret (.tup [])) [(.abs (.fm (Go.Ab.Fm.mk m hd bs (4:Int) (Option.some (Go.Ab.Ln.mk (Go.Ab.Ln.b ln) (Go.Ab.Ln.cr ln) (Go.Ab.Ln.code ln))) fs pa sk co out)))]) (.need y1 (.fin (.ret (.tup [])) [(.abs (.fm y0))]))) (.need y1 (.fin (.ret (.tup [])) [(.abs (.fm y0))])))) (.br (I.bnot (I.ieq p 2)) (.br (I.ieq k 13) (.fin (.ret (.tup [])) [(.abs (.fm (Go.Ab.Fm.mk m hd bs (4:Int) (Option.some (Go.Ab.Ln.mk (Go.Ab.Ln.b ln) (Go.Ab.Ln.cr ln) (Go.Ab.Ln.code ln))) fs pa sk co out)))]) (.need y1 (.fin (.ret (.tup [])) [(.abs (.fm y0))]))) (.need y1 (.fin (.ret (.tup [])) [(.abs (.fm y0))]))))) (.br (I.bnot (I.ieq p 2)) (.br (I.ieq k 9) (.fin (.ret (.tup [])) [(.abs (.fm (Go.Ab.Fm.mk m hd bs (3:Int) (Option.some (Go.Ab.Ln.mk (Go.Ab.Ln.b ln) (Go.Ab.Ln.cr ln) (Go.Ab.Ln.code ln))) fs pa sk co out)))]) (.br (I.bnot (I.ieq p 2)) (.br (I.ieq k 13) (.fin (.ret (.tup [])) [(.abs (.fm (Go.Ab.Fm.mk m hd bs (4:Int) (Option.some (Go.Ab.Ln.mk (Go.Ab.Ln.b ln) (Go.Ab.Ln.cr ln) (Go.Ab.Ln.code ln))) fs pa sk co out)))]) (.need y1 (.fin (.ret (.tup [])) [(.abs (.fm y0))]))) (.need y1 (.fin (.ret (.tup [])) [(.abs (.fm y0))])))) (.br (I.bnot (I.ieq p 2)) (.br (I.ieq k 13) (.fin (.ret (.tup [])) [(.abs (.fm (Go.Ab.Fm.mk m hd bs (4:Int) (Option.some (Go.Ab.Ln.mk (Go.Ab.Ln.b ln) (Go.Ab.Ln.cr ln) (Go.Ab.Ln.code ln))) fs pa sk co out)))]) (.need y1 (.fin (.ret (.tup [])) [(.abs (.fm y0))]))) (.need y1 (.fin (.ret (.tup [])) [(.abs (.fm y0))]))))))) (by kernel_rfl) ?_
  simp only [zq]
  subst hI
  simp only [nrmA,nrmB,nrlB,reduceCtorEq,HO.abs.injEq,Gh.fm.injEq]
  (repeat' (first|refine And.intro ?_ ?_|intro _))<;>first|omega|exact True.intro|exact False.elim ‹False›|skip
  all_goals first
    |omega
    |(unfold zO;simp only;omega)
    |(subst hr;simp [*,zH,evE,hd0,prt0];done)
theorem zdz (f:Fm) (k:Int) (hneed:zO f∧0≤k∧k≤255):Spc Tryd.prog 43 [.v (.one (.ptr 0 0)),.v (.one (.p (.int .u8 k)))] [.abs (.fm f)] (.ret (.tup [])) [.abs (.fm ((yx f (UInt8.ofNat k.toNat))))]:=by
  obtain⟨m,hd,bs,p,ln,fs,pa,sk,co,out⟩:=f
  cases ln with
  |none=>exact Vx m hd bs p fs pa sk co out k hneed
  |some ln=>exact zcc m hd bs p ln fs pa sk co out k hneed
def uK (I:Alg) (args:List D) (hp:List HO):Option CT:=match args,hp with
  |[.v (.one (.ptr 0 0)),.v (.one (.p (.int .u8 k)))],[.abs (.fm f)]=>(fun(f:Fm) (k:Int)=>(some (.one ⟨I.hid (zO f∧0≤k∧k≤255),(.ret (.tup [])),[.abs (.fm (I.hid ((yx f (UInt8.ofNat k.toNat)))))]⟩):Option CT)) f k
  |_,_=>none
theorem X5:zx Tryd.prog 43 (uK alg):=by
  intro args hp r h
  unfold uK at h
  split at h
  · cases h;exact fun hn=>zdz _ _ hn
  · cases h
def X4:Know Tryd.prog:=⟨43,uK,X5⟩
def X3:Know Tryd.prog:=⟨43,fun I=>zA I (uK I),zf X5⟩
structure FmS (f:Fm):Prop where
  bs:f.bs=wE f.mark
  ml:f.mark.length≤1000000
  h0:0≤f.held
  h1:f.mark=[]∨f.held<f.mark.length
  s0:0≤f.skip∧f.skip≤2
theorem Rf (m:Str) (hd:Int) (bs:List Int) (p:Int) (fs:List Fld) (pa sk co:Int) (out:List Evt) (k:Int) (hneed:fm9 ⟨m,hd,bs,p,none,fs,pa,sk,co,out⟩∧FmS ⟨m,hd,bs,p,none,fs,pa,sk,co,out⟩∧0≤k∧k≤255):Spc Tryd.prog 42 [.v (.one (.ptr 0 0)),.v (.one (.p (.int .u8 k)))] [.abs (.fm ⟨m,hd,bs,p,none,fs,pa,sk,co,out⟩)] (.ret (.tup [])) [.abs (.fm ((yZ ⟨m,hd,bs,p,none,fs,pa,sk,co,out⟩ (UInt8.ofNat k.toNat))))]:=by
  obtain⟨hneed,⟨hbs,hml,hh0,hh1,hs0⟩,h0,h1⟩:=hneed
  unfold fm9 at hneed
  simp only at hneed hbs hml hh0 hh1 hs0
  generalize hr:yZ ⟨m,hd,bs,p,none,fs,pa,sk,co,out⟩ (UInt8.ofNat k.toNat)=r
  unfold yZ vz fmSk at hr
  simp only [Int.min_def] at hr
  refine spcG zk mixed Tryd.func42 (by kernel_rfl) { cfgF with fz:=[60],keep:=some [0,1,4,5,6]} [Z5,Z4,xG,xE,wz,wu] (by kernel_rfl) ?_
  intro I X hI hX
  refine zh (let y0:=I.len (α:=UInt8) (I.hid (α:=Str) (Prod.fst (yh m (Int.toNat hd) (UInt8.ofNat (Int.toNat k)))));let y1:=I.hid (α:=Int) (Nat.cast (Prod.fst (Prod.snd (yh m (Int.toNat hd) (UInt8.ofNat (Int.toNat k))))));let y2:=I.hid (α:=(List Go.Ab.Evt)) (HAppend.hAppend out ([(Go.Ab.Evt.mk (2:Int) (Hd.mk ([]:Str) ([]:Str) (0:Int) ([]:List Fld) (0:Int)) (I.cut (α:=UInt8) (I.hid (α:=Str) (Prod.fst (yh m (Int.toNat hd) (UInt8.ofNat (Int.toNat k))))) (I.imin sk y0) y0) (Go.Ab.Prt.mk ([]:Str) ([]:Str) ([]:Str) ([]:Str)) (0:Int))]:List Go.Ab.Evt));let y3:=I.hid (α:=(List Go.Ab.Evt)) (HAppend.hAppend out ([(Go.Ab.Evt.mk (6:Int) (Hd.mk ([]:Str) ([]:Str) (0:Int) ([]:List Fld) (0:Int)) ([]:Str) (Go.Ab.Prt.mk ([]:Str) ([]:Str) ([]:Str) ([]:Str)) (0:Int))]:List Go.Ab.Evt));let y4:=I.hid (α:=(Prop)) (zO (Go.Ab.Fm.mk m y1 bs p (Option.none) fs pa (I.sub sk (I.imin sk y0)) co out));let y5:=I.bnot (I.hid (α:=Bool) (Prod.snd (Prod.snd (yh m (Int.toNat hd) (UInt8.ofNat (Int.toNat k))))));.need (I.hid (α:=(Prop)) (And (Eq bs (wE m)) (And (LE.le (List.length m) 1000000) (And (LE.le (0:Int) hd) (And (Or (Eq m ([]:Str)) (LT.lt hd (Nat.cast (List.length m)))) (And (LE.le (0:Int) k) (LE.le k (255:Int)))))))) (.need (I.inr Go.IntKind.i64 (I.sub sk (I.imin sk y0))) (.need (I.cutb (I.imin sk y0) y0 y0) (.br (I.ieq p 6) (.br (I.ilt 0 (I.sub y0 (I.imin sk y0))) (.need y4 (.br y5 (.fin (.ret (.tup [])) [(.abs (.fm (Go.Ab.Fm.mk m y1 bs p (Option.none) fs pa (I.sub sk (I.imin sk y0)) co y2)))]) (.br (I.ieq p 6) (.need (I.hid (α:=(Prop)) (zO (Go.Ab.Fm.mk m y1 bs p (Option.none) fs pa (I.sub sk (I.imin sk y0)) co y2))) (.fin (.ret (.tup [])) [(.abs (.fm (Go.Ab.Fm.mk m y1 bs (1:Int) (Option.none) fs pa (0:Int) co (I.hid (α:=(List Go.Ab.Evt)) (HAppend.hAppend y2 ([(Go.Ab.Evt.mk (6:Int) (Hd.mk ([]:Str) ([]:Str) (0:Int) ([]:List Fld) (0:Int)) ([]:Str) (Go.Ab.Prt.mk ([]:Str) ([]:Str) ([]:Str) ([]:Str)) (0:Int))]:List Go.Ab.Evt))))))])) (.fin (.ret (.tup [])) [(.abs (.fm (Go.Ab.Fm.mk m y1 bs (1:Int) (Option.none) fs pa (0:Int) co y2)))])))) (.br y5 (.fin (.ret (.tup [])) [(.abs (.fm (Go.Ab.Fm.mk m y1 bs p (Option.none) fs pa (I.sub sk (I.imin sk y0)) co out)))]) (.br (I.ieq p 6) (.need y4 (.fin (.ret (.tup [])) [(.abs (.fm (Go.Ab.Fm.mk m y1 bs (1:Int) (Option.none) fs pa (0:Int) co y3)))])) (.fin (.ret (.tup [])) [(.abs (.fm (Go.Ab.Fm.mk m y1 bs (1:Int) (Option.none) fs pa (0:Int) co out)))])))) (.br y5 (.fin (.ret (.tup [])) [(.abs (.fm (Go.Ab.Fm.mk m y1 bs p (Option.none) fs pa (I.sub sk (I.imin sk y0)) co out)))]) (.br (I.ieq p 6) (.need y4 (.fin (.ret (.tup [])) [(.abs (.fm (Go.Ab.Fm.mk m y1 bs (1:Int) (Option.none) fs pa (0:Int) co y3)))])) (.fin (.ret (.tup [])) [(.abs (.fm (Go.Ab.Fm.mk m y1 bs (1:Int) (Option.none) fs pa (0:Int) co out)))]))))))) (by kernel_rfl) ?_
  simp only [zq]
  generalize yh m hd.toNat (UInt8.ofNat k.toNat)=q at *
  obtain⟨o,n2,fd⟩:=q
  subst hI
  simp only [nrmA,nrmB,nrlB,reduceCtorEq,HO.abs.injEq,Gh.fm.injEq]
  simp only at hr
  have hn:0≤(if sk≤(o.length:Int) then sk else(o.length:Int))∧(if sk≤(o.length:Int) then sk else(o.length:Int))≤o.length∧(if sk≤(o.length:Int) then sk else(o.length:Int))≤sk:=by split<;>omega
  generalize(if sk≤(o.length:Int) then sk else(o.length:Int))=n at *
  rw [List.take_of_length_le (show(o.drop n.toNat).length≤o.length - n.toNat by rw [List.length_drop];exact Nat.le_refl _)]
  have hne:0<(o.length:Int) - n→¬ o.drop n.toNat=[]:=fun h k=>by have:=congrArg List.length k;rw [List.length_drop,List.length_nil] at this;omega
  have hnn: ¬ 0<(o.length:Int) - n→o.drop n.toNat=[]:=fun h=>List.drop_of_length_le (by omega)
  generalize o.drop n.toNat=D at *
  (repeat' (first|refine And.intro ?_ ?_|intro _))<;>first|omega|exact True.intro|exact False.elim ‹False›|skip
  all_goals first
    |omega
    |with_reducible assumption
    |(unfold zO;simp only [List.length_append,List.length_singleton];omega)
    |(have hne:=hne (by omega);clear hnn;subst hr;simp [*,evB,evO,hd0,prt0];done)
    |(have hnn:=hnn (by omega);clear hne;subst hr;simp [*,evB,evO,hd0,prt0];done)
    |(clear hne hnn;subst hr;simp [*,evB,evO,hd0,prt0];done)
def uJ (I:Alg) (args:List D) (hp:List HO):Option CT:=match args,hp with
  |[.v (.one (.ptr 0 0)),.v (.one (.p (.int .u8 k)))],[.abs (.fm ⟨m,hd,bs,p,none,fs,pa,sk,co,out⟩)]=>(fun(m:Str) (hd:Int) (bs:List Int) (p:Int) (fs:List Fld) (pa sk co:Int) (out:List Evt) (k:Int)=>(some (.one ⟨I.hid (fm9 ⟨m,hd,bs,p,none,fs,pa,sk,co,out⟩∧FmS ⟨m,hd,bs,p,none,fs,pa,sk,co,out⟩∧0≤k∧k≤255),(.ret (.tup [])),[.abs (.fm (I.hid ((yZ ⟨m,hd,bs,p,none,fs,pa,sk,co,out⟩ (UInt8.ofNat k.toNat)))))]⟩):Option CT)) m hd bs p fs pa sk co out k
  |_,_=>none
theorem X0:zx Tryd.prog 42 (uJ alg):=by
  intro args hp r h
  unfold uJ at h
  split at h
  · cases h;exact fun hn=>Rf _ _ _ _ _ _ _ _ _ _ hn
  · cases h
def QD:Know Tryd.prog:=⟨42,uJ,X0⟩
def QC:Know Tryd.prog:=⟨42,fun I=>zA I (uJ I),zf X0⟩
theorem zdx (m:Str) (hd:Int) (bs:List Int) (p:Int) (ln:Ln) (fs:List Fld) (pa sk co:Int) (out:List Evt) (k:Int) (hneed:fm9 ⟨m,hd,bs,p,some ln,fs,pa,sk,co,out⟩∧FmS ⟨m,hd,bs,p,some ln,fs,pa,sk,co,out⟩∧0≤k∧k≤255):Spc Tryd.prog 42 [.v (.one (.ptr 0 0)),.v (.one (.p (.int .u8 k)))] [.abs (.fm ⟨m,hd,bs,p,some ln,fs,pa,sk,co,out⟩)] (.ret (.tup [])) [.abs (.fm ((yZ ⟨m,hd,bs,p,some ln,fs,pa,sk,co,out⟩ (UInt8.ofNat k.toNat))))]:=by
  obtain⟨hneed,⟨hbs,hml,hh0,hh1,hs0⟩,h0,h1⟩:=hneed
  unfold fm9 at hneed
  simp only at hneed hbs hml hh0 hh1 hs0
  generalize hr:yZ ⟨m,hd,bs,p,some ln,fs,pa,sk,co,out⟩ (UInt8.ofNat k.toNat)=r
  unfold yZ vz fmSk at hr
  simp only [Int.min_def] at hr
  refine spcG zk mixed Tryd.func42 (by kernel_rfl) { cfgF with fz:=[60],keep:=some [0,1,4,5,6]} [Z5,Z4,xG,xE,wz,wu,QD,QC] (by kernel_rfl) ?_
  intro I X hI hX
  refine zh (let y0:=I.len (α:=UInt8) (I.hid (α:=Str) (Prod.fst (yh m (Int.toNat hd) (UInt8.ofNat (Int.toNat k)))));let y1:=I.hid (α:=Int) (Nat.cast (Prod.fst (Prod.snd (yh m (Int.toNat hd) (UInt8.ofNat (Int.toNat k))))));let y2:=I.hid (α:=(List Go.Ab.Evt)) (HAppend.hAppend out ([(Go.Ab.Evt.mk (2:Int) (Hd.mk ([]:Str) ([]:Str) (0:Int) ([]:List Fld) (0:Int)) (I.cut (α:=UInt8) (I.hid (α:=Str) (Prod.fst (yh m (Int.toNat hd) (UInt8.ofNat (Int.toNat k))))) (I.imin sk y0) y0) (Go.Ab.Prt.mk ([]:Str) ([]:Str) ([]:Str) ([]:Str)) (0:Int))]:List Go.Ab.Evt));let y3:=I.hid (α:=(Prop)) (zO (Go.Ab.Fm.mk m y1 bs p (Option.some (Go.Ab.Ln.mk (Go.Ab.Ln.b ln) (Go.Ab.Ln.cr ln) (Go.Ab.Ln.code ln))) fs pa (I.sub sk (I.imin sk y0)) co out));let y4:=I.hid (α:=(List Go.Ab.Evt)) (HAppend.hAppend out ([(Go.Ab.Evt.mk (6:Int) (Hd.mk ([]:Str) ([]:Str) (0:Int) ([]:List Fld) (0:Int)) ([]:Str) (Go.Ab.Prt.mk ([]:Str) ([]:Str) ([]:Str) ([]:Str)) (0:Int))]:List Go.Ab.Evt));let y5:=I.bnot (I.hid (α:=Bool) (Prod.snd (Prod.snd (yh m (Int.toNat hd) (UInt8.ofNat (Int.toNat k))))));.need (I.hid (α:=(Prop)) (And (Eq bs (wE m)) (And (LE.le (List.length m) 1000000) (And (LE.le (0:Int) hd) (And (Or (Eq m ([]:Str)) (LT.lt hd (Nat.cast (List.length m)))) (And (LE.le (0:Int) k) (LE.le k (255:Int)))))))) (.need (I.inr Go.IntKind.i64 (I.sub sk (I.imin sk y0))) (.need (I.cutb (I.imin sk y0) y0 y0) (.br (I.ieq p 6) (.br (I.ilt 0 (I.sub y0 (I.imin sk y0))) (.need y3 (.br y5 (.fin (.ret (.tup [])) [(.abs (.fm (Go.Ab.Fm.mk m y1 bs p (Option.some (Go.Ab.Ln.mk (Go.Ab.Ln.b ln) (Go.Ab.Ln.cr ln) (Go.Ab.Ln.code ln))) fs pa (I.sub sk (I.imin sk y0)) co y2)))]) (.br (I.ieq p 6) (.need (I.hid (α:=(Prop)) (zO (Go.Ab.Fm.mk m y1 bs p (Option.some (Go.Ab.Ln.mk (Go.Ab.Ln.b ln) (Go.Ab.Ln.cr ln) (Go.Ab.Ln.code ln))) fs pa (I.sub sk (I.imin sk y0)) co y2))) (.fin (.ret (.tup [])) [(.abs (.fm (Go.Ab.Fm.mk m y1 bs (1:Int) (Option.some (Go.Ab.Ln.mk (Go.Ab.Ln.b ln) (Go.Ab.Ln.cr ln) (Go.Ab.Ln.code ln))) fs pa (0:Int) co (I.hid (α:=(List Go.Ab.Evt)) (HAppend.hAppend y2 ([(Go.Ab.Evt.mk (6:Int) (Hd.mk ([]:Str) ([]:Str) (0:Int) ([]:List Fld) (0:Int)) ([]:Str) (Go.Ab.Prt.mk ([]:Str) ([]:Str) ([]:Str) ([]:Str)) (0:Int))]:List Go.Ab.Evt))))))])) (.fin (.ret (.tup [])) [(.abs (.fm (Go.Ab.Fm.mk m y1 bs (1:Int) (Option.some (Go.Ab.Ln.mk (Go.Ab.Ln.b ln) (Go.Ab.Ln.cr ln) (Go.Ab.Ln.code ln))) fs pa (0:Int) co y2)))])))) (.br y5 (.fin (.ret (.tup [])) [(.abs (.fm (Go.Ab.Fm.mk m y1 bs p (Option.some (Go.Ab.Ln.mk (Go.Ab.Ln.b ln) (Go.Ab.Ln.cr ln) (Go.Ab.Ln.code ln))) fs pa (I.sub sk (I.imin sk y0)) co out)))]) (.br (I.ieq p 6) (.need y3 (.fin (.ret (.tup [])) [(.abs (.fm (Go.Ab.Fm.mk m y1 bs (1:Int) (Option.some (Go.Ab.Ln.mk (Go.Ab.Ln.b ln) (Go.Ab.Ln.cr ln) (Go.Ab.Ln.code ln))) fs pa (0:Int) co y4)))])) (.fin (.ret (.tup [])) [(.abs (.fm (Go.Ab.Fm.mk m y1 bs (1:Int) (Option.some (Go.Ab.Ln.mk (Go.Ab.Ln.b ln) (Go.Ab.Ln.cr ln) (Go.Ab.Ln.code ln))) fs pa (0:Int) co out)))])))) (.br y5 (.fin (.ret (.tup [])) [(.abs (.fm (Go.Ab.Fm.mk m y1 bs p (Option.some (Go.Ab.Ln.mk (Go.Ab.Ln.b ln) (Go.Ab.Ln.cr ln) (Go.Ab.Ln.code ln))) fs pa (I.sub sk (I.imin sk y0)) co out)))]) (.br (I.ieq p 6) (.need y3 (.fin (.ret (.tup [])) [(.abs (.fm (Go.Ab.Fm.mk m y1 bs (1:Int) (Option.some (Go.Ab.Ln.mk (Go.Ab.Ln.b ln) (Go.Ab.Ln.cr ln) (Go.Ab.Ln.code ln))) fs pa (0:Int) co y4)))])) (.fin (.ret (.tup [])) [(.abs (.fm (Go.Ab.Fm.mk m y1 bs (1:Int) (Option.some (Go.Ab.Ln.mk (Go.Ab.Ln.b ln) (Go.Ab.Ln.cr ln) (Go.Ab.Ln.code ln))) fs pa (0:Int) co out)))]))))))) (by kernel_rfl) ?_
  simp only [zq]
  generalize yh m hd.toNat (UInt8.ofNat k.toNat)=q at *
  obtain⟨o,n2,fd⟩:=q
  subst hI
  simp only [nrmA,nrmB,nrlB,reduceCtorEq,HO.abs.injEq,Gh.fm.injEq]
  simp only at hr
  have hn:0≤(if sk≤(o.length:Int) then sk else(o.length:Int))∧(if sk≤(o.length:Int) then sk else(o.length:Int))≤o.length∧(if sk≤(o.length:Int) then sk else(o.length:Int))≤sk:=by split<;>omega
  generalize(if sk≤(o.length:Int) then sk else(o.length:Int))=n at *
  rw [List.take_of_length_le (show(o.drop n.toNat).length≤o.length - n.toNat by rw [List.length_drop];exact Nat.le_refl _)]
  have hne:0<(o.length:Int) - n→¬ o.drop n.toNat=[]:=fun h k=>by have:=congrArg List.length k;rw [List.length_drop,List.length_nil] at this;omega
  have hnn: ¬ 0<(o.length:Int) - n→o.drop n.toNat=[]:=fun h=>List.drop_of_length_le (by omega)
  generalize o.drop n.toNat=D at *
  (repeat' (first|refine And.intro ?_ ?_|intro _))<;>first|omega|exact True.intro|exact False.elim ‹False›|skip
  all_goals first
    |omega
    |with_reducible assumption
    |(unfold zO;simp only [List.length_append,List.length_singleton];omega)
    |(have hne:=hne (by omega);clear hnn;subst hr;simp [*,evB,evO,hd0,prt0];done)
    |(have hnn:=hnn (by omega);clear hne;subst hr;simp [*,evB,evO,hd0,prt0];done)
    |(clear hne hnn;subst hr;simp [*,evB,evO,hd0,prt0];done)
theorem ze3 (f:Fm) (k:Int) (hneed:fm9 f∧FmS f∧0≤k∧k≤255):Spc Tryd.prog 42 [.v (.one (.ptr 0 0)),.v (.one (.p (.int .u8 k)))] [.abs (.fm f)] (.ret (.tup [])) [.abs (.fm ((yZ f (UInt8.ofNat k.toNat))))]:=by
  obtain⟨m,hd,bs,p,ln,fs,pa,sk,co,out⟩:=f
  cases ln with
  |none=>exact Rf m hd bs p fs pa sk co out k hneed
  |some ln=>exact zdx m hd bs p ln fs pa sk co out k hneed
def rO (I:Alg) (args:List D) (hp:List HO):Option CT:=match args,hp with
  |[.v (.one (.ptr 0 0)),.v (.one (.p (.int .u8 k)))],[.abs (.fm f)]=>(fun(f:Fm) (k:Int)=>(some (.one ⟨I.hid (fm9 f∧FmS f∧0≤k∧k≤255),(.ret (.tup [])),[.abs (.fm (I.hid ((yZ f (UInt8.ofNat k.toNat)))))]⟩):Option CT)) f k
  |_,_=>none
theorem Vw:zx Tryd.prog 42 (rO alg):=by
  intro args hp r h
  unfold rO at h
  split at h
  · cases h;exact fun hn=>ze3 _ _ hn
  · cases h
def Vu:Know Tryd.prog:=⟨42,rO,Vw⟩
def Vt:Know Tryd.prog:=⟨42,fun I=>zA I (rO I),zf Vw⟩
end Go.Proofs.YtknaogelmckimaaDoor
namespace Go.Proofs.YtknaogelmckimaaDoor
open Go Go.Sep Go.Ab
set_option maxRecDepth 100000
theorem ze7 (m:Str) (n:Nat) (c:UInt8):m=[]∨(yh m n c).2.1<m.length:=by
  unfold yh
  by_cases h:m=[]
  · exact .inl h
  · rw [if_neg h]
    have h0:0<m.length:=by cases m<;>simp_all
    unfold P.feed
    simp only
    repeat' split
    all_goals first|exact .inr h0|(right;assumption)
theorem Zp (m:Str) (n:Nat) (c:UInt8):m=[]∨(((yh m n c).2.1:Nat):Int)<m.length:=(ze7 m n c).imp id fun h=>by omega
theorem Qi (l:List Fld):(yw l).1.bytes=[]:=by
  unfold yw zeH
  repeat' split
  all_goals rfl
def FdOk (f:List Fld):Prop:=f.length≤1000∧∀ x ∈ f,x.name.length≤1000000∧x.value.length≤1000000
structure FmB (f:Fm):Prop where
  few:f.out.length≤9000000
  sk:FmS f
  fd:FdOk f.fields
  p0:0≤f.parts∧f.parts≤12
theorem zdB (m:Str) (hd:Int) (bs:List Int) (p:Int) (fs:List Fld) (pa sk co:Int) (out:List Evt) (hneed:FmB ⟨m,hd,bs,p,none,fs,pa,sk,co,out⟩):Spc Tryd.prog 62 [.v (.one (.ptr 0 0))] [.abs (.fm ⟨m,hd,bs,p,none,fs,pa,sk,co,out⟩)] (.ret (.tup [])) [.abs (.fm ((yN ⟨m,hd,bs,p,none,fs,pa,sk,co,out⟩)))]:=by
  obtain⟨h9,⟨hbs,hml,hh0,hh1,hs0⟩,⟨hfl,hff⟩,hp0⟩:=hneed
  simp only at h9 hbs hml hh0 hh1 hs0 hfl hff hp0
  generalize hr:yN ⟨m,hd,bs,p,none,fs,pa,sk,co,out⟩=r
  have hb:=Qi fs
  unfold yN at hr
  simp only [zH,fmSk,evP,evF,Int.toNat_natCast] at hr
  refine spcG zk mixed Tryd.func62 (by kernel_rfl) { cfgF with keep:=some [0,2,3]} [Z5,Z4,Um,Ul,xG,xE,wz,wu,wC,wB] (by kernel_rfl) ?_
  intro I X hI hX
  refine zh (let y0:=I.hid (α:=(Prop)) (And (Eq bs (wE m)) (And (LE.le (List.length m) 1000000) (And (LE.le (0:Int) (I.hid (α:=Int) (Nat.cast (Prod.fst (Prod.snd (yh m (Int.toNat hd) (UInt8.ofNat (Int.toNat (13:Int))))))))) (And (Or (Eq m ([]:Str)) (LT.lt (I.hid (α:=Int) (Nat.cast (Prod.fst (Prod.snd (yh m (Int.toNat hd) (UInt8.ofNat (Int.toNat (13:Int)))))))) (Nat.cast (List.length m)))) (And (LE.le (0:Int) (10:Int)) (LE.le (10:Int) (255:Int)))))));let y1:=I.hid (α:=(List Go.Ab.Evt)) (HAppend.hAppend out ([(Go.Ab.Evt.mk (5:Int) (Hd.mk ([]:Str) ([]:Str) (0:Int) ([]:List Fld) (0:Int)) ([]:Str) (Go.Ab.Prt.mk (I.hid (α:=Str) (Go.Ab.Prt.name (Prod.fst (yw fs)))) (I.hid (α:=Str) (Go.Ab.Prt.file (Prod.fst (yw fs)))) (I.hid (α:=Str) (Go.Ab.Prt.type (Prod.fst (yw fs)))) ([]:Str)) (0:Int))]:List Go.Ab.Evt));let y2:=I.hid (α:=(Prop)) (And (Eq bs (wE m)) (And (LE.le (List.length m) 1000000) (And (LE.le (0:Int) hd) (And (Or (Eq m ([]:Str)) (LT.lt hd (Nat.cast (List.length m)))) (And (LE.le (0:Int) (13:Int)) (LE.le (13:Int) (255:Int)))))));let y3:=I.hid (α:=Int) (Nat.cast (Prod.fst (Prod.snd (yh m (Int.toNat (I.hid (α:=Int) (Nat.cast (Prod.fst (Prod.snd (yh m (Int.toNat hd) (UInt8.ofNat (Int.toNat (13:Int))))))))) (UInt8.ofNat (Int.toNat (10:Int)))))));let y4:=I.hid (α:=(Prop)) (zO (Go.Ab.Fm.mk m hd bs (6:Int) (Option.none) fs (I.add pa 1) sk co out));let y5:=I.hid (α:=(Prop)) (zO (Go.Ab.Fm.mk m hd bs p (Option.none) fs pa sk co out));let y6:=I.hid (α:=Int) (Prod.snd (yw fs));let y7:=I.hid (α:=Go.Ab.Fm) (zH (Go.Ab.Fm.mk m hd bs p (Option.none) fs pa sk co out) y6);let y8:=I.inr Go.IntKind.i64 (I.add pa 1);.need (I.hid (α:=(Prop)) (And (LE.le (List.length fs) 1000) (∀ (f:Fld),f ∈ fs→List.length f.name≤1000000∧List.length f.value≤1000000))) (.br (I.ieq y6 0) (.br (I.ieq pa 12) (.br (I.bnot (I.ieq 8 0)) (.need y5 (.fin (.ret (.tup [])) [(.abs (.fm (I.hid (α:=Go.Ab.Fm) (zH (Go.Ab.Fm.mk m hd bs p (Option.none) fs pa sk co out) (8:Int)))))])) (.need y8 (.need y4 (.need y2 (.need y0 (.fin (.ret (.tup [])) [(.abs (.fm (Go.Ab.Fm.mk m y3 bs (6:Int) (Option.none) fs (I.add pa 1) (2:Int) co y1)))])))))) (.br (I.bnot (I.ieq y6 0)) (.need y5 (.fin (.ret (.tup [])) [(.abs (.fm y7))])) (.need y8 (.need y4 (.need y2 (.need y0 (.fin (.ret (.tup [])) [(.abs (.fm (Go.Ab.Fm.mk m y3 bs (6:Int) (Option.none) fs (I.add pa 1) (2:Int) co y1)))]))))))) (.br (I.bnot (I.ieq y6 0)) (.need y5 (.fin (.ret (.tup [])) [(.abs (.fm y7))])) (.need y8 (.need y4 (.need y2 (.need y0 (.fin (.ret (.tup [])) [(.abs (.fm (Go.Ab.Fm.mk m y3 bs (6:Int) (Option.none) fs (I.add pa 1) (2:Int) co y1)))])))))))) (by kernel_rfl) ?_
  simp only [zq]
  have hl1:=Zp m hd.toNat 13
  generalize yw fs=P at *
  obtain⟨⟨a,b,c,d⟩,e⟩:=P
  simp only at hb hr
  subst hb
  subst hI
  simp only [nrmA,nrmB,nrlB,reduceCtorEq,HO.abs.injEq,Gh.fm.injEq]
  (repeat' (first|refine And.intro ?_ ?_|intro _))<;>first|omega|exact True.intro|exact False.elim ‹False›|skip
  all_goals first
    |omega
    |with_reducible assumption
    |exact(hff _ ‹_›).1
    |exact(hff _ ‹_›).2
    |(unfold zO;simp only [List.length_append,List.length_singleton];omega)
    |exact hl1
    |(subst hr;simp [*,evF,hd0,prt0,zH];done)
theorem zdA (m:Str) (hd:Int) (bs:List Int) (p:Int) (ln:Ln) (fs:List Fld) (pa sk co:Int) (out:List Evt) (hneed:FmB ⟨m,hd,bs,p,some ln,fs,pa,sk,co,out⟩):Spc Tryd.prog 62 [.v (.one (.ptr 0 0))] [.abs (.fm ⟨m,hd,bs,p,some ln,fs,pa,sk,co,out⟩)] (.ret (.tup [])) [.abs (.fm ((yN ⟨m,hd,bs,p,some ln,fs,pa,sk,co,out⟩)))]:=by
  obtain⟨h9,⟨hbs,hml,hh0,hh1,hs0⟩,⟨hfl,hff⟩,hp0⟩:=hneed
  simp only at h9 hbs hml hh0 hh1 hs0 hfl hff hp0
  generalize hr:yN ⟨m,hd,bs,p,some ln,fs,pa,sk,co,out⟩=r
  have hb:=Qi fs
  unfold yN at hr
  simp only [zH,fmSk,evP,evF,Int.toNat_natCast] at hr
  refine spcG zk mixed Tryd.func62 (by kernel_rfl) { cfgF with keep:=some [0,2,3]} [Z5,Z4,Um,Ul,xG,xE,wz,wu,wC,wB] (by kernel_rfl) ?_
  intro I X hI hX
  refine zh (let y0:=I.hid (α:=(Prop)) (And (Eq bs (wE m)) (And (LE.le (List.length m) 1000000) (And (LE.le (0:Int) (I.hid (α:=Int) (Nat.cast (Prod.fst (Prod.snd (yh m (Int.toNat hd) (UInt8.ofNat (Int.toNat (13:Int))))))))) (And (Or (Eq m ([]:Str)) (LT.lt (I.hid (α:=Int) (Nat.cast (Prod.fst (Prod.snd (yh m (Int.toNat hd) (UInt8.ofNat (Int.toNat (13:Int)))))))) (Nat.cast (List.length m)))) (And (LE.le (0:Int) (10:Int)) (LE.le (10:Int) (255:Int)))))));let y1:=I.hid (α:=(List Go.Ab.Evt)) (HAppend.hAppend out ([(Go.Ab.Evt.mk (5:Int) (Hd.mk ([]:Str) ([]:Str) (0:Int) ([]:List Fld) (0:Int)) ([]:Str) (Go.Ab.Prt.mk (I.hid (α:=Str) (Go.Ab.Prt.name (Prod.fst (yw fs)))) (I.hid (α:=Str) (Go.Ab.Prt.file (Prod.fst (yw fs)))) (I.hid (α:=Str) (Go.Ab.Prt.type (Prod.fst (yw fs)))) ([]:Str)) (0:Int))]:List Go.Ab.Evt));let y2:=I.hid (α:=(Prop)) (And (Eq bs (wE m)) (And (LE.le (List.length m) 1000000) (And (LE.le (0:Int) hd) (And (Or (Eq m ([]:Str)) (LT.lt hd (Nat.cast (List.length m)))) (And (LE.le (0:Int) (13:Int)) (LE.le (13:Int) (255:Int)))))));let y3:=I.hid (α:=Int) (Nat.cast (Prod.fst (Prod.snd (yh m (Int.toNat (I.hid (α:=Int) (Nat.cast (Prod.fst (Prod.snd (yh m (Int.toNat hd) (UInt8.ofNat (Int.toNat (13:Int))))))))) (UInt8.ofNat (Int.toNat (10:Int)))))));let y4:=I.hid (α:=(Prop)) (zO (Go.Ab.Fm.mk m hd bs (6:Int) (Option.some (Go.Ab.Ln.mk (Go.Ab.Ln.b ln) (Go.Ab.Ln.cr ln) (Go.Ab.Ln.code ln))) fs (I.add pa 1) sk co out));let y5:=I.hid (α:=(Prop)) (zO (Go.Ab.Fm.mk m hd bs p (Option.some (Go.Ab.Ln.mk (Go.Ab.Ln.b ln) (Go.Ab.Ln.cr ln) (Go.Ab.Ln.code ln))) fs pa sk co out));let y6:=I.hid (α:=Go.Ab.Fm) (zH (Go.Ab.Fm.mk m hd bs p (Option.some (Go.Ab.Ln.mk (Go.Ab.Ln.b ln) (Go.Ab.Ln.cr ln) (Go.Ab.Ln.code ln))) fs pa sk co out) (I.hid (α:=Int) (Prod.snd (yw fs))));let y7:=I.ieq (I.hid (α:=Int) (Prod.snd (yw fs))) 0;let y8:=I.inr Go.IntKind.i64 (I.add pa 1);.need (I.hid (α:=(Prop)) (And (LE.le (List.length fs) 1000) (∀ (f:Fld),f ∈ fs→List.length f.name≤1000000∧List.length f.value≤1000000))) (.br y7 (.br (I.ieq pa 12) (.br (I.bnot (I.ieq 8 0)) (.need y5 (.fin (.ret (.tup [])) [(.abs (.fm (I.hid (α:=Go.Ab.Fm) (zH (Go.Ab.Fm.mk m hd bs p (Option.some (Go.Ab.Ln.mk (Go.Ab.Ln.b ln) (Go.Ab.Ln.cr ln) (Go.Ab.Ln.code ln))) fs pa sk co out) (8:Int)))))])) (.need y8 (.need y4 (.need y2 (.need y0 (.fin (.ret (.tup [])) [(.abs (.fm (Go.Ab.Fm.mk m y3 bs (6:Int) (Option.some (Go.Ab.Ln.mk (Go.Ab.Ln.b ln) (Go.Ab.Ln.cr ln) (Go.Ab.Ln.code ln))) fs (I.add pa 1) (2:Int) co y1)))])))))) (.br (I.bnot y7) (.need y5 (.fin (.ret (.tup [])) [(.abs (.fm y6))])) (.need y8 (.need y4 (.need y2 (.need y0 (.fin (.ret (.tup [])) [(.abs (.fm (Go.Ab.Fm.mk m y3 bs (6:Int) (Option.some (Go.Ab.Ln.mk (Go.Ab.Ln.b ln) (Go.Ab.Ln.cr ln) (Go.Ab.Ln.code ln))) fs (I.add pa 1) (2:Int) co y1)))]))))))) (.br (I.bnot y7) (.need y5 (.fin (.ret (.tup [])) [(.abs (.fm y6))])) (.need y8 (.need y4 (.need y2 (.need y0 (.fin (.ret (.tup [])) [(.abs (.fm (Go.Ab.Fm.mk m y3 bs (6:Int) (Option.some (Go.Ab.Ln.mk (Go.Ab.Ln.b ln) (Go.Ab.Ln.cr ln) (Go.Ab.Ln.code ln))) fs (I.add pa 1) (2:Int) co y1)))])))))))) (by kernel_rfl) ?_
  simp only [zq]
  have hl1:=Zp m hd.toNat 13
  generalize yw fs=P at *
  obtain⟨⟨a,b,c,d⟩,e⟩:=P
  simp only at hb hr
  subst hb
  subst hI
  simp only [nrmA,nrmB,nrlB,reduceCtorEq,HO.abs.injEq,Gh.fm.injEq]
  (repeat' (first|refine And.intro ?_ ?_|intro _))<;>first|omega|exact True.intro|exact False.elim ‹False›|skip
  all_goals first
    |omega
    |with_reducible assumption
    |exact(hff _ ‹_›).1
    |exact(hff _ ‹_›).2
    |(unfold zO;simp only [List.length_append,List.length_singleton];omega)
    |exact hl1
    |(subst hr;simp [*,evF,hd0,prt0,zH];done)
theorem ze4 (f:Fm) (hneed:FmB f):Spc Tryd.prog 62 [.v (.one (.ptr 0 0))] [.abs (.fm f)] (.ret (.tup [])) [.abs (.fm ((yN f)))]:=by
  obtain⟨m,hd,bs,p,ln,fs,pa,sk,co,out⟩:=f
  cases ln with
  |none=>exact zdB m hd bs p fs pa sk co out hneed
  |some ln=>exact zdA m hd bs p ln fs pa sk co out hneed
def rP (I:Alg) (args:List D) (hp:List HO):Option CT:=match args,hp with
  |[.v (.one (.ptr 0 0))],[.abs (.fm f)]=>(fun(f:Fm)=>(some (.one ⟨I.hid (FmB f),(.ret (.tup [])),[.abs (.fm (I.hid ((yN f))))]⟩):Option CT)) f
  |_,_=>none
theorem VA:zx Tryd.prog 62 (rP alg):=by
  intro args hp r h
  unfold rP at h
  split at h
  · cases h;exact fun hn=>ze4 _ hn
  · cases h
def Vz:Know Tryd.prog:=⟨62,rP,VA⟩
def Vy:Know Tryd.prog:=⟨62,fun I=>zA I (rP I),zf VA⟩
theorem zeV (m:Str) (hd:Int) (bs:List Int) (p:Int) (fs:List Fld) (pa sk co:Int) (out:List Evt) (s:Str) (hneed:FmB ⟨m,hd,bs,p,none,fs,pa,sk,co,out⟩∧s.length≤1000000):Spc Tryd.prog 47 [.v (.one (.ptr 0 0)),.v (.one (.p (.str s)))] [.abs (.fm ⟨m,hd,bs,p,none,fs,pa,sk,co,out⟩)] (.ret (.tup [])) [.abs (.fm ((xO ⟨m,hd,bs,p,none,fs,pa,sk,co,out⟩ s)))]:=by
  obtain⟨⟨h9,hS,⟨hfl,hff⟩,hp0⟩,hs⟩:=hneed
  simp only at h9 hfl hff hp0
  generalize hr:xO ⟨m,hd,bs,p,none,fs,pa,sk,co,out⟩ s=r
  unfold xO at hr
  simp only at hr
  refine spcG zk mixed Tryd.func47 (by kernel_rfl) { cfgF with keep:=some [0,1,4,5]} [zaD,zaC,wC,wB,Vz,Vy] (by kernel_rfl) ?_
  intro I X hI hX
  refine zh (let y3:=I.hid (α:=Str) (Fld.name (Prod.fst (yX s)));let y2:=I.hid (α:=Str) (Fld.value (Prod.fst (yX s)));let y0:=I.few (I.add (I.len (α:=Fld) fs) (I.len (α:=Fld) ([(Fld.mk y3 y2)]:List Fld))) 100000000;let y1:=I.hid (α:=(Prop)) (zO (Go.Ab.Fm.mk m hd bs p (Option.none) fs pa sk co out));let y4:=I.hid (α:=Int) (Prod.snd (yX s));.br (I.seq s ([]:Str)) (.need (I.hid (α:=(Prop)) (FmB (Go.Ab.Fm.mk m hd bs p (Option.none) fs pa sk co out))) (.fin (.ret (.tup [])) [(.abs (.fm (I.hid (α:=Go.Ab.Fm) (yN (Go.Ab.Fm.mk m hd bs p (Option.none) fs pa sk co out)))))])) (.br (I.ieq (I.len (α:=Fld) fs) 16) (.need y1 (.fin (.ret (.tup [])) [(.abs (.fm (I.hid (α:=Go.Ab.Fm) (zH (Go.Ab.Fm.mk m hd bs p (Option.none) fs pa sk co out) (8:Int)))))])) (.need (I.hid (α:=(Prop)) (LE.le (List.length s) 1000000)) (.br (I.bnot (I.ieq y4 0)) (.need y1 (.fin (.ret (.tup [])) [(.abs (.fm (I.hid (α:=Go.Ab.Fm) (zH (Go.Ab.Fm.mk m hd bs p (Option.none) fs pa sk co out) y4))))])) (.both (.need y0 (.fin (.ret (.tup [])) [(.abs (.fm (Go.Ab.Fm.mk m hd bs p (Option.none) (I.app (α:=Fld) fs ([(Fld.mk y3 y2)]:List Fld)) pa sk co out)))])) (.need y0 (.fin (.ret (.tup [])) [(.abs (.fm (Go.Ab.Fm.mk m hd bs p (Option.none) (I.app (α:=Fld) fs ([(Fld.mk y3 y2)]:List Fld)) pa sk co out)))]))))))) (by kernel_rfl) ?_
  simp only [zq]
  generalize yX s=y at *
  obtain⟨⟨a,b⟩,e⟩:=y
  subst hI
  simp only [nrmA,nrmB,nrlB,reduceCtorEq,HO.abs.injEq,Gh.fm.injEq]
  (repeat' (first|refine And.intro ?_ ?_|intro _))<;>first|omega|exact True.intro|exact False.elim ‹False›|skip
  all_goals first
    |omega
    |with_reducible assumption
    |exact⟨h9,hS,⟨hfl,hff⟩,hp0⟩
    |(unfold zO;simp only;omega)
    |(simp only [List.length_singleton];omega)
    |(subst hr;simp [*,zH];done)
    |(subst hr;rw [if_pos ‹s=[]›];done)
    |(subst hr;rw [if_neg ‹¬ s=[]›,if_pos (by omega)];done)
    |(subst hr;rw [if_neg ‹¬ s=[]›,if_neg (by omega),if_pos ‹¬ e=0›];done)
    |(subst hr;rw [if_neg ‹¬ s=[]›,if_neg (by omega),if_neg (fun h=>h ‹e=0›)];done)
theorem zeU (m:Str) (hd:Int) (bs:List Int) (p:Int) (ln:Ln) (fs:List Fld) (pa sk co:Int) (out:List Evt) (s:Str) (hneed:FmB ⟨m,hd,bs,p,some ln,fs,pa,sk,co,out⟩∧s.length≤1000000):Spc Tryd.prog 47 [.v (.one (.ptr 0 0)),.v (.one (.p (.str s)))] [.abs (.fm ⟨m,hd,bs,p,some ln,fs,pa,sk,co,out⟩)] (.ret (.tup [])) [.abs (.fm ((xO ⟨m,hd,bs,p,some ln,fs,pa,sk,co,out⟩ s)))]:=by
  obtain⟨⟨h9,hS,⟨hfl,hff⟩,hp0⟩,hs⟩:=hneed
  simp only at h9 hfl hff hp0
  generalize hr:xO ⟨m,hd,bs,p,some ln,fs,pa,sk,co,out⟩ s=r
  unfold xO at hr
  simp only at hr
  refine spcG zk mixed Tryd.func47 (by kernel_rfl) { cfgF with keep:=some [0,1,4,5]} [zaD,zaC,wC,wB,Vz,Vy] (by kernel_rfl) ?_
  intro I X hI hX
  refine zh (let y3:=I.hid (α:=Str) (Fld.name (Prod.fst (yX s)));let y2:=I.hid (α:=Str) (Fld.value (Prod.fst (yX s)));let y0:=I.few (I.add (I.len (α:=Fld) fs) (I.len (α:=Fld) ([(Fld.mk y3 y2)]:List Fld))) 100000000;let y1:=I.hid (α:=(Prop)) (zO (Go.Ab.Fm.mk m hd bs p (Option.some (Go.Ab.Ln.mk (Go.Ab.Ln.b ln) (Go.Ab.Ln.cr ln) (Go.Ab.Ln.code ln))) fs pa sk co out));let y4:=I.hid (α:=Int) (Prod.snd (yX s));.br (I.seq s ([]:Str)) (.need (I.hid (α:=(Prop)) (FmB (Go.Ab.Fm.mk m hd bs p (Option.some ln) fs pa sk co out))) (.fin (.ret (.tup [])) [(.abs (.fm (I.hid (α:=Go.Ab.Fm) (yN (Go.Ab.Fm.mk m hd bs p (Option.some ln) fs pa sk co out)))))])) (.br (I.ieq (I.len (α:=Fld) fs) 16) (.need y1 (.fin (.ret (.tup [])) [(.abs (.fm (I.hid (α:=Go.Ab.Fm) (zH (Go.Ab.Fm.mk m hd bs p (Option.some (Go.Ab.Ln.mk (Go.Ab.Ln.b ln) (Go.Ab.Ln.cr ln) (Go.Ab.Ln.code ln))) fs pa sk co out) (8:Int)))))])) (.need (I.hid (α:=(Prop)) (LE.le (List.length s) 1000000)) (.br (I.bnot (I.ieq y4 0)) (.need y1 (.fin (.ret (.tup [])) [(.abs (.fm (I.hid (α:=Go.Ab.Fm) (zH (Go.Ab.Fm.mk m hd bs p (Option.some (Go.Ab.Ln.mk (Go.Ab.Ln.b ln) (Go.Ab.Ln.cr ln) (Go.Ab.Ln.code ln))) fs pa sk co out) y4))))])) (.both (.need y0 (.fin (.ret (.tup [])) [(.abs (.fm (Go.Ab.Fm.mk m hd bs p (Option.some (Go.Ab.Ln.mk (Go.Ab.Ln.b ln) (Go.Ab.Ln.cr ln) (Go.Ab.Ln.code ln))) (I.app (α:=Fld) fs ([(Fld.mk y3 y2)]:List Fld)) pa sk co out)))])) (.need y0 (.fin (.ret (.tup [])) [(.abs (.fm (Go.Ab.Fm.mk m hd bs p (Option.some (Go.Ab.Ln.mk (Go.Ab.Ln.b ln) (Go.Ab.Ln.cr ln) (Go.Ab.Ln.code ln))) (I.app (α:=Fld) fs ([(Fld.mk y3 y2)]:List Fld)) pa sk co out)))]))))))) (by kernel_rfl) ?_
  simp only [zq]
  generalize yX s=y at *
  obtain⟨⟨a,b⟩,e⟩:=y
  subst hI
  simp only [nrmA,nrmB,nrlB,reduceCtorEq,HO.abs.injEq,Gh.fm.injEq]
  (repeat' (first|refine And.intro ?_ ?_|intro _))<;>first|omega|exact True.intro|exact False.elim ‹False›|skip
  all_goals first
    |omega
    |with_reducible assumption
    |exact⟨h9,hS,⟨hfl,hff⟩,hp0⟩
    |(unfold zO;simp only;omega)
    |(simp only [List.length_singleton];omega)
    |(subst hr;simp [*,zH];done)
    |(subst hr;rw [if_pos ‹s=[]›];done)
    |(subst hr;rw [if_neg ‹¬ s=[]›,if_pos (by omega)];done)
    |(subst hr;rw [if_neg ‹¬ s=[]›,if_neg (by omega),if_pos ‹¬ e=0›];done)
    |(subst hr;rw [if_neg ‹¬ s=[]›,if_neg (by omega),if_neg (fun h=>h ‹e=0›)];done)
theorem zgM (f:Fm) (s:Str) (hneed:FmB f∧s.length≤1000000):Spc Tryd.prog 47 [.v (.one (.ptr 0 0)),.v (.one (.p (.str s)))] [.abs (.fm f)] (.ret (.tup [])) [.abs (.fm ((xO f s)))]:=by
  obtain⟨m,hd,bs,p,ln,fs,pa,sk,co,out⟩:=f
  cases ln with
  |none=>exact zeV m hd bs p fs pa sk co out s hneed
  |some ln=>exact zeU m hd bs p ln fs pa sk co out s hneed
def Zm (I:Alg) (args:List D) (hp:List HO):Option CT:=match args,hp with
  |[.v (.one (.ptr 0 0)),.v (.one (.p (.str s)))],[.abs (.fm f)]=>(fun(f:Fm) (s:Str)=>(some (.one ⟨I.hid (FmB f∧s.length≤1000000),(.ret (.tup [])),[.abs (.fm (I.hid ((xO f s))))]⟩):Option CT)) f s
  |_,_=>none
theorem SX:zx Tryd.prog 47 (Zm alg):=by
  intro args hp r h
  unfold Zm at h
  split at h
  · cases h;exact fun hn=>zgM _ _ hn
  · cases h
def SV:Know Tryd.prog:=⟨47,Zm,SX⟩
def SS:Know Tryd.prog:=⟨47,fun I=>zA I (Zm I),zf SX⟩
end Go.Proofs.YtknaogelmckimaaDoor
namespace Go.Proofs.YtknaogelmckimaaDoor
open Go Go.Sep Go.Ab
set_option maxRecDepth 100000
theorem zcI (s:Str):(yX s).1.name.length≤s.length∧(yX s).1.value.length≤s.length:=by
  have h:=zbr s 58
  have ht:=zan (cutB s 58).2.1 [32,9]
  unfold yX
  repeat' split
  all_goals simp only [List.length_nil]
  all_goals omega
end Go.Proofs.YtknaogelmckimaaDoor
namespace Go.Proofs.YtknaogelmckimaaDoor
open Go Go.Sep Go.Ab
set_option maxRecDepth 100000
structure FmI (f:Fm) (i:Nat):Prop where
  bs:f.bs=wE f.mark
  ml:f.mark.length≤1000
  h0:0≤f.held
  h1:f.held<f.mark.length
  s0:0≤f.skip∧f.skip≤2
  p0:0≤f.parts∧f.parts≤12
  fl:f.fields.length≤16
  ff: ∀ x ∈ f.fields,x.name.length≤i∧x.value.length≤i
  lb: ∀ l,f.ln=some l→l.b.length≤i
  p5:f.pos=5→f.ln≠none
  on:f.out.length≤4 * i
theorem Vp {f:Fm} {i:Nat} (h:FmI f i) (c:UInt8):FmI (fmSk f c) i:=by
  have hl:=(Zp f.mark f.held.toNat c).resolve_left fun e=>by have h1:=h.h1;have h0:=h.h0;rw [e,List.length_nil] at h1;omega
  exact⟨h.bs,h.ml,Int.natCast_nonneg _,hl,h.s0,h.p0,h.fl,h.ff,h.lb,h.p5,h.on⟩
theorem zbb {f:Fm} {i j:Nat} (h:FmI f i) (k:i≤j):FmI f j:=by
  obtain⟨a,b,c,d,e,f1,g,h1,h2,h3,h4⟩:=h
  exact⟨a,b,c,d,e,f1,g,fun x m=>by have:=h1 x m;omega,fun l e=>by have:=h2 l e;omega,h3,by omega⟩
theorem sG {f:Fm} {i:Nat} (h:FmI f i) {p co sk pa:Int} {o:List Evt} (ho:o.length≤4 * i) (hp:p=5→f.ln≠none) (hs:0≤sk∧sk≤2) (hpa:0≤pa∧pa≤12):FmI { f with pos:=p,code:=co,out:=o,skip:=sk,parts:=pa} i:=
  ⟨h.bs,h.ml,h.h0,h.h1,hs,hpa,h.fl,h.ff,h.lb,hp,ho⟩
theorem uI {f:Fm} {i:Nat} (h:FmI f i) (ho:f.out.length+1≤4 * i) (c:Int):FmI (zH f c) i:=
  sG h (by simp only [List.length_append,List.length_singleton];omega) (fun h=>absurd h (by decide)) h.s0 h.p0
theorem zcd {f:Fm} {i:Nat} (h:FmI f i) (ho:f.out.length+1≤4 * i) (c:UInt8):FmI (yx f c) i:=by
  unfold yx
  repeat' split
  · exact sG h h.on (fun h=>absurd h (by decide)) h.s0 h.p0
  · exact sG h (by simp only [List.length_append,List.length_singleton];omega) (fun h=>absurd h (by decide)) h.s0 h.p0
  · exact sG h h.on (fun h=>absurd h (by decide)) h.s0 h.p0
  · exact sG h h.on (fun h=>absurd h (by decide)) h.s0 h.p0
  · exact uI h ho 5
theorem zdy {f:Fm} {i:Nat} (h:FmI f i) (ho:f.out.length+2≤4 * i) (c:UInt8):FmI (yZ f c) i:=by
  have hs:=Vp h c
  have h2:=h.s0
  unfold yZ
  split
  · refine sG (f:=fmSk f c) hs ?_ h.p5 ?_ h.p0
    · split
      · simp only [List.length_append,List.length_singleton];omega
      · exact h.on
    · rw [Int.min_def]
      split<;>omega
  · refine sG (f:=fmSk f c) hs ?_ (fun h=>absurd h (by decide)) (by decide) h.p0
    repeat' split
    all_goals first|exact h.on|(simp only [List.length_append,List.length_singleton,List.length_cons,List.length_nil];omega)
theorem zdC {f:Fm} {i:Nat} (h:FmI f i) (ho:f.out.length+1≤4 * i):FmI (yN f) i:=by
  have h2:=h.p0
  unfold yN
  split
  · exact uI h ho _
  · split
    · exact uI h ho _
    · refine Vp (Vp ?_ _) _
      exact sG h (by simp only [List.length_append,List.length_singleton];omega) (fun h=>absurd h (by decide)) (by decide) (by omega)
theorem zeW {f:Fm} {i:Nat} (h:FmI f i) (ho:f.out.length+1≤4 * i) {s:Str} (hs:s.length≤i):FmI (xO f s) i:=by
  unfold xO
  split
  · exact zdC h ho
  · split
    · exact uI h ho _
    · split
      · exact uI h ho _
      · rename_i h16 _
        have hp:=zcI s
        refine⟨h.bs,h.ml,h.h0,h.h1,h.s0,h.p0,?_,fun x hx=> ?_,h.lb,h.p5,h.on⟩
        · have:=h.fl
          simp only [List.length_append,List.length_singleton];omega
        · rcases List.mem_append.1 hx with h5|h5
          · exact h.ff x h5
          · rw [List.mem_singleton.1 h5];omega
theorem ze1 {f:Fm} {i:Nat} (h:FmI f i) (c:UInt8):FmI (fmF f c) (i+1):=by
  have hm:=zbb h (show i≤i+1 by omega)
  have ho:f.out.length+2≤4 * (i+1):=by have:=h.on;omega
  unfold fmF
  split
  · exact zdy hm ho c
  · split
    · exact zcd hm (by omega) c
    · split
      · split
        · exact uI hm (by omega) 2
        · exact⟨hm.bs,hm.ml,hm.h0,hm.h1,hm.s0,hm.p0,by simp,(fun x hx=>by cases hx),(fun l e=>by cases e;simp [ln0]),(fun _ e=>by cases e),hm.on⟩
      · split
        · have hb:=zhM (lnOf f) c
          have hl:=zc5 (lnOf f) c
          have hn:(lnOf f).b.length≤i:=by
            unfold lnOf
            cases e:f.ln with
            |none=>simp [ln0]
            |some l=>exact h.lb l e
          have hk:FmI { f with ln:=some (lnF (lnOf f) c).1} (i+1):=⟨hm.bs,hm.ml,hm.h0,hm.h1,hm.s0,hm.p0,hm.fl,hm.ff,(fun l e=>by cases e;omega),(fun _ e=>by cases e),hm.on⟩
          split
          · exact uI hk (by simp only;omega) _
          · split
            · exact zeW hk (by simp only;omega) (by omega)
            · exact hk
        · exact hm
theorem zeL (k:Int) (hneed:False):Spc Tryd.prog 46 [.v (.one (.p (.val (.pointer none)))),.v (.one (.p (.int .u8 k)))] [] (.ret (.tup [(.one (.p (.str ([])))),(.one (.p (.bool false))),(.one (.p (.int .i64 0)))])) []:=hneed.elim
def rD (I:Alg) (args:List D) (hp:List HO):Option CT:=match args,hp with
  |[.v (.one (.p (.val (.pointer none)))),.v (.one (.p (.int .u8 k)))],[]=>(fun(k:Int)=>(some (.one ⟨I.hid (False),(.ret (.tup [(.one (.p (.str (I.hid ([]))))),(.one (.p (.bool false))),(.one (.p (.int .i64 0)))])),[]⟩):Option CT)) k
  |_,_=>none
theorem Vb:zx Tryd.prog 46 (rD alg):=by
  intro args hp r h
  unfold rD at h
  split at h
  · cases h;exact fun hn=>zeL _ hn
  · cases h
def Va:Know Tryd.prog:=⟨46,rD,Vb⟩
def W9:Know Tryd.prog:=⟨46,fun I=>zA I (rD I),zf Vb⟩
def fmN (f:Fm):Prop:=∃ i:Nat,i≤1000000∧FmI f i
theorem zgQ (m:Str) (hd:Int) (bs:List Int) (p:Int) (fs:List Fld) (pa sk co:Int) (out:List Evt) (k:Int) (hneed:fmN ⟨m,hd,bs,p,none,fs,pa,sk,co,out⟩∧0≤k∧k≤255):Spc Tryd.prog 24 [.v (.one (.ptr 0 0)),.v (.one (.p (.int .u8 k)))] [.abs (.fm ⟨m,hd,bs,p,none,fs,pa,sk,co,out⟩)] (.ret (.tup [])) [.abs (.fm ((fmF ⟨m,hd,bs,p,none,fs,pa,sk,co,out⟩ (UInt8.ofNat k.toNat))))]:=by
  obtain⟨⟨i,hi,hI0⟩,hk0,hk1⟩:=hneed
  obtain⟨g1,g2,g3,g4,g5,g6,g7,g8,g9,g10,g11⟩:=hI0
  simp only at g1 g2 g3 g4 g5 g6 g7 g8 g9 g10 g11
  have g2:=Nat.le_trans g2 (show 1000≤1000000 by decide)
  have hfd:FdOk fs:=⟨by omega,fun x hx=>by have:=g8 x hx;omega⟩
  have h10:=u8k hk0 hk1 10 (by decide)
  have h10:(UInt8.ofNat k.toNat=10)=(k=10):=h10
  generalize hr:fmF ⟨m,hd,bs,p,none,fs,pa,sk,co,out⟩ (UInt8.ofNat k.toNat)=r
  unfold fmF lnOf at hr
  simp only [h10] at hr
  have hll:=trivial
  refine spcG zk mixed Tryd.func24 (by kernel_rfl) { cfgF with keep:=some [0,1,4,5,6,10,11,17]} [zaW,zaV,TA,Tz,Va,W9,wC,wB,X4,X3,Vu,Vt,SV,SS] (by kernel_rfl) ?_
  intro I X hI hX
  refine zh (let y0:=I.hid (α:=(Prop)) (And (zO (Go.Ab.Fm.mk m hd bs p (Option.none) fs pa sk co out)) (And (LE.le (0:Int) k) (LE.le k (255:Int))));let y1:=I.hid (α:=Go.Ab.Fm) (yx (Go.Ab.Fm.mk m hd bs p (Option.none) fs pa sk co out) (UInt8.ofNat (Int.toNat k)));let y2:=I.hid (α:=(Prop)) (And (fm9 (Go.Ab.Fm.mk m hd bs p (Option.none) fs pa sk co out)) (And (FmS (Go.Ab.Fm.mk m hd bs p (Option.none) fs pa sk co out)) (And (LE.le (0:Int) k) (LE.le k (255:Int)))));let y3:=I.hid (α:=Go.Ab.Fm) (yZ (Go.Ab.Fm.mk m hd bs p (Option.none) fs pa sk co out) (UInt8.ofNat (Int.toNat k)));let y4:=I.hid (α:=(Prop)) (zO (Go.Ab.Fm.mk m hd bs p (Option.none) fs pa sk co out));.br (I.ieq p 0) (.need y2 (.fin (.ret (.tup [])) [(.abs (.fm y3))])) (.br (I.ieq p 6) (.need y2 (.fin (.ret (.tup [])) [(.abs (.fm y3))])) (.br (I.ieq p 1) (.need y0 (.fin (.ret (.tup [])) [(.abs (.fm y1))])) (.br (I.ieq p 2) (.need y0 (.fin (.ret (.tup [])) [(.abs (.fm y1))])) (.br (I.ieq p 3) (.need y0 (.fin (.ret (.tup [])) [(.abs (.fm y1))])) (.br (I.ieq p 4) (.br (I.bnot (I.ieq k 10)) (.need y4 (.fin (.ret (.tup [])) [(.abs (.fm (I.hid (α:=Go.Ab.Fm) (zH (Go.Ab.Fm.mk m hd bs p (Option.none) fs pa sk co out) (2:Int)))))])) (.need (I.hid (α:=(Prop)) True) (.fin (.ret (.tup [])) [(.abs (.fm (Go.Ab.Fm.mk m hd bs (5:Int) (Option.some (Go.Ab.Ln.mk (I.hid (α:=Str) ([]:Str)) Bool.false (0:Int))) ([]:List Fld) pa sk co out)))]))) (.br (I.ieq p 5) (.need (I.hid (α:=(Prop)) False) (.br (I.bnot (I.ieq 0 0)) (.need y4 (.fin (.ret (.tup [])) [(.abs (.fm (I.hid (α:=Go.Ab.Fm) (zH (Go.Ab.Fm.mk m hd bs p (Option.none) fs pa sk co out) (0:Int)))))])) (.br Bool.false (.need (I.hid (α:=(Prop)) (And (FmB (Go.Ab.Fm.mk m hd bs p (Option.none) fs pa sk co out)) (LE.le (List.length (I.hid (α:=Str) ([]:Str))) 1000000))) (.fin (.ret (.tup [])) [(.abs (.fm (I.hid (α:=Go.Ab.Fm) (xO (Go.Ab.Fm.mk m hd bs p (Option.none) fs pa sk co out) (I.hid (α:=Str) ([]:Str))))))])) (.fin (.ret (.tup [])) [(.abs (.fm (Go.Ab.Fm.mk m hd bs p (Option.none) fs pa sk co out)))])))) (.fin (.ret (.tup [])) [(.abs (.fm (Go.Ab.Fm.mk m hd bs p (Option.none) fs pa sk co out)))])))))))) (by kernel_rfl) ?_
  simp only [zq]
  subst hI
  simp only [nrmA,nrmB,nrlB,reduceCtorEq,HO.abs.injEq,Gh.fm.injEq]
  (repeat' (first|refine And.intro ?_ ?_|intro _))<;>first|omega|exact True.intro|exact False.elim ‹False›|skip
  all_goals first
    |omega
    |with_reducible assumption
    |(refine⟨by simp only;omega,⟨g1,g2,g3,.inr g4,g5⟩,?_⟩;done)
    |exact⟨g1,g2,g3,.inr g4,g5⟩
    |exact⟨by simp only;omega,⟨g1,g2,g3,.inr g4,g5⟩,hfd,g6⟩
    |exact Nat.le_trans hll (by omega)
    |(unfold zO;simp only;omega)
    |(unfold fm9;simp only;omega)
    |(exact absurd rfl (g10 ‹_›))
    |(subst hr;simp [*,ln0];done)
theorem zgP (m:Str) (hd:Int) (bs:List Int) (p:Int) (ln:Ln) (fs:List Fld) (pa sk co:Int) (out:List Evt) (k:Int) (hneed:fmN ⟨m,hd,bs,p,some ln,fs,pa,sk,co,out⟩∧0≤k∧k≤255):Spc Tryd.prog 24 [.v (.one (.ptr 0 0)),.v (.one (.p (.int .u8 k)))] [.abs (.fm ⟨m,hd,bs,p,some ln,fs,pa,sk,co,out⟩)] (.ret (.tup [])) [.abs (.fm ((fmF ⟨m,hd,bs,p,some ln,fs,pa,sk,co,out⟩ (UInt8.ofNat k.toNat))))]:=by
  obtain⟨⟨i,hi,hI0⟩,hk0,hk1⟩:=hneed
  obtain⟨g1,g2,g3,g4,g5,g6,g7,g8,g9,g10,g11⟩:=hI0
  simp only at g1 g2 g3 g4 g5 g6 g7 g8 g9 g10 g11
  have g2:=Nat.le_trans g2 (show 1000≤1000000 by decide)
  have hfd:FdOk fs:=⟨by omega,fun x hx=>by have:=g8 x hx;omega⟩
  have h10:=u8k hk0 hk1 10 (by decide)
  have h10:(UInt8.ofNat k.toNat=10)=(k=10):=h10
  generalize hr:fmF ⟨m,hd,bs,p,some ln,fs,pa,sk,co,out⟩ (UInt8.ofNat k.toNat)=r
  unfold fmF lnOf at hr
  simp only [h10] at hr
  have hll:=zc5 ln (UInt8.ofNat k.toNat)
  have hlb:=g9 ln rfl
  refine spcG zk mixed Tryd.func24 (by kernel_rfl) { cfgF with keep:=some [0,1,4,5,6,10,11,17]} [zaW,zaV,TA,Tz,Va,W9,wC,wB,X4,X3,Vu,Vt,SV,SS] (by kernel_rfl) ?_
  intro I X hI hX
  refine zh (let y0:=I.hid (α:=Int) (Go.Ab.Ln.code (Prod.fst (lnF (Go.Ab.Ln.mk (Go.Ab.Ln.b ln) (Go.Ab.Ln.cr ln) (Go.Ab.Ln.code ln)) (UInt8.ofNat (Int.toNat k)))));let y1:=I.hid (α:=Bool) (Go.Ab.Ln.cr (Prod.fst (lnF (Go.Ab.Ln.mk (Go.Ab.Ln.b ln) (Go.Ab.Ln.cr ln) (Go.Ab.Ln.code ln)) (UInt8.ofNat (Int.toNat k)))));let y2:=I.hid (α:=Str) (Go.Ab.Ln.b (Prod.fst (lnF (Go.Ab.Ln.mk (Go.Ab.Ln.b ln) (Go.Ab.Ln.cr ln) (Go.Ab.Ln.code ln)) (UInt8.ofNat (Int.toNat k)))));let y3:=I.hid (α:=(Prop)) (And (zO (Go.Ab.Fm.mk m hd bs p (Option.some (Go.Ab.Ln.mk (Go.Ab.Ln.b ln) (Go.Ab.Ln.cr ln) (Go.Ab.Ln.code ln))) fs pa sk co out)) (And (LE.le (0:Int) k) (LE.le k (255:Int))));let y4:=I.hid (α:=Go.Ab.Fm) (yx (Go.Ab.Fm.mk m hd bs p (Option.some (Go.Ab.Ln.mk (Go.Ab.Ln.b ln) (Go.Ab.Ln.cr ln) (Go.Ab.Ln.code ln))) fs pa sk co out) (UInt8.ofNat (Int.toNat k)));let y5:=I.hid (α:=(Prop)) (And (fm9 (Go.Ab.Fm.mk m hd bs p (Option.some (Go.Ab.Ln.mk (Go.Ab.Ln.b ln) (Go.Ab.Ln.cr ln) (Go.Ab.Ln.code ln))) fs pa sk co out)) (And (FmS (Go.Ab.Fm.mk m hd bs p (Option.some (Go.Ab.Ln.mk (Go.Ab.Ln.b ln) (Go.Ab.Ln.cr ln) (Go.Ab.Ln.code ln))) fs pa sk co out)) (And (LE.le (0:Int) k) (LE.le k (255:Int)))));let y6:=I.hid (α:=Go.Ab.Fm) (yZ (Go.Ab.Fm.mk m hd bs p (Option.some (Go.Ab.Ln.mk (Go.Ab.Ln.b ln) (Go.Ab.Ln.cr ln) (Go.Ab.Ln.code ln))) fs pa sk co out) (UInt8.ofNat (Int.toNat k)));let y7:=I.hid (α:=Int) (Prod.snd (Prod.snd (Prod.snd (lnF (Go.Ab.Ln.mk (Go.Ab.Ln.b ln) (Go.Ab.Ln.cr ln) (Go.Ab.Ln.code ln)) (UInt8.ofNat (Int.toNat k))))));let y8:=I.hid (α:=Str) (Prod.fst (Prod.snd (lnF (Go.Ab.Ln.mk (Go.Ab.Ln.b ln) (Go.Ab.Ln.cr ln) (Go.Ab.Ln.code ln)) (UInt8.ofNat (Int.toNat k)))));.br (I.ieq p 0) (.need y5 (.fin (.ret (.tup [])) [(.abs (.fm y6))])) (.br (I.ieq p 6) (.need y5 (.fin (.ret (.tup [])) [(.abs (.fm y6))])) (.br (I.ieq p 1) (.need y3 (.fin (.ret (.tup [])) [(.abs (.fm y4))])) (.br (I.ieq p 2) (.need y3 (.fin (.ret (.tup [])) [(.abs (.fm y4))])) (.br (I.ieq p 3) (.need y3 (.fin (.ret (.tup [])) [(.abs (.fm y4))])) (.br (I.ieq p 4) (.br (I.bnot (I.ieq k 10)) (.need (I.hid (α:=(Prop)) (zO (Go.Ab.Fm.mk m hd bs p (Option.some (Go.Ab.Ln.mk (Go.Ab.Ln.b ln) (Go.Ab.Ln.cr ln) (Go.Ab.Ln.code ln))) fs pa sk co out))) (.fin (.ret (.tup [])) [(.abs (.fm (I.hid (α:=Go.Ab.Fm) (zH (Go.Ab.Fm.mk m hd bs p (Option.some (Go.Ab.Ln.mk (Go.Ab.Ln.b ln) (Go.Ab.Ln.cr ln) (Go.Ab.Ln.code ln))) fs pa sk co out) (2:Int)))))])) (.need (I.hid (α:=(Prop)) True) (.fin (.ret (.tup [])) [(.abs (.fm (Go.Ab.Fm.mk m hd bs (5:Int) (Option.some (Go.Ab.Ln.mk (I.hid (α:=Str) ([]:Str)) Bool.false (0:Int))) ([]:List Fld) pa sk co out)))]))) (.br (I.ieq p 5) (.need (I.hid (α:=(Prop)) (And (LE.le (0:Int) k) (And (LE.le k (255:Int)) (LE.le (List.length (Go.Ab.Ln.b ln)) 1000000)))) (.br (I.bnot (I.ieq y7 0)) (.need (I.hid (α:=(Prop)) (zO (Go.Ab.Fm.mk m hd bs p (Option.some (Go.Ab.Ln.mk y2 y1 y0)) fs pa sk co out))) (.fin (.ret (.tup [])) [(.abs (.fm (I.hid (α:=Go.Ab.Fm) (zH (Go.Ab.Fm.mk m hd bs p (Option.some (Go.Ab.Ln.mk y2 y1 y0)) fs pa sk co out) y7))))])) (.br (I.hid (α:=Bool) (Prod.fst (Prod.snd (Prod.snd (lnF (Go.Ab.Ln.mk (Go.Ab.Ln.b ln) (Go.Ab.Ln.cr ln) (Go.Ab.Ln.code ln)) (UInt8.ofNat (Int.toNat k))))))) (.need (I.hid (α:=(Prop)) (And (FmB (Go.Ab.Fm.mk m hd bs p (Option.some (Go.Ab.Ln.mk y2 y1 y0)) fs pa sk co out)) (LE.le (List.length y8) 1000000))) (.fin (.ret (.tup [])) [(.abs (.fm (I.hid (α:=Go.Ab.Fm) (xO (Go.Ab.Fm.mk m hd bs p (Option.some (Go.Ab.Ln.mk y2 y1 y0)) fs pa sk co out) y8))))])) (.fin (.ret (.tup [])) [(.abs (.fm (Go.Ab.Fm.mk m hd bs p (Option.some (Go.Ab.Ln.mk y2 y1 y0)) fs pa sk co out)))])))) (.fin (.ret (.tup [])) [(.abs (.fm (Go.Ab.Fm.mk m hd bs p (Option.some (Go.Ab.Ln.mk (Go.Ab.Ln.b ln) (Go.Ab.Ln.cr ln) (Go.Ab.Ln.code ln))) fs pa sk co out)))])))))))) (by kernel_rfl) ?_
  simp only [zq]
  subst hI
  simp only [nrmA,nrmB,nrlB,reduceCtorEq,HO.abs.injEq,Gh.fm.injEq]
  (repeat' (first|refine And.intro ?_ ?_|intro _))<;>first|omega|exact True.intro|exact False.elim ‹False›|skip
  all_goals first
    |omega
    |with_reducible assumption
    |(refine⟨by simp only;omega,⟨g1,g2,g3,.inr g4,g5⟩,?_⟩;done)
    |exact⟨g1,g2,g3,.inr g4,g5⟩
    |exact⟨by simp only;omega,⟨g1,g2,g3,.inr g4,g5⟩,hfd,g6⟩
    |exact Nat.le_trans hll (by omega)
    |(unfold zO;simp only;omega)
    |(unfold fm9;simp only;omega)
    |(exact absurd rfl (g10 ‹_›))
    |(subst hr;simp [*,ln0];done)
theorem zhY (f:Fm) (k:Int) (hneed:fmN f∧0≤k∧k≤255):Spc Tryd.prog 24 [.v (.one (.ptr 0 0)),.v (.one (.p (.int .u8 k)))] [.abs (.fm f)] (.ret (.tup [])) [.abs (.fm ((fmF f (UInt8.ofNat k.toNat))))]:=by
  obtain⟨m,hd,bs,p,ln,fs,pa,sk,co,out⟩:=f
  cases ln with
  |none=>exact zgQ m hd bs p fs pa sk co out k hneed
  |some ln=>exact zgP m hd bs p ln fs pa sk co out k hneed
def Y7 (I:Alg) (args:List D) (hp:List HO):Option CT:=match args,hp with
  |[.v (.one (.ptr 0 0)),.v (.one (.p (.int .u8 k)))],[.abs (.fm f)]=>(fun(f:Fm) (k:Int)=>(some (.one ⟨I.hid (fmN f∧0≤k∧k≤255),(.ret (.tup [])),[.abs (.fm (I.hid ((fmF f (UInt8.ofNat k.toNat)))))]⟩):Option CT)) f k
  |_,_=>none
theorem zbd:zx Tryd.prog 24 (Y7 alg):=by
  intro args hp r h
  unfold Y7 at h
  split at h
  · cases h;exact fun hn=>zhY _ _ hn
  · cases h
def Y6:Know Tryd.prog:=⟨24,Y7,zbd⟩
def Y5:Know Tryd.prog:=⟨24,fun I=>zA I (Y7 I),zf zbd⟩
end Go.Proofs.YtknaogelmckimaaDoor
namespace Go.Proofs.YtknaogelmckimaaDoor
open Go Go.Sep Go.Ab
set_option maxRecDepth 100000
def zK (l:List Evt):Nat:=(l.map fun e=>e.bytes.length).sum
theorem xI (a b:List Evt):zK (a++b)=zK a+zK b:=by simp [zK]
theorem uj (e:Evt):zK [e]=e.bytes.length:=by simp [zK]
theorem zc6 (o:List Evt) (e:Evt):zK (ZP o e)≤zK o+e.bytes.length:=by
  rcases List.eq_nil_or_concat o with rfl|⟨z,x,rfl⟩
  · rw [tY,uj];omega
  · rw [List.concat_eq_append,wO]
    split
    · rw [xI,xI,uj,uj];simp only [evB,List.length_append];omega
    · rw [xI _ [e],uj e];exact Nat.le_refl _
theorem rE (l:List Evt) (e:Evt):yU (l++[e])=ZP (yU l) e:=by simp [yU,List.foldl_append]
theorem TL (l:List Evt):zK (yU l)≤zK l:=by
  suffices ∀ l o:List Evt,zK (l.foldl ZP o)≤zK o+zK l by have:=this l [];simpa [yU,zK] using this
  intro l
  induction l with
  |nil=>intro o;simp [zK]
  | cons e r ih=>
    intro o
    have h1:=ih (ZP o e)
    have h2:=zc6 o e
    have h3:zK (e::r)=e.bytes.length+zK r:=by simp [zK]
    rw [List.foldl_cons];omega
theorem zc7 (o:List Evt) (e:Evt):(ZP o e).length≤o.length+1:=by
  rcases List.eq_nil_or_concat o with rfl|⟨z,x,rfl⟩
  · simp [tY]
  · rw [List.concat_eq_append,wO]
    split<;>simp
theorem zcf (l:List Evt) (i:Nat):zK (l.take i)≤zK l:=by
  have:=xI (l.take i) (l.drop i)
  rw [List.take_append_drop] at this
  omega
theorem X9 {l:List Evt} {e:Evt} (h:e ∈ l):e.bytes.length≤zK l:=by
  obtain⟨a,b,rfl⟩:=List.append_of_mem h
  have:=xI a (e::b)
  have h3:zK (e::b)=e.bytes.length+zK b:=by simp [zK]
  omega
theorem TM (l:List Evt):(yU l).length≤l.length:=by
  suffices ∀ l o:List Evt,(l.foldl ZP o).length≤o.length+l.length by have:=this l [];simpa [yU] using this
  intro l
  induction l with
  |nil=>intro o;simp
  | cons e r ih=>
    intro o
    have h1:=ih (ZP o e)
    have h2:=zc7 o e
    rw [List.foldl_cons,List.length_cons];omega
theorem zf1 (l:List Evt) (hneed:zK l≤1000000∧l.length≤10000000):Spc Tryd.prog 11 [.v (.one (.row 0))] [.row .evt 63 l] (.ret (.v (.one (.row 1)))) [.row .evt 63 l,.row .evt 63 ((yU l))]:=by
  obtain⟨hn1,hn2⟩:=hneed
  refine spcG zk mixed Tryd.func11 (by kernel_rfl) { nr:=[3],keep:=some [0,2,3,5,6,7,8,9,10]} [] (by kernel_rfl) ?_
  intro I X hI hX
  refine zh (.code 0 [1,1,0,1,0] ⟨[(10,(.v (.one (.p (.int .i64 0))))),(9,(.v (.one (.p (.int .i64 (I.len (α:=Go.Ab.Evt) l)))))),(8,(.v (.one (.row 0)))),(3,(.v (.one (.row 1)))),(2,(.v (.one .nilS))),(0,(.v (.one (.row 0))))],[(.row .evt 63 l),(.row .evt 63 ([]:List Go.Ab.Evt))],52,none⟩) (by kernel_rfl) ?_
  simp only [zq]
  refine zu hI zk mixed [] hX [0,3,8,9,10] (fun(g:Nat × List Evt)=>match g with|(i,o)=>i≤l.length∧o=yU (l.take i)) (fun(g:Nat × List Evt)=>match g with|(i,o)=>⟨[(0,.v (.one (.row 0))),(3,.v (.one (.row 1))),(8,.v (.one (.row 0))),(9,.v (.one (.p (.int .i64 ((I.len (α:=Evt) l)))))),(10,.v (.one (.p (.int .i64 i))))],[.row .evt 63 l,.row .evt 63 o],52,none⟩) (fun(g:Nat × List Evt)=>match g with|(i,o)=>l.length - i) (0,[]) (by kernel_rfl) (by kernel_rfl) ?_ ?_
  · exact⟨Nat.zero_le _,rfl⟩
  rintro⟨i,o⟩ ⟨h1,h2⟩ A hA
  simp only at hA h1 h2
  refine zh (let y0:=I.get (α:=Go.Ab.Evt) l (Go.Ab.Evt.mk (0:Int) (Hd.mk ([]:Str) ([]:Str) (0:Int) ([]:List Fld) (0:Int)) ([]:Str) (Go.Ab.Prt.mk ([]:Str) ([]:Str) ([]:Str) ([]:Str)) (0:Int)) (Nat.cast i);let y1:=I.few (I.add (I.len (α:=Go.Ab.Evt) o) (I.len (α:=Go.Ab.Evt) ([(Go.Ab.Evt.mk (Go.Ab.Evt.kind y0) (Hd.mk (Hd.method (Go.Ab.Evt.head y0)) (Hd.target (Go.Ab.Evt.head y0)) (Hd.minor (Go.Ab.Evt.head y0)) (Hd.fields (Go.Ab.Evt.head y0)) (Hd.length (Go.Ab.Evt.head y0))) (Go.Ab.Evt.bytes y0) (Go.Ab.Prt.mk (Go.Ab.Prt.name (Go.Ab.Evt.part y0)) (Go.Ab.Prt.file (Go.Ab.Evt.part y0)) (Go.Ab.Prt.type (Go.Ab.Evt.part y0)) (Go.Ab.Prt.bytes (Go.Ab.Evt.part y0))) (Go.Ab.Evt.code y0))]:List Go.Ab.Evt))) 100000000;let y2:HO:=.row .evt 63 (I.app (α:=Go.Ab.Evt) o ([(Go.Ab.Evt.mk (Go.Ab.Evt.kind y0) (Hd.mk (Hd.method (Go.Ab.Evt.head y0)) (Hd.target (Go.Ab.Evt.head y0)) (Hd.minor (Go.Ab.Evt.head y0)) (Hd.fields (Go.Ab.Evt.head y0)) (Hd.length (Go.Ab.Evt.head y0))) (Go.Ab.Evt.bytes y0) (Go.Ab.Prt.mk (Go.Ab.Prt.name (Go.Ab.Evt.part y0)) (Go.Ab.Prt.file (Go.Ab.Evt.part y0)) (Go.Ab.Prt.type (Go.Ab.Evt.part y0)) (Go.Ab.Prt.bytes (Go.Ab.Evt.part y0))) (Go.Ab.Evt.code y0))]:List Go.Ab.Evt));let y6:=I.sub (I.len (α:=Go.Ab.Evt) o) 1;let y3:=I.get (α:=Go.Ab.Evt) o (Go.Ab.Evt.mk (0:Int) (Hd.mk ([]:Str) ([]:Str) (0:Int) ([]:List Fld) (0:Int)) ([]:Str) (Go.Ab.Prt.mk ([]:Str) ([]:Str) ([]:Str) ([]:Str)) (0:Int)) y6;let y4:=I.inb y6 (I.len (α:=Go.Ab.Evt) o);let y5:=I.inr Go.IntKind.i64 (I.add (Nat.cast i) 1);let y7:=I.inb (Nat.cast i) (I.len (α:=Go.Ab.Evt) l);let y8:=I.len (α:=UInt8) (Go.Ab.Evt.bytes y3);.br (I.ilt (Nat.cast i) (I.len (α:=Go.Ab.Evt) l)) (.need y7 (.need y7 (.need (I.inr Go.IntKind.i64 y6) (.br (I.ieq (Go.Ab.Evt.kind y0) 2) (.br (I.ile 0 y6) (.need y4 (.need y4 (.br (I.ieq (Go.Ab.Evt.kind y3) 2) (.need y4 (.need y4 (.need (I.few y8 140737488355328) (.need (I.few (I.add y8 (I.len (α:=UInt8) (Go.Ab.Evt.bytes y0))) 140737488355328) (.need y4 (.need y4 (.need y5 (.need (A ⟨[(0,(.v (.one (.row 0)))),(3,(.v (.one (.row 1)))),(8,(.v (.one (.row 0)))),(9,(.v (.one (.p (.int .i64 (I.len (α:=Go.Ab.Evt) l)))))),(10,(.v (.one (.p (.int .i64 (I.add (Nat.cast i) 1))))))],[(.row .evt 63 l),(.row .evt 63 (I.set (α:=Go.Ab.Evt) o y6 (Go.Ab.Evt.mk (2:Int) (Hd.mk ([]:Str) ([]:Str) (0:Int) ([]:List Fld) (0:Int)) (I.app (α:=UInt8) (Go.Ab.Evt.bytes y3) (Go.Ab.Evt.bytes y0)) (Go.Ab.Prt.mk ([]:Str) ([]:Str) ([]:Str) ([]:Str)) (0:Int))))],52,none⟩) .qed)))))))) (.need y1 (.need y5 (.need (A ⟨[(0,(.v (.one (.row 0)))),(3,(.v (.one (.row 1)))),(8,(.v (.one (.row 0)))),(9,(.v (.one (.p (.int .i64 (I.len (α:=Go.Ab.Evt) l)))))),(10,(.v (.one (.p (.int .i64 (I.add (Nat.cast i) 1))))))],[(.row .evt 63 l),y2],52,none⟩) .qed)))))) (.need y1 (.need y5 (.need (A ⟨[(0,(.v (.one (.row 0)))),(3,(.v (.one (.row 1)))),(8,(.v (.one (.row 0)))),(9,(.v (.one (.p (.int .i64 (I.len (α:=Go.Ab.Evt) l)))))),(10,(.v (.one (.p (.int .i64 (I.add (Nat.cast i) 1))))))],[(.row .evt 63 l),y2],52,none⟩) .qed)))) (.need y1 (.need y5 (.need (A ⟨[(0,(.v (.one (.row 0)))),(3,(.v (.one (.row 1)))),(8,(.v (.one (.row 0)))),(9,(.v (.one (.p (.int .i64 (I.len (α:=Go.Ab.Evt) l)))))),(10,(.v (.one (.p (.int .i64 (I.add (Nat.cast i) 1))))))],[(.row .evt 63 l),y2],52,none⟩) .qed))))))) (.fin (.ret (.v (.one (.row 1)))) [(.row .evt 63 l),(.row .evt 63 o)])) (by kernel_rfl) ?_
  simp only [zq]
  subst hI
  simp only [nrmA,nrmB,nrlB,reduceCtorEq]
  have hl1:=TM (l.take i)
  have hl2:(l.take i).length≤i:=by rw [List.length_take];omega
  have hl3:=TL (l.take i)
  have hl4: ∀ x ∈ yU (l.take i),x.bytes.length≤1000000:=fun x h=>by
    have a:=X9 h
    have b:=zcf l i
    omega
  have hw: ¬ i<l.length→o=yU l:=fun h=>by rw [h2,List.take_of_length_le (by omega)]
  have hy:i<l.length→yU (l.take (i+1))=ZP o (l.getD i ⟨0,⟨[],[],0,[],0⟩,[],⟨[],[],[],[]⟩,0⟩):=fun h=>by rw [List.take_succ_eq_append_getElem h,rE,h2];simp [h]
  have hl5:i<l.length→(l.getD i ⟨0,⟨[],[],0,[],0⟩,[],⟨[],[],[],[]⟩,0⟩).bytes.length≤1000000:=fun h=>by
    have:l.getD i ⟨0,⟨[],[],0,[],0⟩,[],⟨[],[],[],[]⟩,0⟩ ∈ l:=by simp [h]
    have:=X9 this
    omega
  rw [← h2] at hl1 hl4
  refine⟨fun c=> ?_,fun c=>hw (by omega)⟩
  have hlt:i<l.length:=by omega
  have hy:=hy hlt
  have hl5:=hl5 hlt
  generalize l.getD i ⟨0,⟨[],[],0,[],0⟩,[],⟨[],[],[],[]⟩,0⟩=e at *
  have hgo: ∀ r:List Evt,r=ZP o e→(fun p:Nat × List Evt=>p.1≤l.length∧p.2=yU (l.take p.1)) (i+1,r):=fun r h=>⟨by simp only;omega,by simp only;rw [hy,h]⟩
  rcases List.eq_nil_or_concat o with he|⟨z,x,he⟩
  · subst he
    rw [tY] at hgo
    simp only [List.length_cons,List.length_nil]
    (repeat' (first|refine And.intro ?_ ?_|intro _))<;>first|omega|exact True.intro|exact False.elim ‹False›|skip
    all_goals first
      |omega
      |exact hA (i+1,_) (hgo _ rfl) (by simp only;omega)
  · rw [List.concat_eq_append] at he
    subst he
    have hx:=hl4 x (List.mem_append_right _ (List.mem_singleton.2 rfl))
    have hz:(((z++[x]).length:Int) - 1).toNat=z.length:=by rw [List.length_append,List.length_singleton];omega
    have hg: ∀ d,(z++[x]).getD z.length d=x:=fun d=>by simp
    have hs: ∀ d,(z++[x]).set z.length d=z++[d]:=fun d=>by simp
    rw [wO] at hgo
    rw [List.length_append,List.length_singleton] at hl1
    simp only [hz,hg,hs]
    simp only [List.length_append,List.length_cons,List.length_nil]
    clear hz hg hs
    (repeat' (first|refine And.intro ?_ ?_|intro _))<;>first|omega|exact True.intro|exact False.elim ‹False›|skip
    all_goals first
      |omega
      |(rw [if_pos ⟨‹e.kind=2›,‹x.kind=2›⟩] at hgo;exact hA (i+1,_) (hgo _ rfl) (by simp only;omega))
      |(rw [if_neg (fun h=>‹¬ e.kind=2› h.1)] at hgo;exact hA (i+1,_) (hgo _ rfl) (by simp only;omega))
      |(rw [if_neg (fun h=>‹¬ x.kind=2› h.2)] at hgo;exact hA (i+1,_) (hgo _ rfl) (by simp only;omega))
def qO (I:Alg) (args:List D) (hp:List HO):Option CT:=match args,hp with
  |[.v (.one (.row 0))],[.row .evt 63 l]=>(fun(l:List Evt)=>(some (.one ⟨I.hid (zK l≤1000000∧l.length≤10000000),(.ret (.v (.one (.row 1)))),[.row .evt 63 l,.row .evt 63 (I.hid ((yU l)))]⟩):Option CT)) l
  |_,_=>none
theorem U5:zx Tryd.prog 11 (qO alg):=by
  intro args hp r h
  unfold qO at h
  split at h
  · cases h;exact fun hn=>zf1 _ hn
  · cases h
def qN:Know Tryd.prog:=⟨11,qO,U5⟩
def qM:Know Tryd.prog:=⟨11,fun I=>zA I (qO I),zf U5⟩
end Go.Proofs.YtknaogelmckimaaDoor
namespace Go.Proofs.YtknaogelmckimaaDoor
open Go Go.Sep Go.Ab
set_option maxRecDepth 100000
theorem Rl {m:Str} {n:Nat} (h:m=[]∨n<m.length) (c:UInt8):(yh m n c).1.length+(yh m n c).2.1≤n+1:=by
  unfold yh
  by_cases h0:m=[]
  · rw [if_pos h0];simp only [List.length_singleton];omega
  · rw [if_neg h0]
    have hn:n<m.length:=h.resolve_left h0
    have hf:=(P.QH m c P.take_len n n (Nat.le_refl _) (by omega)).le
    unfold P.feed
    simp only
    repeat' split
    all_goals simp only [List.length_append,List.length_singleton,List.length_take]
    all_goals omega
theorem zfF (f:Fm) {i:Nat} (h:FmI f i) (c:UInt8):(fmSk f c).held.toNat≤f.held.toNat+1:=by
  have:=Rl (m:=f.mark) (n:=f.held.toNat) (.inr (by have:=h.h0;have:=h.h1;omega)) c
  show(((yh f.mark f.held.toNat c).2.1:Nat):Int).toNat≤_
  rw [Int.toNat_natCast];omega
theorem vg (o:List Evt) (e:Evt) (h:e.bytes=[]):zK (o++[e])=zK o:=by
  rw [xI,uj,h];rfl
theorem QE {f:Fm} {i:Nat} (h:FmI f i):zK (yN f).out+(yN f).held.toNat≤zK f.out+f.held.toNat+2:=by
  have h2:=h.p0
  unfold yN
  split
  · show zK (f.out++[evF _])+_≤_
    rw [vg _ _ rfl];simp only [zH];omega
  · split
    · show zK (f.out++[evF _])+_≤_
      rw [vg _ _ rfl];simp only [zH];omega
    · have hI:FmI { f with parts:=f.parts+1,pos:=6,out:=[],skip:=2} i:=⟨h.bs,h.ml,h.h0,h.h1,(show(0:Int)≤2∧(2:Int)≤2 by decide),by simp only;omega,h.fl,h.ff,h.lb,(fun e=>absurd (show(6:Int)=5 from e) (by decide)),Nat.zero_le _⟩
      have a:=zfF _ hI 13
      have b:=zfF _ (Vp hI 13) 10
      show zK (f.out++[evP _])+(fmSk (fmSk { f with parts:=f.parts+1,pos:=6,out:=[],skip:=2} 13) 10).held.toNat≤_
      rw [vg _ _ rfl]
      simp only at a
      omega
theorem zb7 {f:Fm} {i:Nat} (h:FmI f i) (s:Str):zK (xO f s).out+(xO f s).held.toNat≤zK f.out+f.held.toNat+2:=by
  unfold xO
  split
  · exact QE h
  · split
    · show zK (f.out++[evF _])+_≤_
      rw [vg _ _ rfl];simp only [zH];omega
    · split
      · show zK (f.out++[evF _])+_≤_
        rw [vg _ _ rfl];simp only [zH];omega
      · simp only;omega
theorem QB {f:Fm} {i:Nat} (h:FmI f i) (c:UInt8):zK (fmF f c).out+(fmF f c).held.toNat≤zK f.out+f.held.toNat+2:=by
  have hfail: ∀ (f:Fm) (c:Int),zK (zH f c).out=zK f.out∧(zH f c).held=f.held:=fun f c=>⟨vg _ _ rfl,rfl⟩
  unfold fmF
  split
  · have hp:=Rl (m:=f.mark) (n:=f.held.toNat) (.inr (by have:=h.h0;have:=h.h1;omega)) c
    have hd:(vz f c).length≤(yh f.mark f.held.toNat c).1.length:=by unfold vz;rw [List.length_drop];omega
    have e0:(fmSk f c).held.toNat=(yh f.mark f.held.toNat c).2.1:=Int.toNat_natCast _
    unfold yZ
    split
    · show zK (if f.pos=6∧vz f c≠[] then f.out++[evB (vz f c)] else f.out)+(fmSk f c).held.toNat≤_
      rw [e0]
      split
      · rw [xI,uj];simp only [evB];omega
      · omega
    · show zK (if f.pos=6 then(if vz f c≠[] then f.out++[evB (vz f c),evO] else f.out++[evO]) else f.out)+(fmSk f c).held.toNat≤_
      rw [e0]
      have e1:zK [evB (vz f c),evO]=(vz f c).length:=by simp [zK,evB,evO]
      have e2:zK [evO]=0:=rfl
      split
      · split
        · rw [xI,e1];omega
        · rw [xI,e2];omega
      · omega
  · split
    · unfold yx
      repeat' split
      all_goals first
        |(simp only;omega)
        |(rw [(hfail _ _).1,(hfail _ _).2];omega)
        |(show zK (f.out++[evE])+_≤_;rw [vg _ _ rfl];simp only;omega)
    · split
      · split
        · rw [(hfail _ _).1,(hfail _ _).2];omega
        · simp only;omega
      · split
        · split
          · rw [(hfail _ _).1,(hfail _ _).2];simp only;omega
          · split
            · have hn:(lnOf f).b.length≤i:=by
                unfold lnOf
                cases e:f.ln with
                |none=>simp [ln0]
                |some l=>exact h.lb l e
              have hb:=zhM (lnOf f) c
              have hm:=zbb h (show i≤i+1 by omega)
              exact zb7 (i:=i+1) (f:= { f with ln:=some (lnF (lnOf f) c).1}) ⟨hm.bs,hm.ml,hm.h0,hm.h1,hm.s0,hm.p0,hm.fl,hm.ff,(fun l e=>by cases e;omega),(fun _ e=>by cases e),hm.on⟩ _
            · simp only;omega
        · omega
theorem zdp (f:Fm) (b:Str) {i:Nat} (h:i<b.length):ZU f (b.take (i+1))=fmF (ZU f (b.take i)) (b.getD i 0):=by
  rw [show b.getD i 0=b[i] by simp [h],List.take_succ_eq_append_getElem h]
  unfold ZU
  rw [List.foldl_append]
  rfl
theorem zdq: ∀ (b:Str) (f:Fm) (i:Nat),FmI f i→FmI (ZU f b) (i+b.length)
  |[],f,i,h=>h
  | c::r,f,i,h=>by
    have:=zdq r (fmF f c) (i+1) (ze1 h c)
    rw [List.length_cons,show i+(r.length+1)=i+1+r.length by omega]
    exact this
def fmN0 (f:Fm) (b:Str):Prop:=∃ n,FmI { f with out:=[]} n∧n+b.length≤400000
theorem zeY (m:Str) (hd:Int) (bs:List Int) (p:Int) (fs:List Fld) (pa sk co:Int) (out:List Evt) (b:Str) (hneed:fmN0 ⟨m,hd,bs,p,none,fs,pa,sk,co,out⟩ b):Spc Tryd.prog 9 [.v (.one (.ptr 0 0)),.v (.one (.p (.list .byte b)))] [.abs (.fm ⟨m,hd,bs,p,none,fs,pa,sk,co,out⟩)] (.ret (.v (.one (.row 1)))) [.abs (.fm ((yD ⟨m,hd,bs,p,none,fs,pa,sk,co,out⟩ b))),.row .evt 63 ((yU (yD ⟨m,hd,bs,p,none,fs,pa,sk,co,out⟩ b).out))]:=by
  obtain⟨n,hI0,hnb⟩:=hneed
  have hml:=hI0.ml
  have hh1:=hI0.h1
  have hh0:=hI0.h0
  simp only at hml hh1 hh0
  have hh:hd.toNat≤1000:=by
    omega
  refine spcG zk mixed Tryd.func9 (by kernel_rfl) { cfgF with keep:=some [0,1,4,6,10,11,12]} [Y6,Y5,qN,qM] (by kernel_rfl) ?_
  intro I X hI hX
  refine zh (.code 0 [1,1,0,1,0] ⟨[(12,(.v (.one (.p (.int .i64 0))))),(11,(.v (.one (.p (.int .i64 (I.len (α:=UInt8) b)))))),(10,(.v (.one (.p (.list .byte b))))),(4,(.v (.one .nilS))),(0,(.v (.one (.ptr 0 0)))),(1,(.v (.one (.p (.list .byte b)))))],[(.obj 55 [(.ptr 1 0),(.p (.int .i64 p)),(.p (.val (.pointer .none))),(.row 2),(.p (.int .i64 pa)),(.p (.int .i64 sk)),(.p (.int .i64 co)),.nilS]),(.pack [(.obj 84 [(.row 1),(.row 2),(.p (.int .i64 hd))]),(.row .byte 5 m),(.row .int 3 bs)]),(.row .fld 67 fs),(.row .evt 63 out)],25,none⟩) (by kernel_rfl) ?_
  simp only [zq]
  unfold yD
  simp only at hI0 ⊢
  refine zu hI zk mixed [Y6,Y5,qN,qM] hX [0,10,11,12] (fun(g:Nat × Fm)=>match g with|(i,r)=>i≤b.length∧r=ZU (⟨m,hd,bs,p,none,fs,pa,sk,co,[]⟩:Fm) (b.take i)∧FmI r (n+i)∧zK r.out+r.held.toNat≤hd.toNat+2 * i) (fun(g:Nat × Fm)=>match g with|(i,r)=>⟨[(0,.v (.one (.ptr 0 0))),(10,.v (.one (.p (.list .byte b)))),(11,.v (.one (.p (.int .i64 ((I.len (α:=UInt8) b)))))),(12,.v (.one (.p (.int .i64 i))))],[.abs (.fm r)],25,none⟩) (fun(g:Nat × Fm)=>match g with|(i,r)=>b.length - i) (0,(⟨m,hd,bs,p,none,fs,pa,sk,co,[]⟩:Fm)) (by kernel_rfl) (by kernel_rfl) ?_ ?_
  · exact⟨Nat.zero_le _,rfl,hI0,by simp [zK]⟩
  rintro⟨i,⟨m2,hd2,bs2,p2,ln2,fs2,pa2,sk2,co2,out2⟩⟩ ⟨h1,h2,h3,h4⟩ A hA
  simp only at hA h1 h2 h3 h4
  have hrn:i<b.length→fmN _:=fun h=>⟨n+i,by omega,h3⟩
  have hgo:i<b.length→_:=fun h=>hA (i+1,fmF ⟨m2,hd2,bs2,p2,ln2,fs2,pa2,sk2,co2,out2⟩ (b.getD i 0)) ⟨by simp only;omega,by simp only;rw [zdp _ _ h,← h2],by simp only;exact ze1 h3 _,by simp only;have:=QB h3 (b.getD i 0);simp only at this;omega⟩ (by simp only;omega)
  have hend: ¬ i<b.length→_:=fun h=>h2.trans (by rw [List.take_of_length_le (by omega)])
  rcases ln2 with _|l2
  · have h0:=h1
    refine zh (let y0:=I.b2i (I.get (α:=UInt8) b 0 (Nat.cast i));let y1:=I.inb (Nat.cast i) (I.len (α:=UInt8) b);.br (I.ilt (Nat.cast i) (I.len (α:=UInt8) b)) (.need y1 (.need y1 (.need (I.hid (α:=(Prop)) (And (fmN (Go.Ab.Fm.mk m2 hd2 bs2 p2 (Option.none) fs2 pa2 sk2 co2 out2)) (And (LE.le (0:Int) y0) (LE.le y0 (255:Int))))) (.need (I.inr Go.IntKind.i64 (I.add (Nat.cast i) 1)) (.need (A ⟨[(0,(.v (.one (.ptr 0 0)))),(10,(.v (.one (.p (.list .byte b))))),(11,(.v (.one (.p (.int .i64 (I.len (α:=UInt8) b)))))),(12,(.v (.one (.p (.int .i64 (I.add (Nat.cast i) 1))))))],[(.abs (.fm (I.hid (α:=Go.Ab.Fm) (fmF (Go.Ab.Fm.mk m2 hd2 bs2 p2 (Option.none) fs2 pa2 sk2 co2 out2) (UInt8.ofNat (Int.toNat y0))))))],25,none⟩) .qed))))) (.need (I.hid (α:=(Prop)) (And (LE.le (zK out2) 1000000) (LE.le (List.length out2) 10000000))) (.fin (.ret (.v (.one (.row 1)))) [(.abs (.fm (Go.Ab.Fm.mk m2 hd2 bs2 p2 (Option.none) fs2 pa2 sk2 co2 out2))),(.row .evt 63 (I.hid (α:=(List Go.Ab.Evt)) (yU out2)))]))) (by kernel_rfl) ?_
    simp only [zq]
    subst hI
    simp only [nrmA,nrmB,nrlB,reduceCtorEq,HO.abs.injEq,Gh.fm.injEq]
    by_cases hi:i<b.length
    · have hg:=hgo hi
      have hn:=hrn hi
      (repeat' (first|refine And.intro ?_ ?_|intro _))<;>first|omega|exact True.intro|exact False.elim ‹False›|skip
      all_goals first|omega|exact hg|exact hn|contradiction|(have:=(b.getD i 0).toNat_lt;omega)|trace_state
    · have hg:=hend hi
      rw [← hg]
      have hon:=h3.on
      simp only at hon
      (repeat' (first|refine And.intro ?_ ?_|intro _))<;>first|omega|exact True.intro|exact False.elim ‹False›|skip
      all_goals first|omega|rfl|contradiction|exact⟨by omega,by omega⟩|trace_state
  · have h0:=h1
    refine zh (let y0:=I.b2i (I.get (α:=UInt8) b 0 (Nat.cast i));let y1:=I.inb (Nat.cast i) (I.len (α:=UInt8) b);.br (I.ilt (Nat.cast i) (I.len (α:=UInt8) b)) (.need y1 (.need y1 (.need (I.hid (α:=(Prop)) (And (fmN (Go.Ab.Fm.mk m2 hd2 bs2 p2 (Option.some l2) fs2 pa2 sk2 co2 out2)) (And (LE.le (0:Int) y0) (LE.le y0 (255:Int))))) (.need (I.inr Go.IntKind.i64 (I.add (Nat.cast i) 1)) (.need (A ⟨[(0,(.v (.one (.ptr 0 0)))),(10,(.v (.one (.p (.list .byte b))))),(11,(.v (.one (.p (.int .i64 (I.len (α:=UInt8) b)))))),(12,(.v (.one (.p (.int .i64 (I.add (Nat.cast i) 1))))))],[(.abs (.fm (I.hid (α:=Go.Ab.Fm) (fmF (Go.Ab.Fm.mk m2 hd2 bs2 p2 (Option.some l2) fs2 pa2 sk2 co2 out2) (UInt8.ofNat (Int.toNat y0))))))],25,none⟩) .qed))))) (.need (I.hid (α:=(Prop)) (And (LE.le (zK out2) 1000000) (LE.le (List.length out2) 10000000))) (.fin (.ret (.v (.one (.row 1)))) [(.abs (.fm (Go.Ab.Fm.mk m2 hd2 bs2 p2 (Option.some (Go.Ab.Ln.mk (Go.Ab.Ln.b l2) (Go.Ab.Ln.cr l2) (Go.Ab.Ln.code l2))) fs2 pa2 sk2 co2 out2))),(.row .evt 63 (I.hid (α:=(List Go.Ab.Evt)) (yU out2)))]))) (by kernel_rfl) ?_
    simp only [zq]
    subst hI
    simp only [nrmA,nrmB,nrlB,reduceCtorEq,HO.abs.injEq,Gh.fm.injEq]
    by_cases hi:i<b.length
    · have hg:=hgo hi
      have hn:=hrn hi
      (repeat' (first|refine And.intro ?_ ?_|intro _))<;>first|omega|exact True.intro|exact False.elim ‹False›|skip
      all_goals first|omega|exact hg|exact hn|contradiction|(have:=(b.getD i 0).toNat_lt;omega)|trace_state
    · have hg:=hend hi
      rw [← hg]
      have hon:=h3.on
      simp only at hon
      (repeat' (first|refine And.intro ?_ ?_|intro _))<;>first|omega|exact True.intro|exact False.elim ‹False›|skip
      all_goals first|omega|rfl|contradiction|exact⟨by omega,by omega⟩|trace_state
theorem zeX (m:Str) (hd:Int) (bs:List Int) (p:Int) (ln:Ln) (fs:List Fld) (pa sk co:Int) (out:List Evt) (b:Str) (hneed:fmN0 ⟨m,hd,bs,p,some ln,fs,pa,sk,co,out⟩ b):Spc Tryd.prog 9 [.v (.one (.ptr 0 0)),.v (.one (.p (.list .byte b)))] [.abs (.fm ⟨m,hd,bs,p,some ln,fs,pa,sk,co,out⟩)] (.ret (.v (.one (.row 1)))) [.abs (.fm ((yD ⟨m,hd,bs,p,some ln,fs,pa,sk,co,out⟩ b))),.row .evt 63 ((yU (yD ⟨m,hd,bs,p,some ln,fs,pa,sk,co,out⟩ b).out))]:=by
  obtain⟨n,hI0,hnb⟩:=hneed
  have hml:=hI0.ml
  have hh1:=hI0.h1
  have hh0:=hI0.h0
  simp only at hml hh1 hh0
  have hh:hd.toNat≤1000:=by
    omega
  refine spcG zk mixed Tryd.func9 (by kernel_rfl) { cfgF with keep:=some [0,1,4,6,10,11,12]} [Y6,Y5,qN,qM] (by kernel_rfl) ?_
  intro I X hI hX
  refine zh (.code 0 [1,1,0,1,0] ⟨[(12,(.v (.one (.p (.int .i64 0))))),(11,(.v (.one (.p (.int .i64 (I.len (α:=UInt8) b)))))),(10,(.v (.one (.p (.list .byte b))))),(4,(.v (.one .nilS))),(0,(.v (.one (.ptr 0 0)))),(1,(.v (.one (.p (.list .byte b)))))],[(.obj 55 [(.ptr 1 0),(.p (.int .i64 p)),(.ptr 2 0),(.row 3),(.p (.int .i64 pa)),(.p (.int .i64 sk)),(.p (.int .i64 co)),.nilS]),(.pack [(.obj 84 [(.row 1),(.row 2),(.p (.int .i64 hd))]),(.row .byte 5 m),(.row .int 3 bs)]),(.pack [(.obj 106 [(.row 1),(.p (.bool (Go.Ab.Ln.cr ln))),(.p (.int .i64 (Go.Ab.Ln.code ln)))]),(.row .byte 5 (Go.Ab.Ln.b ln))]),(.row .fld 67 fs),(.row .evt 63 out)],25,none⟩) (by kernel_rfl) ?_
  simp only [zq]
  unfold yD
  simp only at hI0 ⊢
  refine zu hI zk mixed [Y6,Y5,qN,qM] hX [0,10,11,12] (fun(g:Nat × Fm)=>match g with|(i,r)=>i≤b.length∧r=ZU (⟨m,hd,bs,p,some ln,fs,pa,sk,co,[]⟩:Fm) (b.take i)∧FmI r (n+i)∧zK r.out+r.held.toNat≤hd.toNat+2 * i) (fun(g:Nat × Fm)=>match g with|(i,r)=>⟨[(0,.v (.one (.ptr 0 0))),(10,.v (.one (.p (.list .byte b)))),(11,.v (.one (.p (.int .i64 ((I.len (α:=UInt8) b)))))),(12,.v (.one (.p (.int .i64 i))))],[.abs (.fm r)],25,none⟩) (fun(g:Nat × Fm)=>match g with|(i,r)=>b.length - i) (0,(⟨m,hd,bs,p,some ln,fs,pa,sk,co,[]⟩:Fm)) (by kernel_rfl) (by kernel_rfl) ?_ ?_
  · exact⟨Nat.zero_le _,rfl,hI0,by simp [zK]⟩
  rintro⟨i,⟨m2,hd2,bs2,p2,ln2,fs2,pa2,sk2,co2,out2⟩⟩ ⟨h1,h2,h3,h4⟩ A hA
  simp only at hA h1 h2 h3 h4
  have hrn:i<b.length→fmN _:=fun h=>⟨n+i,by omega,h3⟩
  have hgo:i<b.length→_:=fun h=>hA (i+1,fmF ⟨m2,hd2,bs2,p2,ln2,fs2,pa2,sk2,co2,out2⟩ (b.getD i 0)) ⟨by simp only;omega,by simp only;rw [zdp _ _ h,← h2],by simp only;exact ze1 h3 _,by simp only;have:=QB h3 (b.getD i 0);simp only at this;omega⟩ (by simp only;omega)
  have hend: ¬ i<b.length→_:=fun h=>h2.trans (by rw [List.take_of_length_le (by omega)])
  rcases ln2 with _|l2
  · have h0:=h1
    refine zh (let y0:=I.b2i (I.get (α:=UInt8) b 0 (Nat.cast i));let y1:=I.inb (Nat.cast i) (I.len (α:=UInt8) b);.br (I.ilt (Nat.cast i) (I.len (α:=UInt8) b)) (.need y1 (.need y1 (.need (I.hid (α:=(Prop)) (And (fmN (Go.Ab.Fm.mk m2 hd2 bs2 p2 (Option.none) fs2 pa2 sk2 co2 out2)) (And (LE.le (0:Int) y0) (LE.le y0 (255:Int))))) (.need (I.inr Go.IntKind.i64 (I.add (Nat.cast i) 1)) (.need (A ⟨[(0,(.v (.one (.ptr 0 0)))),(10,(.v (.one (.p (.list .byte b))))),(11,(.v (.one (.p (.int .i64 (I.len (α:=UInt8) b)))))),(12,(.v (.one (.p (.int .i64 (I.add (Nat.cast i) 1))))))],[(.abs (.fm (I.hid (α:=Go.Ab.Fm) (fmF (Go.Ab.Fm.mk m2 hd2 bs2 p2 (Option.none) fs2 pa2 sk2 co2 out2) (UInt8.ofNat (Int.toNat y0))))))],25,none⟩) .qed))))) (.need (I.hid (α:=(Prop)) (And (LE.le (zK out2) 1000000) (LE.le (List.length out2) 10000000))) (.fin (.ret (.v (.one (.row 1)))) [(.abs (.fm (Go.Ab.Fm.mk m2 hd2 bs2 p2 (Option.none) fs2 pa2 sk2 co2 out2))),(.row .evt 63 (I.hid (α:=(List Go.Ab.Evt)) (yU out2)))]))) (by kernel_rfl) ?_
    simp only [zq]
    subst hI
    simp only [nrmA,nrmB,nrlB,reduceCtorEq,HO.abs.injEq,Gh.fm.injEq]
    by_cases hi:i<b.length
    · have hg:=hgo hi
      have hn:=hrn hi
      (repeat' (first|refine And.intro ?_ ?_|intro _))<;>first|omega|exact True.intro|exact False.elim ‹False›|skip
      all_goals first|omega|exact hg|exact hn|contradiction|(have:=(b.getD i 0).toNat_lt;omega)|trace_state
    · have hg:=hend hi
      rw [← hg]
      have hon:=h3.on
      simp only at hon
      (repeat' (first|refine And.intro ?_ ?_|intro _))<;>first|omega|exact True.intro|exact False.elim ‹False›|skip
      all_goals first|omega|rfl|contradiction|exact⟨by omega,by omega⟩|trace_state
  · have h0:=h1
    refine zh (let y0:=I.b2i (I.get (α:=UInt8) b 0 (Nat.cast i));let y1:=I.inb (Nat.cast i) (I.len (α:=UInt8) b);.br (I.ilt (Nat.cast i) (I.len (α:=UInt8) b)) (.need y1 (.need y1 (.need (I.hid (α:=(Prop)) (And (fmN (Go.Ab.Fm.mk m2 hd2 bs2 p2 (Option.some l2) fs2 pa2 sk2 co2 out2)) (And (LE.le (0:Int) y0) (LE.le y0 (255:Int))))) (.need (I.inr Go.IntKind.i64 (I.add (Nat.cast i) 1)) (.need (A ⟨[(0,(.v (.one (.ptr 0 0)))),(10,(.v (.one (.p (.list .byte b))))),(11,(.v (.one (.p (.int .i64 (I.len (α:=UInt8) b)))))),(12,(.v (.one (.p (.int .i64 (I.add (Nat.cast i) 1))))))],[(.abs (.fm (I.hid (α:=Go.Ab.Fm) (fmF (Go.Ab.Fm.mk m2 hd2 bs2 p2 (Option.some l2) fs2 pa2 sk2 co2 out2) (UInt8.ofNat (Int.toNat y0))))))],25,none⟩) .qed))))) (.need (I.hid (α:=(Prop)) (And (LE.le (zK out2) 1000000) (LE.le (List.length out2) 10000000))) (.fin (.ret (.v (.one (.row 1)))) [(.abs (.fm (Go.Ab.Fm.mk m2 hd2 bs2 p2 (Option.some (Go.Ab.Ln.mk (Go.Ab.Ln.b l2) (Go.Ab.Ln.cr l2) (Go.Ab.Ln.code l2))) fs2 pa2 sk2 co2 out2))),(.row .evt 63 (I.hid (α:=(List Go.Ab.Evt)) (yU out2)))]))) (by kernel_rfl) ?_
    simp only [zq]
    subst hI
    simp only [nrmA,nrmB,nrlB,reduceCtorEq,HO.abs.injEq,Gh.fm.injEq]
    by_cases hi:i<b.length
    · have hg:=hgo hi
      have hn:=hrn hi
      (repeat' (first|refine And.intro ?_ ?_|intro _))<;>first|omega|exact True.intro|exact False.elim ‹False›|skip
      all_goals first|omega|exact hg|exact hn|contradiction|(have:=(b.getD i 0).toNat_lt;omega)|trace_state
    · have hg:=hend hi
      rw [← hg]
      have hon:=h3.on
      simp only at hon
      (repeat' (first|refine And.intro ?_ ?_|intro _))<;>first|omega|exact True.intro|exact False.elim ‹False›|skip
      all_goals first|omega|rfl|contradiction|exact⟨by omega,by omega⟩|trace_state
theorem zgN (f:Fm) (b:Str) (hneed:fmN0 f b):Spc Tryd.prog 9 [.v (.one (.ptr 0 0)),.v (.one (.p (.list .byte b)))] [.abs (.fm f)] (.ret (.v (.one (.row 1)))) [.abs (.fm ((yD f b))),.row .evt 63 ((yU (yD f b).out))]:=by
  obtain⟨m,hd,bs,p,ln,fs,pa,sk,co,out⟩:=f
  cases ln with
  |none=>exact zeY m hd bs p fs pa sk co out b hneed
  |some ln=>exact zeX m hd bs p ln fs pa sk co out b hneed
def Zn (I:Alg) (args:List D) (hp:List HO):Option CT:=match args,hp with
  |[.v (.one (.ptr 0 0)),.v (.one (.p (.list .byte b)))],[.abs (.fm f)]=>(fun(f:Fm) (b:Str)=>(some (.one ⟨I.hid (fmN0 f b),(.ret (.v (.one (.row 1)))),[.abs (.fm (I.hid ((yD f b)))),.row .evt 63 (I.hid ((yU (yD f b).out)))]⟩):Option CT)) f b
  |_,_=>none
theorem SY:zx Tryd.prog 9 (Zn alg):=by
  intro args hp r h
  unfold Zn at h
  split at h
  · cases h;exact fun hn=>zgN _ _ hn
  · cases h
def XZ:Know Tryd.prog:=⟨9,Zn,SY⟩
def XY:Know Tryd.prog:=⟨9,fun I=>zA I (Zn I),zf SY⟩
theorem zdw (m:Str) (hd:Int) (bs:List Int) (p:Int) (fs:List Fld) (pa sk co:Int) (out:List Evt):Spc Tryd.prog 12 [.v (.one (.ptr 0 0))] [.abs (.fm ⟨m,hd,bs,p,none,fs,pa,sk,co,out⟩)] (.ret (.v (.one (.p (.int .i64 ((xH ⟨m,hd,bs,p,none,fs,pa,sk,co,out⟩))))))) [.abs (.fm ⟨m,hd,bs,p,none,fs,pa,sk,co,out⟩)]:=by
  generalize hr:xH ⟨m,hd,bs,p,none,fs,pa,sk,co,out⟩=r
  unfold xH at hr
  simp only at hr
  refine spcG zk mixed Tryd.func12 (by kernel_rfl) { cfgF with keep:=some [0,2,6]} [] (by kernel_rfl) ?_
  intro I X hI hX
  refine zh (.br (I.ieq p 8) (.fin (.ret (.v (.one (.p (.int .i64 co))))) [(.abs (.fm (Go.Ab.Fm.mk m hd bs p (Option.none) fs pa sk co out)))]) (.br (I.ieq p 7) (.fin (.ret (.v (.one (.p (.int .i64 0))))) [(.abs (.fm (Go.Ab.Fm.mk m hd bs p (Option.none) fs pa sk co out)))]) (.fin (.ret (.v (.one (.p (.int .i64 14))))) [(.abs (.fm (Go.Ab.Fm.mk m hd bs p (Option.none) fs pa sk co out)))]))) (by kernel_rfl) ?_
  simp only [zq]
  subst hI
  simp only [nrmA,nrmB,nrlB,reduceCtorEq,HO.abs.injEq,Gh.fm.injEq]
  (repeat' (first|refine And.intro ?_ ?_|intro _))<;>first|omega|exact True.intro|exact False.elim ‹False›|skip
  all_goals first|omega|rfl|(subst hr;simp [*];done)|trace_state
theorem zdv (m:Str) (hd:Int) (bs:List Int) (p:Int) (ln:Ln) (fs:List Fld) (pa sk co:Int) (out:List Evt):Spc Tryd.prog 12 [.v (.one (.ptr 0 0))] [.abs (.fm ⟨m,hd,bs,p,some ln,fs,pa,sk,co,out⟩)] (.ret (.v (.one (.p (.int .i64 ((xH ⟨m,hd,bs,p,some ln,fs,pa,sk,co,out⟩))))))) [.abs (.fm ⟨m,hd,bs,p,some ln,fs,pa,sk,co,out⟩)]:=by
  generalize hr:xH ⟨m,hd,bs,p,some ln,fs,pa,sk,co,out⟩=r
  unfold xH at hr
  simp only at hr
  refine spcG zk mixed Tryd.func12 (by kernel_rfl) { cfgF with keep:=some [0,2,6]} [] (by kernel_rfl) ?_
  intro I X hI hX
  refine zh (.br (I.ieq p 8) (.fin (.ret (.v (.one (.p (.int .i64 co))))) [(.abs (.fm (Go.Ab.Fm.mk m hd bs p (Option.some (Go.Ab.Ln.mk (Go.Ab.Ln.b ln) (Go.Ab.Ln.cr ln) (Go.Ab.Ln.code ln))) fs pa sk co out)))]) (.br (I.ieq p 7) (.fin (.ret (.v (.one (.p (.int .i64 0))))) [(.abs (.fm (Go.Ab.Fm.mk m hd bs p (Option.some (Go.Ab.Ln.mk (Go.Ab.Ln.b ln) (Go.Ab.Ln.cr ln) (Go.Ab.Ln.code ln))) fs pa sk co out)))]) (.fin (.ret (.v (.one (.p (.int .i64 14))))) [(.abs (.fm (Go.Ab.Fm.mk m hd bs p (Option.some (Go.Ab.Ln.mk (Go.Ab.Ln.b ln) (Go.Ab.Ln.cr ln) (Go.Ab.Ln.code ln))) fs pa sk co out)))]))) (by kernel_rfl) ?_
  simp only [zq]
  subst hI
  simp only [nrmA,nrmB,nrlB,reduceCtorEq,HO.abs.injEq,Gh.fm.injEq]
  (repeat' (first|refine And.intro ?_ ?_|intro _))<;>first|omega|exact True.intro|exact False.elim ‹False›|skip
  all_goals first|omega|rfl|(subst hr;simp [*];done)|trace_state
theorem ze2 (f:Fm):Spc Tryd.prog 12 [.v (.one (.ptr 0 0))] [.abs (.fm f)] (.ret (.v (.one (.p (.int .i64 ((xH f))))))) [.abs (.fm f)]:=by
  obtain⟨m,hd,bs,p,ln,fs,pa,sk,co,out⟩:=f
  cases ln with
  |none=>exact zdw m hd bs p fs pa sk co out
  |some ln=>exact zdv m hd bs p ln fs pa sk co out
def rM (I:Alg) (args:List D) (hp:List HO):Option CT:=match args,hp with
  |[.v (.one (.ptr 0 0))],[.abs (.fm f)]=>(fun(f:Fm)=>(some (.one ⟨I.hid (True),(.ret (.v (.one (.p (.int .i64 (I.hid ((xH f)))))))),[.abs (.fm f)]⟩):Option CT)) f
  |_,_=>none
theorem Vs:zx Tryd.prog 12 (rM alg):=by
  intro args hp r h
  unfold rM at h
  split at h
  · cases h;exact fun hn=>ze2 _
  · cases h
def ZW:Know Tryd.prog:=⟨12,rM,Vs⟩
def ZV:Know Tryd.prog:=⟨12,fun I=>zA I (rM I),zf Vs⟩
theorem zgL (s:Str) (hneed:s.length≤140737488355328∧vU s=true):Spc Tryd.prog 7 [.v (.one (.p (.str s)))] [] (.ret (.tup [(.one (.ptr 0 0)),(.one (.p (.int .i64 0)))])) [.abs (.fm ((fm0 s)))]:=by
  obtain⟨hs,hm⟩:=hneed
  have hl:s.length≤70:=by unfold vU at hm;simp at hm;omega
  generalize hr:fm0 s=r
  unfold fm0 fmSk at hr
  simp only [Int.toNat_natCast] at hr
  refine spcG zk mixed Tryd.func7 (by kernel_rfl) { cfgF with keep:=some [0,2,3,4]} [Z5,Z4,zfw,zfv,Ur,Uo] (by kernel_rfl) ?_
  intro I X hI hX
  refine zh (let y0:=I.hid (α:=Int) (Nat.cast (Prod.fst (Prod.snd (yh (I.app (α:=UInt8) ([13,10,45,45]:Str) s) (Int.toNat (0:Int)) (UInt8.ofNat (Int.toNat (13:Int)))))));let y1:=I.hid (α:=(List Int)) (wE (I.app (α:=UInt8) ([13,10,45,45]:Str) s));.need (I.hid (α:=(Prop)) (LE.le (List.length s) 140737488355328)) (.br (I.bnot (I.hid (α:=Bool) (vU s))) (.fin (.ret (.tup [(.one (.p (.val (.pointer .none)))),(.one (.p (.int .i64 5)))])) []) (.need (I.few (I.add (I.len (α:=UInt8) ([13,10,45,45]:Str)) (I.len (α:=UInt8) s)) 1000000000) (.need (I.hid (α:=(Prop)) (LE.le (List.length (I.app (α:=UInt8) ([13,10,45,45]:Str) s)) 999999)) (.need (I.hid (α:=(Prop)) (And (Eq y1 (wE (I.app (α:=UInt8) ([13,10,45,45]:Str) s))) (And (LE.le (List.length (I.app (α:=UInt8) ([13,10,45,45]:Str) s)) 1000000) (And (LE.le (0:Int) (0:Int)) (And (Or (Eq (I.app (α:=UInt8) ([13,10,45,45]:Str) s) ([]:Str)) (LT.lt (0:Int) (Nat.cast (List.length (I.app (α:=UInt8) ([13,10,45,45]:Str) s))))) (And (LE.le (0:Int) (13:Int)) (LE.le (13:Int) (255:Int)))))))) (.need (I.hid (α:=(Prop)) (And (Eq y1 (wE (I.app (α:=UInt8) ([13,10,45,45]:Str) s))) (And (LE.le (List.length (I.app (α:=UInt8) ([13,10,45,45]:Str) s)) 1000000) (And (LE.le (0:Int) y0) (And (Or (Eq (I.app (α:=UInt8) ([13,10,45,45]:Str) s) ([]:Str)) (LT.lt y0 (Nat.cast (List.length (I.app (α:=UInt8) ([13,10,45,45]:Str) s))))) (And (LE.le (0:Int) (10:Int)) (LE.le (10:Int) (255:Int)))))))) (.fin (.ret (.tup [(.one (.ptr 0 0)),(.one (.p (.int .i64 0)))])) [(.abs (.fm (Go.Ab.Fm.mk (I.app (α:=UInt8) ([13,10,45,45]:Str) s) (I.hid (α:=Int) (Nat.cast (Prod.fst (Prod.snd (yh (I.app (α:=UInt8) ([13,10,45,45]:Str) s) (Int.toNat y0) (UInt8.ofNat (Int.toNat (10:Int)))))))) y1 (0:Int) (Option.none) ([]:List Fld) (0:Int) (0:Int) (0:Int) ([]:List Go.Ab.Evt))))]))))))) (by kernel_rfl) ?_
  simp only [zq]
  unfold XW at hr
  subst hI
  simp only [nrmA,nrmB,nrlB,reduceCtorEq,HO.abs.injEq,Gh.fm.injEq]
  have hM:([13,10,45,45]++s).length=s.length+4:=by simp
  generalize([13,10,45,45]++s:Str)=M at *
  have h1:=Zp M 0 13
  (repeat' (first|refine And.intro ?_ ?_|intro _))<;>first|omega|exact True.intro|exact False.elim ‹False›|skip
  all_goals first
    |omega
    |exact .inr (by omega)
    |exact h1
    |exact Int.natCast_nonneg _
    |exact absurd (hm.symm.trans ‹vU s=false›) (by decide)
    |(subst hr;rfl)
    |(simp only [List.length_cons,List.length_nil];omega)
def Zl (I:Alg) (args:List D) (hp:List HO):Option CT:=match args,hp with
  |[.v (.one (.p (.str s)))],[]=>(fun(s:Str)=>(some (.one ⟨I.hid (s.length≤140737488355328∧vU s=true),(.ret (.tup [(.one (.ptr 0 0)),(.one (.p (.int .i64 0)))])),[.abs (.fm (I.hid ((fm0 s))))]⟩):Option CT)) s
  |_,_=>none
theorem SQ:zx Tryd.prog 7 (Zl alg):=by
  intro args hp r h
  unfold Zl at h
  split at h
  · cases h;exact fun hn=>zgL _ hn
  · cases h
def XV:Know Tryd.prog:=⟨7,Zl,SQ⟩
def XU:Know Tryd.prog:=⟨7,fun I=>zA I (Zl I),zf SQ⟩
theorem zgK (s:Str) (hneed:s.length≤140737488355328∧vU s=false):Spc Tryd.prog 7 [.v (.one (.p (.str s)))] [] (.ret (.tup [(.one (.p (.val (.pointer none)))),(.one (.p (.int .i64 5)))])) []:=by
  obtain⟨hs,hm⟩:=hneed
  refine spcG zk mixed Tryd.func7 (by kernel_rfl) { cfgF with keep:=some [0,2,3,4]} [Z5,Z4,zfw,zfv,Ur,Uo,XV,XU] (by kernel_rfl) ?_
  intro I X hI hX
  refine zh (let y0:=I.hid (α:=Int) (Nat.cast (Prod.fst (Prod.snd (yh (I.app (α:=UInt8) ([13,10,45,45]:Str) s) (Int.toNat (0:Int)) (UInt8.ofNat (Int.toNat (13:Int)))))));let y1:=I.hid (α:=(List Int)) (wE (I.app (α:=UInt8) ([13,10,45,45]:Str) s));.need (I.hid (α:=(Prop)) (LE.le (List.length s) 140737488355328)) (.br (I.bnot (I.hid (α:=Bool) (vU s))) (.fin (.ret (.tup [(.one (.p (.val (.pointer .none)))),(.one (.p (.int .i64 5)))])) []) (.need (I.few (I.add (I.len (α:=UInt8) ([13,10,45,45]:Str)) (I.len (α:=UInt8) s)) 1000000000) (.need (I.hid (α:=(Prop)) (LE.le (List.length (I.app (α:=UInt8) ([13,10,45,45]:Str) s)) 999999)) (.need (I.hid (α:=(Prop)) (And (Eq y1 (wE (I.app (α:=UInt8) ([13,10,45,45]:Str) s))) (And (LE.le (List.length (I.app (α:=UInt8) ([13,10,45,45]:Str) s)) 1000000) (And (LE.le (0:Int) (0:Int)) (And (Or (Eq (I.app (α:=UInt8) ([13,10,45,45]:Str) s) ([]:Str)) (LT.lt (0:Int) (Nat.cast (List.length (I.app (α:=UInt8) ([13,10,45,45]:Str) s))))) (And (LE.le (0:Int) (13:Int)) (LE.le (13:Int) (255:Int)))))))) (.need (I.hid (α:=(Prop)) (And (Eq y1 (wE (I.app (α:=UInt8) ([13,10,45,45]:Str) s))) (And (LE.le (List.length (I.app (α:=UInt8) ([13,10,45,45]:Str) s)) 1000000) (And (LE.le (0:Int) y0) (And (Or (Eq (I.app (α:=UInt8) ([13,10,45,45]:Str) s) ([]:Str)) (LT.lt y0 (Nat.cast (List.length (I.app (α:=UInt8) ([13,10,45,45]:Str) s))))) (And (LE.le (0:Int) (10:Int)) (LE.le (10:Int) (255:Int)))))))) (.fin (.ret (.tup [(.one (.ptr 0 0)),(.one (.p (.int .i64 0)))])) [(.abs (.fm (Go.Ab.Fm.mk (I.app (α:=UInt8) ([13,10,45,45]:Str) s) (I.hid (α:=Int) (Nat.cast (Prod.fst (Prod.snd (yh (I.app (α:=UInt8) ([13,10,45,45]:Str) s) (Int.toNat y0) (UInt8.ofNat (Int.toNat (10:Int)))))))) y1 (0:Int) (Option.none) ([]:List Fld) (0:Int) (0:Int) (0:Int) ([]:List Go.Ab.Evt))))]))))))) (by kernel_rfl) ?_
  simp only [zq]
  subst hI
  simp only [nrmA,nrmB,nrlB,reduceCtorEq]
  exact⟨hs,fun _=>trivial,by simp [hm]⟩
end Go.Proofs.YtknaogelmckimaaDoor
namespace Go.Proofs.YtknaogelmckimaaDoor
open Go Go.Sep Go.Ab
inductive GR:List Evt→Prop
  |nil:GR []
  |other {l:List Evt} {e:Evt} (h:GR l) (h2:e.kind≠2) (h5:e.kind=5→e.part.bytes=[]):GR (l++[e])
  |body {l:List Evt} {x e:Evt} (h:GR (l++[x])) (hx:x.kind=5∨x.kind=2) (h2:e.kind=2) (hb:e.bytes≠[]):GR (l++[x]++[e])
inductive GJ:List Evt→Prop
  |nil:GJ []
  |other {l:List Evt} {e:Evt} (h:GJ l) (h2:e.kind≠2) (h5:e.kind=5→e.part.bytes=[]):GJ (l++[e])
  |body {l:List Evt} {x e:Evt} (h:GJ (l++[x])) (hx:x.kind=5) (h2:e.kind=2) (hb:e.bytes≠[]):GJ (l++[x]++[e])
theorem zgz {l:List Evt} {x:Evt} (h:GR (l++[x])): ∃ z y,yU (l++[x])=z++[y]∧y.kind=x.kind∧(x.kind≠2→y=x):=by
  rw [rE]
  rcases List.eq_nil_or_concat (yU l) with hn|⟨z,y,hz⟩
  · rw [hn,tY];exact⟨[],x,rfl,rfl,fun _=>rfl⟩
  · rw [hz,List.concat_eq_append,wO]
    split
    · rename_i h;exact⟨z,_,rfl,h.1.symm,fun k=>absurd h.1 k⟩
    · exact⟨z++[y],x,rfl,rfl,fun _=>rfl⟩
theorem zgB {z:List Evt} {y:Evt} (h:GJ (z++[y])) (k:y.kind=2): ∃ l x,z=l++[x]∧GJ (l++[x])∧x.kind=5∧y.bytes≠[]:=by
  generalize hw:z++[y]=w at h
  cases h with
  |nil=>simp at hw
  | other h h2 h5=>
    have:=List.append_inj' hw rfl
    have e:=List.singleton_inj.1 this.2
    exact absurd (e▸k) h2
  | body h hx h2 hb=>
    have:=List.append_inj' hw rfl
    have e:=List.singleton_inj.1 this.2
    exact⟨_,_,this.1,h,hx,by rw [e];exact hb⟩
theorem ziw {l:List Evt} (h:GR l):GJ (yU l):=by
  induction h with
  |nil=>exact .nil
  | @other l e h h2 h5 ih=>
    rw [rE]
    rcases List.eq_nil_or_concat (yU l) with hn|⟨z,y,hz⟩
    · rw [hn,tY];exact GJ.other (l:=[]) .nil h2 h5
    · rw [hz,List.concat_eq_append] at ih ⊢
      rw [wO,if_neg (fun k=>h2 k.1)]
      exact .other ih h2 h5
  | @body l x e h hx h2 hb ih=>
    obtain⟨z,y,hz,hk,hy⟩:=zgz h
    rw [rE,hz,wO]
    rw [hz] at ih
    by_cases k:y.kind=2
    · rw [if_pos ⟨h2,k⟩]
      obtain⟨l',x',rfl,g1,g2,g3⟩:=zgB ih k
      refine .body g1 g2 rfl ?_
      simp only [evB]
      intro h;exact g3 (List.append_eq_nil_iff.1 h).1
    · rw [if_neg (fun h=>k h.2)]
      exact .body ih (by rcases hx with hx|hx;rw [hk];exact hx;exact absurd (hk.trans hx) k) h2 hb
def GI (l:List Evt) (i:Nat) (d:Evt):Prop:=((l.getD i d).kind=2→(l.getD i d).bytes≠[]∧∃ j,i=j+1∧(l.getD j d).kind=5)∧((l.getD i d).kind=5→(l.getD i d).part.bytes=[])
theorem Sm {a b:List Evt} {i:Nat} (h:i<a.length) (d:Evt):(a++b).getD i d=a.getD i d:=by
  rw [List.getD_eq_getElem?_getD,List.getElem?_append_left h,← List.getD_eq_getElem?_getD]
theorem zix {l:List Evt} (h:GJ l) (d:Evt): ∀ i,i<l.length→GI l i d:=by
  induction h with
  |nil=>intro i hi;simp at hi
  | @other l e h h2 h5 ih=>
    intro i hi
    rw [List.length_append,List.length_singleton] at hi
    by_cases k:i<l.length
    · obtain⟨a,b⟩:=ih i k
      unfold GI
      rw [Sm k]
      refine⟨fun q=> ?_,b⟩
      obtain⟨a1,j,rfl,a2⟩:=a q
      exact⟨a1,j,rfl,by rw [Sm (by omega)];exact a2⟩
    · have e1:(l++[e]).getD i d=e:=by rw [show i=l.length by omega];simp
      unfold GI
      rw [e1]
      exact⟨fun q=>absurd q h2,h5⟩
  | @body l x e h hx h2 hb ih=>
    intro i hi
    rw [List.length_append,List.length_singleton] at hi
    by_cases k:i<(l++[x]).length
    · obtain⟨a,b⟩:=ih i k
      unfold GI
      rw [Sm k]
      refine⟨fun q=> ?_,b⟩
      obtain⟨a1,j,rfl,a2⟩:=a q
      exact⟨a1,j,rfl,by rw [Sm (by omega)];exact a2⟩
    · have hl:(l++[x]).length=l.length+1:=by simp
      have hi2:i=l.length+1:=by omega
      subst hi2
      have e1:(l++[x]++[e]).getD (l.length+1) d=e:=by rw [← hl];simp
      have e2:(l++[x]++[e]).getD l.length d=x:=by rw [Sm (by omega)];simp
      unfold GI
      rw [e1]
      exact⟨fun _=>⟨hb,l.length,rfl,by rw [e2];exact hx⟩,fun q=>absurd (h2.symm.trans q) (by decide)⟩
def GM (f:Fm):Prop:=GR f.out∧(f.pos=6→∃ l x,f.out=l++[x]∧(x.kind=5∨x.kind=2))
theorem zdg {f:Fm} (h:GR f.out) {e:Evt} (h2:e.kind≠2) (h5:e.kind=5→e.part.bytes=[]):GR (f.out++[e]):=.other h h2 h5
theorem qC {f:Fm} (h:GM f) (c:Int):GM (zH f c):=⟨zdg h.1 (show(4:Int)≠2 by decide) (fun e=>absurd (show(4:Int)=5 from e) (by decide)),fun e=>absurd (show(8:Int)=6 from e) (by decide)⟩
theorem zeR {f:Fm} (h:GM f):GM (yN f):=by
  unfold yN
  split
  · exact qC h _
  · split
    · exact qC h _
    · exact⟨zdg h.1 (show(5:Int)≠2 by decide) (fun _=>Qi f.fields),fun _=>⟨_,_,rfl,.inl rfl⟩⟩
theorem zgA {f:Fm} (h:GM f) (s:Str):GM (xO f s):=by
  unfold xO
  split
  · exact zeR h
  · split
    · exact qC h _
    · split
      · exact qC h _
      · exact h
theorem gm_f {f:Fm} (h:GM f) (c:UInt8):GM (fmF f c):=by
  have hno: ∀ {n:Int},n≠6→n=6→∃ l x,f.out=l++[x]∧(x.kind=5∨x.kind=2):=fun a b=>absurd b a
  unfold fmF
  split
  · unfold yZ
    split
    · show GR (if f.pos=6∧vz f c≠[] then f.out++[evB (vz f c)] else f.out)∧(f.pos=6→∃ l x,(if f.pos=6∧vz f c≠[] then f.out++[evB (vz f c)] else f.out)=l++[x]∧(x.kind=5∨x.kind=2))
      split
      · rename_i k
        obtain⟨l,x,e,hx⟩:=h.2 k.1
        refine⟨?_,fun _=>⟨f.out,_,rfl,.inr rfl⟩⟩
        have:=h.1
        rw [e] at this ⊢
        exact .body this hx rfl k.2
      · exact h
    · show GR (if f.pos=6 then(if vz f c≠[] then f.out++[evB (vz f c),evO] else f.out++[evO]) else f.out)∧((1:Int)=6→_)
      refine⟨?_,fun e=>absurd e (by decide)⟩
      split
      · rename_i k
        obtain⟨l,x,e,hx⟩:=h.2 k
        split
        · rename_i k2
          rw [show f.out++[evB (vz f c),evO]=f.out++[evB (vz f c)]++[evO] by simp]
          refine .other ?_ (by decide) (fun q=>absurd (show(6:Int)=5 from q) (by decide))
          have:=h.1
          rw [e] at this ⊢
          exact .body this hx rfl k2
        · exact .other h.1 (by decide) (fun q=>absurd (show(6:Int)=5 from q) (by decide))
      · exact h.1
  · split
    · unfold yx
      split
      · exact⟨h.1,fun e=>absurd (show(2:Int)=6 from e) (by decide)⟩
      · split
        · exact⟨zdg h.1 (show(3:Int)≠2 by decide) (fun e=>absurd (show(3:Int)=5 from e) (by decide)),fun e=>absurd (show(7:Int)=6 from e) (by decide)⟩
        · split
          · exact⟨h.1,fun e=>absurd (show(3:Int)=6 from e) (by decide)⟩
          · split
            · exact⟨h.1,fun e=>absurd (show(4:Int)=6 from e) (by decide)⟩
            · exact qC h 5
    · split
      · split
        · exact qC h 2
        · exact⟨h.1,fun e=>absurd (show(5:Int)=6 from e) (by decide)⟩
      · split
        · have hk:GM { f with ln:=some (lnF (lnOf f) c).1}:=h
          split
          · exact qC hk _
          · split
            · exact zgA hk _
            · exact hk
        · exact h
theorem zfD: ∀ (b:Str) (f:Fm),GM f→GM (ZU f b)
  |[],f,h=>h
  |c::r,f,h=>zfD r (fmF f c) (gm_f h c)
theorem zf3 (s b:Str) (d:Evt): ∀ i,i<(yU (yD (fm0 s) b).out).length→GI (yU (yD (fm0 s) b).out) i d:=
  zix (ziw (zfD b { fm0 s with out:=[]} ⟨.nil,fun e=>absurd (show(0:Int)=6 from e) (by decide)⟩).1) d
theorem zhZ {s:Str} (h:s.length≤70):FmI { fm0 s with out:=[]} 0:=by
  have h0:FmI ⟨XW s,0,wE (XW s),0,none,[],0,0,0,[]⟩ 0:=
    ⟨rfl,by unfold XW;simp;omega,Int.le_refl _,by unfold XW;simp;omega,⟨Int.le_refl _,(show(0:Int)≤2 by decide)⟩,⟨Int.le_refl _,(show(0:Int)≤12 by decide)⟩,Nat.zero_le _,(fun x hx=>by cases hx),(fun l e=>by cases e),(fun e=>absurd (show(0:Int)=5 from e) (by decide)),Nat.zero_le _⟩
  exact Vp (Vp h0 13) 10
theorem U8 (l:List Evt) (d:Evt) {i:Nat} (h:i<l.length):(l.take (i+1)).foldl prtS []=prtS ((l.take i).foldl prtS []) (l.getD i d):=by
  rw [List.take_succ_eq_append_getElem h,List.foldl_append]
  simp [h]
theorem zcH {l:List Evt} {d:Evt} {i:Nat} (h:i<l.length) (hg: ∀ j,j<l.length→GI l j d) (k:(l.getD i d).kind=2): ∃ z p,(l.take i).foldl prtS []=z++[p]∧p.bytes=[]∧(l.getD i d).bytes≠[]:=by
  obtain⟨hb,j,rfl,hj⟩:=(hg i h).1 k
  refine⟨(l.take j).foldl prtS [],(l.getD j d).part,?_,(hg j (by omega)).2 hj,hb⟩
  rw [U8 l d (show j<l.length by omega),prtS,if_pos hj]
theorem zeF (l:List Evt): ∀ o:List Prt,(l.foldl prtS o).length≤o.length+l.length:=by
  induction l with
  |nil=>intro o;simp
  | cons e r ih=>
    intro o
    have h:=ih (prtS o e)
    have h2 :(prtS o e).length≤o.length+1:=by
      unfold prtS
      split
      · simp
      · split
        · split
          · rename_i p hp
            simp only [List.length_append,List.length_dropLast,List.length_singleton];omega
          · omega
        · omega
    rw [List.foldl_cons,List.length_cons];omega
theorem SI: ∀ (b:Str) (f:Fm) (i:Nat),FmI f i→zK (ZU f b).out+(ZU f b).held.toNat≤zK f.out+f.held.toNat+2 * b.length
  |[],f,i,h=>by simp [ZU]
  | c::r,f,i,h=>by
    have h1:=SI r (fmF f c) (i+1) (ze1 h c)
    have h2:=QB h c
    rw [List.length_cons]
    show zK (ZU (fmF f c) r).out+(ZU (fmF f c) r).held.toNat≤_
    omega
theorem zdu {s b:Str} (h:s.length≤70):(yU (yD (fm0 s) b).out).length≤4 * b.length∧zK (yU (yD (fm0 s) b).out)≤1000+2 * b.length:=by
  have hI:=zhZ h
  have h1:(yD (fm0 s) b).out.length≤4 * (0+b.length):=(zdq b _ 0 hI).on
  have h2:zK (yD (fm0 s) b).out+(yD (fm0 s) b).held.toNat≤0+(fm0 s).held.toNat+2 * b.length:=SI b _ 0 hI
  have h3:=TM (yD (fm0 s) b).out
  have h4:=TL (yD (fm0 s) b).out
  have h5:(fm0 s).held<(fm0 s).mark.length:=hI.h1
  have h6:(fm0 s).mark.length≤1000:=hI.ml
  have h7:0≤(fm0 s).held:=hI.h0
  omega
end Go.Proofs.YtknaogelmckimaaDoor
namespace Go.Proofs.YtknaogelmckimaaDoor
open Go Go.Sep Go.Ab
set_option maxRecDepth 100000
theorem zgT (s b:Str) (hneed:(s.length≤1000000∧b.length≤300000)∧vU s=true):Spc Tryd.prog 20 [.v (.one (.p (.str s))),.v (.one (.p (.list .byte b)))] [] (.ret (.tup [(.one (.p (.list .prt ((rY s b).1)))),(.one (.p (.int .i64 ((rY s b).2))))])) []:=by
  obtain⟨⟨hs,hb⟩,hm⟩:=hneed
  have hl:s.length≤70:=by unfold vU at hm;simp at hm;omega
  have hI0:=zhZ hl
  have hg:=zf3 s b ⟨0,⟨[],[],0,[],0⟩,[],⟨[],[],[],[]⟩,0⟩
  have hle:=zdu (b:=b) hl
  have hN:fmN0 (fm0 s) b:=⟨0,hI0,by omega⟩
  generalize hr:rY s b=r
  unfold rY at hr
  rw [hm,if_neg (by decide)] at hr
  refine spcG zk mixed Tryd.func20 (by kernel_rfl) { cfgF with rl:=[0],nr:=[8],keep:=some [0,1,4,5,6,7,8,10,11,12,23,24,25,30]} [XZ,XY,ZW,ZV,XV,XU] (by kernel_rfl) ?_
  intro I X hI hX
  refine zh (let y0:=I.hid (α:=(List Go.Ab.Evt)) (yU (Go.Ab.Fm.out (yD (I.hid (α:=Go.Ab.Fm) (fm0 s)) b)));.need (I.hid (α:=(Prop)) (And (LE.le (List.length s) 140737488355328) (Eq (vU s) Bool.true))) (.br (I.bnot (I.ieq 0 0)) (.fin (.ret (.tup [(.one (.p (.list .prt ([]:List Go.Ab.Prt)))),(.one (.p (.int .i64 0)))])) []) (.need (I.hid (α:=(Prop)) (fmN0 (I.hid (α:=Go.Ab.Fm) (fm0 s)) b)) (.code 0 [1,1,1,1,0,1,0] ⟨[(25,(.v (.one (.p (.int .i64 0))))),(24,(.v (.one (.p (.int .i64 (I.len (α:=Go.Ab.Evt) y0)))))),(23,(.v (.one (.row 2)))),(8,(.v (.one (.row 1)))),(7,(.v (.one (.p (.int .i64 0))))),(6,(.v (.one (.ptr 0 0)))),(5,(.v (.one (.p (.int .i64 0))))),(4,(.v (.one .nilS))),(0,(.v (.one (.p (.str s))))),(1,(.v (.one (.p (.list .byte b)))))],[(.abs (.fm (I.hid (α:=Go.Ab.Fm) (yD (I.hid (α:=Go.Ab.Fm) (fm0 s)) b)))),(.row .prt 39 ([]:List Go.Ab.Prt)),(.row .evt 63 y0)],62,none⟩)))) (by kernel_rfl) ?_
  simp only [zq]
  generalize fm0 s=F0 at *
  refine⟨?_,fun c=> ?_,fun _=>⟨?_,?_⟩⟩
  · subst hI;exact⟨by omega,hm⟩
  · subst hI;exact absurd c (by decide)
  · subst hI;exact hN
  rw [show I.hid F0=F0 by subst hI;rfl]
  rw [show I.hid (yD F0 b)=yD F0 b by subst hI;rfl]
  generalize yD F0 b=F at *
  rw [show I.hid (yU F.out)=yU F.out by subst hI;rfl]
  generalize yU F.out=L at *
  refine zu hI zk mixed [XZ,XY,ZW,ZV,XV,XU] hX [6,8,23,24,25] (fun(g:Nat × List Prt)=>match g with|(i,o)=>i≤L.length∧o=(L.take i).foldl prtS []) (fun(g:Nat × List Prt)=>match g with|(i,o)=>⟨[(6,.v (.one (.ptr 0 0))),(8,.v (.one (.row 1))),(23,.v (.one (.row 2))),(24,.v (.one (.p (.int .i64 ((I.len (α:=Evt) L)))))),(25,.v (.one (.p (.int .i64 i))))],[.abs (.fm F),.row .prt 39 o,.row .evt 63 L],62,none⟩) (fun(g:Nat × List Prt)=>match g with|(i,o)=>L.length - i) (0,[]) (by kernel_rfl) (by kernel_rfl) ?_ ?_
  · exact⟨Nat.zero_le _,rfl⟩
  rintro⟨i,o⟩ ⟨h1,h2⟩ A hA
  simp only at hA h1 h2
  refine zh (let y0:=I.get (α:=Go.Ab.Evt) L (Go.Ab.Evt.mk (0:Int) (Hd.mk ([]:Str) ([]:Str) (0:Int) ([]:List Fld) (0:Int)) ([]:Str) (Go.Ab.Prt.mk ([]:Str) ([]:Str) ([]:Str) ([]:Str)) (0:Int)) (Nat.cast i);let y6:=I.sub (I.len (α:=Go.Ab.Prt) o) 1;let y1:=I.get (α:=Go.Ab.Prt) o (Go.Ab.Prt.mk ([]:Str) ([]:Str) ([]:Str) ([]:Str)) y6;let y2:=I.inb y6 (I.len (α:=Go.Ab.Prt) o);let y3:=I.inr Go.IntKind.i64 (I.add (Nat.cast i) 1);let y4:=I.inb (Nat.cast i) (I.len (α:=Go.Ab.Evt) L);let y5:=I.len (α:=UInt8) (Go.Ab.Evt.bytes y0);.br (I.ilt (Nat.cast i) (I.len (α:=Go.Ab.Evt) L)) (.need y4 (.need y4 (.br (I.ieq (Go.Ab.Evt.kind y0) 5) (.need (I.few (I.add (I.len (α:=Go.Ab.Prt) o) (I.len (α:=Go.Ab.Prt) ([(Go.Ab.Prt.mk (Go.Ab.Prt.name (Go.Ab.Evt.part y0)) (Go.Ab.Prt.file (Go.Ab.Evt.part y0)) (Go.Ab.Prt.type (Go.Ab.Evt.part y0)) (Go.Ab.Prt.bytes (Go.Ab.Evt.part y0)))]:List Go.Ab.Prt))) 100000000) (.need y3 (.need (A ⟨[(6,(.v (.one (.ptr 0 0)))),(8,(.v (.one (.row 1)))),(23,(.v (.one (.row 2)))),(24,(.v (.one (.p (.int .i64 (I.len (α:=Go.Ab.Evt) L)))))),(25,(.v (.one (.p (.int .i64 (I.add (Nat.cast i) 1))))))],[(.abs (.fm F)),(.row .prt 39 (I.app (α:=Go.Ab.Prt) o ([(Go.Ab.Prt.mk (Go.Ab.Prt.name (Go.Ab.Evt.part y0)) (Go.Ab.Prt.file (Go.Ab.Evt.part y0)) (Go.Ab.Prt.type (Go.Ab.Evt.part y0)) (Go.Ab.Prt.bytes (Go.Ab.Evt.part y0)))]:List Go.Ab.Prt))),(.row .evt 63 L)],62,none⟩) .qed))) (.br (I.ieq (Go.Ab.Evt.kind y0) 2) (.need (I.inr Go.IntKind.i64 y6) (.need y2 (.need y2 (.need (I.same (α:=Int) (I.len (α:=UInt8) (Go.Ab.Prt.bytes y1)) 0) (.need (I.few y5 140737488355328) (.need (I.nne y5) (.need y2 (.need y3 (.need (A ⟨[(6,(.v (.one (.ptr 0 0)))),(8,(.v (.one (.row 1)))),(23,(.v (.one (.row 2)))),(24,(.v (.one (.p (.int .i64 (I.len (α:=Go.Ab.Evt) L)))))),(25,(.v (.one (.p (.int .i64 (I.add (Nat.cast i) 1))))))],[(.abs (.fm F)),(.row .prt 39 (I.set (α:=Go.Ab.Prt) o y6 (Go.Ab.Prt.mk (Go.Ab.Prt.name y1) (Go.Ab.Prt.file y1) (Go.Ab.Prt.type y1) (Go.Ab.Evt.bytes y0)))),(.row .evt 63 L)],62,none⟩) .qed))))))))) (.need y3 (.need (A ⟨[(6,(.v (.one (.ptr 0 0)))),(8,(.v (.one (.row 1)))),(23,(.v (.one (.row 2)))),(24,(.v (.one (.p (.int .i64 (I.len (α:=Go.Ab.Evt) L)))))),(25,(.v (.one (.p (.int .i64 (I.add (Nat.cast i) 1))))))],[(.abs (.fm F)),(.row .prt 39 o),(.row .evt 63 L)],62,none⟩) .qed)))))) (.need (I.hid (α:=(Prop)) True) (.br (I.bnot (I.ieq (I.hid (α:=Int) (xH F)) 0)) (.fin (.ret (.tup [(.one (.p (.list .prt ([]:List Go.Ab.Prt)))),(.one (.p (.int .i64 (I.hid (α:=Int) (xH F)))))])) []) (.fin (.ret (.tup [(.one (.p (.list .prt o))),(.one (.p (.int .i64 0)))])) [])))) (by kernel_rfl) ?_
  simp only [zq]
  subst hI
  simp only [nrmA,nrmB,nrlB,reduceCtorEq]
  have hlo:=zeF (L.take i) []
  rw [← h2,List.length_take,List.length_nil] at hlo
  have hb2:i<L.length→_→_:=fun h k=>zcH h hg k
  have hs2:i<L.length→_:=fun h=>U8 L ⟨0,⟨[],[],0,[],0⟩,[],⟨[],[],[],[]⟩,0⟩ h
  have hsum:i<L.length→(L.getD i ⟨0,⟨[],[],0,[],0⟩,[],⟨[],[],[],[]⟩,0⟩).bytes.length≤zK L:=fun h=>by
    refine X9 ?_
    rw [show L.getD i ⟨0,⟨[],[],0,[],0⟩,[],⟨[],[],[],[]⟩,0⟩=L[i] by simp [h]]
    exact List.getElem_mem h
  rw [← h2] at hb2 hs2
  have hgo:i<L.length→_:=fun h=>hA (i+1,prtS o (L.getD i ⟨0,⟨[],[],0,[],0⟩,[],⟨[],[],[],[]⟩,0⟩)) ⟨by simp only;omega,by simp only;rw [hs2 h]⟩ (by simp only;omega)
  have hend: ¬ i<L.length→L.foldl prtS []=o:=fun h=>by rw [h2,List.take_of_length_le (by omega)]
  clear hg hs2 hA
  generalize L.getD i ⟨0,⟨[],[],0,[],0⟩,[],⟨[],[],[],[]⟩,0⟩=x at *
  simp only [Int.natCast_add,Int.natCast_one] at hgo
  refine⟨fun c=> ?_,fun c=> ?_⟩
  · have hgo:=hgo (by omega)
    have hb2:=hb2 (by omega)
    have hsum:=hsum (by omega)
    by_cases k5:x.kind=5
    · rw [prtS,if_pos k5] at hgo
      (repeat' (first|refine And.intro ?_ ?_|intro _))<;>first|omega|exact True.intro|exact False.elim ‹False›|skip
      all_goals first
        |omega
        |(simp only [List.length_singleton];omega)
        |exact hgo
        |exact absurd k5 ‹_›
    · by_cases k2:x.kind=2
      · obtain⟨z,p,hz,hp,hxb⟩:=hb2 k2
        have hxb:0<x.bytes.length:=by cases hq:x.bytes with|nil=>exact absurd hq hxb|cons _ _=>simp
        subst hz
        rw [show prtS (z++[p]) x=z++[⟨p.name,p.file,p.type,x.bytes⟩] by unfold prtS;rw [if_neg k5,if_pos k2];simp [hp]] at hgo
        have e1:(((z++[p]).length:Int) - 1).toNat=z.length:=by rw [List.length_append,List.length_singleton];omega
        have e2:(z++[p]).getD z.length ⟨[],[],[],[]⟩=p:=by simp
        have e3: ∀ q,(z++[p]).set z.length q=z++[q]:=fun q=>by simp
        simp only [e1,e2,e3,hp]
        simp only [List.length_append,List.length_singleton,List.length_nil]
        clear e1 e2 e3
        rw [List.length_append,List.length_singleton] at hlo
        (repeat' (first|refine And.intro ?_ ?_|intro _))<;>first|omega|exact True.intro|exact False.elim ‹False›|skip
        all_goals first
          |omega
          |exact hgo
          |exact absurd k2 ‹_›
          |exact absurd ‹x.kind=5› k5
      · rw [prtS,if_neg k5,if_neg k2] at hgo
        (repeat' (first|refine And.intro ?_ ?_|intro _))<;>first|omega|exact True.intro|exact False.elim ‹False›|skip
        all_goals first
          |omega
          |exact hgo
          |exact absurd ‹x.kind=5› k5
          |exact absurd ‹x.kind=2› k2
  · have he:=hend (by omega)
    rw [he] at hr
    subst hr
    (repeat' (first|refine And.intro ?_ ?_|intro _))<;>first|omega|exact True.intro|exact False.elim ‹False›|skip
    all_goals first
      |omega
      |(rw [if_pos ‹¬ xH F=0›];done)
      |(rw [if_neg (fun h=>h ‹xH F=0›)];done)
end Go.Proofs.YtknaogelmckimaaDoor
namespace Go.Proofs.YtknaogelmckimaaDoor
open Go Go.Sep Go.Ab
set_option maxRecDepth 100000
theorem zgJ (s:Str) (hneed:s.length≤140737488355328∧vU s=false):Spc Tryd.prog 7 [.v (.one (.p (.str s)))] [] (.ret (.tup [(.one (.p (.val (.pointer none)))),(.one (.p (.int .i64 5)))])) []:=zgK s hneed
def Zk (I:Alg) (args:List D) (hp:List HO):Option CT:=match args,hp with
  |[.v (.one (.p (.str s)))],[]=>(fun(s:Str)=>(some (.one ⟨I.hid (s.length≤140737488355328∧vU s=false),(.ret (.tup [(.one (.p (.val (.pointer none)))),(.one (.p (.int .i64 5)))])),[]⟩):Option CT)) s
  |_,_=>none
theorem SN:zx Tryd.prog 7 (Zk alg):=by
  intro args hp r h
  unfold Zk at h
  split at h
  · cases h;exact fun hn=>zgJ _ hn
  · cases h
def zds:Know Tryd.prog:=⟨7,Zk,SN⟩
def zdr:Know Tryd.prog:=⟨7,fun I=>zA I (Zk I),zf SN⟩
theorem zeZ (b:Str) (hneed:False):Spc Tryd.prog 9 [.v (.one (.p (.val (.pointer none)))),.v (.one (.p (.list .byte b)))] [] (.ret (.v (.one (.row 0)))) [.row .evt 63 (([]:List Evt))]:=hneed.elim
def rH (I:Alg) (args:List D) (hp:List HO):Option CT:=match args,hp with
  |[.v (.one (.p (.val (.pointer none)))),.v (.one (.p (.list .byte b)))],[]=>(fun(b:Str)=>(some (.one ⟨I.hid (False),(.ret (.v (.one (.row 0)))),[.row .evt 63 (I.hid (([]:List Evt)))]⟩):Option CT)) b
  |_,_=>none
theorem Vq:zx Tryd.prog 9 (rH alg):=by
  intro args hp r h
  unfold rH at h
  split at h
  · cases h;exact fun hn=>zeZ _ hn
  · cases h
def zb9:Know Tryd.prog:=⟨9,rH,Vq⟩
def zb8:Know Tryd.prog:=⟨9,fun I=>zA I (rH I),zf Vq⟩
theorem zgS (s b:Str) (hneed:(s.length≤1000000∧b.length≤300000)∧vU s=false):Spc Tryd.prog 20 [.v (.one (.p (.str s))),.v (.one (.p (.list .byte b)))] [] (.ret (.tup [(.one (.p (.list .prt ((rY s b).1)))),(.one (.p (.int .i64 ((rY s b).2))))])) []:=by
  obtain⟨⟨hs,hb⟩,hm⟩:=hneed
  generalize hr:rY s b=r
  unfold rY at hr
  rw [if_pos hm] at hr
  subst hr
  refine spcG zk mixed Tryd.func20 (by kernel_rfl) { cfgF with rl:=[0],nr:=[8],keep:=some [0,1,4,5,6,7,8,10,11,12,23,24,25,30]} [XZ,XY,zb9,zb8,ZW,ZV,zds,zdr] (by kernel_rfl) ?_
  intro I X hI hX
  refine zh (let y0:=I.hid (α:=(List Go.Ab.Evt)) ([]:List Go.Ab.Evt);.need (I.hid (α:=(Prop)) (And (LE.le (List.length s) 140737488355328) (Eq (vU s) Bool.false))) (.br (I.bnot (I.ieq 5 0)) (.fin (.ret (.tup [(.one (.p (.list .prt ([]:List Go.Ab.Prt)))),(.one (.p (.int .i64 5)))])) []) (.need (I.hid (α:=(Prop)) False) (.code 0 [1,1,1,1,0,1,0] ⟨[(25,(.v (.one (.p (.int .i64 0))))),(24,(.v (.one (.p (.int .i64 (I.len (α:=Go.Ab.Evt) y0)))))),(23,(.v (.one (.row 1)))),(8,(.v (.one (.row 0)))),(7,(.v (.one (.p (.int .i64 5))))),(6,(.v (.one (.p (.val (.pointer .none)))))),(5,(.v (.one (.p (.int .i64 0))))),(4,(.v (.one .nilS))),(0,(.v (.one (.p (.str s))))),(1,(.v (.one (.p (.list .byte b)))))],[(.row .prt 39 ([]:List Go.Ab.Prt)),(.row .evt 63 y0)],62,none⟩)))) (by kernel_rfl) ?_
  simp only [zq]
  subst hI
  simp only [nrmA,nrmB,nrlB,reduceCtorEq]
  exact⟨⟨by omega,hm⟩,fun _=>trivial,by decide⟩
theorem zh5 (s b:Str) (hneed:s.length≤1000000∧b.length≤300000):Spc Tryd.prog 20 [.v (.one (.p (.str s))),.v (.one (.p (.list .byte b)))] [] (.ret (.tup [(.one (.p (.list .prt ((rY s b).1)))),(.one (.p (.int .i64 ((rY s b).2))))])) []:=by
  cases hm:vU s with
  |true=>exact zgT s b ⟨hneed,hm⟩
  |false=>exact zgS s b ⟨hneed,hm⟩
def Y9 (I:Alg) (args:List D) (hp:List HO):Option CT:=match args,hp with
  |[.v (.one (.p (.str s))),.v (.one (.p (.list .byte b)))],[]=>(fun(s b:Str)=>(some (.one ⟨I.hid (s.length≤1000000∧b.length≤300000),(.ret (.tup [(.one (.p (.list .prt (I.hid ((rY s b).1))))),(.one (.p (.int .i64 (I.hid ((rY s b).2)))))])),[]⟩):Option CT)) s b
  |_,_=>none
theorem zbi:zx Tryd.prog 20 (Y9 alg):=by
  intro args hp r h
  unfold Y9 at h
  split at h
  · cases h;exact fun hn=>zh5 _ _ hn
  · cases h
def ze9:Know Tryd.prog:=⟨20,Y9,zbi⟩
def ze8:Know Tryd.prog:=⟨20,fun I=>zA I (Y9 I),zf zbi⟩
def begB:Str:=[45,45,88,13,10,67,111,110,116,101,110,116,45,68,105,115,112,111,115,105,116,105,111,110,58,32,102,111,114,109,45,100,97,116,97,59,32,110,97,109,101,61,97,13,10,13,10,98,13,10,45,45,88,45,45]
theorem zd3:rY [88] begB=([⟨[97],[],[],[98]⟩],0):=by decide+kernel
theorem zb5:Spc Tryd.prog 6 [] [] (.ret (.v (.one (.p (.bool true))))) []:=by
  refine spcG zk mixed Tryd.func6 (by kernel_rfl) { fz:=[20],keep:=some [0,1,2]} [Uk,Uj,Ur,Uo,ze9,ze8] (by kernel_rfl) ?_
  intro I X hI hX
  refine zh (let y0:=I.hid (α:=(List Go.Ab.Prt)) (Prod.fst (rY ([88]:Str) ([(I.i2b 45),(I.i2b 45),(I.i2b 88),(I.i2b 13),(I.i2b 10),(I.i2b 67),(I.i2b 111),(I.i2b 110),(I.i2b 116),(I.i2b 101),(I.i2b 110),(I.i2b 116),(I.i2b 45),(I.i2b 68),(I.i2b 105),(I.i2b 115),(I.i2b 112),(I.i2b 111),(I.i2b 115),(I.i2b 105),(I.i2b 116),(I.i2b 105),(I.i2b 111),(I.i2b 110),(I.i2b 58),(I.i2b 32),(I.i2b 102),(I.i2b 111),(I.i2b 114),(I.i2b 109),(I.i2b 45),(I.i2b 100),(I.i2b 97),(I.i2b 116),(I.i2b 97),(I.i2b 59),(I.i2b 32),(I.i2b 110),(I.i2b 97),(I.i2b 109),(I.i2b 101),(I.i2b 61),(I.i2b 97),(I.i2b 13),(I.i2b 10),(I.i2b 13),(I.i2b 10),(I.i2b 98),(I.i2b 13),(I.i2b 10),(I.i2b 45),(I.i2b 45),(I.i2b 88),(I.i2b 45),(I.i2b 45)]:Str)));let y1:=I.inb 0 (I.len (α:=Go.Ab.Prt) y0);let y2:=I.get (α:=Go.Ab.Prt) y0 (Go.Ab.Prt.mk ([]:Str) ([]:Str) ([]:Str) ([]:Str)) 0;let y3:=([47,46,46,47,46,97,34]:Str);.need (I.inr Go.IntKind.u8 45) (.need (I.inr Go.IntKind.u8 45) (.need (I.inr Go.IntKind.u8 88) (.need (I.inr Go.IntKind.u8 13) (.need (I.inr Go.IntKind.u8 10) (.need (I.inr Go.IntKind.u8 67) (.need (I.inr Go.IntKind.u8 111) (.need (I.inr Go.IntKind.u8 110) (.need (I.inr Go.IntKind.u8 116) (.need (I.inr Go.IntKind.u8 101) (.need (I.inr Go.IntKind.u8 110) (.need (I.inr Go.IntKind.u8 116) (.need (I.inr Go.IntKind.u8 45) (.need (I.inr Go.IntKind.u8 68) (.need (I.inr Go.IntKind.u8 105) (.need (I.inr Go.IntKind.u8 115) (.need (I.inr Go.IntKind.u8 112) (.need (I.inr Go.IntKind.u8 111) (.need (I.inr Go.IntKind.u8 115) (.need (I.inr Go.IntKind.u8 105) (.need (I.inr Go.IntKind.u8 116) (.need (I.inr Go.IntKind.u8 105) (.need (I.inr Go.IntKind.u8 111) (.need (I.inr Go.IntKind.u8 110) (.need (I.inr Go.IntKind.u8 58) (.need (I.inr Go.IntKind.u8 32) (.need (I.inr Go.IntKind.u8 102) (.need (I.inr Go.IntKind.u8 111) (.need (I.inr Go.IntKind.u8 114) (.need (I.inr Go.IntKind.u8 109) (.need (I.inr Go.IntKind.u8 45) (.need (I.inr Go.IntKind.u8 100) (.need (I.inr Go.IntKind.u8 97) (.need (I.inr Go.IntKind.u8 116) (.need (I.inr Go.IntKind.u8 97) (.need (I.inr Go.IntKind.u8 59) (.need (I.inr Go.IntKind.u8 32) (.need (I.inr Go.IntKind.u8 110) (.need (I.inr Go.IntKind.u8 97) (.need (I.inr Go.IntKind.u8 109) (.need (I.inr Go.IntKind.u8 101) (.need (I.inr Go.IntKind.u8 61) (.need (I.inr Go.IntKind.u8 97) (.need (I.inr Go.IntKind.u8 13) (.need (I.inr Go.IntKind.u8 10) (.need (I.inr Go.IntKind.u8 13) (.need (I.inr Go.IntKind.u8 10) (.need (I.inr Go.IntKind.u8 98) (.need (I.inr Go.IntKind.u8 13) (.need (I.inr Go.IntKind.u8 10) (.need (I.inr Go.IntKind.u8 45) (.need (I.inr Go.IntKind.u8 45) (.need (I.inr Go.IntKind.u8 88) (.need (I.inr Go.IntKind.u8 45) (.need (I.inr Go.IntKind.u8 45) (.need (I.inb 0 (I.len (α:=UInt8) ([(I.i2b 45),(I.i2b 45),(I.i2b 88),(I.i2b 13),(I.i2b 10),(I.i2b 67),(I.i2b 111),(I.i2b 110),(I.i2b 116),(I.i2b 101),(I.i2b 110),(I.i2b 116),(I.i2b 45),(I.i2b 68),(I.i2b 105),(I.i2b 115),(I.i2b 112),(I.i2b 111),(I.i2b 115),(I.i2b 105),(I.i2b 116),(I.i2b 105),(I.i2b 111),(I.i2b 110),(I.i2b 58),(I.i2b 32),(I.i2b 102),(I.i2b 111),(I.i2b 114),(I.i2b 109),(I.i2b 45),(I.i2b 100),(I.i2b 97),(I.i2b 116),(I.i2b 97),(I.i2b 59),(I.i2b 32),(I.i2b 110),(I.i2b 97),(I.i2b 109),(I.i2b 101),(I.i2b 61),(I.i2b 97),(I.i2b 13),(I.i2b 10),(I.i2b 13),(I.i2b 10),(I.i2b 98),(I.i2b 13),(I.i2b 10),(I.i2b 45),(I.i2b 45),(I.i2b 88),(I.i2b 45),(I.i2b 45)]:Str))) (.need (I.hid (α:=(Prop)) (And (LE.le (List.length ([88]:Str)) 1000000) (LE.le (List.length ([(I.i2b 45),(I.i2b 45),(I.i2b 88),(I.i2b 13),(I.i2b 10),(I.i2b 67),(I.i2b 111),(I.i2b 110),(I.i2b 116),(I.i2b 101),(I.i2b 110),(I.i2b 116),(I.i2b 45),(I.i2b 68),(I.i2b 105),(I.i2b 115),(I.i2b 112),(I.i2b 111),(I.i2b 115),(I.i2b 105),(I.i2b 116),(I.i2b 105),(I.i2b 111),(I.i2b 110),(I.i2b 58),(I.i2b 32),(I.i2b 102),(I.i2b 111),(I.i2b 114),(I.i2b 109),(I.i2b 45),(I.i2b 100),(I.i2b 97),(I.i2b 116),(I.i2b 97),(I.i2b 59),(I.i2b 32),(I.i2b 110),(I.i2b 97),(I.i2b 109),(I.i2b 101),(I.i2b 61),(I.i2b 97),(I.i2b 13),(I.i2b 10),(I.i2b 13),(I.i2b 10),(I.i2b 98),(I.i2b 13),(I.i2b 10),(I.i2b 45),(I.i2b 45),(I.i2b 88),(I.i2b 45),(I.i2b 45)]:Str)) 300000))) (.br (I.ieq (I.hid (α:=Int) (Prod.snd (rY ([88]:Str) ([(I.i2b 45),(I.i2b 45),(I.i2b 88),(I.i2b 13),(I.i2b 10),(I.i2b 67),(I.i2b 111),(I.i2b 110),(I.i2b 116),(I.i2b 101),(I.i2b 110),(I.i2b 116),(I.i2b 45),(I.i2b 68),(I.i2b 105),(I.i2b 115),(I.i2b 112),(I.i2b 111),(I.i2b 115),(I.i2b 105),(I.i2b 116),(I.i2b 105),(I.i2b 111),(I.i2b 110),(I.i2b 58),(I.i2b 32),(I.i2b 102),(I.i2b 111),(I.i2b 114),(I.i2b 109),(I.i2b 45),(I.i2b 100),(I.i2b 97),(I.i2b 116),(I.i2b 97),(I.i2b 59),(I.i2b 32),(I.i2b 110),(I.i2b 97),(I.i2b 109),(I.i2b 101),(I.i2b 61),(I.i2b 97),(I.i2b 13),(I.i2b 10),(I.i2b 13),(I.i2b 10),(I.i2b 98),(I.i2b 13),(I.i2b 10),(I.i2b 45),(I.i2b 45),(I.i2b 88),(I.i2b 45),(I.i2b 45)]:Str)))) 0) (.br (I.ieq (I.len (α:=Go.Ab.Prt) y0) 1) (.need y1 (.need y1 (.br (I.seq (Go.Ab.Prt.name y2) ([97]:Str)) (.need y1 (.need y1 (.br (I.seq (Go.Ab.Prt.bytes y2) ([98]:Str)) (.need (I.hid (α:=(Prop)) (LE.le (List.length y3) 1000000)) (.br (I.seq (I.hid (α:=Str) (xZ y3)) ([97,95]:Str)) (.need (I.hid (α:=(Prop)) (LE.le (List.length ([88]:Str)) 140737488355328)) (.fin (.ret (.v (.one (.p (.bool (I.hid (α:=Bool) (vU ([88]:Str)))))))) [])) (.fin (.ret (.v (.one (.p (.bool Bool.false))))) []))) (.fin (.ret (.v (.one (.p (.bool Bool.false))))) [])))) (.fin (.ret (.v (.one (.p (.bool Bool.false))))) [])))) (.fin (.ret (.v (.one (.p (.bool Bool.false))))) [])) (.fin (.ret (.v (.one (.p (.bool Bool.false))))) []))))))))))))))))))))))))))))))))))))))))))))))))))))))))))) (by kernel_rfl) ?_
  simp only [zq]
  subst hI
  simp only [nrmA,nrmB,nrlB,reduceCtorEq]
  generalize hR:rY [88] _=R
  have hR:=hR.symm.trans zd3
  subst hR
  have hs:xZ [47,46,46,47,46,97,34]=[97,95]:=by decide+kernel
  have hm:vU [88]=true:=by decide+kernel
  simp only [hs,hm]
  (repeat' (first|refine And.intro ?_ ?_|intro _))<;>first|omega|exact True.intro|exact False.elim ‹False›|skip
  all_goals first
    |omega
    |decide+kernel
    |(simp;done)
def vM (I:Alg) (args:List D) (hp:List HO):Option CT:=match args,hp with
  |[],[]=>(fun(_:Unit)=>(some (.one ⟨I.hid (True),(.ret (.v (.one (.p (.bool true))))),[]⟩):Option CT)) ()
  |_,_=>none
theorem Yt:zx Tryd.prog 6 (vM alg):=by
  intro args hp r h
  unfold vM at h
  split at h
  · cases h;exact fun hn=>zb5
  · cases h
def SB:Know Tryd.prog:=⟨6,vM,Yt⟩
def SA:Know Tryd.prog:=⟨6,fun I=>zA I (vM I),zf Yt⟩
end Go.Proofs.YtknaogelmckimaaDoor
namespace Go.Proofs.YtknaogelmckimaaDoor
open Go Go.Sep Go.Ab
set_option maxRecDepth 100000
def okc (c:UInt8):Prop:=c≠47∧c≠92∧c≠9∧c≠34∧c≠58∧wQ (c.toNat:Int)=true
theorem zdf {l:List Fld} (h:Yq l=false):l.length≤100∧∀ f ∈ l,f.name.length≤1000000∧f.value.length≤1000000:=by
  unfold Yq at h
  simp only [Bool.or_eq_false_iff,decide_eq_false_iff_not,List.any_eq_false,decide_eq_true_eq] at h
  refine⟨by omega,fun f hf=> ?_⟩
  have:=h.2 f hf
  omega
end Go.Proofs.YtknaogelmckimaaDoor
namespace Go.Proofs.YtknaogelmckimaaDoor
open Go Go.Sep Go.Ab
set_option maxRecDepth 100000
def noSt (s:Str):Prop:=∀ c ∈ s,c≠47∧c≠92
def fS (c:UInt8):UInt8:=if c=9∨wQ (c.toNat:Int)=false∨c=34∨c=58 then 95 else c
theorem VO: ∀ (t b:Str),noSt t→(b≠[]∨t.head?≠some 46)→t.foldl xq b=b++t.map fS
  |[],b,_,_=>by simp
  | c ::r,b,h,k=>by
    obtain⟨h1,h2⟩:=h c (List.mem_cons_self ..)
    have e:xq b c=b++[fS c]:=by
      unfold xq fS
      rw [if_neg (by rintro(e|e);exact h1 e;exact h2 e)]
      split
      · rfl
      · rw [if_neg]
        rintro⟨e,q⟩
        rcases k with k|k
        · exact k q
        · exact k (by rw [e];rfl)
    rw [List.foldl_cons,e,VO r (b++[fS c]) (fun x hx=>h x (List.mem_cons_of_mem _ hx)) (.inl (by simp))]
    simp
theorem zev {t:Str} (h:t.head?=some 46):t.foldl xq []=(t.drop 1).foldl xq []:=by
  cases t with
  |nil=>cases h
  | cons c r=>
    have:c=46:=Option.some.inj h
    subst this
    rfl
theorem zh4 (c:UInt8):[fS c]=if(c.toNat:Int)=9 then [95] else if wQ (c.toNat:Int)=false then [95] else if(c.toNat:Int)=34 then [95] else if(c.toNat:Int)=58 then [95] else [c]:=by
  have e3:(c.toNat:Int)=9↔c=9:=Yz c 9 (by decide)
  have e4:(c.toNat:Int)=34↔c=34:=Yz c 34 (by decide)
  have e5:(c.toNat:Int)=58↔c=58:=Yz c 58 (by decide)
  simp only [e3,e4,e5]
  unfold fS
  generalize wQ (c.toNat:Int)=k
  repeat' split
  all_goals simp_all
theorem zfU {s:Str} {i f:Nat} (h:i<s.length) (hf:f≤i) (hn:noSt ((s.take i).drop f)) (he:(s.take i).foldl xq []=((s.take i).drop f).foldl xq []):
    ((s.getD i 0=47∨s.getD i 0=92)→noSt ((s.take (i+1)).drop (i+1))∧(s.take (i+1)).foldl xq []=((s.take (i+1)).drop (i+1)).foldl xq [])∧
    (¬ (s.getD i 0=47∨s.getD i 0=92)→noSt ((s.take (i+1)).drop f)∧(s.take (i+1)).foldl xq []=((s.take (i+1)).drop f).foldl xq []):=by
  have hs:=U3 s i h
  have ht:s.take (i+1)=s.take i++[s.getD i 0]:=by rw [List.take_succ_eq_append_getElem h];simp [h]
  have hl:(s.take i).length=i:=by rw [List.length_take];omega
  refine⟨fun k=> ?_,fun k=> ?_⟩
  · have hd:(s.take (i+1)).drop (i+1)=[]:=List.drop_of_length_le (by rw [List.length_take];omega)
    rw [hd]
    refine⟨fun c hc=>absurd hc List.not_mem_nil,?_⟩
    rw [hs]
    unfold xq
    rw [if_pos k];rfl
  · have hd:(s.take (i+1)).drop f=(s.take i).drop f++[s.getD i 0]:=by rw [ht,List.drop_append_of_le_length (by omega)]
    rw [hd]
    refine⟨fun c hc=> ?_,?_⟩
    · rcases List.mem_append.1 hc with h5|h5
      · exact hn c h5
      · rw [List.mem_singleton.1 h5];exact⟨fun e=>k (.inl e),fun e=>k (.inr e)⟩
    · rw [hs,he,List.foldl_append];rfl
theorem zhk (s:Str) (hneed:s.length≤1000000):Spc Tryd.prog 18 [.v (.one (.p (.str s)))] [] (.ret (.v (.one (.p (.str ((xZ s))))))) []:=by
  generalize hr:xZ s=r
  unfold xZ at hr
  refine spcG zk mixed Tryd.func18 (by kernel_rfl) { keep:=some [0,2,3,4,5,6]} [wX,wW] (by kernel_rfl) ?_
  intro I X hI hX
  refine zh (.code 0 [1,1,0,1,0] ⟨[(4,(.v (.one (.p (.int .i64 0))))),(3,(.v (.one (.p (.int .i64 0))))),(2,(.v (.one (.p (.str ([]:Str)))))),(0,(.v (.one (.p (.str s)))))],[],83,none⟩) (by kernel_rfl) ?_
  simp only [zq]
  refine zu hI zk mixed [wX,wW] hX [0,3,4] (fun(g:Nat × Nat)=>match g with|(i,f)=>i≤s.length∧f≤i∧noSt ((s.take i).drop f)∧(s.take i).foldl xq []=((s.take i).drop f).foldl xq []) (fun(g:Nat × Nat)=>match g with|(i,f)=>⟨[(0,.v (.one (.p (.str s)))),(3,.v (.one (.p (.int .i64 f)))),(4,.v (.one (.p (.int .i64 i))))],[],83,none⟩) (fun(g:Nat × Nat)=>match g with|(i,f)=>s.length - i) (0,0) (by kernel_rfl) (by kernel_rfl) ?_ ?_
  · exact⟨Nat.zero_le _,Nat.le_refl _,fun c hc=>absurd hc (by simp),rfl⟩
  rintro⟨i,f⟩ ⟨h1,h2,h3,h4⟩ A hA
  simp only at hA h1 h2 h3 h4
  refine zh (let y0:=I.inr Go.IntKind.i64 (I.add (Nat.cast i) 1);let y1:=I.b2i (I.get (α:=UInt8) s 0 (Nat.cast i));let y2:=I.inb (Nat.cast i) (I.len (α:=UInt8) s);.br (I.ilt (Nat.cast i) (I.len (α:=UInt8) s)) (.need y2 (.br (I.ieq y1 47) (.need y0 (.need y0 (.need (A ⟨[(0,(.v (.one (.p (.str s))))),(3,(.v (.one (.p (.int .i64 (I.add (Nat.cast i) 1)))))),(4,(.v (.one (.p (.int .i64 (I.add (Nat.cast i) 1))))))],[],83,none⟩) .qed))) (.need y2 (.br (I.ieq y1 92) (.need y0 (.need y0 (.need (A ⟨[(0,(.v (.one (.p (.str s))))),(3,(.v (.one (.p (.int .i64 (I.add (Nat.cast i) 1)))))),(4,(.v (.one (.p (.int .i64 (I.add (Nat.cast i) 1))))))],[],83,none⟩) .qed))) (.need y0 (.need (A ⟨[(0,(.v (.one (.p (.str s))))),(3,(.v (.one (.p (.int .i64 (Nat.cast f)))))),(4,(.v (.one (.p (.int .i64 (I.add (Nat.cast i) 1))))))],[],83,none⟩) .qed)))))) (.need (I.cutb (Int.ofNat f) (I.len (α:=UInt8) s) (I.len (α:=UInt8) s)) (.code 1 [1,1,1,1,0,0] ⟨[(0,(.v (.one (.p (.str (I.cut (α:=UInt8) s (Int.ofNat f) (I.len (α:=UInt8) s))))))),(3,(.v (.one (.p (.int .i64 (Nat.cast f)))))),(4,(.v (.one (.p (.int .i64 (Nat.cast i))))))],[],83,none⟩))) (by kernel_rfl) ?_
  simp only [zq]
  refine⟨fun c=> ?_,fun c=> ?_⟩
  · have hi:i<s.length:=by subst hI;(simp only [nrmA,nrmB,nrlB,reduceCtorEq] at *);omega
    obtain⟨g1,g2⟩:=zfU hi h2 h3 h4
    have a1:=fun h=>hA (i+1,i+1) ⟨by simp only;omega,Nat.le_refl _,(g1 h).1,(g1 h).2⟩ (by simp only;omega)
    have a2:=fun h=>hA (i+1,f) ⟨by simp only;omega,by simp only;omega,(g2 h).1,(g2 h).2⟩ (by simp only;omega)
    subst hI
    simp only [nrmA,nrmB,nrlB,reduceCtorEq]
    simp only [Int.natCast_add,Int.natCast_one] at a1 a2
    have e1:((s.getD i 0).toNat:Int)=47↔s.getD i 0=47:=Yz _ 47 (by decide)
    have e2:((s.getD i 0).toNat:Int)=92↔s.getD i 0=92:=Yz _ 92 (by decide)
    generalize s.getD i 0=x at *
    (repeat' (first|refine And.intro ?_ ?_|intro _))<;>first|omega|exact True.intro|exact False.elim ‹False›|skip
    all_goals first
      |omega
      |exact a1 (.inl (e1.1 ‹_›))
      |exact a1 (.inr (e2.1 ‹_›))
      |exact a2 (fun h=>h.elim (fun h=>‹¬ (x.toNat:Int)=47› (e1.2 h)) (fun h=>‹¬ (x.toNat:Int)=92› (e2.2 h)))
  · have hi:i=s.length:=by subst hI;(simp only [nrmA,nrmB,nrlB,reduceCtorEq] at *);omega
    subst hi
    rw [List.take_length] at h3 h4
    refine⟨by subst hI;(simp only [nrmA,nrmB,nrlB,reduceCtorEq]);omega,?_⟩
    rw [show I.cut s (Int.ofNat f) (I.len s)=s.drop f by subst hI;rw [xN,zL,Int.toNat_natCast];exact List.take_of_length_le (by simp)]
    have ht:(s.drop f).length≤1000000:=by rw [List.length_drop];omega
    generalize s.foldl xq []=G at *
    generalize s.drop f=t at *
    clear hA
    refine zu hI zk mixed [wX,wW] hX [0] (fun(u:Str)=>noSt u∧u.foldl xq []=G∧u.length≤1000000) (fun(u:Str)=>⟨[(0,.v (.one (.p (.str u))))],[],83,none⟩) (fun(u:Str)=>u.length) t (by kernel_rfl) (by kernel_rfl) ?_ ?_
    · exact⟨h3,h4.symm,ht⟩
    rintro u ⟨g1,g2,g3⟩ A hA
    refine zh (.br (I.ilt 0 (I.len (α:=UInt8) u)) (.need (I.inb 0 (I.len (α:=UInt8) u)) (.br (I.ieq (I.b2i (I.get (α:=UInt8) u 0 0)) 46) (.need (I.cutb 1 (I.len (α:=UInt8) u) (I.len (α:=UInt8) u)) (.need (A ⟨[(0,(.v (.one (.p (.str (I.cut (α:=UInt8) u 1 (I.len (α:=UInt8) u)))))))],[],83,none⟩) .qed)) (.code 2 [1,1,1,1,1,1,0,1,0] ⟨[(6,(.v (.one (.p (.int .i64 0))))),(5,(.v (.one (.p (.str ([]:Str)))))),(0,(.v (.one (.p (.str u)))))],[],83,none⟩))) (.code 2 [1,1,1,1,1,1,0,1,0] ⟨[(6,(.v (.one (.p (.int .i64 0))))),(5,(.v (.one (.p (.str ([]:Str)))))),(0,(.v (.one (.p (.str u)))))],[],83,none⟩)) (by kernel_rfl) ?_
    simp only [zq]
    have hgo:u.head?=some 46→_:=fun h=>hA (u.drop 1) ⟨fun c hc=>g1 c (List.mem_of_mem_drop hc),by rw [← zev h];exact g2,by rw [List.length_drop];omega⟩ (by cases u with|nil=>cases h|cons a b=>simp)
    have hhd:0<u.length→((u.getD 0 0).toNat:Int)=46→u.head?=some 46:=fun h e=>by
      have e2:=(Yz (u.getD 0 0) 46 (by decide)).1 e
      cases u with
      |nil=>cases h
      |cons a r=>exact congrArg some e2
    (repeat' (first|refine And.intro ?_ ?_|intro _))
    all_goals try(subst hI;(simp only [nrmA,nrmB,nrlB,reduceCtorEq] at *);first
      |done
      |with_reducible exact True.intro
      |omega
      |(rw [drop1];with_reducible exact hgo (hhd (by omega) ‹_›)))
    · have hu:u=[]∨u.head?≠some 46:=by
        subst hI
        simp only [nrmA,nrmB,nrlB,reduceCtorEq] at *
        right
        intro e
        refine absurd ?_ ‹¬ ((u.getD 0 0).toNat:Int)=46›
        cases u with
        |nil=>cases e
        |cons a b=>rw [show a=46 from Option.some.inj e];rfl
      have hG:G=u.map fS:=by
        rw [← g2,VO u [] g1 (hu.elim (fun h=>.inr (by rw [h];simp)) .inr)]
        simp
      clear hA g2 hu
      refine zu hI zk mixed [wX,wW] hX [0,5,6] (fun(g:Nat × Str)=>match g with|(i,o)=>i≤u.length∧i≤40∧o=(u.take i).map fS) (fun(g:Nat × Str)=>match g with|(i,o)=>⟨[(0,.v (.one (.p (.str u)))),(5,.v (.one (.p (.str o)))),(6,.v (.one (.p (.int .i64 i))))],[],83,none⟩) (fun(g:Nat × Str)=>match g with|(i,o)=>u.length - i) (0,[]) (by kernel_rfl) (by kernel_rfl) ?_ ?_
      · exact⟨Nat.zero_le _,by omega,rfl⟩
      rintro⟨i,o⟩ ⟨h1,h2,h3⟩ A hA
      simp only at hA h1 h2 h3
      refine zh (let y0:=I.few (I.add (I.len (α:=UInt8) o) (I.len (α:=UInt8) ([95]:Str))) 1000000000;let y1:=I.inr Go.IntKind.i64 (I.add (Nat.cast i) 1);let y2:=I.b2i (I.get (α:=UInt8) u 0 (Nat.cast i));let y3:=I.inb (Nat.cast i) (I.len (α:=UInt8) u);let y4:=I.cut (α:=UInt8) u (Int.ofNat i) (I.add (Nat.cast i) 1);.br (I.ilt (Nat.cast i) (I.len (α:=UInt8) u)) (.br (I.ilt (Nat.cast i) 40) (.need y3 (.br (I.ieq y2 9) (.need y0 (.need y1 (.need (A ⟨[(0,(.v (.one (.p (.str u))))),(5,(.v (.one (.p (.str (I.app (α:=UInt8) o ([95]:Str))))))),(6,(.v (.one (.p (.int .i64 (I.add (Nat.cast i) 1))))))],[],83,none⟩) .qed))) (.need y3 (.need (I.hid (α:=(Prop)) True) (.br (I.bnot (I.hid (α:=Bool) (wQ y2))) (.need y0 (.need y1 (.need (A ⟨[(0,(.v (.one (.p (.str u))))),(5,(.v (.one (.p (.str (I.app (α:=UInt8) o ([95]:Str))))))),(6,(.v (.one (.p (.int .i64 (I.add (Nat.cast i) 1))))))],[],83,none⟩) .qed))) (.need y3 (.br (I.ieq y2 34) (.need y0 (.need y1 (.need (A ⟨[(0,(.v (.one (.p (.str u))))),(5,(.v (.one (.p (.str (I.app (α:=UInt8) o ([95]:Str))))))),(6,(.v (.one (.p (.int .i64 (I.add (Nat.cast i) 1))))))],[],83,none⟩) .qed))) (.need y3 (.br (I.ieq y2 58) (.need y0 (.need y1 (.need (A ⟨[(0,(.v (.one (.p (.str u))))),(5,(.v (.one (.p (.str (I.app (α:=UInt8) o ([95]:Str))))))),(6,(.v (.one (.p (.int .i64 (I.add (Nat.cast i) 1))))))],[],83,none⟩) .qed))) (.need y1 (.need (I.cutb (Int.ofNat i) (I.add (Nat.cast i) 1) (I.len (α:=UInt8) u)) (.need (I.few (I.add (I.len (α:=UInt8) o) (I.len (α:=UInt8) y4)) 1000000000) (.need y1 (.need (A ⟨[(0,(.v (.one (.p (.str u))))),(5,(.v (.one (.p (.str (I.app (α:=UInt8) o y4)))))),(6,(.v (.one (.p (.int .i64 (I.add (Nat.cast i) 1))))))],[],83,none⟩) .qed)))))))))))))) (.br (I.seq o ([]:Str)) (.fin (.ret (.v (.one (.p (.str ([102,105,108,101]:Str)))))) []) (.fin (.ret (.v (.one (.p (.str o))))) []))) (.br (I.seq o ([]:Str)) (.fin (.ret (.v (.one (.p (.str ([102,105,108,101]:Str)))))) []) (.fin (.ret (.v (.one (.p (.str o))))) []))) (by kernel_rfl) ?_
      simp only [zq]
      subst hI
      simp only [nrmA,nrmB,nrlB,reduceCtorEq]
      have hs:i<u.length→(u.take (i+1)).map fS=o++[fS (u.getD i 0)]:=fun h=>by
        rw [List.take_succ_eq_append_getElem h,List.map_append,h3];simp [h]
      have hgo:i<u.length→i<40→_:=fun h k=>hA (i+1,o++[fS (u.getD i 0)]) ⟨by simp only;omega,by simp only;omega,(hs h).symm⟩ (by simp only;omega)
      have hcut:i<u.length→List.take (((i:Int)+1).toNat - i) (u.drop i)=[u.getD i 0]:=fun h=>by
        rw [show((i:Int)+1).toNat - i=1 by omega,List.drop_eq_getElem_cons h,show u.getD i 0=u[i] by simp [h]];rfl
      have hol:o.length≤i:=by rw [h3,List.length_map,List.length_take];omega
      have hend: ¬ (i<u.length∧i<40)→G.take 40=o:=fun h=>by
        rw [hG,h3,← List.map_take]
        by_cases k:i=40
        · rw [k]
        · rw [List.take_of_length_le (show u.length≤40 by omega),List.take_of_length_le (show u.length≤i by omega)]
      have l0:=(u.getD i 0).toNat_lt
      rw [zh4] at hgo
      simp only [Int.natCast_add,Int.natCast_one] at hgo
      generalize u.getD i 0=x at *
      (repeat' (first|refine And.intro ?_ ?_|intro _))<;>first|omega|exact True.intro|exact False.elim ‹False›|skip
      all_goals first
        |omega
        |(simp only [List.length_cons,List.length_nil];omega)
        |(rw [hcut (by omega)];simp only [List.length_cons,List.length_nil];omega)
        |(have h:=hgo (by omega) (by omega);(try rw [hcut (by omega)]);(repeat(first|rw [if_pos (by first|omega|assumption)] at h|rw [if_neg (by first|omega|assumption|simpa using ‹_=true›)] at h));with_reducible exact h)
        |(have h:=hend (by omega);rw [h] at hr;subst hr;first|rw [if_pos ‹o=[]›]|rw [if_neg ‹¬ o=[]›])
    · have hu:u=[]∨u.head?≠some 46:=by
        subst hI
        simp only [nrmA,nrmB,nrlB,reduceCtorEq] at *
        exact .inl (List.eq_nil_of_length_eq_zero (by omega))
      have hG:G=u.map fS:=by
        rw [← g2,VO u [] g1 (hu.elim (fun h=>.inr (by rw [h];simp)) .inr)]
        simp
      clear hA g2 hu
      refine zu hI zk mixed [wX,wW] hX [0,5,6] (fun(g:Nat × Str)=>match g with|(i,o)=>i≤u.length∧i≤40∧o=(u.take i).map fS) (fun(g:Nat × Str)=>match g with|(i,o)=>⟨[(0,.v (.one (.p (.str u)))),(5,.v (.one (.p (.str o)))),(6,.v (.one (.p (.int .i64 i))))],[],83,none⟩) (fun(g:Nat × Str)=>match g with|(i,o)=>u.length - i) (0,[]) (by kernel_rfl) (by kernel_rfl) ?_ ?_
      · exact⟨Nat.zero_le _,by omega,rfl⟩
      rintro⟨i,o⟩ ⟨h1,h2,h3⟩ A hA
      simp only at hA h1 h2 h3
      refine zh (let y0:=I.few (I.add (I.len (α:=UInt8) o) (I.len (α:=UInt8) ([95]:Str))) 1000000000;let y1:=I.inr Go.IntKind.i64 (I.add (Nat.cast i) 1);let y2:=I.b2i (I.get (α:=UInt8) u 0 (Nat.cast i));let y3:=I.inb (Nat.cast i) (I.len (α:=UInt8) u);let y4:=I.cut (α:=UInt8) u (Int.ofNat i) (I.add (Nat.cast i) 1);.br (I.ilt (Nat.cast i) (I.len (α:=UInt8) u)) (.br (I.ilt (Nat.cast i) 40) (.need y3 (.br (I.ieq y2 9) (.need y0 (.need y1 (.need (A ⟨[(0,(.v (.one (.p (.str u))))),(5,(.v (.one (.p (.str (I.app (α:=UInt8) o ([95]:Str))))))),(6,(.v (.one (.p (.int .i64 (I.add (Nat.cast i) 1))))))],[],83,none⟩) .qed))) (.need y3 (.need (I.hid (α:=(Prop)) True) (.br (I.bnot (I.hid (α:=Bool) (wQ y2))) (.need y0 (.need y1 (.need (A ⟨[(0,(.v (.one (.p (.str u))))),(5,(.v (.one (.p (.str (I.app (α:=UInt8) o ([95]:Str))))))),(6,(.v (.one (.p (.int .i64 (I.add (Nat.cast i) 1))))))],[],83,none⟩) .qed))) (.need y3 (.br (I.ieq y2 34) (.need y0 (.need y1 (.need (A ⟨[(0,(.v (.one (.p (.str u))))),(5,(.v (.one (.p (.str (I.app (α:=UInt8) o ([95]:Str))))))),(6,(.v (.one (.p (.int .i64 (I.add (Nat.cast i) 1))))))],[],83,none⟩) .qed))) (.need y3 (.br (I.ieq y2 58) (.need y0 (.need y1 (.need (A ⟨[(0,(.v (.one (.p (.str u))))),(5,(.v (.one (.p (.str (I.app (α:=UInt8) o ([95]:Str))))))),(6,(.v (.one (.p (.int .i64 (I.add (Nat.cast i) 1))))))],[],83,none⟩) .qed))) (.need y1 (.need (I.cutb (Int.ofNat i) (I.add (Nat.cast i) 1) (I.len (α:=UInt8) u)) (.need (I.few (I.add (I.len (α:=UInt8) o) (I.len (α:=UInt8) y4)) 1000000000) (.need y1 (.need (A ⟨[(0,(.v (.one (.p (.str u))))),(5,(.v (.one (.p (.str (I.app (α:=UInt8) o y4)))))),(6,(.v (.one (.p (.int .i64 (I.add (Nat.cast i) 1))))))],[],83,none⟩) .qed)))))))))))))) (.br (I.seq o ([]:Str)) (.fin (.ret (.v (.one (.p (.str ([102,105,108,101]:Str)))))) []) (.fin (.ret (.v (.one (.p (.str o))))) []))) (.br (I.seq o ([]:Str)) (.fin (.ret (.v (.one (.p (.str ([102,105,108,101]:Str)))))) []) (.fin (.ret (.v (.one (.p (.str o))))) []))) (by kernel_rfl) ?_
      simp only [zq]
      subst hI
      simp only [nrmA,nrmB,nrlB,reduceCtorEq]
      have hs:i<u.length→(u.take (i+1)).map fS=o++[fS (u.getD i 0)]:=fun h=>by
        rw [List.take_succ_eq_append_getElem h,List.map_append,h3];simp [h]
      have hgo:i<u.length→i<40→_:=fun h k=>hA (i+1,o++[fS (u.getD i 0)]) ⟨by simp only;omega,by simp only;omega,(hs h).symm⟩ (by simp only;omega)
      have hcut:i<u.length→List.take (((i:Int)+1).toNat - i) (u.drop i)=[u.getD i 0]:=fun h=>by
        rw [show((i:Int)+1).toNat - i=1 by omega,List.drop_eq_getElem_cons h,show u.getD i 0=u[i] by simp [h]];rfl
      have hol:o.length≤i:=by rw [h3,List.length_map,List.length_take];omega
      have hend: ¬ (i<u.length∧i<40)→G.take 40=o:=fun h=>by
        rw [hG,h3,← List.map_take]
        by_cases k:i=40
        · rw [k]
        · rw [List.take_of_length_le (show u.length≤40 by omega),List.take_of_length_le (show u.length≤i by omega)]
      have l0:=(u.getD i 0).toNat_lt
      rw [zh4] at hgo
      simp only [Int.natCast_add,Int.natCast_one] at hgo
      generalize u.getD i 0=x at *
      (repeat' (first|refine And.intro ?_ ?_|intro _))<;>first|omega|exact True.intro|exact False.elim ‹False›|skip
      all_goals first
        |omega
        |(simp only [List.length_cons,List.length_nil];omega)
        |(rw [hcut (by omega)];simp only [List.length_cons,List.length_nil];omega)
        |(have h:=hgo (by omega) (by omega);(try rw [hcut (by omega)]);(repeat(first|rw [if_pos (by first|omega|assumption)] at h|rw [if_neg (by first|omega|assumption|simpa using ‹_=true›)] at h));with_reducible exact h)
        |(have h:=hend (by omega);rw [h] at hr;subst hr;first|rw [if_pos ‹o=[]›]|rw [if_neg ‹¬ o=[]›])
def YO (I:Alg) (args:List D) (hp:List HO):Option CT:=match args,hp with
  |[.v (.one (.p (.str s)))],[]=>(fun(s:Str)=>(some (.one ⟨I.hid (s.length≤1000000),(.ret (.v (.one (.p (.str (I.hid ((xZ s)))))))),[]⟩):Option CT)) s
  |_,_=>none
theorem zaz:zx Tryd.prog 18 (YO alg):=by
  intro args hp r h
  unfold YO at h
  split at h
  · cases h;exact fun hn=>zhk _ hn
  · cases h
def YN:Know Tryd.prog:=⟨18,YO,zaz⟩
def YM:Know Tryd.prog:=⟨18,fun I=>zA I (YO I),zf zaz⟩
end Go.Proofs.YtknaogelmckimaaDoor
