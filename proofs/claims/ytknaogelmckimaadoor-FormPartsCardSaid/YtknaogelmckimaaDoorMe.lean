/- Texts of this proof, one behind the other: ParB SamF ReqN FrmU FrmV FrmW. -/
import Derived.Test.YtknaogelmckimaaDoorMd
set_option linter.all false
namespace Go.Proofs.YtknaogelmckimaaDoor
open Go Go.Sep Go.Ab
set_option maxRecDepth 100000
theorem getD_drop (s:Str) (a b:Nat):(s.drop a).getD b 0=s.getD (a+b) 0:=by
  simp [List.getD_eq_getElem?_getD,List.getElem?_drop]
theorem zhj (s:Str) (i:Int) (hneed:s.length≤1000000∧0≤i∧i≤s.length):Spc Tryd.prog 57 [.v (.one (.p (.str s))),.v (.one (.p (.int .i64 i)))] [] (.ret (.v (.one (.p (.int .i64 (((tokS (s.drop i.toNat)).length:Int))))))) []:=by
  obtain⟨hl,h0,hi⟩:=hneed
  refine spcG zk mixed Tryd.func57 (by kernel_rfl) { keep:=some [0,1,4,5]} [qh,qg] (by kernel_rfl) ?_
  intro I X hI hX
  refine zh (.code 0 [1,1,0,0] ⟨[(5,(.v (.one (.p (.int .i64 0))))),(4,(.v (.one (.p (.int .i64 0))))),(0,(.v (.one (.p (.str s))))),(1,(.v (.one (.p (.int .i64 i)))))],[],23,none⟩) (by kernel_rfl) ?_
  simp only [zq]
  refine zu hI zk mixed [qh,qg] hX [0,1,5] (fun(n:Nat)=>n≤(tokS (s.drop i.toNat)).length) (fun(n:Nat)=>⟨[(0,.v (.one (.p (.str s)))),(1,.v (.one (.p (.int .i64 i)))),(5,.v (.one (.p (.int .i64 n))))],[],23,none⟩) (fun(n:Nat)=>s.length - n) 0 (by kernel_rfl) (by kernel_rfl) ?_ ?_
  · exact Nat.zero_le _
  rintro n h1 A hA
  refine zh (let y0:=I.b2i (I.get (α:=UInt8) s 0 (I.add i (Nat.cast n)));let y1:=I.inr Go.IntKind.i64 (I.add i (Nat.cast n));.need y1 (.br (I.ilt (I.add i (Nat.cast n)) (I.len (α:=UInt8) s)) (.need y1 (.need (I.inb (I.add i (Nat.cast n)) (I.len (α:=UInt8) s)) (.need (I.hid (α:=(Prop)) (And (LE.le (0:Int) y0) (LE.le y0 (255:Int)))) (.br (I.hid (α:=Bool) (tokB y0)) (.need (I.inr Go.IntKind.i64 (I.add (Nat.cast n) 1)) (.need (A ⟨[(0,(.v (.one (.p (.str s))))),(1,(.v (.one (.p (.int .i64 i))))),(5,(.v (.one (.p (.int .i64 (I.add (Nat.cast n) 1))))))],[],23,none⟩) .qed)) (.fin (.ret (.v (.one (.p (.int .i64 (Nat.cast n)))))) []))))) (.fin (.ret (.v (.one (.p (.int .i64 (Nat.cast n)))))) []))) (by kernel_rfl) ?_
  simp only [zq]
  subst hI
  simp only [nrmA,nrmB]
  have hs:=VI (p:=isTk) (s:=s.drop i.toNat) h1
  have hle:=yF (s.drop i.toNat)
  rw [getD_drop,List.length_drop] at hs
  rw [List.length_drop] at hle
  unfold isTk at hs
  change _↔n<(tokS (s.drop i.toNat)).length at hs
  rw [show(i+(n:Int)).toNat=i.toNat+n by omega]
  have hb:=xM (s.getD (i.toNat+n) 0)
  have hgo:n<(tokS (s.drop i.toNat)).length→A ⟨[(0,.v (.one (.p (.str s)))),(1,.v (.one (.p (.int .i64 i)))),(5,.v (.one (.p (.int .i64 (((n:Int)+1))))))],[],23,none⟩:=fun h=>hA (n+1) (by omega) (by omega)
  generalize s.getD (i.toNat+n) 0=x at *
  generalize(tokS (s.drop i.toNat)).length=m at *
  clear hA
  (repeat' (first|refine And.intro ?_ ?_|intro _))<;>first|omega|exact True.intro|exact False.elim ‹False›|skip
  all_goals first
    |omega
    |exact hgo (by rw [← hs];exact⟨by omega,by assumption⟩)
    | (have hx: ¬ n<m:=fun h=>by have:=(hs.2 h).1;omega
       omega)
    | (have hx: ¬ n<m:=fun h=>by have:=(hs.2 h).2;simp_all
       omega)
def YL (I:Alg) (args:List D) (hp:List HO):Option CT:=match args,hp with
  |[.v (.one (.p (.str s))),.v (.one (.p (.int .i64 i)))],[]=>(fun(s:Str) (i:Int)=>(some (.one ⟨I.hid (s.length≤1000000∧0≤i∧i≤s.length),(.ret (.v (.one (.p (.int .i64 (I.hid (((tokS (s.drop i.toNat)).length:Int)))))))),[]⟩):Option CT)) s i
  |_,_=>none
theorem zay:zx Tryd.prog 57 (YL alg):=by
  intro args hp r h
  unfold YL at h
  split at h
  · cases h;exact fun hn=>zhj _ _ hn
  · cases h
def xC:Know Tryd.prog:=⟨57,YL,zay⟩
def xB:Know Tryd.prog:=⟨57,fun I=>zA I (YL I),zf zay⟩
def blkN (s:Str):Nat:=s.length - (skS s).length
theorem zet (s:Str):s.drop (blkN s)=skS s:=by
  have h:=drop_tw (fun b=>([32,9]:Str).contains b) s
  have h2:=zfn (fun b=>([32,9]:Str).contains b) s
  have h3:=congrArg List.length (List.takeWhile_append_dropWhile (p:=fun b=>([32,9]:Str).contains b) (l:=s))
  rw [List.length_append] at h3
  unfold blkN skS Lib.trimLeftS
  rw [show s.length - (s.dropWhile fun b=>([32,9]:Str).contains b).length=(s.takeWhile fun b=>([32,9]:Str).contains b).length by omega]
  exact h
theorem UC (s:Str):blkN s≤s.length:=Nat.sub_le _ _
theorem zfh {s:Str} {n:Nat} (h:n≤blkN s):(n<s.length∧(s.getD n 0=32∨s.getD n 0=9))↔n<blkN s:=by
  have e:blkN s=(s.takeWhile fun b=>([32,9]:Str).contains b).length:=by
    have h3:=congrArg List.length (List.takeWhile_append_dropWhile (p:=fun b=>([32,9]:Str).contains b) (l:=s))
    rw [List.length_append] at h3
    unfold blkN skS Lib.trimLeftS
    omega
  rw [e] at h ⊢
  rw [← VI h]
  simp
theorem zeC (s:Str) (i:Int) (hneed:s.length≤1000000∧0≤i∧i≤s.length):Spc Tryd.prog 56 [.v (.one (.p (.str s))),.v (.one (.p (.int .i64 i)))] [] (.ret (.v (.one (.p (.int .i64 ((i+(blkN (s.drop i.toNat):Int)))))))) []:=by
  obtain⟨hl,h0,hi⟩:=hneed
  refine spcG zk mixed Tryd.func56 (by kernel_rfl) { keep:=some [0,1,4]} [] (by kernel_rfl) ?_
  intro I X hI hX
  refine zh (.code 0 [1,0,0] ⟨[(4,(.v (.one (.p (.int .i64 0))))),(0,(.v (.one (.p (.str s))))),(1,(.v (.one (.p (.int .i64 i)))))],[],24,none⟩) (by kernel_rfl) ?_
  simp only [zq]
  refine zu hI zk mixed [] hX [0,1] (fun(j:Int)=>i≤j∧j - i≤blkN (s.drop i.toNat)) (fun(j:Int)=>⟨[(0,.v (.one (.p (.str s)))),(1,.v (.one (.p (.int .i64 j))))],[],24,none⟩) (fun(j:Int)=>(s.length - j).toNat) i (by kernel_rfl) (by kernel_rfl) ?_ ?_
  · exact⟨Int.le_refl _,by omega⟩
  rintro j ⟨h1,h2⟩ A hA
  refine zh (let y0:=I.b2i (I.get (α:=UInt8) s 0 j);let y1:=I.inr Go.IntKind.i64 (I.add j 1);.br (I.ilt j (I.len (α:=UInt8) s)) (.need (I.inb j (I.len (α:=UInt8) s)) (.br (I.ieq y0 32) (.need y1 (.need (A ⟨[(0,(.v (.one (.p (.str s))))),(1,(.v (.one (.p (.int .i64 (I.add j 1))))))],[],24,none⟩) .qed)) (.need (I.inb j (I.len (α:=UInt8) s)) (.br (I.ieq y0 9) (.need y1 (.need (A ⟨[(0,(.v (.one (.p (.str s))))),(1,(.v (.one (.p (.int .i64 (I.add j 1))))))],[],24,none⟩) .qed)) (.fin (.ret (.v (.one (.p (.int .i64 j))))) []))))) (.fin (.ret (.v (.one (.p (.int .i64 j))))) [])) (by kernel_rfl) ?_
  simp only [zq]
  subst hI
  simp only [nrmA,nrmB]
  have hle:=UC (s.drop i.toNat)
  rw [List.length_drop] at hle
  have hs:=zfh (s:=s.drop i.toNat) (n:=(j - i).toNat) (by omega)
  rw [getD_drop,List.length_drop,show i.toNat+(j - i).toNat=j.toNat by omega] at hs
  have e1:=xg (s.getD j.toNat 0) 32
  have e2:=xg (s.getD j.toNat 0) 9
  rw [show(((32:UInt8).toNat:Nat):Int)=32 from rfl] at e1
  rw [show(((9:UInt8).toNat:Nat):Int)=9 from rfl] at e2
  rw [← e1,← e2] at hs
  have hgo:(j - i).toNat<blkN (s.drop i.toNat)→A ⟨[(0,.v (.one (.p (.str s)))),(1,.v (.one (.p (.int .i64 ((j+1))))))],[],24,none⟩:=fun h=>hA (j+1) ⟨by omega,by omega⟩ (by omega)
  generalize((s.getD j.toNat 0).toNat:Int)=x at *
  generalize blkN (s.drop i.toNat)=m at *
  clear hA e1 e2
  (repeat' (first|refine And.intro ?_ ?_|intro _))<;>first|omega|exact True.intro|exact False.elim ‹False›|skip
  all_goals first
    |omega
    |exact hgo (hs.1 ⟨by omega,.inl ‹_›⟩)
    |exact hgo (hs.1 ⟨by omega,.inr ‹_›⟩)
    | (have hx: ¬ (j - i).toNat<m:=fun h=>by have:=hs.2 h;omega
       omega)
def sS (I:Alg) (args:List D) (hp:List HO):Option CT:=match args,hp with
  |[.v (.one (.p (.str s))),.v (.one (.p (.int .i64 i)))],[]=>(fun(s:Str) (i:Int)=>(some (.one ⟨I.hid (s.length≤1000000∧0≤i∧i≤s.length),(.ret (.v (.one (.p (.int .i64 (I.hid ((i+(blkN (s.drop i.toNat):Int))))))))),[]⟩):Option CT)) s i
  |_,_=>none
theorem WQ:zx Tryd.prog 56 (sS alg):=by
  intro args hp r h
  unfold sS at h
  split at h
  · cases h;exact fun hn=>zeC _ _ hn
  · cases h
def yB:Know Tryd.prog:=⟨56,sS,WQ⟩
def yA:Know Tryd.prog:=⟨56,fun I=>zA I (sS I),zf WQ⟩
def finM (x:Int × Med × Str):Med × Int:=if x.1=0 then(x.2.1,0) else(⟨[],[]⟩,x.1)
def finL (w:Str) (x:Int × List Fld × Str):Med × Int:=if x.1=0 then(⟨w,x.2.1⟩,0) else(⟨[],[]⟩,x.1)
def medS (n:Nat) (l:List Fld) (x:Int × Fld × Str):Int × List Fld × Str:=
  if x.1≠0 then(x.1,l,x.2.2) else if(getP l x.2.1.name).2=true then(9,l,x.2.2) else if l.length=8 then(8,l,x.2.2) else medL n (skS x.2.2) (l++[x.2.1])
theorem zcZ (n:Nat) (s:Str) (l:List Fld):medL (n+1) s l=if zC s 59=true then medS n l (parM (skS (s.drop 1))) else if s=[] then(0,l,s) else(5,l,s):=rfl
theorem Ux (s:Str) (i:Nat):s.drop (i+blkN (s.drop i))=skS (s.drop i):=by rw [← List.drop_drop,zet]
theorem Zt (s:Str) (i:Nat):s.drop (i+(tokS (s.drop i)).length)=tokE (s.drop i):=by
  rw [← List.drop_drop];exact drop_tw isTk (s.drop i)
theorem uG (s:Str) (i:Int) (h0:0≤i) (c:UInt8):zC (s.drop i.toNat) c=true↔i<s.length∧((s.getD i.toNat 0).toNat:Int)=(c.toNat:Int):=by
  rw [ZR,getD_drop,List.length_drop,xg,Nat.add_zero]
  constructor
  · rintro⟨a,b⟩;exact⟨by omega,b⟩
  · rintro⟨a,b⟩;exact⟨by omega,b⟩
theorem drop_nil (s:Str) (i:Int) (h0:0≤i) (h1:i≤s.length):s.drop i.toNat=[]↔i=s.length:=by
  rw [← List.length_eq_zero_iff,List.length_drop];omega
theorem Qz {l:List Fld} {nm:Str}:(getP l nm).2=false↔∀ x ∈ l,x.name≠nm:=by
  unfold getP
  split
  · rename_i f hf
    have h1:=List.find?_some hf
    have h2:=List.mem_of_find?_eq_some hf
    simp only [Bool.true_eq_false,false_iff]
    intro h;exact h f h2 (by simpa using h1)
  · rename_i hf
    simp only [true_iff]
    intro x hx h
    have:=List.find?_eq_none.1 hf x hx
    exact this (by simpa using h)
theorem zf7 {x:UInt8} (r:Str) (h:x=34):quoF (x::r)=some ([],r):=by
  subst h;cases r<;>simp [quoF]
theorem zf6 {x:UInt8} (y:UInt8) (r:Str) (h:x=92):quoF (x::y::r)=(quoF r).map (fun p=>(y::p.1,p.2)):=by
  subst h;simp [quoF]
theorem zhm {x:UInt8} (r:Str) (h: ¬ x=34) (k: ¬ x=92):quoF (x::r)=(quoF r).map (fun p=>(x::p.1,p.2)):=by
  cases r<;>simp [quoF,h,k]
theorem Wh {s:Str} {k:Int} (h0:0≤k) (h:k<s.length):s.drop k.toNat=s.getD k.toNat 0::s.drop (k+1).toNat:=by
  rw [List.drop_eq_getElem_cons (by omega:k.toNat<s.length),show(k+1).toNat=k.toNat+1 by omega]
  simp [show k.toNat<s.length by omega]
theorem zdV {s:Str} {k e:Int} (h0:0≤k) (h:k<s.length) (he:e=k+1):(s.drop k.toNat).take (e.toNat - k.toNat)=[s.getD k.toNat 0]:=by
  rw [Wh h0 h,show e.toNat - k.toNat=1 by omega];rfl
theorem getD_mem {l:List Fld} {k:Nat} (h:k<l.length) (d:Fld):l.getD k d ∈ l:=by
  rw [show l.getD k d=l[k] by simp [h]];exact List.getElem_mem h
theorem zct {l:List Fld} {k:Nat} {nm:Str} (h:k<l.length) (d:Fld) (h1: ∀ x ∈ l.take k,x.name≠nm) (h2: ¬ (l.getD k d).name=nm): ∀ x ∈ l.take (k+1),x.name≠nm:=by
  intro x hx
  rw [List.take_succ_eq_append_getElem h] at hx
  rcases List.mem_append.1 hx with hx|hx
  · exact h1 x hx
  · simp only [List.mem_singleton] at hx
    subst hx
    rw [show l.getD k d=l[k] by simp [h]] at h2
    exact h2
set_option maxHeartbeats 8000000 in
theorem zf5 (s:Str) (hneed:s.length≤1000000):Spc Tryd.prog 32 [.v (.one (.p (.str s)))] [] (.ret (.tup [(.agg [(.p (.str ((zN s).1.word))),(.p (.list .fld ((zN s).1.params)))]),(.one (.p (.int .i64 ((zN s).2))))])) []:=by
  generalize hr:zN s=r
  obtain⟨⟨pw,ps⟩,c⟩:=r
  refine spcG zk mixed Tryd.func32 (by kernel_rfl) { cfgM with seam:=[9,24,46],keep:=some [0,2,3,4,5,6,7,8,9]} [zV,zU,yg,yc,xC,xB,yB,yA] (by kernel_rfl) ?_
  intro I X hI hX
  refine zh (let y0:=I.hid (α:=Int) (HAdd.hAdd (0:Int) (Nat.cast (blkN (List.drop (Int.toNat (0:Int)) s))));let y1:=I.hid (α:=Int) (Nat.cast (List.length (tokS (List.drop (Int.toNat y0) s))));let y2:=I.cut (α:=UInt8) s y0 (I.add y0 y1);let y3:=I.inr Go.IntKind.i64 (I.add y0 y1);.need (I.hid (α:=(Prop)) (LE.le (List.length s) 1000000)) (.br (I.bnot (I.hid (α:=Bool) (wF s))) (.fin (.ret (.tup [(.agg [(.p (.str ([]:Str))),(.p (.list .fld ([]:List Fld)))]),(.one (.p (.int .i64 3)))])) []) (.need (I.hid (α:=(Prop)) (And (LE.le (List.length s) 1000000) (And (LE.le (0:Int) (0:Int)) (LE.le (0:Int) (Nat.cast (List.length s)))))) (.need (I.hid (α:=(Prop)) (And (LE.le (List.length s) 1000000) (And (LE.le (0:Int) y0) (LE.le y0 (Nat.cast (List.length s)))))) (.br (I.ieq y1 0) (.fin (.ret (.tup [(.agg [(.p (.str ([]:Str))),(.p (.list .fld ([]:List Fld)))]),(.one (.p (.int .i64 5)))])) []) (.need y3 (.need (I.cutb y0 (I.add y0 y1) (I.len (α:=UInt8) s)) (.need (I.hid (α:=(Prop)) (LE.le (List.length y2) 1000000)) (.need y3 (.code 0 [1,1,1,1,1,1,1,0,0] ⟨[(4,(.v (.one (.p (.int .i64 (I.add y0 y1)))))),(6,(.v (.one (.ptr 1 0)))),(5,(.v (.one (.p (.int .i64 y1))))),(3,(.v (.one (.p (.int .i64 0))))),(2,(.v (.one (.ptr 0 0)))),(0,(.v (.one (.p (.str s)))))],[(.obj 72 [(.p (.str ([]:Str))),.nilS]),(.obj 72 [(.p (.str (I.hid (α:=Str) (lowS y2)))),.nilS])],223,none⟩)))))))))) (by kernel_rfl) ?_
  simp only [zq]
  have keyL : ∀ (i:Int) (w:Str) (st:St),0≤i→i≤s.length→finM (medB w (s.drop i.toNat))=(⟨pw,ps⟩,c)→cutM { cfgM with seam:=[9,24,46],keep:=some [0,2,3,4,5,6,7,8,9]} 0 [0,2,4,6] st=some ⟨[(0,.v (.one (.p (.str s)))),(2,.v (.one (.ptr 0 0))),(4,.v (.one (.p (.int .i64 i)))),(6,.v (.one (.ptr 1 0)))],[.pack [.obj 72 [(.p (.str ([]))),(.row 1)],.row .fld 98 ([])],.pack [.obj 72 [(.p (.str w)),(.row 1)],.row .fld 98 ([])]],223,none⟩→Ok Tryd.prog X (fun o h=>o=AOut.ret (D.tup [V0.agg [C.p (P.str pw),C.p (P.list U.fld ps)],V0.one (C.p (P.int IntKind.i64 c))])∧h=[]) (leaf I tab { cfgM with seam:=[9,24,46],keep:=some [0,2,3,4,5,6,7,8,9]} [⟨xk Tryd.f32,finK I tab { cfgM with seam:=[9,24,46],keep:=some [0,2,3,4,5,6,7,8,9]} 0 Tryd.f32⟩] 0 [1,1,1,1,1,1,1,1,0] st):=by
    intro i w st h0 h1 hm hst
    refine zu hI zk mixed [zV,zU,yg,yc,xC,xB,yB,yA] hX [0,2,4,6] (fun(g:Int × List Fld)=>match g with|(i,l)=>0≤i∧i≤s.length∧l.length≤8∧∃ n,(skS (s.drop i.toNat)).length<n∧finL w (medL n (skS (s.drop i.toNat)) l)=(⟨pw,ps⟩,c)) (fun(g:Int × List Fld)=>match g with|(i,l)=>⟨[(0,.v (.one (.p (.str s)))),(2,.v (.one (.ptr 0 0))),(4,.v (.one (.p (.int .i64 i)))),(6,.v (.one (.ptr 1 0)))],[.pack [.obj 72 [(.p (.str ([]))),(.row 1)],.row .fld 98 ([])],.pack [.obj 72 [(.p (.str w)),(.row 1)],.row .fld 98 l]],223,none⟩) (fun(g:Int × List Fld)=>match g with|(i,l)=>(s.length - i).toNat) (i,[]) (by kernel_rfl) hst ?_ ?_
    · refine⟨h0,h1,by simp,(skS (s.drop i.toNat)).length+1,by omega,?_⟩
      rw [← hm];rfl
    clear hm hst h0 h1 hr
    rintro⟨i,l⟩ ⟨h0,h1,hl8,n,hn,hm⟩ A hA
    simp only at hA
    cases n with
    |zero=>omega
    |succ n=>
    have key46: ∀ (j:Int) (nm v:Str),i<j→j≤s.length→(skS (s.drop j.toNat)).length<n→finL w (medS n l (0,⟨nm,v⟩,s.drop j.toNat))=(⟨pw,ps⟩,c)→Ok Tryd.prog X (fun o h=>o=AOut.ret (D.tup [V0.agg [C.p (P.str pw),C.p (P.list U.fld ps)],V0.one (C.p (P.int IntKind.i64 c))])∧h=[]) (go I tab { cfgM with seam:=[9,24,46],keep:=some [0,2,3,4,5,6,7,8,9]} [zV,zU,yg,yc,xC,xB,yB,yA] (round I tab { cfgM with seam:=[9,24,46],keep:=some [0,2,3,4,5,6,7,8,9]} 0 [0,2,4,6] A [⟨xk Tryd.f32,finK I tab { cfgM with seam:=[9,24,46],keep:=some [0,2,3,4,5,6,7,8,9]} 0 Tryd.f32⟩] 0 [1,1,1,1,1,1,1,1,0]::[⟨xk Tryd.f32,finK I tab { cfgM with seam:=[9,24,46],keep:=some [0,2,3,4,5,6,7,8,9]} 0 Tryd.f32⟩]) 0 [0,1,1,1,1,1,1,1,1,1,0,0] ⟨[(0,.v (.one (.p (.str s)))),(2,.v (.one (.ptr 0 0))),(4,.v (.one (.p (.int .i64 j)))),(6,.v (.one (.ptr 1 0))),(7,.v (.one (.ptr 2 0)))],[.pack [.obj 72 [(.p (.str ([]))),(.row 1)],.row .fld 98 ([])],.pack [.obj 72 [(.p (.str w)),(.row 1)],.row .fld 98 l],.pack [.obj 98 [(.p (.str nm)),(.p (.str v))]]],223,none⟩):=by
      intro j nm v hj hj1 hjn hm
      refine zh (.code 0 [0,1,1,1,1,1,1,1,1,1,0,1,0] ⟨[(9,(.v (.one (.p (.int .i64 0))))),(0,(.v (.one (.p (.str s))))),(2,(.v (.one (.ptr 0 0)))),(4,(.v (.one (.p (.int .i64 j))))),(6,(.v (.one (.ptr 1 0)))),(7,(.v (.one (.ptr 2 0))))],[(.pack [(.obj 72 [(.p (.str ([]:Str))),(.row 1)]),(.row .fld 98 ([]:List Fld))]),(.pack [(.obj 72 [(.p (.str w)),(.row 1)]),(.row .fld 98 l)]),(.pack [(.obj 98 [(.p (.str nm)),(.p (.str v))])])],223,none⟩) (by kernel_rfl) ?_
      simp only [zq]
      refine zu hI zk mixed [zV,zU,yg,yc,xC,xB,yB,yA] hX [0,2,4,6,7,9] (fun(k:Nat)=>k≤l.length∧∀ x ∈ l.take k,x.name≠nm) (fun(k:Nat)=>⟨[(0,.v (.one (.p (.str s)))),(2,.v (.one (.ptr 0 0))),(4,.v (.one (.p (.int .i64 j)))),(6,.v (.one (.ptr 1 0))),(7,.v (.one (.ptr 2 0))),(9,.v (.one (.p (.int .i64 k))))],[.pack [.obj 72 [(.p (.str ([]))),(.row 1)],.row .fld 98 ([])],.pack [.obj 72 [(.p (.str w)),(.row 1)],.row .fld 98 l],.pack [.obj 98 [(.p (.str nm)),(.p (.str v))]]],223,none⟩) (fun(k:Nat)=>l.length - k) 0 (by kernel_rfl) (by kernel_rfl) ?_ ?_
      · exact⟨Nat.zero_le _,by simp⟩
      rintro k ⟨h2,h3⟩ B hB
      refine zh (let y0:HO:=.pack [(.obj 72 [(.p (.str ([]:Str))),(.row 1)]),(.row .fld 98 ([]:List Fld))];let y1:=I.inb (Nat.cast k) (I.len (α:=Fld) l);let y2:HO:=.obj 72 [(.p (.str w)),(.row 1)];.br (I.ilt (Nat.cast k) (I.len (α:=Fld) l)) (.need y1 (.need y1 (.br (I.seq (Fld.name (I.get (α:=Fld) l (Fld.mk ([]:Str) ([]:Str)) (Nat.cast k))) nm) (.fin (.ret (.tup [(.agg [(.p (.str ([]:Str))),(.p (.list .fld ([]:List Fld)))]),(.one (.p (.int .i64 9)))])) []) (.need (I.inr Go.IntKind.i64 (I.add (Nat.cast k) 1)) (.need (B ⟨[(0,(.v (.one (.p (.str s))))),(2,(.v (.one (.ptr 0 0)))),(4,(.v (.one (.p (.int .i64 j))))),(6,(.v (.one (.ptr 1 0)))),(7,(.v (.one (.ptr 2 0)))),(9,(.v (.one (.p (.int .i64 (I.add (Nat.cast k) 1))))))],[y0,(.pack [y2,(.row .fld 98 l)]),(.pack [(.obj 98 [(.p (.str nm)),(.p (.str v))])])],223,none⟩) .qed))))) (.br (I.ieq (I.len (α:=Fld) l) 8) (.fin (.ret (.tup [(.agg [(.p (.str ([]:Str))),(.p (.list .fld ([]:List Fld)))]),(.one (.p (.int .i64 8)))])) []) (.need (I.few (I.add (I.len (α:=Fld) l) (I.len (α:=Fld) ([(Fld.mk nm v)]:List Fld))) 100000000) (.need (A ⟨[(0,(.v (.one (.p (.str s))))),(2,(.v (.one (.ptr 0 0)))),(4,(.v (.one (.p (.int .i64 j))))),(6,(.v (.one (.ptr 1 0))))],[y0,(.pack [y2,(.row .fld 98 (I.app (α:=Fld) l ([(Fld.mk nm v)]:List Fld)))])],223,none⟩) .qed)))) (by kernel_rfl) ?_
      simp only [zq]
      subst hI
      simp only [nrmA,nrmB]
      try rw [show dflt U.fld=(⟨[],[]⟩:Fld) from rfl]
      have hstep:=fun(h:k<l.length)=>zct (nm:=nm) h ⟨[],[]⟩ h3
      have hmem:=fun(h:k<l.length)=>getD_mem h ⟨[],[]⟩
      have hgo:k<l.length→¬ (l.getD k ⟨[],[]⟩).name=nm→B ⟨[(0,.v (.one (.p (.str s)))),(2,.v (.one (.ptr 0 0))),(4,.v (.one (.p (.int .i64 j)))),(6,.v (.one (.ptr 1 0))),(7,.v (.one (.ptr 2 0))),(9,.v (.one (.p (.int .i64 (((k:Int)+1))))))],[.pack [.obj 72 [(.p (.str ([]))),(.row 1)],.row .fld 98 ([])],.pack [.obj 72 [(.p (.str w)),(.row 1)],.row .fld 98 l],.pack [.obj 98 [(.p (.str nm)),(.p (.str v))]]],223,none⟩:=fun a b=>hB (k+1) ⟨by omega,hstep a b⟩ (by omega)
      have hno: ¬ k<l.length→(getP l nm).2=false:=fun a=>Qz.2 (by rw [List.take_of_length_le (by omega)] at h3;exact h3)
      have hy:k<l.length→(l.getD k ⟨[],[]⟩).name=nm→(getP l nm).2=true:=fun a b=>by
        cases hq:(getP l nm).2 with
        |true=>rfl
        |false=>exact absurd b (Qz.1 hq _ (hmem a))
      have hA2:=hA (j,l++[⟨nm,v⟩])
      simp only [List.length_append,List.length_cons,List.length_nil] at hA2
      clear hstep hmem hB h3
      generalize l.getD k ⟨[],[]⟩=x at *
      simp only [medS,ne_eq,not_true_eq_false,if_false] at hm
      by_cases hk:k<l.length
      · by_cases hx:x.name=nm
        · rw [if_pos (hy hk hx)] at hm
          simp only [finL,if_false,Prod.mk.injEq,Med.mk.injEq,Int.reduceEq] at hm
          (repeat' (first|refine And.intro ?_ ?_|intro _))<;>first|omega|exact True.intro|exact False.elim ‹False›|skip
          all_goals first|omega|(simp [← hm.1.1,← hm.1.2,← hm.2];done)|(exfalso;exact absurd hx ‹_›)|trace_state
        · have hg:=hgo hk hx
          (repeat' (first|refine And.intro ?_ ?_|intro _))<;>first|omega|exact True.intro|exact False.elim ‹False›|skip
          all_goals first|omega|exact hg|contradiction|(exfalso;exact absurd ‹_› hx)|trace_state
      · rw [if_neg (by rw [hno hk];exact Bool.false_ne_true)] at hm
        by_cases h8:l.length=8
        · rw [if_pos h8] at hm
          simp only [finL,if_false,Prod.mk.injEq,Med.mk.injEq,Int.reduceEq] at hm
          (repeat' (first|refine And.intro ?_ ?_|intro _))<;>first|omega|exact True.intro|exact False.elim ‹False›|skip
          all_goals first|omega|(simp [← hm.1.1,← hm.1.2,← hm.2];done)|trace_state
        · rw [if_neg h8] at hm
          have hA3:=hA2 ⟨by omega,hj1,by omega,n,hjn,hm⟩ (by omega)
          (repeat' (first|refine And.intro ?_ ?_|intro _))<;>first|omega|exact True.intro|exact False.elim ‹False›|skip
          all_goals first|omega|exact hA3|(simp only [List.length_cons,List.length_nil];omega)|trace_state
    have keyQ : ∀ (j:Int) (nm:Str) (st:St),i<j→j≤s.length→(s.drop j.toNat).length<n→finL w (medS n l (if(quoF (s.drop j.toNat)).isSome=true then(0,⟨nm,quoV (s.drop j.toNat)⟩,quoR (s.drop j.toNat)) else(14,⟨[],[]⟩,[])))=(⟨pw,ps⟩,c)→cutM { cfgM with seam:=[9,24,46],keep:=some [0,2,3,4,5,6,7,8,9]} 0 [0,2,4,6,7,8] st=some ⟨[(0,.v (.one (.p (.str s)))),(2,.v (.one (.ptr 0 0))),(4,.v (.one (.p (.int .i64 j)))),(6,.v (.one (.ptr 1 0))),(7,.v (.one (.ptr 2 0))),(8,.v (.one (.p (.bool false))))],[.pack [.obj 72 [(.p (.str ([]))),(.row 1)],.row .fld 98 ([])],.pack [.obj 72 [(.p (.str w)),(.row 1)],.row .fld 98 l],.pack [.obj 98 [(.p (.str nm)),(.p (.str ([])))]]],223,none⟩→Ok Tryd.prog X (fun o h=>o=AOut.ret (D.tup [V0.agg [C.p (P.str pw),C.p (P.list U.fld ps)],V0.one (C.p (P.int IntKind.i64 c))])∧h=[]) (leaf I tab { cfgM with seam:=[9,24,46],keep:=some [0,2,3,4,5,6,7,8,9]} (round I tab { cfgM with seam:=[9,24,46],keep:=some [0,2,3,4,5,6,7,8,9]} 0 [0,2,4,6] A [⟨xk Tryd.f32,finK I tab { cfgM with seam:=[9,24,46],keep:=some [0,2,3,4,5,6,7,8,9]} 0 Tryd.f32⟩] 0 [1,1,1,1,1,1,1,1,0]::[⟨xk Tryd.f32,finK I tab { cfgM with seam:=[9,24,46],keep:=some [0,2,3,4,5,6,7,8,9]} 0 Tryd.f32⟩]) 0 [0,1,1,1,1,1,1,1,1,0,1,0,1,1,0,0] st):=by
      intro j nm st hj hj1 hjn hm hst
      refine zu hI zk mixed [zV,zU,yg,yc,xC,xB,yB,yA] hX [0,2,4,6,7,8] (fun(g:Int × Bool × Str)=>match g with|(k,b,v)=>j≤k∧k≤s.length∧(v.length:Int)≤k - j∧(b=true→quoF (s.drop j.toNat)=some (v,s.drop k.toNat))∧(b=false→quoF (s.drop j.toNat)=(quoF (s.drop k.toNat)).map (fun p=>(v++p.1,p.2)))) (fun(g:Int × Bool × Str)=>match g with|(k,b,v)=>⟨[(0,.v (.one (.p (.str s)))),(2,.v (.one (.ptr 0 0))),(4,.v (.one (.p (.int .i64 k)))),(6,.v (.one (.ptr 1 0))),(7,.v (.one (.ptr 2 0))),(8,.v (.one (.p (.bool b))))],[.pack [.obj 72 [(.p (.str ([]))),(.row 1)],.row .fld 98 ([])],.pack [.obj 72 [(.p (.str w)),(.row 1)],.row .fld 98 l],.pack [.obj 98 [(.p (.str nm)),(.p (.str v))]]],223,none⟩) (fun(g:Int × Bool × Str)=>match g with|(k,b,v)=>(s.length - k).toNat) (j,false,[]) (by kernel_rfl) hst ?_ ?_
      · exact⟨Int.le_refl _,hj1,by simp,by simp,by simp⟩
      rintro⟨k,b,v⟩ ⟨h2,h3,h4,h5,h6⟩ B hB
      simp only at hB
      refine zh (let y0:HO:=.pack [(.obj 72 [(.p (.str ([]:Str))),(.row 1)]),(.row .fld 98 ([]:List Fld))];let y1:HO:=.pack [(.obj 72 [(.p (.str w)),(.row 1)]),(.row .fld 98 l)];let y2:=I.inr Go.IntKind.i64 (I.add k 1);let y3:HO:=.pack [(.obj 98 [(.p (.str nm)),(.p (.str v))])];let y4:=I.cut (α:=UInt8) s (I.add k 1) (I.add k 2);let y5:=I.cut (α:=UInt8) s k (I.add k 1);let y6:=I.b2i (I.get (α:=UInt8) s 0 k);.br (I.ilt k (I.len (α:=UInt8) s)) (.br (I.bnot b) (.need (I.inb k (I.len (α:=UInt8) s)) (.br (I.ieq y6 34) (.need y2 (.need (B ⟨[(0,(.v (.one (.p (.str s))))),(2,(.v (.one (.ptr 0 0)))),(4,(.v (.one (.p (.int .i64 (I.add k 1)))))),(6,(.v (.one (.ptr 1 0)))),(7,(.v (.one (.ptr 2 0)))),(8,(.v (.one (.p (.bool Bool.true)))))],[y0,y1,y3],223,none⟩) .qed)) (.need (I.inb k (I.len (α:=UInt8) s)) (.br (I.ieq y6 92) (.need y2 (.br (I.ieq (I.add k 1) (I.len (α:=UInt8) s)) (.fin (.ret (.tup [(.agg [(.p (.str ([]:Str))),(.p (.list .fld ([]:List Fld)))]),(.one (.p (.int .i64 14)))])) []) (.need y2 (.need (I.inr Go.IntKind.i64 (I.add k 2)) (.need (I.cutb (I.add k 1) (I.add k 2) (I.len (α:=UInt8) s)) (.need (I.few (I.add (I.len (α:=UInt8) v) (I.len (α:=UInt8) y4)) 1000000000) (.need y2 (.need (I.inr Go.IntKind.i64 (I.add (I.add k 1) 1)) (.need (B ⟨[(0,(.v (.one (.p (.str s))))),(2,(.v (.one (.ptr 0 0)))),(4,(.v (.one (.p (.int .i64 (I.add (I.add k 1) 1)))))),(6,(.v (.one (.ptr 1 0)))),(7,(.v (.one (.ptr 2 0)))),(8,(.v (.one (.p (.bool b)))))],[y0,y1,(.pack [(.obj 98 [(.p (.str nm)),(.p (.str (I.app (α:=UInt8) v y4)))])])],223,none⟩) .qed))))))))) (.need y2 (.need (I.cutb k (I.add k 1) (I.len (α:=UInt8) s)) (.need (I.few (I.add (I.len (α:=UInt8) v) (I.len (α:=UInt8) y5)) 1000000000) (.need y2 (.need (B ⟨[(0,(.v (.one (.p (.str s))))),(2,(.v (.one (.ptr 0 0)))),(4,(.v (.one (.p (.int .i64 (I.add k 1)))))),(6,(.v (.one (.ptr 1 0)))),(7,(.v (.one (.ptr 2 0)))),(8,(.v (.one (.p (.bool b)))))],[y0,y1,(.pack [(.obj 98 [(.p (.str nm)),(.p (.str (I.app (α:=UInt8) v y5)))])])],223,none⟩) .qed))))))))) (.br (I.bnot b) (.fin (.ret (.tup [(.agg [(.p (.str ([]:Str))),(.p (.list .fld ([]:List Fld)))]),(.one (.p (.int .i64 14)))])) []) (.code 1 [0,1,1,1,1,1,1,1,1,1,0,0] ⟨[(0,(.v (.one (.p (.str s))))),(2,(.v (.one (.ptr 0 0)))),(4,(.v (.one (.p (.int .i64 k))))),(6,(.v (.one (.ptr 1 0)))),(7,(.v (.one (.ptr 2 0)))),(8,(.v (.one (.p (.bool b)))))],[y0,y1,y3],223,none⟩))) (.br (I.bnot b) (.fin (.ret (.tup [(.agg [(.p (.str ([]:Str))),(.p (.list .fld ([]:List Fld)))]),(.one (.p (.int .i64 14)))])) []) (.code 1 [0,1,1,1,1,1,1,1,1,1,0,0] ⟨[(0,(.v (.one (.p (.str s))))),(2,(.v (.one (.ptr 0 0)))),(4,(.v (.one (.p (.int .i64 k))))),(6,(.v (.one (.ptr 1 0)))),(7,(.v (.one (.ptr 2 0)))),(8,(.v (.one (.p (.bool b)))))],[y0,y1,y3],223,none⟩))) (by kernel_rfl) ?_
      simp only [zq]
      subst hI
      simp only [nrmA,nrmB]
      clear hA hst
      have hk46:=key46 k nm v (by omega) h3
      clear key46
      have hle:(skS (s.drop k.toNat)).length<n:=by
        have:=yT (s.drop k.toNat)
        rw [List.length_drop] at this hjn
        omega
      cases b with
      | true=>
        rw [h5 rfl] at hm
        have e1:quoV (s.drop j.toNat)=v:=by unfold quoV;rw [h5 rfl]
        have e2:quoR (s.drop j.toNat)=s.drop k.toNat:=by unfold quoR;rw [h5 rfl]
        rw [e1,e2] at hm
        have hk:=hk46 hle hm
        (repeat' (first|refine And.intro ?_ ?_|intro _))<;>first|omega|exact True.intro|exact False.elim ‹False›|skip
        all_goals first|omega|contradiction|skip
        all_goals exact seam (by first|rfl|exact hI) zk mixed [zV,zU,yg,yc,xC,xB,yB,yA] hX [0,2,4,6,7] ⟨[(0,.v (.one (.p (.str s)))),(2,.v (.one (.ptr 0 0))),(4,.v (.one (.p (.int .i64 k)))),(6,.v (.one (.ptr 1 0))),(7,.v (.one (.ptr 2 0)))],[.pack [.obj 72 [(.p (.str ([]))),(.row 1)],.row .fld 98 ([])],.pack [.obj 72 [(.p (.str w)),(.row 1)],.row .fld 98 l],.pack [.obj 98 [(.p (.str nm)),(.p (.str v))]]],223,none⟩ (by kernel_rfl) (hk)
      | false =>
        have h6:=h6 rfl
        have hend:quoF (s.drop j.toNat)=none→(⟨[],[]⟩,14)=((⟨pw,ps⟩,c):Med × Int):=fun h=>by
          rw [h] at hm
          exact hm
        clear hm hk46 h5
        by_cases hk:k<s.length
        · have hc:=Wh (by omega) hk
          have hu1:=zdV (by omega:0≤k) hk (e:=k+1) rfl
          rw [hc] at h6
          have e34:((s.getD k.toNat 0).toNat:Int)=34↔s.getD k.toNat 0=34:=xg _ 34
          have e92:((s.getD k.toNat 0).toNat:Int)=92↔s.getD k.toNat 0=92:=xg _ 92
          rw [e34,e92]
          by_cases q34:s.getD k.toNat 0=34
          · rw [zf7 _ q34] at h6
            have hg:=hB (k+1,true,v) ⟨by simp only;omega,by simp only;omega,by simp only;omega,fun _=>by rw [h6];simp,fun h=>(by cases h)⟩ (by simp only;omega)
            simp only at hg
            clear hB
            (repeat' (first|refine And.intro ?_ ?_|intro _))<;>first|omega|exact True.intro|exact False.elim ‹False›|skip
            all_goals first|omega|exact hg|contradiction|(exfalso;exact absurd q34 ‹_›)|trace_state
          by_cases q92:s.getD k.toNat 0=92
          · by_cases hk1:k+1<s.length
            · have hc1:=Wh (s:=s) (k:=k+1) (by omega) hk1
              have hu2:=zdV (s:=s) (k:=k+1) (e:=k+2) (by omega) hk1 (by omega)
              rw [hc1,zf6 _ _ q92,Option.map_map] at h6
              have hg:=hB (k+1+1,false,v++[s.getD (k+1).toNat 0]) ⟨by simp only;omega,by simp only;omega,by simp only [List.length_append,List.length_cons,List.length_nil];omega,fun h=>(by cases h),fun _=>by rw [h6];congr 1;funext p;simp⟩ (by simp only;omega)
              simp only at hg
              rw [hu2]
              clear hB
              (repeat' (first|refine And.intro ?_ ?_|intro _))<;>first|omega|exact True.intro|exact False.elim ‹False›|skip
              all_goals first|omega|exact hg|contradiction|(exfalso;exact absurd q92 ‹_›)|(exfalso;exact absurd ‹_› q34)|(simp only [List.length_cons,List.length_nil];omega)|trace_state
            · have hnil:s.drop (k+1).toNat=[]:=by rw [← List.length_eq_zero_iff,List.length_drop];omega
              rw [hnil,q92] at h6
              have hz:=hend (by rw [h6];simp [quoF])
              simp only [Prod.mk.injEq,Med.mk.injEq] at hz
              clear hB
              (repeat' (first|refine And.intro ?_ ?_|intro _))<;>first|omega|exact True.intro|exact False.elim ‹False›|skip
              all_goals first|omega|contradiction|(simp [← hz.1.1,← hz.1.2,← hz.2];done)|(exfalso;exact absurd q92 ‹_›)|(exfalso;exact absurd ‹_› q34)|trace_state
          · rw [zhm _ q34 q92,Option.map_map] at h6
            have hg:=hB (k+1,false,v++[s.getD k.toNat 0]) ⟨by simp only;omega,by simp only;omega,by simp only [List.length_append,List.length_cons,List.length_nil];omega,fun h=>(by cases h),fun _=>by rw [h6];congr 1;funext p;simp⟩ (by simp only;omega)
            simp only at hg
            rw [hu1]
            clear hB
            (repeat' (first|refine And.intro ?_ ?_|intro _))<;>first|omega|exact True.intro|exact False.elim ‹False›|skip
            all_goals first|omega|exact hg|contradiction|(exfalso;exact absurd ‹_› q92)|(exfalso;exact absurd ‹_› q34)|(simp only [List.length_cons,List.length_nil];omega)|trace_state
        · have hnil:s.drop k.toNat=[]:=by rw [← List.length_eq_zero_iff,List.length_drop];omega
          rw [hnil] at h6
          have hz:=hend (by rw [h6];simp [quoF])
          simp only [Prod.mk.injEq,Med.mk.injEq] at hz
          clear hB
          (repeat' (first|refine And.intro ?_ ?_|intro _))<;>first|omega|exact True.intro|exact False.elim ‹False›|skip
          all_goals first|omega|contradiction|(simp [← hz.1.1,← hz.1.2,← hz.2];done)|contradiction|trace_state
    have key24: ∀ (j m:Int),i<j→j+m<s.length→m=(tokS (s.drop j.toNat)).length→¬ tokS (s.drop j.toNat)=[]→zC (s.drop (j+m).toNat) 61=true→(s.drop j.toNat).length<n+1→finL w (medS n l (parM (s.drop j.toNat)))=(⟨pw,ps⟩,c)→Ok Tryd.prog X (fun o h=>o=AOut.ret (D.tup [V0.agg [C.p (P.str pw),C.p (P.list U.fld ps)],V0.one (C.p (P.int IntKind.i64 c))])∧h=[]) (go I tab { cfgM with seam:=[9,24,46],keep:=some [0,2,3,4,5,6,7,8,9]} [zV,zU,yg,yc,xC,xB,yB,yA] (round I tab { cfgM with seam:=[9,24,46],keep:=some [0,2,3,4,5,6,7,8,9]} 0 [0,2,4,6] A [⟨xk Tryd.f32,finK I tab { cfgM with seam:=[9,24,46],keep:=some [0,2,3,4,5,6,7,8,9]} 0 Tryd.f32⟩] 0 [1,1,1,1,1,1,1,1,0]::[⟨xk Tryd.f32,finK I tab { cfgM with seam:=[9,24,46],keep:=some [0,2,3,4,5,6,7,8,9]} 0 Tryd.f32⟩]) 0 [0,1,1,1,1,1,1,0] ⟨[(0,.v (.one (.p (.str s)))),(2,.v (.one (.ptr 0 0))),(4,.v (.one (.p (.int .i64 j)))),(5,.v (.one (.p (.int .i64 m)))),(6,.v (.one (.ptr 1 0)))],[.pack [.obj 72 [(.p (.str ([]))),(.row 1)],.row .fld 98 ([])],.pack [.obj 72 [(.p (.str w)),(.row 1)],.row .fld 98 l]],223,none⟩):=by
      intro j m hj hjm em ht hq hjn hm
      refine zh (let y0:=I.hid (α:=Int) (Nat.cast (List.length (tokS (List.drop (Int.toNat (I.add j (I.add m 1))) s))));let y7:=I.cut (α:=UInt8) s j (I.add j m);let y1:HO:=.obj 98 [(.p (.str (I.hid (α:=Str) (lowS y7)))),(.p (.str (I.cut (α:=UInt8) s (I.add j (I.add m 1)) (I.add (I.add j (I.add m 1)) y0))))];let y2:HO:=.pack [(.obj 72 [(.p (.str ([]:Str))),(.row 1)]),(.row .fld 98 ([]:List Fld))];let y3:=I.hid (α:=(Prop)) (And (LE.le (List.length s) 1000000) (And (LE.le (0:Int) (I.add j (I.add m 1))) (LE.le (I.add j (I.add m 1)) (Nat.cast (List.length s)))));let y4:=I.inr Go.IntKind.i64 (I.add (I.add j (I.add m 1)) y0);let y5:HO:=.pack [(.obj 72 [(.p (.str w)),(.row 1)]),(.row .fld 98 l)];let y6:=I.cutb (I.add j (I.add m 1)) (I.add (I.add j (I.add m 1)) y0) (I.len (α:=UInt8) s);.need (I.inr Go.IntKind.i64 (I.add j m)) (.need (I.cutb j (I.add j m) (I.len (α:=UInt8) s)) (.need (I.hid (α:=(Prop)) (LE.le (List.length y7) 1000000)) (.need (I.inr Go.IntKind.i64 (I.add m 1)) (.need (I.inr Go.IntKind.i64 (I.add j (I.add m 1))) (.br (I.ilt (I.add j (I.add m 1)) (I.len (α:=UInt8) s)) (.need (I.inb (I.add j (I.add m 1)) (I.len (α:=UInt8) s)) (.br (I.ieq (I.b2i (I.get (α:=UInt8) s 0 (I.add j (I.add m 1)))) 34) (.need (I.inr Go.IntKind.i64 (I.add (I.add j (I.add m 1)) 1)) (.code 0 [0,1,1,1,1,1,1,1,1,0,1,0,1,1,0,0] ⟨[(8,(.v (.one (.p (.val (.bool .false)))))),(4,(.v (.one (.p (.int .i64 (I.add (I.add j (I.add m 1)) 1)))))),(7,(.v (.one (.ptr 2 0)))),(0,(.v (.one (.p (.str s))))),(2,(.v (.one (.ptr 0 0)))),(5,(.v (.one (.p (.int .i64 m))))),(6,(.v (.one (.ptr 1 0))))],[y2,y5,(.obj 98 [(.p (.str (I.hid (α:=Str) (lowS y7)))),(.p (.str ([]:Str)))])],223,none⟩)) (.need y3 (.br (I.ieq y0 0) (.fin (.ret (.tup [(.agg [(.p (.str ([]:Str))),(.p (.list .fld ([]:List Fld)))]),(.one (.p (.int .i64 5)))])) []) (.need y4 (.need y6 (.need y4 (.code 0 [0,1,1,1,1,1,1,1,1,1,0,0] ⟨[(4,(.v (.one (.p (.int .i64 (I.add (I.add j (I.add m 1)) y0)))))),(5,(.v (.one (.p (.int .i64 y0))))),(7,(.v (.one (.ptr 2 0)))),(0,(.v (.one (.p (.str s))))),(2,(.v (.one (.ptr 0 0)))),(6,(.v (.one (.ptr 1 0))))],[y2,y5,y1],223,none⟩)))))))) (.need y3 (.br (I.ieq y0 0) (.fin (.ret (.tup [(.agg [(.p (.str ([]:Str))),(.p (.list .fld ([]:List Fld)))]),(.one (.p (.int .i64 5)))])) []) (.need y4 (.need y6 (.need y4 (.code 0 [0,1,1,1,1,1,1,1,1,1,0,0] ⟨[(4,(.v (.one (.p (.int .i64 (I.add (I.add j (I.add m 1)) y0)))))),(5,(.v (.one (.p (.int .i64 y0))))),(7,(.v (.one (.ptr 2 0)))),(0,(.v (.one (.p (.str s))))),(2,(.v (.one (.ptr 0 0)))),(6,(.v (.one (.ptr 1 0))))],[y2,y5,y1],223,none⟩)))))))))))) (by kernel_rfl) ?_
      simp only [zq]
      subst hI
      simp only [nrmA,nrmB]
      have f3:=Zt s j.toNat
      rw [show j.toNat+(tokS (s.drop j.toNat)).length=(j+m).toNat by omega] at f3
      have e1:(s.drop j.toNat).take ((j+m).toNat - j.toNat)=tokS (s.drop j.toNat):=by
        rw [show(j+m).toNat - j.toNat=(tokS (s.drop j.toNat)).length by omega]
        exact Xk isTk _
      have hml:=yF (s.drop j.toNat)
      have hp:parM (s.drop j.toNat)=if zC (s.drop (j+(m+1)).toNat) 34=true then(if(quoF (s.drop (j+(m+1)+1).toNat)).isSome=true then(0,⟨lowS (tokS (s.drop j.toNat)),quoV (s.drop (j+(m+1)+1).toNat)⟩,quoR (s.drop (j+(m+1)+1).toNat)) else(14,⟨[],[]⟩,[]))
          else if tokS (s.drop (j+(m+1)).toNat)=[] then(5,⟨[],[]⟩,tokE (s.drop (j+(m+1)).toNat)) else(0,⟨lowS (tokS (s.drop j.toNat)),tokS (s.drop (j+(m+1)).toNat)⟩,tokE (s.drop (j+(m+1)).toNat)):=by
        unfold parM
        rw [if_neg ht,← f3,if_neg (by rw [hq];simp),List.drop_drop,List.drop_drop,show(j+m).toNat+1=(j+(m+1)).toNat by omega,show(j+m).toNat+2=(j+(m+1)+1).toNat by omega]
      rw [hp] at hm
      rw [e1]
      rw [List.length_drop] at hml hjn
      have hnl:=yI (tokS (s.drop j.toNat))
      generalize lowS (tokS (s.drop j.toNat))=nm at *
      generalize hj3:j+(m+1)=p at *
      clear hp f3 ht hq e1 hA
      have hH:=uG s p (by omega) 34
      rw [show(((34:UInt8).toNat:Nat):Int)=34 from rfl] at hH
      have hT:tokS (s.drop p.toNat)=[]↔((tokS (s.drop p.toNat)).length:Int)=0:=by rw [← List.length_eq_zero_iff];omega
      have f4:=Zt s p.toNat
      have e2:(s.drop p.toNat).take ((p+(tokS (s.drop p.toNat)).length).toNat - p.toNat)=tokS (s.drop p.toNat):=by
        rw [show(p+((tokS (s.drop p.toNat)).length:Int)).toNat - p.toNat=(tokS (s.drop p.toNat)).length by omega]
        exact Xk isTk _
      have hml2:=yF (s.drop p.toNat)
      rw [List.length_drop] at hml2
      rw [show p.toNat+(tokS (s.drop p.toNat)).length=(p+((tokS (s.drop p.toNat)).length:Int)).toNat by omega] at f4
      rw [e2]
      have hsl:=yT (tokE (s.drop p.toNat))
      rw [← f4,List.length_drop] at hsl
      by_cases q1:zC (s.drop p.toNat) 34=true
      · have q2:=hH.1 q1
        rw [if_pos q1] at hm
        have hk:=keyQ (p+1) nm
        (repeat' (first|refine And.intro ?_ ?_|intro _))<;>first|omega|exact True.intro|exact False.elim ‹False›|skip
        all_goals first|omega|exact hk _ (by omega) (by omega) (by rw [List.length_drop];omega) hm (by kernel_rfl)|(exfalso;exact absurd q2.2 ‹_›)|trace_state
      · rw [if_neg q1] at hm
        have q2:p<s.length→¬ ((s.getD p.toNat 0).toNat:Int)=34:=fun a b=>q1 (hH.2 ⟨a,b⟩)
        by_cases q3:tokS (s.drop p.toNat)=[]
        · rw [if_pos q3] at hm
          have q4:=hT.1 q3
          simp only [medS,finL,ne_eq,reduceCtorEq,not_false_eq_true,if_true,if_false,Prod.mk.injEq,Med.mk.injEq,Int.reduceEq] at hm
          (repeat' (first|refine And.intro ?_ ?_|intro _))<;>first|omega|exact True.intro|exact False.elim ‹False›|skip
          all_goals first|omega|(simp [← hm.1.1,← hm.1.2,← hm.2];done)|(exfalso;exact q2 (by omega) ‹_›)|trace_state
        · rw [if_neg q3,← f4] at hm
          have q4: ¬ ((tokS (s.drop p.toNat)).length:Int)=0:=fun h=>q3 (hT.2 h)
          have hk:=key46 (p+((tokS (s.drop p.toNat)).length:Int)) nm (tokS (s.drop p.toNat)) (by omega) (by omega) (by omega) hm
          (repeat' (first|refine And.intro ?_ ?_|intro _))<;>first|omega|exact True.intro|exact False.elim ‹False›|skip
          all_goals first|omega|(exfalso;exact q2 (by omega) ‹_›)|exact seam (by first|rfl|exact hI) zk mixed [zV,zU,yg,yc,xC,xB,yB,yA] hX [0,2,4,6,7] ⟨[(0,.v (.one (.p (.str s)))),(2,.v (.one (.ptr 0 0))),(4,.v (.one (.p (.int .i64 ((p+((tokS (s.drop p.toNat)).length:Int))))))),(6,.v (.one (.ptr 1 0))),(7,.v (.one (.ptr 2 0)))],[.pack [.obj 72 [(.p (.str ([]))),(.row 1)],.row .fld 98 ([])],.pack [.obj 72 [(.p (.str w)),(.row 1)],.row .fld 98 l],.pack [.obj 98 [(.p (.str nm)),(.p (.str ((tokS (s.drop p.toNat)))))]]],223,none⟩ (by kernel_rfl) (hk)|trace_state
    refine zh (let y2:=I.hid (α:=Int) (HAdd.hAdd i (Nat.cast (blkN (List.drop (Int.toNat i) s))));let y0:=I.hid (α:=Int) (HAdd.hAdd (I.add y2 1) (Nat.cast (blkN (List.drop (Int.toNat (I.add y2 1)) s))));let y1:=I.hid (α:=Int) (Nat.cast (List.length (tokS (List.drop (Int.toNat y0) s))));let y3:=I.inr Go.IntKind.i64 (I.add y0 y1);.need (I.hid (α:=(Prop)) (And (LE.le (List.length s) 1000000) (And (LE.le (0:Int) i) (LE.le i (Nat.cast (List.length s)))))) (.br (I.ieq y2 (I.len (α:=UInt8) s)) (.fin (.ret (.tup [(.agg [(.p (.str w)),(.p (.list .fld l))]),(.one (.p (.int .i64 0)))])) []) (.need (I.inb y2 (I.len (α:=UInt8) s)) (.br (I.bnot (I.ieq (I.b2i (I.get (α:=UInt8) s 0 y2)) 59)) (.fin (.ret (.tup [(.agg [(.p (.str ([]:Str))),(.p (.list .fld ([]:List Fld)))]),(.one (.p (.int .i64 5)))])) []) (.need (I.inr Go.IntKind.i64 (I.add y2 1)) (.need (I.hid (α:=(Prop)) (And (LE.le (List.length s) 1000000) (And (LE.le (0:Int) (I.add y2 1)) (LE.le (I.add y2 1) (Nat.cast (List.length s)))))) (.need (I.hid (α:=(Prop)) (And (LE.le (List.length s) 1000000) (And (LE.le (0:Int) y0) (LE.le y0 (Nat.cast (List.length s)))))) (.br (I.ieq y1 0) (.fin (.ret (.tup [(.agg [(.p (.str ([]:Str))),(.p (.list .fld ([]:List Fld)))]),(.one (.p (.int .i64 5)))])) []) (.need y3 (.br (I.ieq (I.add y0 y1) (I.len (α:=UInt8) s)) (.fin (.ret (.tup [(.agg [(.p (.str ([]:Str))),(.p (.list .fld ([]:List Fld)))]),(.one (.p (.int .i64 5)))])) []) (.need y3 (.need (I.inb (I.add y0 y1) (I.len (α:=UInt8) s)) (.br (I.bnot (I.ieq (I.b2i (I.get (α:=UInt8) s 0 (I.add y0 y1))) 61)) (.fin (.ret (.tup [(.agg [(.p (.str ([]:Str))),(.p (.list .fld ([]:List Fld)))]),(.one (.p (.int .i64 5)))])) []) (.code 0 [0,1,1,1,1,1,1,0] ⟨[(5,(.v (.one (.p (.int .i64 y1))))),(4,(.v (.one (.p (.int .i64 y0))))),(0,(.v (.one (.p (.str s))))),(2,(.v (.one (.ptr 0 0)))),(6,(.v (.one (.ptr 1 0))))],[(.pack [(.obj 72 [(.p (.str ([]:Str))),(.row 1)]),(.row .fld 98 ([]:List Fld))]),(.pack [(.obj 72 [(.p (.str w)),(.row 1)]),(.row .fld 98 l)])],223,none⟩)))))))))))))) (by kernel_rfl) ?_
    simp only [zq]
    subst hI
    simp only [nrmA,nrmB]
    have hb:=UC (s.drop i.toNat)
    rw [List.length_drop] at hb
    have f1:=Ux s i.toNat
    generalize hj1:i+(blkN (s.drop i.toNat):Int)=j1
    rw [show i.toNat+blkN (s.drop i.toNat)=j1.toNat by omega] at f1
    have hb2:=UC (s.drop (j1+1).toNat)
    rw [List.length_drop] at hb2
    have f2:=Ux s (j1+1).toNat
    generalize hj2:j1+1+(blkN (s.drop (j1+1).toNat):Int)=j2
    rw [show(j1+1).toNat+blkN (s.drop (j1+1).toNat)=j2.toNat by omega] at f2
    rw [← f1] at hm hn
    rw [zcZ,List.drop_drop,show j1.toNat+1=(j1+1).toNat by omega,← f2] at hm
    have hH:=uG s j1 (by omega) 59
    rw [show(((59:UInt8).toNat:Nat):Int)=59 from rfl] at hH
    have hE:=drop_nil s j1 (by omega) (by omega)
    have f3:=Zt s j2.toNat
    have hT:tokS (s.drop j2.toNat)=[]↔((tokS (s.drop j2.toNat)).length:Int)=0:=by rw [← List.length_eq_zero_iff];omega
    have hml:=yF (s.drop j2.toNat)
    rw [List.length_drop] at hml hn
    have hP5:tokS (s.drop j2.toNat)=[]→parM (s.drop j2.toNat)=(5,⟨[],[]⟩,tokE (s.drop j2.toNat)):=fun h=>by unfold parM;rw [if_pos h]
    have hP6: ¬ tokS (s.drop j2.toNat)=[]→zC (tokE (s.drop j2.toNat)) 61=false→parM (s.drop j2.toNat)=(5,⟨[],[]⟩,tokE (s.drop j2.toNat)):=fun h k=>by unfold parM;rw [if_neg h,if_pos k]
    have hk:=key24 j2 (tokS (s.drop j2.toNat)).length
    generalize hm2:((tokS (s.drop j2.toNat)).length:Int)=m at *
    rw [show j2.toNat+(tokS (s.drop j2.toNat)).length=(j2+m).toNat by omega] at f3
    rw [← f3] at hP6
    have hH2:=uG s (j2+m) (by omega) 61
    rw [show(((61:UInt8).toNat:Nat):Int)=61 from rfl] at hH2
    clear hA
    by_cases q1:j1=s.length
    · have q2:=hE.2 q1
      have q3:zC (s.drop j1.toNat) 59=false:=by
        cases hh:zC (s.drop j1.toNat) 59 with
        |false=>rfl
        |true=>exact absurd (hH.1 hh).1 (by omega)
      rw [q3,if_neg Bool.false_ne_true,if_pos q2] at hm
      simp only [finL,if_true,Prod.mk.injEq,Med.mk.injEq] at hm
      (repeat' (first|refine And.intro ?_ ?_|intro _))<;>first|omega|exact True.intro|exact False.elim ‹False›|skip
      all_goals first|omega|(simp [hm];done)|trace_state
    have q2: ¬ s.drop j1.toNat=[]:=fun h=>q1 (hE.1 h)
    by_cases q3:zC (s.drop j1.toNat) 59=true
    · have q4:=hH.1 q3
      rw [if_pos q3] at hm
      by_cases q5:tokS (s.drop j2.toNat)=[]
      · rw [hP5 q5] at hm
        have q6:=hT.1 q5
        simp only [medS,finL,ne_eq,reduceCtorEq,not_false_eq_true,if_true,if_false,Prod.mk.injEq,Med.mk.injEq,Int.reduceEq] at hm
        (repeat' (first|refine And.intro ?_ ?_|intro _))<;>first|omega|exact True.intro|exact False.elim ‹False›|skip
        all_goals first|omega|(simp [← hm.1.1,← hm.1.2,← hm.2];done)|trace_state
      have q6: ¬ m=0:=fun h=>q5 (hT.2 h)
      cases q7:zC (s.drop (j2+m).toNat) 61 with
      | false=>
        rw [hP6 q5 q7] at hm
        simp only [medS,finL,ne_eq,reduceCtorEq,not_false_eq_true,if_true,if_false,Prod.mk.injEq,Med.mk.injEq,Int.reduceEq] at hm
        have q8:j2+m<s.length→¬ ((s.getD (j2+m).toNat 0).toNat:Int)=61:=fun a b=>by rw [hH2.2 ⟨a,b⟩] at q7;cases q7
        generalize((s.getD (j2+m).toNat 0).toNat:Int)=x at *
        (repeat' (first|refine And.intro ?_ ?_|intro _))<;>first|omega|exact True.intro|exact False.elim ‹False›|skip
        all_goals first|omega|(simp [← hm.1.1,← hm.1.2,← hm.2];done)|(exfalso;exact q8 (by omega) ‹_›)|trace_state
      | true=>
        have q8:=hH2.1 q7
        have hk2:=hk (by omega) q8.1 rfl q5 q7 (by rw [List.length_drop];omega) hm
        (repeat' (first|refine And.intro ?_ ?_|intro _))<;>first|omega|exact True.intro|exact False.elim ‹False›|skip
        all_goals first|omega|(exfalso;exact absurd q8.2 ‹_›)|exact seam (by first|rfl|exact hI) zk mixed [zV,zU,yg,yc,xC,xB,yB,yA] hX [0,2,4,5,6] ⟨[(0,.v (.one (.p (.str s)))),(2,.v (.one (.ptr 0 0))),(4,.v (.one (.p (.int .i64 j2)))),(5,.v (.one (.p (.int .i64 m)))),(6,.v (.one (.ptr 1 0)))],[.pack [.obj 72 [(.p (.str ([]))),(.row 1)],.row .fld 98 ([])],.pack [.obj 72 [(.p (.str w)),(.row 1)],.row .fld 98 l]],223,none⟩ (by kernel_rfl) (hk2)|trace_state
    · have q4:j1<s.length→¬ ((s.getD j1.toNat 0).toNat:Int)=59:=fun a b=>q3 (hH.2 ⟨a,b⟩)
      rw [if_neg q3,if_neg q2] at hm
      simp only [medS,finL,ne_eq,reduceCtorEq,not_false_eq_true,if_true,if_false,Prod.mk.injEq,Med.mk.injEq,Int.reduceEq] at hm
      have q5:=q4 (by omega)
      (repeat' (first|refine And.intro ?_ ?_|intro _))<;>first|omega|exact True.intro|exact False.elim ‹False›|skip
      all_goals first|omega|(simp [← hm.1.1,← hm.1.2,← hm.2];done)|(exfalso;exact q5 ‹_›)|trace_state
  have key9: ∀ (i:Int) (w:Str),0≤i→i≤s.length→w.length≤1000000→finM (if zC (s.drop i.toNat) 47=true then(if tokS (s.drop (i+1).toNat)=[] then(5,⟨[],[]⟩,tokE (s.drop (i+1).toNat)) else medB (w++([47]++lowS (tokS (s.drop (i+1).toNat)))) (tokE (s.drop (i+1).toNat))) else medB w (s.drop i.toNat))=(⟨pw,ps⟩,c)→Ok Tryd.prog X (fun o h=>o=AOut.ret (D.tup [V0.agg [C.p (P.str pw),C.p (P.list U.fld ps)],V0.one (C.p (P.int IntKind.i64 c))])∧h=[]) (go I tab { cfgM with seam:=[9,24,46],keep:=some [0,2,3,4,5,6,7,8,9]} [zV,zU,yg,yc,xC,xB,yB,yA] [⟨xk Tryd.f32,finK I tab { cfgM with seam:=[9,24,46],keep:=some [0,2,3,4,5,6,7,8,9]} 0 Tryd.f32⟩] 0 [1,1,1,1,1,1,1,0,0] ⟨[(0,.v (.one (.p (.str s)))),(2,.v (.one (.ptr 0 0))),(4,.v (.one (.p (.int .i64 i)))),(6,.v (.one (.ptr 1 0)))],[.pack [.obj 72 [(.p (.str ([]))),(.row 1)],.row .fld 98 ([])],.pack [.obj 72 [(.p (.str w)),(.row 1)],.row .fld 98 ([])]],223,none⟩):=by
    intro i w h0 h1 hw hm
    refine zh (let y0:=I.hid (α:=Int) (Nat.cast (List.length (tokS (List.drop (Int.toNat (I.add i 1)) s))));let y1:=I.hid (α:=Str) (lowS (I.cut (α:=UInt8) s (I.add i 1) (I.add (I.add i 1) y0)));let y2:HO:=.pack [(.obj 72 [(.p (.str ([]:Str))),(.row 1)]),(.row .fld 98 ([]:List Fld))];let y3:=I.hid (α:=(Prop)) (LE.le (List.length (I.cut (α:=UInt8) s (I.add i 1) (I.add (I.add i 1) y0))) 1000000);let y4:=I.few (I.add (I.len (α:=UInt8) w) (I.len (α:=UInt8) (I.app (α:=UInt8) ([47]:Str) y1))) 1000000000;let y5:HO:=.obj 72 [(.p (.str (I.app (α:=UInt8) w (I.app (α:=UInt8) ([47]:Str) y1)))),(.row 2)];let y6:=I.few (I.add (I.len (α:=UInt8) ([47]:Str)) (I.len (α:=UInt8) y1)) 1000000000;let y7:HO:=.pack [(.obj 72 [(.p (.str w)),(.row 1)]),(.row .fld 98 ([]:List Fld))];let y8:=I.inr Go.IntKind.i64 (I.add i 1);let y9:=I.inr Go.IntKind.i64 (I.add i (I.add 1 y0));let y10:=I.inr Go.IntKind.i64 (I.add 1 y0);.br (I.ilt i (I.len (α:=UInt8) s)) (.need (I.inb i (I.len (α:=UInt8) s)) (.br (I.ieq (I.b2i (I.get (α:=UInt8) s 0 i)) 47) (.need y8 (.need (I.hid (α:=(Prop)) (And (LE.le (List.length s) 1000000) (And (LE.le (0:Int) (I.add i 1)) (LE.le (I.add i 1) (Nat.cast (List.length s)))))) (.br (I.ieq y0 0) (.fin (.ret (.tup [(.agg [(.p (.str ([]:Str))),(.p (.list .fld ([]:List Fld)))]),(.one (.p (.int .i64 5)))])) []) (.need y8 (.need y8 (.need (I.inr Go.IntKind.i64 (I.add (I.add i 1) y0)) (.need (I.cutb (I.add i 1) (I.add (I.add i 1) y0) (I.len (α:=UInt8) s)) (.both (.need y3 (.need y6 (.need y4 (.need y10 (.need y9 (.code 0 [1,1,1,1,1,1,1,1,0] ⟨[(4,(.v (.one (.p (.int .i64 (I.add i (I.add 1 y0))))))),(5,(.v (.one (.p (.int .i64 y0))))),(0,(.v (.one (.p (.str s))))),(2,(.v (.one (.ptr 0 0)))),(6,(.v (.one (.ptr 1 0))))],[y2,y5,(.row .fld 98 ([]:List Fld))],223,none⟩)))))) (.need y3 (.need y6 (.need y4 (.need y10 (.need y9 (.code 0 [1,1,1,1,1,1,1,1,0] ⟨[(4,(.v (.one (.p (.int .i64 (I.add i (I.add 1 y0))))))),(5,(.v (.one (.p (.int .i64 y0))))),(0,(.v (.one (.p (.str s))))),(2,(.v (.one (.ptr 0 0)))),(6,(.v (.one (.ptr 1 0))))],[y2,y5,(.row .fld 98 ([]:List Fld))],223,none⟩)))))))))))))) (.code 0 [1,1,1,1,1,1,1,1,0] ⟨[(0,(.v (.one (.p (.str s))))),(2,(.v (.one (.ptr 0 0)))),(4,(.v (.one (.p (.int .i64 i))))),(6,(.v (.one (.ptr 1 0))))],[y2,y7],223,none⟩))) (.code 0 [1,1,1,1,1,1,1,1,0] ⟨[(0,(.v (.one (.p (.str s))))),(2,(.v (.one (.ptr 0 0)))),(4,(.v (.one (.p (.int .i64 i))))),(6,(.v (.one (.ptr 1 0))))],[y2,y7],223,none⟩)) (by kernel_rfl) ?_
    simp only [zq]
    subst hI
    simp only [nrmA,nrmB]
    have hH:=uG s i h0 47
    rw [show(((47:UInt8).toNat:Nat):Int)=47 from rfl] at hH
    have hT:tokS (s.drop (i+1).toNat)=[]↔((tokS (s.drop (i+1).toNat)).length:Int)=0:=by rw [← List.length_eq_zero_iff];omega
    have f4:=Zt s (i+1).toNat
    have e2:(s.drop (i+1).toNat).take ((i+1+(tokS (s.drop (i+1).toNat)).length).toNat - (i+1).toNat)=tokS (s.drop (i+1).toNat):=by
      rw [show(i+1+((tokS (s.drop (i+1).toNat)).length:Int)).toNat - (i+1).toNat=(tokS (s.drop (i+1).toNat)).length by omega]
      exact Xk isTk _
    have hml2:=yF (s.drop (i+1).toNat)
    rw [List.length_drop] at hml2
    rw [show(i+1).toNat+(tokS (s.drop (i+1).toNat)).length=(i+(1+((tokS (s.drop (i+1).toNat)).length:Int))).toNat by omega] at f4
    rw [e2]
    have hll:=yI (tokS (s.drop (i+1).toNat))
    by_cases q1:zC (s.drop i.toNat) 47=true
    · have q2:=hH.1 q1
      rw [if_pos q1] at hm
      by_cases q3:tokS (s.drop (i+1).toNat)=[]
      · rw [if_pos q3] at hm
        have q4:=hT.1 q3
        simp only [finM,ne_eq,reduceCtorEq,not_false_eq_true,if_true,if_false,Prod.mk.injEq,Med.mk.injEq,Int.reduceEq] at hm
        (repeat' (first|refine And.intro ?_ ?_|intro _))<;>first|omega|exact True.intro|exact False.elim ‹False›|skip
        all_goals first|omega|(simp [← hm.1.1,← hm.1.2,← hm.2];done)|(exfalso;exact absurd q2.2 ‹_›)|trace_state
      · rw [if_neg q3,← f4] at hm
        have q4: ¬ ((tokS (s.drop (i+1).toNat)).length:Int)=0:=fun h=>q3 (hT.2 h)
        (repeat' (first|refine And.intro ?_ ?_|intro _))<;>first|omega|exact True.intro|exact False.elim ‹False›|skip
        all_goals first|omega|(exfalso;exact absurd q2.2 ‹_›)|exact keyL _ _ _ (by omega) (by omega) hm (by kernel_rfl)|(simp only [List.length_append,List.length_cons,List.length_nil];omega)|trace_state
    · rw [if_neg q1] at hm
      have q2:i<s.length→¬ ((s.getD i.toNat 0).toNat:Int)=47:=fun a b=>q1 (hH.2 ⟨a,b⟩)
      (repeat' (first|refine And.intro ?_ ?_|intro _))<;>first|omega|exact True.intro|exact False.elim ‹False›|skip
      all_goals first|omega|(exfalso;exact q2 (by omega) ‹_›)|exact keyL _ _ _ h0 h1 hm (by kernel_rfl)|trace_state
  clear keyL
  subst hI
  simp only [nrmA,nrmB]
  rw [Int.zero_add]
  unfold zN zY medA at hr
  have f1:=Ux s 0
  have hb:=UC s
  rw [Nat.zero_add,List.drop_zero] at f1
  rw [show((blkN s:Int)).toNat=blkN s by omega]
  rw [f1]
  have f2:=Zt s (blkN s)
  rw [f1] at f2
  have hml:=yF (skS s)
  have hll:=yI (tokS (skS s))
  have hsl:(skS s).length=s.length - blkN s:=by rw [← f1,List.length_drop]
  have e1:(skS s).take (((blkN s:Int)+(tokS (skS s)).length).toNat - blkN s)=tokS (skS s):=by
    rw [show((blkN s:Int)+((tokS (skS s)).length:Int)).toNat - blkN s=(tokS (skS s)).length by omega]
    exact Xk isTk _
  rw [e1]
  have hk:=key9 ((blkN s:Int)+(tokS (skS s)).length) (lowS (tokS (skS s))) (by omega) (by omega) (by omega)
  clear key9
  by_cases hs:wF s=true
  · rw [if_neg (by rw [hs];simp)] at hr
    by_cases q:tokS (skS s)=[]
    · have q2:((tokS (skS s)).length:Int)=0:=by rw [q];rfl
      rw [if_pos q] at hr
      simp only [if_false,Prod.mk.injEq,Med.mk.injEq,Int.reduceEq] at hr
      (repeat' (first|refine And.intro ?_ ?_|intro _))<;>first|omega|exact True.intro|exact False.elim ‹False›|skip
      all_goals first|omega|(simp [← hr.1.1,← hr.1.2,← hr.2];done)|(simp_all;done)|trace_state
    · have q2: ¬ ((tokS (skS s)).length:Int)=0:=fun h=>q (List.length_eq_zero_iff.1 (by omega))
      rw [if_neg q] at hr
      have hk2:=hk (by
        rw [show((blkN s:Int)+((tokS (skS s)).length:Int)).toNat=blkN s+(tokS (skS s)).length by omega,f2,show((blkN s:Int)+((tokS (skS s)).length:Int)+1).toNat=blkN s+(tokS (skS s)).length+1 by omega,← List.drop_drop,f2]
        exact hr)
      (repeat' (first|refine And.intro ?_ ?_|intro _))<;>first|omega|exact True.intro|exact False.elim ‹False›|skip
      all_goals first|omega|(simp_all;done)|exact seam (by first|rfl|exact hI) zk mixed [zV,zU,yg,yc,xC,xB,yB,yA] hX [0,2,4,6] ⟨[(0,.v (.one (.p (.str s)))),(2,.v (.one (.ptr 0 0))),(4,.v (.one (.p (.int .i64 (((blkN s:Int)+((tokS (skS s)).length:Int))))))),(6,.v (.one (.ptr 1 0)))],[.pack [.obj 72 [(.p (.str ([]))),(.row 1)],.row .fld 98 ([])],.pack [.obj 72 [(.p (.str ((lowS (tokS (skS s)))))),(.row 1)],.row .fld 98 ([])]],223,none⟩ (by kernel_rfl) (hk2)|trace_state
  · have hs:wF s=false:=by simpa using hs
    rw [if_pos hs] at hr
    simp only [Prod.mk.injEq,Med.mk.injEq] at hr
    (repeat' (first|refine And.intro ?_ ?_|intro _))<;>first|omega|exact True.intro|exact False.elim ‹False›|skip
    all_goals first|omega|(simp [← hr.1.1,← hr.1.2,← hr.2];done)|(simp_all;done)|trace_state
def qU (I:Alg) (args:List D) (hp:List HO):Option CT:=match args,hp with
  |[.v (.one (.p (.str s)))],[]=>(fun(s:Str)=>(some (.one ⟨I.hid (s.length≤1000000),(.ret (.tup [(.agg [(.p (.str (I.hid ((zN s).1.word)))),(.p (.list .fld (I.hid ((zN s).1.params))))]),(.one (.p (.int .i64 (I.hid ((zN s).2)))))])),[]⟩):Option CT)) s
  |_,_=>none
theorem U7:zx Tryd.prog 32 (qU alg):=by
  intro args hp r h
  unfold qU at h
  split at h
  · cases h;exact fun hn=>zf5 _ hn
  · cases h
def Xx:Know Tryd.prog:=⟨32,qU,U7⟩
def Xw:Know Tryd.prog:=⟨32,fun I=>zA I (qU I),zf U7⟩
end Go.Proofs.YtknaogelmckimaaDoor
namespace Go.Proofs.YtknaogelmckimaaDoor
open Go Go.Sep Go.Ab
set_option maxRecDepth 100000
end Go.Proofs.YtknaogelmckimaaDoor
namespace Go.Proofs.YtknaogelmckimaaDoor
open Go Go.Sep Go.Ab
set_option maxRecDepth 100000
def ptB (a b c d a2 b2 c2 d2:Str):Bool:=decide ((⟨a,b,c,d⟩:Prt)=⟨a2,b2,c2,d2⟩)
theorem zfY (a b c d a2 b2 c2 d2:Str):Spc Tryd.prog 16 [.v (.agg [(.p (.str a)),(.p (.str b)),(.p (.str c)),(.p (.nl d))]),.v (.agg [(.p (.str a2)),(.p (.str b2)),(.p (.str c2)),(.p (.nl d2))])] [] (.ret (.v (.one (.p (.bool ((ptB a b c d a2 b2 c2 d2))))))) []:=by
  refine spcG zk mixed Tryd.func16 (by kernel_rfl) { keep:=some [0,1,2,3,4]} [U2,U1] (by kernel_rfl) ?_
  intro I X hI hX
  refine zh (.br (I.seq a a2) (.br (I.seq b b2) (.br (I.seq c c2) (.need (I.hid (α:=(Prop)) True) (.fin (.ret (.v (.one (.p (.bool (I.hid (α:=Bool) (BEq.beq d d2))))))) [])) (.fin (.ret (.v (.one (.p (.bool Bool.false))))) [])) (.fin (.ret (.v (.one (.p (.bool Bool.false))))) [])) (.fin (.ret (.v (.one (.p (.bool Bool.false))))) [])) (by kernel_rfl) ?_
  simp only [zq]
  subst hI
  simp only [nrmA,nrmB,nrlB,reduceCtorEq]
  unfold ptB
  rw [show decide ((⟨a,b,c,d⟩:Prt)=⟨a2,b2,c2,d2⟩)=(decide (a=a2)&&decide (b=b2)&&decide (c=c2)&&(d == d2)) by rw [Bool.eq_iff_iff];simp only [Prt.mk.injEq,decide_eq_true_iff,Bool.and_eq_true,beq_iff_eq];constructor<;>(intro h;simp [h])]
  (repeat' (first|refine And.intro ?_ ?_|intro _))<;>first|omega|exact True.intro|exact False.elim ‹False›|skip
  all_goals first|(simp_all;done)|trace_state
def qK (I:Alg) (args:List D) (hp:List HO):Option CT:=match args,hp with
  |[.v (.agg [(.p (.str a)),(.p (.str b)),(.p (.str c)),(.p (.nl d))]),.v (.agg [(.p (.str a2)),(.p (.str b2)),(.p (.str c2)),(.p (.nl d2))])],[]=>(fun(a b c d a2 b2 c2 d2:Str)=>(some (.one ⟨I.hid (True),(.ret (.v (.one (.p (.bool (I.hid ((ptB a b c d a2 b2 c2 d2)))))))),[]⟩):Option CT)) a b c d a2 b2 c2 d2
  |_,_=>none
theorem U0:zx Tryd.prog 16 (qK alg):=by
  intro args hp r h
  unfold qK at h
  split at h
  · cases h;exact fun hn=>zfY _ _ _ _ _ _ _ _
  · cases h
def zcC:Know Tryd.prog:=⟨16,qK,U0⟩
def zcB:Know Tryd.prog:=⟨16,fun I=>zA I (qK I),zf U0⟩
end Go.Proofs.YtknaogelmckimaaDoor
namespace Go.Proofs.YtknaogelmckimaaDoor
open Go Go.Sep Go.Ab
set_option maxRecDepth 100000
theorem zgD {l:List Fld} {i:Nat} {n:Str} (h:i<l.length) (k: ∀ x ∈ l.take i,x.name≠n) (e:(l.getD i ⟨[],[]⟩).name=n):getP l n=((l.getD i ⟨[],[]⟩).value,true):=by
  have hs:l=l.take i++l.getD i ⟨[],[]⟩::l.drop (i+1):=by
    have:l.getD i ⟨[],[]⟩=l[i]:=by simp [h]
    rw [this,← List.drop_eq_getElem_cons h,List.take_append_drop]
  generalize l.getD i ⟨[],[]⟩=f at *
  unfold getP
  rw [hs,List.find?_append,List.find?_eq_none.2 (fun x hx=>by simpa using k x hx),List.find?_cons_of_pos (by simpa using e)]
  rfl
theorem zf4 (w:Str) (l:List Fld) (n:Str) (hneed:l.length≤1000000):Spc Tryd.prog 33 [.v (.agg [(.p (.str w)),(.p (.list .fld l))]),.v (.one (.p (.str n)))] [] (.ret (.tup [(.one (.p (.str ((getP l n).1)))),(.one (.p (.bool ((getP l n).2))))])) []:=by
  generalize hr:getP l n=r
  refine spcG zk mixed Tryd.func33 (by kernel_rfl) { keep:=some [0,1,2,4,5,6]} [] (by kernel_rfl) ?_
  intro I X hI hX
  refine zh (.code 0 [1,0,1,0] ⟨[(6,(.v (.one (.p (.int .i64 0))))),(5,(.v (.one (.p (.val (.bool .false)))))),(4,(.v (.one (.p (.str ([]:Str)))))),(2,(.v (.one (.ptr 0 0)))),(0,(.v (.agg [(.p (.str w)),(.p (.list .fld l))]))),(1,(.v (.one (.p (.str n)))))],[(.obj 72 [(.p (.str w)),(.p (.list .fld l))])],28,none⟩) (by kernel_rfl) ?_
  simp only [zq]
  refine zu hI zk mixed [] hX [1,2,6] (fun(i:Nat)=>i≤l.length∧∀ x ∈ l.take i,x.name≠n) (fun(i:Nat)=>⟨[(1,.v (.one (.p (.str n)))),(2,.v (.one (.ptr 0 0))),(6,.v (.one (.p (.int .i64 i))))],[.pack [.obj 72 [(.p (.str w)),(.p (.list .fld l))]]],28,none⟩) (fun(i:Nat)=>l.length - i) 0 (by kernel_rfl) (by kernel_rfl) ?_ ?_
  · exact⟨Nat.zero_le _,fun x hx=>absurd hx (by simp)⟩
  rintro i ⟨h1,h2⟩ A hA
  refine zh (let y0:=I.inb (Nat.cast i) (I.len (α:=Fld) l);let y1:=I.get (α:=Fld) l (Fld.mk ([]:Str) ([]:Str)) (Nat.cast i);.br (I.ilt (Nat.cast i) (I.len (α:=Fld) l)) (.need y0 (.need y0 (.br (I.seq (Fld.name y1) n) (.need y0 (.need y0 (.fin (.ret (.tup [(.one (.p (.str (Fld.value y1)))),(.one (.p (.bool Bool.true)))])) []))) (.need (I.inr Go.IntKind.i64 (I.add (Nat.cast i) 1)) (.need (A ⟨[(1,(.v (.one (.p (.str n))))),(2,(.v (.one (.ptr 0 0)))),(6,(.v (.one (.p (.int .i64 (I.add (Nat.cast i) 1))))))],[(.pack [(.obj 72 [(.p (.str w)),(.p (.list .fld l))])])],28,none⟩) .qed))))) (.fin (.ret (.tup [(.one (.p (.str ([]:Str)))),(.one (.p (.bool Bool.false)))])) [])) (by kernel_rfl) ?_
  simp only [zq]
  subst hI
  simp only [nrmA,nrmB,nrlB,reduceCtorEq]
  have hat:=fun(h:i<l.length) e=>zgD h h2 e
  have hmo:=fun(h:i<l.length) (e: ¬ (l.getD i ⟨[],[]⟩).name=n)=>hA (i+1) ⟨by omega,zct h ⟨[],[]⟩ h2 e⟩ (by omega)
  have hno: ¬ i<l.length→(getP l n).2=false:=fun h=>Qz.2 (by rw [← List.take_of_length_le (show l.length≤i by omega)];exact h2)
  have hno1: ¬ i<l.length→getP l n=([],false):=fun h=>by
    have e:=hno h
    unfold getP at *
    split at e
    · cases e
    · first|rfl|(rename_i q;rw [q])
  simp only [Int.natCast_add,Int.natCast_one] at hmo
  generalize l.getD i ⟨[],[]⟩=f at *
  (repeat' (first|refine And.intro ?_ ?_|intro _))<;>first|omega|exact True.intro|exact False.elim ‹False›|skip
  all_goals first
    |omega
    |(rw [hat (by omega) ‹_›] at hr;subst hr;with_reducible rfl)
    |(rw [hno1 (by omega)] at hr;subst hr;with_reducible rfl)
    |with_reducible exact hmo (by omega) ‹_›
def qR (I:Alg) (args:List D) (hp:List HO):Option CT:=match args,hp with
  |[.v (.agg [(.p (.str w)),(.p (.list .fld l))]),.v (.one (.p (.str n)))],[]=>(fun(w:Str) (l:List Fld) (n:Str)=>(some (.one ⟨I.hid (l.length≤1000000),(.ret (.tup [(.one (.p (.str (I.hid ((getP l n).1))))),(.one (.p (.bool (I.hid ((getP l n).2)))))])),[]⟩):Option CT)) w l n
  |_,_=>none
theorem U6:zx Tryd.prog 33 (qR alg):=by
  intro args hp r h
  unfold qR at h
  split at h
  · cases h;exact fun hn=>zf4 _ _ _ hn
  · cases h
def Xv:Know Tryd.prog:=⟨33,qR,U6⟩
def Xu:Know Tryd.prog:=⟨33,fun I=>zA I (qR I),zf U6⟩
end Go.Proofs.YtknaogelmckimaaDoor
namespace Go.Proofs.YtknaogelmckimaaDoor
open Go Go.Sep Go.Ab
set_option maxRecDepth 100000
theorem zft (v:List Str):((oneF v).2=9↔1<v.length)∧((oneF v).2=0↔v.length=1)∧(v.length=1→(oneF v).1=v.getD 0 []):=by
  unfold oneF
  by_cases h0:v.length=0
  · rw [if_pos h0]
    refine⟨⟨fun h=>absurd (show(10:Int)=9 from h) (by decide),fun h=>by omega⟩,⟨fun h=>absurd (show(10:Int)=0 from h) (by decide),fun h=>by omega⟩,fun h=>by omega⟩
  · rw [if_neg h0]
    by_cases h1:v.length=1
    · rw [if_pos h1]
      exact⟨⟨fun h=>absurd (show(0:Int)=9 from h) (by decide),fun h=>by omega⟩,⟨fun _=>h1,fun _=>rfl⟩,fun _=>rfl⟩
    · rw [if_neg h1]
      exact⟨⟨fun _=>by omega,fun _=>rfl⟩,⟨fun h=>absurd (show(9:Int)=0 from h) (by decide),fun h=>absurd h h1⟩,fun h=>absurd h h1⟩
theorem zh8 {s:Str} (h:s.length<7∨¬ lowS (s.take 7)=[117,116,102,45,56,39,39]):extB s=false:=by
  unfold extB extM
  rw [if_pos (show s.length<7∨lowS (s.take 7)≠utfS from h)];rfl
theorem zdL {s:Str} (h: ¬ s.length<7) (k:lowS (s.take 7)=[117,116,102,45,56,39,39]):extM s=pctM (s.drop 7):=by
  unfold extM
  rw [if_neg]
  rintro(e|e)
  · exact h e
  · exact e k
theorem zgd (v:List Str):partT (oneF v)=if v.length=1 then v.getD 0 [] else []:=by
  obtain⟨_,h2,h3⟩:=zft v
  unfold partT
  by_cases h:v.length=1
  · rw [if_pos h,if_pos (h2.2 h),h3 h]
  · rw [if_neg h,if_neg (fun e=>h (h2.1 e))]
theorem zhl (l:List Fld) (hneed:l.length≤1000∧∀ f ∈ l,f.name.length≤1000000∧f.value.length≤1000000):Spc Tryd.prog 15 [.v (.one (.p (.list .fld l)))] [] (.ret (.tup [(.agg [(.p (.str ((yw l).1.name))),(.p (.str ((yw l).1.file))),(.p (.str ((yw l).1.type))),.nilS]),(.one (.p (.int .i64 ((yw l).2))))])) []:=by
  obtain⟨hl,hf⟩:=hneed
  generalize hr:yw l=r
  refine spcG zk mixed Tryd.func15 (by kernel_rfl) { raw:=true,nr:=[14],keep:=some [0,2,3,4,5,6,7,8,9,10,11,12,13,14,15,16]} [yg,yc,um,ul,V8,V7,Uf,Ue,YN,YM,Xx,Xw,Xv,Xu] (by kernel_rfl) ?_
  intro I X hI hX
  refine zh (let y8:=([99,111,110,116,101,110,116,45,100,105,115,112,111,115,105,116,105,111,110]:Str);let y1:=I.hid (α:=Str) (Prod.fst (oneF (valsF l y8)));let y0:=I.hid (α:=(List Fld)) (Go.Ab.Med.params (Prod.fst (zN y1)));let y2:=I.hid (α:=(List (Str))) (valsF l ([99,111,110,116,101,110,116,45,116,121,112,101]:Str));let y3:=I.hid (α:=Str) (Prod.fst (getP y0 ([102,105,108,101,110,97,109,101,42]:Str)));let y4:=I.hid (α:=Str) (Prod.fst (getP y0 ([110,97,109,101]:Str)));let y5:=I.hid (α:=Str) (Prod.fst (getP y0 ([102,105,108,101,110,97,109,101]:Str)));let y6:=I.hid (α:=Bool) (Prod.snd (getP y0 ([102,105,108,101,110,97,109,101,42]:Str)));let y7:=I.hid (α:=(Prop)) (And (LE.le (List.length l) 1000) (And (LE.le (List.length ([99,111,110,116,101,110,116,45,116,121,112,101]:Str)) 1000000) (∀ (f:Fld),f ∈ l→List.length f.name≤1000000∧List.length f.value≤1000000)));let y9:=I.hid (α:=Bool) (Prod.snd (getP y0 ([102,105,108,101,110,97,109,101]:Str)));let y10:=I.hid (α:=(Prop)) (LE.le (List.length y0) 1000000);let y11:=I.hid (α:=Bool) (Prod.snd (getP y0 ([110,97,109,101]:Str)));let y12:=I.hid (α:=Int) (Prod.snd (zN y1));let y13:=I.hid (α:=Str) (Go.Ab.Med.word (Prod.fst (zN y1)));let y14:=I.bnot (I.seq (I.hid (α:=Str) (lowS (I.cut (α:=UInt8) y3 0 7))) ([117,116,102,45,56,39,39]:Str));let y15:HO:=.obj 39 [(.p (.str ([]:Str))),(.p (.str ([]:Str))),(.p (.str ([]:Str))),.nilS];let y16:=I.hid (α:=(Prop)) (LE.le (List.length (I.cut (α:=UInt8) y3 0 7)) 1000000);let y17:=I.hid (α:=Int) (Prod.snd (oneF (valsF l y8)));let y18:HO:=.obj 72 [(.p (.str y13)),(.p (.list .fld y0))];let y19:=I.cutb 0 7 (I.len (α:=UInt8) y3);let y20:=I.get (α:=Str) y2 ([]:Str) 0;.need (I.hid (α:=(Prop)) (And (LE.le (List.length l) 1000) (And (LE.le (List.length y8) 1000000) (∀ (f:Fld),f ∈ l→List.length f.name≤1000000∧List.length f.value≤1000000)))) (.br (I.bnot (I.ieq y17 0)) (.fin (.ret (.tup [(.agg [(.p (.str ([]:Str))),(.p (.str ([]:Str))),(.p (.str ([]:Str))),.nilS]),(.one (.p (.int .i64 y17)))])) []) (.need (I.hid (α:=(Prop)) (LE.le (List.length y1) 1000000)) (.br (I.bnot (I.ieq y12 0)) (.fin (.ret (.tup [(.agg [(.p (.str ([]:Str))),(.p (.str ([]:Str))),(.p (.str ([]:Str))),.nilS]),(.one (.p (.int .i64 y12)))])) []) (.br (I.bnot (I.seq y13 ([102,111,114,109,45,100,97,116,97]:Str))) (.fin (.ret (.tup [(.agg [(.p (.str ([]:Str))),(.p (.str ([]:Str))),(.p (.str ([]:Str))),.nilS]),(.one (.p (.int .i64 11)))])) []) (.need y10 (.br (I.bnot y11) (.fin (.ret (.tup [(.agg [(.p (.str ([]:Str))),(.p (.str ([]:Str))),(.p (.str ([]:Str))),.nilS]),(.one (.p (.int .i64 6)))])) []) (.need y10 (.br y9 (.need (I.hid (α:=(Prop)) (LE.le (List.length y5) 1000000)) (.need y10 (.br y6 (.br (I.ilt (I.len (α:=UInt8) y3) 7) (.fin (.ret (.tup [(.agg [(.p (.str ([]:Str))),(.p (.str ([]:Str))),(.p (.str ([]:Str))),.nilS]),(.one (.p (.int .i64 5)))])) []) (.need y19 (.need y16 (.br y14 (.fin (.ret (.tup [(.agg [(.p (.str ([]:Str))),(.p (.str ([]:Str))),(.p (.str ([]:Str))),.nilS]),(.one (.p (.int .i64 5)))])) []) (.code 0 [1,1,1,1,1,1,1,1,1,1,0,1,1,0,1,1,0,1,0] ⟨[(15,(.v (.one (.p (.int .i64 7))))),(14,(.v (.one (.row 3)))),(13,(.v (.one (.p (.bool y6))))),(12,(.v (.one (.p (.str y3))))),(11,(.v (.one (.p (.bool y9))))),(10,(.v (.one (.p (.str y5))))),(9,(.v (.one (.ptr 2 0)))),(8,(.v (.one (.p (.bool y11))))),(7,(.v (.one (.p (.str y4))))),(5,(.v (.one (.p (.int .i64 y12))))),(6,(.v (.one (.ptr 1 0)))),(4,(.v (.one (.p (.str y1))))),(3,(.v (.one (.p (.int .i64 0))))),(2,(.v (.one (.ptr 0 0)))),(0,(.v (.one (.p (.list .fld l)))))],[y15,y18,(.obj 39 [(.p (.str y4)),(.p (.str (I.hid (α:=Str) (xZ y5)))),(.p (.str ([]:Str))),.nilS]),(.row .byte 5 ([]:Str))],148,none⟩))))) (.need y7 (.br (I.ilt 1 (I.len (α:=Str) y2)) (.fin (.ret (.tup [(.agg [(.p (.str ([]:Str))),(.p (.str ([]:Str))),(.p (.str ([]:Str))),.nilS]),(.one (.p (.int .i64 9)))])) []) (.br (I.ieq (I.len (α:=Str) y2) 1) (.need (I.inb 0 (I.len (α:=Str) y2)) (.need (I.inb 0 (I.len (α:=Str) y2)) (.fin (.ret (.tup [(.agg [(.p (.str y4)),(.p (.str (I.hid (α:=Str) (xZ y5)))),(.p (.str y20)),.nilS]),(.one (.p (.int .i64 0)))])) []))) (.fin (.ret (.tup [(.agg [(.p (.str y4)),(.p (.str (I.hid (α:=Str) (xZ y5)))),(.p (.str ([]:Str))),.nilS]),(.one (.p (.int .i64 0)))])) []))))))) (.need y10 (.br y6 (.br (I.ilt (I.len (α:=UInt8) y3) 7) (.fin (.ret (.tup [(.agg [(.p (.str ([]:Str))),(.p (.str ([]:Str))),(.p (.str ([]:Str))),.nilS]),(.one (.p (.int .i64 5)))])) []) (.need y19 (.need y16 (.br y14 (.fin (.ret (.tup [(.agg [(.p (.str ([]:Str))),(.p (.str ([]:Str))),(.p (.str ([]:Str))),.nilS]),(.one (.p (.int .i64 5)))])) []) (.code 0 [1,1,1,1,1,1,1,1,1,1,0,1,1,0,1,1,0,1,0] ⟨[(15,(.v (.one (.p (.int .i64 7))))),(14,(.v (.one (.row 3)))),(13,(.v (.one (.p (.bool y6))))),(12,(.v (.one (.p (.str y3))))),(11,(.v (.one (.p (.bool y9))))),(10,(.v (.one (.p (.str y5))))),(9,(.v (.one (.ptr 2 0)))),(8,(.v (.one (.p (.bool y11))))),(7,(.v (.one (.p (.str y4))))),(5,(.v (.one (.p (.int .i64 y12))))),(6,(.v (.one (.ptr 1 0)))),(4,(.v (.one (.p (.str y1))))),(3,(.v (.one (.p (.int .i64 0))))),(2,(.v (.one (.ptr 0 0)))),(0,(.v (.one (.p (.list .fld l)))))],[y15,y18,(.obj 39 [(.p (.str y4)),(.p (.str ([]:Str))),(.p (.str ([]:Str))),.nilS]),(.row .byte 5 ([]:Str))],148,none⟩))))) (.need y7 (.br (I.ilt 1 (I.len (α:=Str) y2)) (.fin (.ret (.tup [(.agg [(.p (.str ([]:Str))),(.p (.str ([]:Str))),(.p (.str ([]:Str))),.nilS]),(.one (.p (.int .i64 9)))])) []) (.br (I.ieq (I.len (α:=Str) y2) 1) (.need (I.inb 0 (I.len (α:=Str) y2)) (.need (I.inb 0 (I.len (α:=Str) y2)) (.fin (.ret (.tup [(.agg [(.p (.str y4)),(.p (.str ([]:Str))),(.p (.str y20)),.nilS]),(.one (.p (.int .i64 0)))])) []))) (.fin (.ret (.tup [(.agg [(.p (.str y4)),(.p (.str ([]:Str))),(.p (.str ([]:Str))),.nilS]),(.one (.p (.int .i64 0)))])) []))))))))))))))) (by kernel_rfl) ?_
  simp only [zq]
  try rw [show([99,111,110,116,101,110,116,45,100,105,115,112,111,115,105,116,105,111,110]:Str)=yR from rfl]
  try rw [show([99,111,110,116,101,110,116,45,116,121,112,101]:Str)=Zx from rfl]
  try rw [show([102,111,114,109,45,100,97,116,97]:Str)=Rn from rfl]
  try rw [show([102,105,108,101,110,97,109,101,42]:Str)=Yx from rfl]
  try rw [show([102,105,108,101,110,97,109,101]:Str)=QF from rfl]
  try rw [show([110,97,109,101]:Str)=zcX from rfl]
  have hk1:yR.length≤1000000:=by decide
  have hk2:Zx.length≤1000000:=by decide
  have hv:=zaL (fun f h=>(hf f h).2) yR
  have hp:=Td (oneF (valsF l yR)).1
  have hg:=fun n=>za5 hp.2 n
  have hg1:=hg Yx
  have hg2:=hg QF
  have ht1:=(zft (valsF l Zx)).1
  have ht2:=zgd (valsF l Zx)
  unfold yw at hr
  have hpl:=hp.1
  clear hp hg
  have hh: ∀ {α:Type} (y:α),I.hid y=y:=fun y=>by subst hI;rfl
  simp only [hh]
  generalize hTT:valsF l Zx=T at *
  generalize getP (zN (oneF (valsF l yR)).1).1.params Yx=x at *
  generalize getP (zN (oneF (valsF l yR)).1).1.params QF=f at *
  generalize getP (zN (oneF (valsF l yR)).1).1.params zcX=n at *
  generalize zN (oneF (valsF l yR)).1=m at *
  generalize oneF (valsF l yR)=a at *
  unfold zeH zge at hr
  rw [ht2] at hr
  clear ht2
  have hT1:(1<T.length)↔((1:Int)<(T.length:Int)):=by omega
  have hT2:(T.length=1)↔((T.length:Int)=1):=by omega
  simp only [ht1,hT1,hT2] at hr
  clear ht1 hT1 hT2
  (repeat' (first|refine And.intro ?_ ?_|intro _))
  all_goals try(subst hI;(simp only [nrmA,nrmB,nrlB,reduceCtorEq] at *);first
    |done
    |with_reducible exact True.intro
    |omega
    |exact hl
    |exact hk1
    |exact hk2
    |exact(hf _ ‹_›).1
    |exact(hf _ ‹_›).2
    |(simp only [List.length_take];omega)
    | (have hE:extB x.1=false:=zh8 (by first|exact .inl (by omega)|exact .inr ‹_›)
       subst hr;clear hf hX hv hg1 hg2 hpl hl hk1 hk2;simp [*,prt0];done)
    |(subst hr;clear hf hX hv hg1 hg2 hpl hl hk1 hk2;simp [*,prt0];done))
  · have hx:x.2=true∧¬ x.1.length<7∧lowS (x.1.take 7)=[117,116,102,45,56,39,39]∧a.2=0∧m.2=0∧m.1.word=Rn∧n.2=true:=by
      subst hI
      simp only [nrmA,nrmB,nrlB,reduceCtorEq] at *
      exact⟨‹_›,by omega,‹_›,‹_›,‹_›,‹_›,‹_›⟩
    obtain⟨q1,q2,q3,q4,q5,q6,q7⟩:=hx
    rw [if_neg (fun h=>h q4),if_neg (fun h=>h q5),if_neg (fun h=>h q6),if_neg (fun h=>absurd (q7.symm.trans h) (by decide))] at hr
    simp only [q1,true_and,if_true] at hr
    have hE:=zdL q2 q3
    have hxl:x.1.length≤1000000:=by omega
    generalize x.1=X at *
    generalize n.1=NM at *
    generalize xZ f.1=FL at *
    clear q1 q3 q4 q5 q6 q7 hv hg1 hg2 hpl
    refine zu hI zk mixed [yg,yc,um,ul,V8,V7,Uf,Ue,YN,YM,Xx,Xw,Xv,Xu] hX [0,2,9,12,14,15] (fun(g:Nat × Str)=>match g with|(i,b)=>7≤i∧i≤X.length∧b.length≤i∧extM X=(pctM (X.drop i)).map (b++ ·)) (fun(g:Nat × Str)=>match g with|(i,b)=>⟨[(0,.v (.one (.p (.list .fld l)))),(2,.v (.one (.ptr 0 0))),(9,.v (.one (.ptr 1 0))),(12,.v (.one (.p (.str X)))),(14,.v (.one (.row 2))),(15,.v (.one (.p (.int .i64 i))))],[.pack [.obj 39 [(.p (.str ([]))),(.p (.str ([]))),(.p (.str ([]))),.nilS]],.pack [.obj 39 [(.p (.str NM)),(.p (.str FL)),(.p (.str ([]))),.nilS]],.row .byte 5 b],148,none⟩) (fun(g:Nat × Str)=>match g with|(i,b)=>X.length - i) (7,[]) (by kernel_rfl) (by kernel_rfl) ?_ ?_
    · refine⟨Nat.le_refl _,by omega,Nat.zero_le _,?_⟩
      rw [hE]
      cases pctM (X.drop 7)<;>rfl
    rintro⟨i,b⟩ ⟨h0,h1,h2,h3⟩ A hA
    simp only at hA h0 h1 h2 h3
    refine zh (let y2:=I.b2i (I.get (α:=UInt8) X 0 (I.add (Nat.cast i) 1));let y3:=I.b2i (I.get (α:=UInt8) X 0 (I.add (Nat.cast i) 2));let y0:=I.add (I.mul 16 (I.hid (α:=Int) (hexK y2))) (I.hid (α:=Int) (hexK y3));let y1:=I.hid (α:=(List (Str))) (valsF l ([99,111,110,116,101,110,116,45,116,121,112,101]:Str));let y4:=I.b2i (I.get (α:=UInt8) X 0 (Nat.cast i));let y5:=I.inr Go.IntKind.i64 (I.add (Nat.cast i) 2);let y6:HO:=.pack [(.obj 39 [(.p (.str ([]:Str))),(.p (.str ([]:Str))),(.p (.str ([]:Str))),.nilS])];let y7:=I.inr Go.IntKind.i64 (I.add (Nat.cast i) 1);let y8:HO:=.pack [(.obj 39 [(.p (.str NM)),(.p (.str FL)),(.p (.str ([]:Str))),.nilS])];let y9:=I.hid (α:=(Prop)) (And (LE.le (0:Int) y2) (LE.le y2 (255:Int)));let y10:=I.hid (α:=(Prop)) (And (LE.le (0:Int) y3) (LE.le y3 (255:Int)));let y11:=I.inb (I.add (Nat.cast i) 1) (I.len (α:=UInt8) X);let y12:=I.inb (I.add (Nat.cast i) 2) (I.len (α:=UInt8) X);let y13:=I.inb (Nat.cast i) (I.len (α:=UInt8) X);.br (I.ilt (Nat.cast i) (I.len (α:=UInt8) X)) (.need y13 (.br (I.bnot (I.ieq y4 37)) (.need y13 (.need (I.inr Go.IntKind.u8 y4) (.need (I.few (I.add (I.len (α:=UInt8) b) (I.len (α:=UInt8) ([(I.i2b y4)]:Str))) 140737488355328) (.need y7 (.need (A ⟨[(0,(.v (.one (.p (.list .fld l))))),(2,(.v (.one (.ptr 0 0)))),(9,(.v (.one (.ptr 1 0)))),(12,(.v (.one (.p (.str X))))),(14,(.v (.one (.row 2)))),(15,(.v (.one (.p (.int .i64 (I.add (Nat.cast i) 1))))))],[y6,y8,(.row .byte 5 (I.app (α:=UInt8) b ([(I.i2b y4)]:Str)))],148,none⟩) .qed))))) (.need y5 (.br (I.ile (I.len (α:=UInt8) X) (I.add (Nat.cast i) 2)) (.fin (.ret (.tup [(.agg [(.p (.str ([]:Str))),(.p (.str ([]:Str))),(.p (.str ([]:Str))),.nilS]),(.one (.p (.int .i64 5)))])) []) (.need y7 (.need y11 (.need y9 (.br (I.ilt (I.hid (α:=Int) (hexK y2)) 0) (.fin (.ret (.tup [(.agg [(.p (.str ([]:Str))),(.p (.str ([]:Str))),(.p (.str ([]:Str))),.nilS]),(.one (.p (.int .i64 5)))])) []) (.need y5 (.need y12 (.need y10 (.br (I.ilt (I.hid (α:=Int) (hexK y3)) 0) (.fin (.ret (.tup [(.agg [(.p (.str ([]:Str))),(.p (.str ([]:Str))),(.p (.str ([]:Str))),.nilS]),(.one (.p (.int .i64 5)))])) []) (.need y7 (.need y11 (.need y5 (.need y12 (.need y9 (.need (I.inr Go.IntKind.i64 (I.mul 16 (I.hid (α:=Int) (hexK y2)))) (.need y10 (.need (I.inr Go.IntKind.i64 y0) (.need (I.inr Go.IntKind.u8 (I.wrap Go.IntKind.u8 y0)) (.need (I.few (I.add (I.len (α:=UInt8) b) (I.len (α:=UInt8) ([(I.i2b (I.wrap Go.IntKind.u8 y0))]:Str))) 140737488355328) (.need y5 (.need (I.inr Go.IntKind.i64 (I.add (I.add (Nat.cast i) 2) 1)) (.need (A ⟨[(0,(.v (.one (.p (.list .fld l))))),(2,(.v (.one (.ptr 0 0)))),(9,(.v (.one (.ptr 1 0)))),(12,(.v (.one (.p (.str X))))),(14,(.v (.one (.row 2)))),(15,(.v (.one (.p (.int .i64 (I.add (I.add (Nat.cast i) 2) 1))))))],[y6,y8,(.row .byte 5 (I.app (α:=UInt8) b ([(I.i2b (I.wrap Go.IntKind.u8 y0))]:Str)))],148,none⟩) .qed))))))))))))))))))))))))) (.need (I.hid (α:=(Prop)) (LE.le (List.length b) 1000000)) (.need (I.hid (α:=(Prop)) (And (LE.le (List.length l) 1000) (And (LE.le (List.length ([99,111,110,116,101,110,116,45,116,121,112,101]:Str)) 1000000) (∀ (f:Fld),f ∈ l→List.length f.name≤1000000∧List.length f.value≤1000000)))) (.br (I.ilt 1 (I.len (α:=Str) y1)) (.fin (.ret (.tup [(.agg [(.p (.str ([]:Str))),(.p (.str ([]:Str))),(.p (.str ([]:Str))),.nilS]),(.one (.p (.int .i64 9)))])) []) (.br (I.ieq (I.len (α:=Str) y1) 1) (.need (I.inb 0 (I.len (α:=Str) y1)) (.need (I.inb 0 (I.len (α:=Str) y1)) (.fin (.ret (.tup [(.agg [(.p (.str NM)),(.p (.str (I.hid (α:=Str) (xZ b)))),(.p (.str (I.get (α:=Str) y1 ([]:Str) 0))),.nilS]),(.one (.p (.int .i64 0)))])) []))) (.fin (.ret (.tup [(.agg [(.p (.str NM)),(.p (.str (I.hid (α:=Str) (xZ b)))),(.p (.str ([]:Str))),.nilS]),(.one (.p (.int .i64 0)))])) [])))))) (by kernel_rfl) ?_
    simp only [zq]
    subst hI
    simp only [nrmA,nrmB,nrlB,reduceCtorEq]
    have e1:((i:Int)+1).toNat=i+1:=by omega
    have e2:((i:Int)+2).toNat=i+2:=by omega
    rw [e1,e2]
    have b37:(X.getD i 0).toNat=37↔X.getD i 0=37:=⟨fun h=>UInt8.toNat_inj.1 h,fun h=>by rw [h];rfl⟩
    have g0:i<X.length→¬ X.getD i 0=37→_:=fun h k=>zgb h k
    have g1:i<X.length→X.getD i 0=37→X.length≤i+2→_:=fun h k=>zga h k
    have g2:i+2<X.length→X.getD i 0=37→_:=fun h k=>zgc h k
    have l0:=(X.getD i 0).toNat_lt
    have l1:=(X.getD (i+1) 0).toNat_lt
    have l2:=(X.getD (i+2) 0).toNat_lt
    have m1:=ZQ (k:=((X.getD (i+1) 0).toNat:Int)) ⟨by omega,by omega⟩
    have m2:=ZQ (k:=((X.getD (i+2) 0).toNat:Int)) ⟨by omega,by omega⟩
    have hend: ¬ i<X.length→extM X=some b:=fun h=>by rw [h3,List.drop_of_length_le (by omega)];simp [pctM]
    have hA2:=fun(c:UInt8) (j:Nat) (h:i<j) (hj:j≤X.length) (e:pctM (X.drop i)=(pctM (X.drop j)).map (c:: ·))=>hA (j,b++[c]) ⟨by simp only;omega,hj,by rw [List.length_append,List.length_singleton];omega,by rw [h3,e,Option.map_map];congr 1;funext x;simp⟩ (by simp only;omega)
    generalize X.getD i 0=x0 at *
    generalize X.getD (i+1) 0=x1 at *
    generalize X.getD (i+2) 0=x2 at *
    refine⟨fun c=>⟨by omega,fun c2=>⟨by omega,by omega,by simp only [List.length_singleton];omega,by omega,?_⟩,fun c2=> ?_⟩,fun c=> ?_⟩
    · have:=hA2 x0 (i+1) (by omega) (by omega) (g0 (by omega) (fun h=>c2 (by have:=b37.2 h;omega)))
      simp only [Int.natCast_add,Int.natCast_one] at this
      exact this
    · have hx:x0=37:=b37.1 (by omega)
      subst hx
      have r5:extM X=none→r=(prt0,5):=fun h=>by rw [if_pos (show extB X=false by unfold extB;rw [h];rfl)] at hr;exact hr.symm
      have gs:X.length≤i+2→r=(prt0,5):=fun h=>r5 (by rw [h3,g1 (by omega) rfl h];rfl)
      have gm:=fun h=>g2 h rfl
      have gn:i+2<X.length→(hexK (x1.toNat:Int)<0∨hexK (x2.toNat:Int)<0)→r=(prt0,5):=fun h k=>r5 (by rw [h3,gm h,if_pos k];rfl)
      have gy:i+2<X.length→¬ hexK (x1.toNat:Int)<0→¬ hexK (x2.toNat:Int)<0→_:=fun h k k2=>hA2 (UInt8.ofNat (16 * hexK (x1.toNat:Int)+hexK (x2.toNat:Int)).toNat) (i+3) (by omega) (by omega) (by rw [gm h,if_neg (fun q=>q.elim k k2)])
      have wr: ¬ hexK (x1.toNat:Int)<0→¬ hexK (x2.toNat:Int)<0→IntKind.u8.wrap (16 * hexK (x1.toNat:Int)+hexK (x2.toNat:Int))=16 * hexK (x1.toNat:Int)+hexK (x2.toNat:Int):=fun k k2=>zfP _ ⟨by omega,by omega⟩
      clear hr r5
      (repeat' (first|refine And.intro ?_ ?_|intro _))<;>first|omega|exact True.intro|exact False.elim ‹False›|skip
      all_goals first
        |omega
        |(rw [gs (by omega)];done)
        |(rw [gs (by omega)];rfl)
        |(rw [gn (by omega) (Or.inl ‹_›)];done)
        |(rw [gn (by omega) (Or.inr ‹_›)];done)
        |(rw [gn (by omega) (Or.inl ‹_›)];rfl)
        |(rw [gn (by omega) (Or.inr ‹_›)];rfl)
        |(rw [wr ‹_› ‹_›];omega)
        |(simp only [List.length_singleton];omega)
        |(rw [wr ‹_› ‹_›,show(i:Int)+2+1=((i+3:Nat):Int) by omega];exact gy (by omega) ‹_› ‹_›)
    · have he:=hend (by omega)
      have he1:extB X=true:=by unfold extB;rw [he];rfl
      have he2:extV X=b:=by unfold extV;rw [he];rfl
      rw [he1,he2] at hr
      simp only [Bool.true_eq_false,if_false] at hr
      clear he he1 he2 hA hA2 g0 g1 g2
      rw [show valsF l [99,111,110,116,101,110,116,45,116,121,112,101]=T from hTT]
      (repeat' (first|refine And.intro ?_ ?_|intro _))<;>first|omega|exact True.intro|exact False.elim ‹False›|skip
      all_goals first
        |omega
        |exact hl
        |exact hk2
        |exact(hf _ ‹_›).1
        |exact(hf _ ‹_›).2
        |(clear hf;subst hr;simp [*,prt0];done)
  · have hx:x.2=true∧¬ x.1.length<7∧lowS (x.1.take 7)=[117,116,102,45,56,39,39]∧a.2=0∧m.2=0∧m.1.word=Rn∧n.2=true:=by
      subst hI
      simp only [nrmA,nrmB,nrlB,reduceCtorEq] at *
      exact⟨‹_›,by omega,‹_›,‹_›,‹_›,‹_›,‹_›⟩
    obtain⟨q1,q2,q3,q4,q5,q6,q7⟩:=hx
    rw [if_neg (fun h=>h q4),if_neg (fun h=>h q5),if_neg (fun h=>h q6),if_neg (fun h=>absurd (q7.symm.trans h) (by decide))] at hr
    simp only [q1,true_and,if_true] at hr
    have hE:=zdL q2 q3
    have hxl:x.1.length≤1000000:=by omega
    generalize x.1=X at *
    generalize n.1=NM at *
    obtain⟨FL,hFL⟩: ∃ FL:Str,FL=[]:=⟨_,rfl⟩
    clear q1 q3 q4 q5 q6 q7 hv hg1 hg2 hpl
    refine zu hI zk mixed [yg,yc,um,ul,V8,V7,Uf,Ue,YN,YM,Xx,Xw,Xv,Xu] hX [0,2,9,12,14,15] (fun(g:Nat × Str)=>match g with|(i,b)=>7≤i∧i≤X.length∧b.length≤i∧extM X=(pctM (X.drop i)).map (b++ ·)) (fun(g:Nat × Str)=>match g with|(i,b)=>⟨[(0,.v (.one (.p (.list .fld l)))),(2,.v (.one (.ptr 0 0))),(9,.v (.one (.ptr 1 0))),(12,.v (.one (.p (.str X)))),(14,.v (.one (.row 2))),(15,.v (.one (.p (.int .i64 i))))],[.pack [.obj 39 [(.p (.str ([]))),(.p (.str ([]))),(.p (.str ([]))),.nilS]],.pack [.obj 39 [(.p (.str NM)),(.p (.str ([]))),(.p (.str ([]))),.nilS]],.row .byte 5 b],148,none⟩) (fun(g:Nat × Str)=>match g with|(i,b)=>X.length - i) (7,[]) (by kernel_rfl) (by kernel_rfl) ?_ ?_
    · refine⟨Nat.le_refl _,by omega,Nat.zero_le _,?_⟩
      rw [hE]
      cases pctM (X.drop 7)<;>rfl
    rintro⟨i,b⟩ ⟨h0,h1,h2,h3⟩ A hA
    simp only at hA h0 h1 h2 h3
    refine zh (let y2:=I.b2i (I.get (α:=UInt8) X 0 (I.add (Nat.cast i) 1));let y3:=I.b2i (I.get (α:=UInt8) X 0 (I.add (Nat.cast i) 2));let y0:=I.add (I.mul 16 (I.hid (α:=Int) (hexK y2))) (I.hid (α:=Int) (hexK y3));let y1:=I.hid (α:=(List (Str))) (valsF l ([99,111,110,116,101,110,116,45,116,121,112,101]:Str));let y4:=I.b2i (I.get (α:=UInt8) X 0 (Nat.cast i));let y5:=I.inr Go.IntKind.i64 (I.add (Nat.cast i) 2);let y6:HO:=.pack [(.obj 39 [(.p (.str ([]:Str))),(.p (.str ([]:Str))),(.p (.str ([]:Str))),.nilS])];let y7:HO:=.pack [(.obj 39 [(.p (.str NM)),(.p (.str ([]:Str))),(.p (.str ([]:Str))),.nilS])];let y8:=I.inr Go.IntKind.i64 (I.add (Nat.cast i) 1);let y9:=I.hid (α:=(Prop)) (And (LE.le (0:Int) y2) (LE.le y2 (255:Int)));let y10:=I.hid (α:=(Prop)) (And (LE.le (0:Int) y3) (LE.le y3 (255:Int)));let y11:=I.inb (I.add (Nat.cast i) 1) (I.len (α:=UInt8) X);let y12:=I.inb (I.add (Nat.cast i) 2) (I.len (α:=UInt8) X);let y13:=I.inb (Nat.cast i) (I.len (α:=UInt8) X);.br (I.ilt (Nat.cast i) (I.len (α:=UInt8) X)) (.need y13 (.br (I.bnot (I.ieq y4 37)) (.need y13 (.need (I.inr Go.IntKind.u8 y4) (.need (I.few (I.add (I.len (α:=UInt8) b) (I.len (α:=UInt8) ([(I.i2b y4)]:Str))) 140737488355328) (.need y8 (.need (A ⟨[(0,(.v (.one (.p (.list .fld l))))),(2,(.v (.one (.ptr 0 0)))),(9,(.v (.one (.ptr 1 0)))),(12,(.v (.one (.p (.str X))))),(14,(.v (.one (.row 2)))),(15,(.v (.one (.p (.int .i64 (I.add (Nat.cast i) 1))))))],[y6,y7,(.row .byte 5 (I.app (α:=UInt8) b ([(I.i2b y4)]:Str)))],148,none⟩) .qed))))) (.need y5 (.br (I.ile (I.len (α:=UInt8) X) (I.add (Nat.cast i) 2)) (.fin (.ret (.tup [(.agg [(.p (.str ([]:Str))),(.p (.str ([]:Str))),(.p (.str ([]:Str))),.nilS]),(.one (.p (.int .i64 5)))])) []) (.need y8 (.need y11 (.need y9 (.br (I.ilt (I.hid (α:=Int) (hexK y2)) 0) (.fin (.ret (.tup [(.agg [(.p (.str ([]:Str))),(.p (.str ([]:Str))),(.p (.str ([]:Str))),.nilS]),(.one (.p (.int .i64 5)))])) []) (.need y5 (.need y12 (.need y10 (.br (I.ilt (I.hid (α:=Int) (hexK y3)) 0) (.fin (.ret (.tup [(.agg [(.p (.str ([]:Str))),(.p (.str ([]:Str))),(.p (.str ([]:Str))),.nilS]),(.one (.p (.int .i64 5)))])) []) (.need y8 (.need y11 (.need y5 (.need y12 (.need y9 (.need (I.inr Go.IntKind.i64 (I.mul 16 (I.hid (α:=Int) (hexK y2)))) (.need y10 (.need (I.inr Go.IntKind.i64 y0) (.need (I.inr Go.IntKind.u8 (I.wrap Go.IntKind.u8 y0)) (.need (I.few (I.add (I.len (α:=UInt8) b) (I.len (α:=UInt8) ([(I.i2b (I.wrap Go.IntKind.u8 y0))]:Str))) 140737488355328) (.need y5 (.need (I.inr Go.IntKind.i64 (I.add (I.add (Nat.cast i) 2) 1)) (.need (A ⟨[(0,(.v (.one (.p (.list .fld l))))),(2,(.v (.one (.ptr 0 0)))),(9,(.v (.one (.ptr 1 0)))),(12,(.v (.one (.p (.str X))))),(14,(.v (.one (.row 2)))),(15,(.v (.one (.p (.int .i64 (I.add (I.add (Nat.cast i) 2) 1))))))],[y6,y7,(.row .byte 5 (I.app (α:=UInt8) b ([(I.i2b (I.wrap Go.IntKind.u8 y0))]:Str)))],148,none⟩) .qed))))))))))))))))))))))))) (.need (I.hid (α:=(Prop)) (LE.le (List.length b) 1000000)) (.need (I.hid (α:=(Prop)) (And (LE.le (List.length l) 1000) (And (LE.le (List.length ([99,111,110,116,101,110,116,45,116,121,112,101]:Str)) 1000000) (∀ (f:Fld),f ∈ l→List.length f.name≤1000000∧List.length f.value≤1000000)))) (.br (I.ilt 1 (I.len (α:=Str) y1)) (.fin (.ret (.tup [(.agg [(.p (.str ([]:Str))),(.p (.str ([]:Str))),(.p (.str ([]:Str))),.nilS]),(.one (.p (.int .i64 9)))])) []) (.br (I.ieq (I.len (α:=Str) y1) 1) (.need (I.inb 0 (I.len (α:=Str) y1)) (.need (I.inb 0 (I.len (α:=Str) y1)) (.fin (.ret (.tup [(.agg [(.p (.str NM)),(.p (.str (I.hid (α:=Str) (xZ b)))),(.p (.str (I.get (α:=Str) y1 ([]:Str) 0))),.nilS]),(.one (.p (.int .i64 0)))])) []))) (.fin (.ret (.tup [(.agg [(.p (.str NM)),(.p (.str (I.hid (α:=Str) (xZ b)))),(.p (.str ([]:Str))),.nilS]),(.one (.p (.int .i64 0)))])) [])))))) (by kernel_rfl) ?_
    simp only [zq]
    subst hI
    simp only [nrmA,nrmB,nrlB,reduceCtorEq]
    have e1:((i:Int)+1).toNat=i+1:=by omega
    have e2:((i:Int)+2).toNat=i+2:=by omega
    rw [e1,e2]
    have b37:(X.getD i 0).toNat=37↔X.getD i 0=37:=⟨fun h=>UInt8.toNat_inj.1 h,fun h=>by rw [h];rfl⟩
    have g0:i<X.length→¬ X.getD i 0=37→_:=fun h k=>zgb h k
    have g1:i<X.length→X.getD i 0=37→X.length≤i+2→_:=fun h k=>zga h k
    have g2:i+2<X.length→X.getD i 0=37→_:=fun h k=>zgc h k
    have l0:=(X.getD i 0).toNat_lt
    have l1:=(X.getD (i+1) 0).toNat_lt
    have l2:=(X.getD (i+2) 0).toNat_lt
    have m1:=ZQ (k:=((X.getD (i+1) 0).toNat:Int)) ⟨by omega,by omega⟩
    have m2:=ZQ (k:=((X.getD (i+2) 0).toNat:Int)) ⟨by omega,by omega⟩
    have hend: ¬ i<X.length→extM X=some b:=fun h=>by rw [h3,List.drop_of_length_le (by omega)];simp [pctM]
    have hA2:=fun(c:UInt8) (j:Nat) (h:i<j) (hj:j≤X.length) (e:pctM (X.drop i)=(pctM (X.drop j)).map (c:: ·))=>hA (j,b++[c]) ⟨by simp only;omega,hj,by rw [List.length_append,List.length_singleton];omega,by rw [h3,e,Option.map_map];congr 1;funext x;simp⟩ (by simp only;omega)
    generalize X.getD i 0=x0 at *
    generalize X.getD (i+1) 0=x1 at *
    generalize X.getD (i+2) 0=x2 at *
    refine⟨fun c=>⟨by omega,fun c2=>⟨by omega,by omega,by simp only [List.length_singleton];omega,by omega,?_⟩,fun c2=> ?_⟩,fun c=> ?_⟩
    · have:=hA2 x0 (i+1) (by omega) (by omega) (g0 (by omega) (fun h=>c2 (by have:=b37.2 h;omega)))
      simp only [Int.natCast_add,Int.natCast_one] at this
      exact this
    · have hx:x0=37:=b37.1 (by omega)
      subst hx
      have r5:extM X=none→r=(prt0,5):=fun h=>by rw [if_pos (show extB X=false by unfold extB;rw [h];rfl)] at hr;exact hr.symm
      have gs:X.length≤i+2→r=(prt0,5):=fun h=>r5 (by rw [h3,g1 (by omega) rfl h];rfl)
      have gm:=fun h=>g2 h rfl
      have gn:i+2<X.length→(hexK (x1.toNat:Int)<0∨hexK (x2.toNat:Int)<0)→r=(prt0,5):=fun h k=>r5 (by rw [h3,gm h,if_pos k];rfl)
      have gy:i+2<X.length→¬ hexK (x1.toNat:Int)<0→¬ hexK (x2.toNat:Int)<0→_:=fun h k k2=>hA2 (UInt8.ofNat (16 * hexK (x1.toNat:Int)+hexK (x2.toNat:Int)).toNat) (i+3) (by omega) (by omega) (by rw [gm h,if_neg (fun q=>q.elim k k2)])
      have wr: ¬ hexK (x1.toNat:Int)<0→¬ hexK (x2.toNat:Int)<0→IntKind.u8.wrap (16 * hexK (x1.toNat:Int)+hexK (x2.toNat:Int))=16 * hexK (x1.toNat:Int)+hexK (x2.toNat:Int):=fun k k2=>zfP _ ⟨by omega,by omega⟩
      clear hr r5
      (repeat' (first|refine And.intro ?_ ?_|intro _))<;>first|omega|exact True.intro|exact False.elim ‹False›|skip
      all_goals first
        |omega
        |(rw [gs (by omega)];done)
        |(rw [gs (by omega)];rfl)
        |(rw [gn (by omega) (Or.inl ‹_›)];done)
        |(rw [gn (by omega) (Or.inr ‹_›)];done)
        |(rw [gn (by omega) (Or.inl ‹_›)];rfl)
        |(rw [gn (by omega) (Or.inr ‹_›)];rfl)
        |(rw [wr ‹_› ‹_›];omega)
        |(simp only [List.length_singleton];omega)
        |(rw [wr ‹_› ‹_›,show(i:Int)+2+1=((i+3:Nat):Int) by omega];exact gy (by omega) ‹_› ‹_›)
    · have he:=hend (by omega)
      have he1:extB X=true:=by unfold extB;rw [he];rfl
      have he2:extV X=b:=by unfold extV;rw [he];rfl
      rw [he1,he2] at hr
      simp only [Bool.true_eq_false,if_false] at hr
      clear he he1 he2 hA hA2 g0 g1 g2
      rw [show valsF l [99,111,110,116,101,110,116,45,116,121,112,101]=T from hTT]
      (repeat' (first|refine And.intro ?_ ?_|intro _))<;>first|omega|exact True.intro|exact False.elim ‹False›|skip
      all_goals first
        |omega
        |exact hl
        |exact hk2
        |exact(hf _ ‹_›).1
        |exact(hf _ ‹_›).2
        |(clear hf;subst hr;simp [*,prt0];done)
def YP (I:Alg) (args:List D) (hp:List HO):Option CT:=match args,hp with
  |[.v (.one (.p (.list .fld l)))],[]=>(fun(l:List Fld)=>(some (.one ⟨I.hid (l.length≤1000∧∀ f ∈ l,f.name.length≤1000000∧f.value.length≤1000000),(.ret (.tup [(.agg [(.p (.str (I.hid ((yw l).1.name)))),(.p (.str (I.hid ((yw l).1.file)))),(.p (.str (I.hid ((yw l).1.type)))),.nilS]),(.one (.p (.int .i64 (I.hid ((yw l).2)))))])),[]⟩):Option CT)) l
  |_,_=>none
theorem zaA:zx Tryd.prog 15 (YP alg):=by
  intro args hp r h
  unfold YP at h
  split at h
  · cases h;exact fun hn=>zhl _ hn
  · cases h
def zeB:Know Tryd.prog:=⟨15,YP,zaA⟩
def zeA:Know Tryd.prog:=⟨15,fun I=>zA I (YP I),zf zaA⟩
end Go.Proofs.YtknaogelmckimaaDoor
namespace Go.Proofs.YtknaogelmckimaaDoor
open Go Go.Sep Go.Ab
set_option maxRecDepth 100000
theorem formParts_ (l:List Fld) (s:Str) (hneed: ∀ f ∈ l,f.name.length≤140737488355328∧f.value.length≤140737488355328):Spc Tryd.prog 4 [.v (.one (.p (.list .fld l))),.v (.one (.p (.str s)))] [] (.ret (.v (.one (.p (.bool true))))) []:=by
  have hg:=fun h=>zdf (l:=l) h
  have hp: ∀ (p:Prt),ptB p.name p.file p.type [] p.name p.file p.type []=true:=fun p=>by unfold ptB;exact decide_eq_true rfl
  have hp:=hp (yw l).1
  refine spcG zk mixed Tryd.func4 (by kernel_rfl) { keep:=some [0,1,4,5,6,7,8]} [zeQ,zeP,Uk,Uj,Um,Ul,SB,SA,YN,YM,zcC,zcB,zeB,zeA] (by kernel_rfl) ?_
  intro I X hI hX
  refine zh (let y0:=I.hid (α:=(Prop)) (And (LE.le (List.length l) 1000) (∀ (f:Fld),f ∈ l→List.length f.name≤1000000∧List.length f.value≤1000000));let y1:=I.hid (α:=Str) (Go.Ab.Prt.name (Prod.fst (yw l)));let y2:=I.hid (α:=Str) (Go.Ab.Prt.file (Prod.fst (yw l)));let y3:=I.hid (α:=Str) (Go.Ab.Prt.type (Prod.fst (yw l)));let y4:=I.hid (α:=(Prop)) (LE.le (List.length s) 1000000);let y5:=I.hid (α:=Int) (Prod.snd (yw l));.need (I.hid (α:=(Prop)) True) (.br (I.bnot Bool.true) (.fin (.ret (.v (.one (.p (.bool Bool.false))))) []) (.need (I.hid (α:=(Prop)) (∀ (f:Fld),f ∈ l→List.length f.name≤140737488355328∧List.length f.value≤140737488355328)) (.br (I.hid (α:=Bool) (Yq l)) (.fin (.ret (.v (.one (.p (.bool Bool.true))))) []) (.br (I.ilt 2000 (I.len (α:=UInt8) s)) (.fin (.ret (.v (.one (.p (.bool Bool.true))))) []) (.need y0 (.need y0 (.need (I.hid (α:=(Prop)) True) (.br (I.hid (α:=Bool) (ptB y1 y2 y3 ([]:Str) y1 y2 y3 ([]:Str))) (.br (I.ieq y5 y5) (.need y4 (.need y4 (.fin (.ret (.v (.one (.p (.bool (I.seq (I.hid (α:=Str) (xZ s)) (I.hid (α:=Str) (xZ s)))))))) []))) (.fin (.ret (.v (.one (.p (.bool Bool.false))))) [])) (.fin (.ret (.v (.one (.p (.bool Bool.false))))) [])))))))))) (by kernel_rfl) ?_
  simp only [zq]
  generalize yw l=z at *
  generalize xZ s=N at *
  (repeat' (first|refine And.intro ?_ ?_|intro _))
  all_goals try(subst hI;(simp only [nrmA,nrmB,nrlB,reduceCtorEq] at *);first
    |done
    |with_reducible exact True.intro
    |omega
    |exact hneed
    |exact(hneed _ ‹_›).1
    |exact(hneed _ ‹_›).2
    |(have:=(hg ‹_›).1;omega)
    |exact(hg ‹_›).2
    |exact⟨by have:=(hg ‹_›).1;omega,(hg ‹_›).2⟩
    |exact absurd (hp.symm.trans ‹_›) (by decide)
    |(exfalso;have hq:=hp.symm.trans ‹_=false›;cases hq)
    |(simp_all;done))
  all_goals trace_state
end Go.Proofs.YtknaogelmckimaaDoor
