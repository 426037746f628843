/- Texts of this proof, one behind the other: ParB SamF ReqN FrmU FrmV SeekP LnR FrmK FrmJ FrmR RplC SeekH FrmM FrmN FrmP FrmO. -/
import Derived.Test.YtknaogelmckimaaGreatDoorMd
set_option linter.all false
namespace Go.Proofs.YtknaogelmckimaaGreatDoor
open Go Go.Sep Go.Ab
set_option maxRecDepth 100000
theorem getD_drop (s:Str) (a b:Nat):(s.drop a).getD b 0=s.getD (a+b) 0:=by
  simp [List.getD_eq_getElem?_getD,List.getElem?_drop]
theorem zka (s:Str) (i:Int) (hneed:s.length≤1000000∧0≤i∧i≤s.length):Spc Tryz.prog 81 [.v (.one (.p (.str s))),.v (.one (.p (.int .i64 i)))] [] (.ret (.v (.one (.p (.int .i64 (((tokS (s.drop i.toNat)).length:Int))))))) []:=by
  obtain⟨hl,h0,hi⟩:=hneed
  refine spcG zi mixed Tryz.func81 (by kernel_rfl) { keep:=some [0,1,4,5]} [wP,wO] (by kernel_rfl) ?_
  intro I X hI hX
  refine zh (.code 0 [1,1,0,0] ⟨[(5,(.v (.one (.p (.int .i64 0))))),(4,(.v (.one (.p (.int .i64 0))))),(0,(.v (.one (.p (.str s))))),(1,(.v (.one (.p (.int .i64 i)))))],[],23,none⟩) (by kernel_rfl) ?_
  simp only [zn]
  refine zu hI zi mixed [wP,wO] hX [0,1,5] (fun(n:Nat)=>n≤(tokS (s.drop i.toNat)).length) (fun(n:Nat)=>⟨[(0,.v (.one (.p (.str s)))),(1,.v (.one (.p (.int .i64 i)))),(5,.v (.one (.p (.int .i64 n))))],[],23,none⟩) (fun(n:Nat)=>s.length - n) 0 (by kernel_rfl) (by kernel_rfl) ?_ ?_
  · exact Nat.zero_le _
  rintro n h1 A hA
  refine zh (let y0:=I.b2i (I.get (α:=UInt8) s 0 (I.add i (Nat.cast n)));let y1:=I.inr Go.IntKind.i64 (I.add i (Nat.cast n));.need y1 (.br (I.ilt (I.add i (Nat.cast n)) (I.len (α:=UInt8) s)) (.need y1 (.need (I.inb (I.add i (Nat.cast n)) (I.len (α:=UInt8) s)) (.need (I.hid (α:=(Prop)) (And (LE.le (0:Int) y0) (LE.le y0 (255:Int)))) (.br (I.hid (α:=Bool) (tokB y0)) (.need (I.inr Go.IntKind.i64 (I.add (Nat.cast n) 1)) (.need (A ⟨[(0,(.v (.one (.p (.str s))))),(1,(.v (.one (.p (.int .i64 i))))),(5,(.v (.one (.p (.int .i64 (I.add (Nat.cast n) 1))))))],[],23,none⟩) .qed)) (.fin (.ret (.v (.one (.p (.int .i64 (Nat.cast n)))))) []))))) (.fin (.ret (.v (.one (.p (.int .i64 (Nat.cast n)))))) []))) (by kernel_rfl) ?_
  simp only [zn]
  subst hI
  simp only [nrmA,nrmB]
  have hs:=Ti (p:=isTk) (s:=s.drop i.toNat) h1
  have hle:=yP (s.drop i.toNat)
  rw [getD_drop,List.length_drop] at hs
  rw [List.length_drop] at hle
  unfold isTk at hs
  change _↔n<(tokS (s.drop i.toNat)).length at hs
  rw [show(i+(n:Int)).toNat=i.toNat+n by omega]
  have hb:=xO (s.getD (i.toNat+n) 0)
  have hgo:n<(tokS (s.drop i.toNat)).length→A ⟨[(0,.v (.one (.p (.str s)))),(1,.v (.one (.p (.int .i64 i)))),(5,.v (.one (.p (.int .i64 (((n:Int)+1))))))],[],23,none⟩:=fun h=>hA (n+1) (by omega) (by omega)
  generalize s.getD (i.toNat+n) 0=x at *
  generalize(tokS (s.drop i.toNat)).length=m at *
  clear hA
  (repeat' (first|refine And.intro ?_ ?_|intro _))<;>first|omega|exact True.intro|exact False.elim ‹False›|skip
  all_goals first
    |omega
    |exact hgo (by rw [← hs];exact⟨by omega,by assumption⟩)
    | (have hx: ¬ n<m:=fun h=>by have:=(hs.2 h).1;omega
       omega)
    | (have hx: ¬ n<m:=fun h=>by have:=(hs.2 h).2;simp_all
       omega)
def XM (I:Alg) (args:List D) (hp:List HO):Option CT:=match args,hp with
  |[.v (.one (.p (.str s))),.v (.one (.p (.int .i64 i)))],[]=>(fun(s:Str) (i:Int)=>(some (.one ⟨I.hid (s.length≤1000000∧0≤i∧i≤s.length),(.ret (.v (.one (.p (.int .i64 (I.hid (((tokS (s.drop i.toNat)).length:Int)))))))),[]⟩):Option CT)) s i
  |_,_=>none
theorem zci:zy Tryz.prog 81 (XM alg):=by
  intro args hp r h
  unfold XM at h
  split at h
  · cases h;exact fun hn=>zka _ _ hn
  · cases h
def xZ:Know Tryz.prog:=⟨81,XM,zci⟩
def xY:Know Tryz.prog:=⟨81,fun I=>zA I (XM I),zf zci⟩
def blkN (s:Str):Nat:=s.length - (skS s).length
theorem zgR (s:Str):s.drop (blkN s)=skS s:=by
  have h:=drop_tw (fun b=>([32,9]:Str).contains b) s
  have h2:=zhW (fun b=>([32,9]:Str).contains b) s
  have h3:=congrArg List.length (List.takeWhile_append_dropWhile (p:=fun b=>([32,9]:Str).contains b) (l:=s))
  rw [List.length_append] at h3
  unfold blkN skS Lib.trimLeftS
  rw [show s.length - (s.dropWhile fun b=>([32,9]:Str).contains b).length=(s.takeWhile fun b=>([32,9]:Str).contains b).length by omega]
  exact h
theorem Rf (s:Str):blkN s≤s.length:=Nat.sub_le _ _
theorem zhO {s:Str} {n:Nat} (h:n≤blkN s):(n<s.length∧(s.getD n 0=32∨s.getD n 0=9))↔n<blkN s:=by
  have e:blkN s=(s.takeWhile fun b=>([32,9]:Str).contains b).length:=by
    have h3:=congrArg List.length (List.takeWhile_append_dropWhile (p:=fun b=>([32,9]:Str).contains b) (l:=s))
    rw [List.length_append] at h3
    unfold blkN skS Lib.trimLeftS
    omega
  rw [e] at h ⊢
  rw [← Ti h]
  simp
theorem zg0 (s:Str) (i:Int) (hneed:s.length≤1000000∧0≤i∧i≤s.length):Spc Tryz.prog 80 [.v (.one (.p (.str s))),.v (.one (.p (.int .i64 i)))] [] (.ret (.v (.one (.p (.int .i64 ((i+(blkN (s.drop i.toNat):Int)))))))) []:=by
  obtain⟨hl,h0,hi⟩:=hneed
  refine spcG zi mixed Tryz.func80 (by kernel_rfl) { keep:=some [0,1,4]} [] (by kernel_rfl) ?_
  intro I X hI hX
  refine zh (.code 0 [1,0,0] ⟨[(4,(.v (.one (.p (.int .i64 0))))),(0,(.v (.one (.p (.str s))))),(1,(.v (.one (.p (.int .i64 i)))))],[],24,none⟩) (by kernel_rfl) ?_
  simp only [zn]
  refine zu hI zi mixed [] hX [0,1] (fun(j:Int)=>i≤j∧j - i≤blkN (s.drop i.toNat)) (fun(j:Int)=>⟨[(0,.v (.one (.p (.str s)))),(1,.v (.one (.p (.int .i64 j))))],[],24,none⟩) (fun(j:Int)=>(s.length - j).toNat) i (by kernel_rfl) (by kernel_rfl) ?_ ?_
  · exact⟨Int.le_refl _,by omega⟩
  rintro j ⟨h1,h2⟩ A hA
  refine zh (let y0:=I.b2i (I.get (α:=UInt8) s 0 j);let y1:=I.inr Go.IntKind.i64 (I.add j 1);.br (I.ilt j (I.len (α:=UInt8) s)) (.need (I.inb j (I.len (α:=UInt8) s)) (.br (I.ieq y0 32) (.need y1 (.need (A ⟨[(0,(.v (.one (.p (.str s))))),(1,(.v (.one (.p (.int .i64 (I.add j 1))))))],[],24,none⟩) .qed)) (.need (I.inb j (I.len (α:=UInt8) s)) (.br (I.ieq y0 9) (.need y1 (.need (A ⟨[(0,(.v (.one (.p (.str s))))),(1,(.v (.one (.p (.int .i64 (I.add j 1))))))],[],24,none⟩) .qed)) (.fin (.ret (.v (.one (.p (.int .i64 j))))) []))))) (.fin (.ret (.v (.one (.p (.int .i64 j))))) [])) (by kernel_rfl) ?_
  simp only [zn]
  subst hI
  simp only [nrmA,nrmB]
  have hle:=Rf (s.drop i.toNat)
  rw [List.length_drop] at hle
  have hs:=zhO (s:=s.drop i.toNat) (n:=(j - i).toNat) (by omega)
  rw [getD_drop,List.length_drop,show i.toNat+(j - i).toNat=j.toNat by omega] at hs
  have e1:=xP (s.getD j.toNat 0) 32
  have e2:=xP (s.getD j.toNat 0) 9
  rw [show(((32:UInt8).toNat:Nat):Int)=32 from rfl] at e1
  rw [show(((9:UInt8).toNat:Nat):Int)=9 from rfl] at e2
  rw [← e1,← e2] at hs
  have hgo:(j - i).toNat<blkN (s.drop i.toNat)→A ⟨[(0,.v (.one (.p (.str s)))),(1,.v (.one (.p (.int .i64 ((j+1))))))],[],24,none⟩:=fun h=>hA (j+1) ⟨by omega,by omega⟩ (by omega)
  generalize((s.getD j.toNat 0).toNat:Int)=x at *
  generalize blkN (s.drop i.toNat)=m at *
  clear hA e1 e2
  (repeat' (first|refine And.intro ?_ ?_|intro _))<;>first|omega|exact True.intro|exact False.elim ‹False›|skip
  all_goals first
    |omega
    |exact hgo (hs.1 ⟨by omega,.inl ‹_›⟩)
    |exact hgo (hs.1 ⟨by omega,.inr ‹_›⟩)
    | (have hx: ¬ (j - i).toNat<m:=fun h=>by have:=hs.2 h;omega
       omega)
def qp (I:Alg) (args:List D) (hp:List HO):Option CT:=match args,hp with
  |[.v (.one (.p (.str s))),.v (.one (.p (.int .i64 i)))],[]=>(fun(s:Str) (i:Int)=>(some (.one ⟨I.hid (s.length≤1000000∧0≤i∧i≤s.length),(.ret (.v (.one (.p (.int .i64 (I.hid ((i+(blkN (s.drop i.toNat):Int))))))))),[]⟩):Option CT)) s i
  |_,_=>none
theorem Ul:zy Tryz.prog 80 (qp alg):=by
  intro args hp r h
  unfold qp at h
  split at h
  · cases h;exact fun hn=>zg0 _ _ hn
  · cases h
def yL:Know Tryz.prog:=⟨80,qp,Ul⟩
def yK:Know Tryz.prog:=⟨80,fun I=>zA I (qp I),zf Ul⟩
def finM (x:Int × Med × Str):Med × Int:=if x.1=0 then(x.2.1,0) else(⟨[],[]⟩,x.1)
def finL (w:Str) (x:Int × List Fld × Str):Med × Int:=if x.1=0 then(⟨w,x.2.1⟩,0) else(⟨[],[]⟩,x.1)
def medS (n:Nat) (l:List Fld) (x:Int × Fld × Str):Int × List Fld × Str:=
  if x.1≠0 then(x.1,l,x.2.2) else if(getP l x.2.1.name).2=true then(9,l,x.2.2) else if l.length=8 then(8,l,x.2.2) else medL n (skS x.2.2) (l++[x.2.1])
theorem ze7 (n:Nat) (s:Str) (l:List Fld):medL (n+1) s l=if zI s 59=true then medS n l (parM (skS (s.drop 1))) else if s=[] then(0,l,s) else(5,l,s):=rfl
theorem SS (s:Str) (i:Nat):s.drop (i+blkN (s.drop i))=skS (s.drop i):=by rw [← List.drop_drop,zgR]
theorem Yv (s:Str) (i:Nat):s.drop (i+(tokS (s.drop i)).length)=tokE (s.drop i):=by
  rw [← List.drop_drop];exact drop_tw isTk (s.drop i)
theorem tY (s:Str) (i:Int) (h0:0≤i) (c:UInt8):zI (s.drop i.toNat) c=true↔i<s.length∧((s.getD i.toNat 0).toNat:Int)=(c.toNat:Int):=by
  rw [YT,getD_drop,List.length_drop,xP,Nat.add_zero]
  constructor
  · rintro⟨a,b⟩;exact⟨by omega,b⟩
  · rintro⟨a,b⟩;exact⟨by omega,b⟩
theorem drop_nil (s:Str) (i:Int) (h0:0≤i) (h1:i≤s.length):s.drop i.toNat=[]↔i=s.length:=by
  rw [← List.length_eq_zero_iff,List.length_drop];omega
theorem zbp {l:List Fld} {nm:Str}:(getP l nm).2=false↔∀ x ∈ l,x.name≠nm:=by
  unfold getP
  split
  · rename_i f hf
    have h1:=List.find?_some hf
    have h2:=List.mem_of_find?_eq_some hf
    simp only [Bool.true_eq_false,false_iff]
    intro h;exact h f h2 (by simpa using h1)
  · rename_i hf
    simp only [true_iff]
    intro x hx h
    have:=List.find?_eq_none.1 hf x hx
    exact this (by simpa using h)
theorem ziN {x:UInt8} (r:Str) (h:x=34):quoF (x::r)=some ([],r):=by
  subst h;cases r<;>simp [quoF]
theorem ziM {x:UInt8} (y:UInt8) (r:Str) (h:x=92):quoF (x::y::r)=(quoF r).map (fun p=>(y::p.1,p.2)):=by
  subst h;simp [quoF]
theorem zkf {x:UInt8} (r:Str) (h: ¬ x=34) (k: ¬ x=92):quoF (x::r)=(quoF r).map (fun p=>(x::p.1,p.2)):=by
  cases r<;>simp [quoF,h,k]
theorem VQ {s:Str} {k:Int} (h0:0≤k) (h:k<s.length):s.drop k.toNat=s.getD k.toNat 0::s.drop (k+1).toNat:=by
  rw [List.drop_eq_getElem_cons (by omega:k.toNat<s.length),show(k+1).toNat=k.toNat+1 by omega]
  simp [show k.toNat<s.length by omega]
theorem zge {s:Str} {k e:Int} (h0:0≤k) (h:k<s.length) (he:e=k+1):(s.drop k.toNat).take (e.toNat - k.toNat)=[s.getD k.toNat 0]:=by
  rw [VQ h0 h,show e.toNat - k.toNat=1 by omega];rfl
theorem getD_mem {l:List Fld} {k:Nat} (h:k<l.length) (d:Fld):l.getD k d ∈ l:=by
  rw [show l.getD k d=l[k] by simp [h]];exact List.getElem_mem h
theorem zey {l:List Fld} {k:Nat} {nm:Str} (h:k<l.length) (d:Fld) (h1: ∀ x ∈ l.take k,x.name≠nm) (h2: ¬ (l.getD k d).name=nm): ∀ x ∈ l.take (k+1),x.name≠nm:=by
  intro x hx
  rw [List.take_succ_eq_append_getElem h] at hx
  rcases List.mem_append.1 hx with hx|hx
  · exact h1 x hx
  · simp only [List.mem_singleton] at hx
    subst hx
    rw [show l.getD k d=l[k] by simp [h]] at h2
    exact h2
set_option maxHeartbeats 8000000 in
theorem ziK (s:Str) (hneed:s.length≤1000000):Spc Tryz.prog 59 [.v (.one (.p (.str s)))] [] (.ret (.tup [(.agg [(.p (.str ((zX s).1.word))),(.p (.list .fld ((zX s).1.params)))]),(.one (.p (.int .i64 ((zX s).2))))])) []:=by
  generalize hr:zX s=r
  obtain⟨⟨pw,ps⟩,c⟩:=r
  refine spcG zi mixed Tryz.func59 (by kernel_rfl) { cfgM with seam:=[9,24,46],keep:=some [0,2,3,4,5,6,7,8,9]} [zZ,zY,yF,yE,xZ,xY,yL,yK] (by kernel_rfl) ?_
  intro I X hI hX
  refine zh (let y0:=I.hid (α:=Int) (HAdd.hAdd (0:Int) (Nat.cast (blkN (List.drop (Int.toNat (0:Int)) s))));let y1:=I.hid (α:=Int) (Nat.cast (List.length (tokS (List.drop (Int.toNat y0) s))));let y2:=I.cut (α:=UInt8) s y0 (I.add y0 y1);let y3:=I.inr Go.IntKind.i64 (I.add y0 y1);.need (I.hid (α:=(Prop)) (LE.le (List.length s) 1000000)) (.br (I.bnot (I.hid (α:=Bool) (wH s))) (.fin (.ret (.tup [(.agg [(.p (.str ([]:Str))),(.p (.list .fld ([]:List Fld)))]),(.one (.p (.int .i64 3)))])) []) (.need (I.hid (α:=(Prop)) (And (LE.le (List.length s) 1000000) (And (LE.le (0:Int) (0:Int)) (LE.le (0:Int) (Nat.cast (List.length s)))))) (.need (I.hid (α:=(Prop)) (And (LE.le (List.length s) 1000000) (And (LE.le (0:Int) y0) (LE.le y0 (Nat.cast (List.length s)))))) (.br (I.ieq y1 0) (.fin (.ret (.tup [(.agg [(.p (.str ([]:Str))),(.p (.list .fld ([]:List Fld)))]),(.one (.p (.int .i64 5)))])) []) (.need y3 (.need (I.cutb y0 (I.add y0 y1) (I.len (α:=UInt8) s)) (.need (I.hid (α:=(Prop)) (LE.le (List.length y2) 1000000)) (.need y3 (.code 0 [1,1,1,1,1,1,1,0,0] ⟨[(4,(.v (.one (.p (.int .i64 (I.add y0 y1)))))),(6,(.v (.one (.ptr 1 0)))),(5,(.v (.one (.p (.int .i64 y1))))),(3,(.v (.one (.p (.int .i64 0))))),(2,(.v (.one (.ptr 0 0)))),(0,(.v (.one (.p (.str s)))))],[(.obj 85 [(.p (.str ([]:Str))),.nilS]),(.obj 85 [(.p (.str (I.hid (α:=Str) (lowS y2)))),.nilS])],223,none⟩)))))))))) (by kernel_rfl) ?_
  simp only [zn]
  have keyL : ∀ (i:Int) (w:Str) (st:St),0≤i→i≤s.length→finM (medB w (s.drop i.toNat))=(⟨pw,ps⟩,c)→cutM { cfgM with seam:=[9,24,46],keep:=some [0,2,3,4,5,6,7,8,9]} 0 [0,2,4,6] st=some ⟨[(0,.v (.one (.p (.str s)))),(2,.v (.one (.ptr 0 0))),(4,.v (.one (.p (.int .i64 i)))),(6,.v (.one (.ptr 1 0)))],[.pack [.obj 85 [(.p (.str ([]))),(.row 1)],.row .fld 82 ([])],.pack [.obj 85 [(.p (.str w)),(.row 1)],.row .fld 82 ([])]],223,none⟩→Ok Tryz.prog X (fun o h=>o=AOut.ret (D.tup [V0.agg [C.p (P.str pw),C.p (P.list U.fld ps)],V0.one (C.p (P.int IntKind.i64 c))])∧h=[]) (leaf I tab { cfgM with seam:=[9,24,46],keep:=some [0,2,3,4,5,6,7,8,9]} [⟨xQ Tryz.f59,finK I tab { cfgM with seam:=[9,24,46],keep:=some [0,2,3,4,5,6,7,8,9]} 0 Tryz.f59⟩] 0 [1,1,1,1,1,1,1,1,0] st):=by
    intro i w st h0 h1 hm hst
    refine zu hI zi mixed [zZ,zY,yF,yE,xZ,xY,yL,yK] hX [0,2,4,6] (fun(g:Int × List Fld)=>match g with|(i,l)=>0≤i∧i≤s.length∧l.length≤8∧∃ n,(skS (s.drop i.toNat)).length<n∧finL w (medL n (skS (s.drop i.toNat)) l)=(⟨pw,ps⟩,c)) (fun(g:Int × List Fld)=>match g with|(i,l)=>⟨[(0,.v (.one (.p (.str s)))),(2,.v (.one (.ptr 0 0))),(4,.v (.one (.p (.int .i64 i)))),(6,.v (.one (.ptr 1 0)))],[.pack [.obj 85 [(.p (.str ([]))),(.row 1)],.row .fld 82 ([])],.pack [.obj 85 [(.p (.str w)),(.row 1)],.row .fld 82 l]],223,none⟩) (fun(g:Int × List Fld)=>match g with|(i,l)=>(s.length - i).toNat) (i,[]) (by kernel_rfl) hst ?_ ?_
    · refine⟨h0,h1,by simp,(skS (s.drop i.toNat)).length+1,by omega,?_⟩
      rw [← hm];rfl
    clear hm hst h0 h1 hr
    rintro⟨i,l⟩ ⟨h0,h1,hl8,n,hn,hm⟩ A hA
    simp only at hA
    cases n with
    |zero=>omega
    |succ n=>
    have key46: ∀ (j:Int) (nm v:Str),i<j→j≤s.length→(skS (s.drop j.toNat)).length<n→finL w (medS n l (0,⟨nm,v⟩,s.drop j.toNat))=(⟨pw,ps⟩,c)→Ok Tryz.prog X (fun o h=>o=AOut.ret (D.tup [V0.agg [C.p (P.str pw),C.p (P.list U.fld ps)],V0.one (C.p (P.int IntKind.i64 c))])∧h=[]) (go I tab { cfgM with seam:=[9,24,46],keep:=some [0,2,3,4,5,6,7,8,9]} [zZ,zY,yF,yE,xZ,xY,yL,yK] (round I tab { cfgM with seam:=[9,24,46],keep:=some [0,2,3,4,5,6,7,8,9]} 0 [0,2,4,6] A [⟨xQ Tryz.f59,finK I tab { cfgM with seam:=[9,24,46],keep:=some [0,2,3,4,5,6,7,8,9]} 0 Tryz.f59⟩] 0 [1,1,1,1,1,1,1,1,0]::[⟨xQ Tryz.f59,finK I tab { cfgM with seam:=[9,24,46],keep:=some [0,2,3,4,5,6,7,8,9]} 0 Tryz.f59⟩]) 0 [0,1,1,1,1,1,1,1,1,1,0,0] ⟨[(0,.v (.one (.p (.str s)))),(2,.v (.one (.ptr 0 0))),(4,.v (.one (.p (.int .i64 j)))),(6,.v (.one (.ptr 1 0))),(7,.v (.one (.ptr 2 0)))],[.pack [.obj 85 [(.p (.str ([]))),(.row 1)],.row .fld 82 ([])],.pack [.obj 85 [(.p (.str w)),(.row 1)],.row .fld 82 l],.pack [.obj 82 [(.p (.str nm)),(.p (.str v))]]],223,none⟩):=by
      intro j nm v hj hj1 hjn hm
      refine zh (.code 0 [0,1,1,1,1,1,1,1,1,1,0,1,0] ⟨[(9,(.v (.one (.p (.int .i64 0))))),(0,(.v (.one (.p (.str s))))),(2,(.v (.one (.ptr 0 0)))),(4,(.v (.one (.p (.int .i64 j))))),(6,(.v (.one (.ptr 1 0)))),(7,(.v (.one (.ptr 2 0))))],[(.pack [(.obj 85 [(.p (.str ([]:Str))),(.row 1)]),(.row .fld 82 ([]:List Fld))]),(.pack [(.obj 85 [(.p (.str w)),(.row 1)]),(.row .fld 82 l)]),(.pack [(.obj 82 [(.p (.str nm)),(.p (.str v))])])],223,none⟩) (by kernel_rfl) ?_
      simp only [zn]
      refine zu hI zi mixed [zZ,zY,yF,yE,xZ,xY,yL,yK] hX [0,2,4,6,7,9] (fun(k:Nat)=>k≤l.length∧∀ x ∈ l.take k,x.name≠nm) (fun(k:Nat)=>⟨[(0,.v (.one (.p (.str s)))),(2,.v (.one (.ptr 0 0))),(4,.v (.one (.p (.int .i64 j)))),(6,.v (.one (.ptr 1 0))),(7,.v (.one (.ptr 2 0))),(9,.v (.one (.p (.int .i64 k))))],[.pack [.obj 85 [(.p (.str ([]))),(.row 1)],.row .fld 82 ([])],.pack [.obj 85 [(.p (.str w)),(.row 1)],.row .fld 82 l],.pack [.obj 82 [(.p (.str nm)),(.p (.str v))]]],223,none⟩) (fun(k:Nat)=>l.length - k) 0 (by kernel_rfl) (by kernel_rfl) ?_ ?_
      · exact⟨Nat.zero_le _,by simp⟩
      rintro k ⟨h2,h3⟩ B hB
      refine zh (let y0:HO:=.pack [(.obj 85 [(.p (.str ([]:Str))),(.row 1)]),(.row .fld 82 ([]:List Fld))];let y1:=I.inb (Nat.cast k) (I.len (α:=Fld) l);let y2:HO:=.obj 85 [(.p (.str w)),(.row 1)];.br (I.ilt (Nat.cast k) (I.len (α:=Fld) l)) (.need y1 (.need y1 (.br (I.seq (Fld.name (I.get (α:=Fld) l (Fld.mk ([]:Str) ([]:Str)) (Nat.cast k))) nm) (.fin (.ret (.tup [(.agg [(.p (.str ([]:Str))),(.p (.list .fld ([]:List Fld)))]),(.one (.p (.int .i64 9)))])) []) (.need (I.inr Go.IntKind.i64 (I.add (Nat.cast k) 1)) (.need (B ⟨[(0,(.v (.one (.p (.str s))))),(2,(.v (.one (.ptr 0 0)))),(4,(.v (.one (.p (.int .i64 j))))),(6,(.v (.one (.ptr 1 0)))),(7,(.v (.one (.ptr 2 0)))),(9,(.v (.one (.p (.int .i64 (I.add (Nat.cast k) 1))))))],[y0,(.pack [y2,(.row .fld 82 l)]),(.pack [(.obj 82 [(.p (.str nm)),(.p (.str v))])])],223,none⟩) .qed))))) (.br (I.ieq (I.len (α:=Fld) l) 8) (.fin (.ret (.tup [(.agg [(.p (.str ([]:Str))),(.p (.list .fld ([]:List Fld)))]),(.one (.p (.int .i64 8)))])) []) (.need (I.few (I.add (I.len (α:=Fld) l) (I.len (α:=Fld) ([(Fld.mk nm v)]:List Fld))) 100000000) (.need (A ⟨[(0,(.v (.one (.p (.str s))))),(2,(.v (.one (.ptr 0 0)))),(4,(.v (.one (.p (.int .i64 j))))),(6,(.v (.one (.ptr 1 0))))],[y0,(.pack [y2,(.row .fld 82 (I.app (α:=Fld) l ([(Fld.mk nm v)]:List Fld)))])],223,none⟩) .qed)))) (by kernel_rfl) ?_
      simp only [zn]
      subst hI
      simp only [nrmA,nrmB]
      try rw [show dflt U.fld=(⟨[],[]⟩:Fld) from rfl]
      have hstep:=fun(h:k<l.length)=>zey (nm:=nm) h ⟨[],[]⟩ h3
      have hmem:=fun(h:k<l.length)=>getD_mem h ⟨[],[]⟩
      have hgo:k<l.length→¬ (l.getD k ⟨[],[]⟩).name=nm→B ⟨[(0,.v (.one (.p (.str s)))),(2,.v (.one (.ptr 0 0))),(4,.v (.one (.p (.int .i64 j)))),(6,.v (.one (.ptr 1 0))),(7,.v (.one (.ptr 2 0))),(9,.v (.one (.p (.int .i64 (((k:Int)+1))))))],[.pack [.obj 85 [(.p (.str ([]))),(.row 1)],.row .fld 82 ([])],.pack [.obj 85 [(.p (.str w)),(.row 1)],.row .fld 82 l],.pack [.obj 82 [(.p (.str nm)),(.p (.str v))]]],223,none⟩:=fun a b=>hB (k+1) ⟨by omega,hstep a b⟩ (by omega)
      have hno: ¬ k<l.length→(getP l nm).2=false:=fun a=>zbp.2 (by rw [List.take_of_length_le (by omega)] at h3;exact h3)
      have hy:k<l.length→(l.getD k ⟨[],[]⟩).name=nm→(getP l nm).2=true:=fun a b=>by
        cases hq:(getP l nm).2 with
        |true=>rfl
        |false=>exact absurd b (zbp.1 hq _ (hmem a))
      have hA2:=hA (j,l++[⟨nm,v⟩])
      simp only [List.length_append,List.length_cons,List.length_nil] at hA2
      clear hstep hmem hB h3
      generalize l.getD k ⟨[],[]⟩=x at *
      simp only [medS,ne_eq,not_true_eq_false,if_false] at hm
      by_cases hk:k<l.length
      · by_cases hx:x.name=nm
        · rw [if_pos (hy hk hx)] at hm
          simp only [finL,if_false,Prod.mk.injEq,Med.mk.injEq,Int.reduceEq] at hm
          (repeat' (first|refine And.intro ?_ ?_|intro _))<;>first|omega|exact True.intro|exact False.elim ‹False›|skip
          all_goals first|omega|(simp [← hm.1.1,← hm.1.2,← hm.2];done)|(exfalso;exact absurd hx ‹_›)|trace_state
        · have hg:=hgo hk hx
          (repeat' (first|refine And.intro ?_ ?_|intro _))<;>first|omega|exact True.intro|exact False.elim ‹False›|skip
          all_goals first|omega|exact hg|contradiction|(exfalso;exact absurd ‹_› hx)|trace_state
      · rw [if_neg (by rw [hno hk];exact Bool.false_ne_true)] at hm
        by_cases h8:l.length=8
        · rw [if_pos h8] at hm
          simp only [finL,if_false,Prod.mk.injEq,Med.mk.injEq,Int.reduceEq] at hm
          (repeat' (first|refine And.intro ?_ ?_|intro _))<;>first|omega|exact True.intro|exact False.elim ‹False›|skip
          all_goals first|omega|(simp [← hm.1.1,← hm.1.2,← hm.2];done)|trace_state
        · rw [if_neg h8] at hm
          have hA3:=hA2 ⟨by omega,hj1,by omega,n,hjn,hm⟩ (by omega)
          (repeat' (first|refine And.intro ?_ ?_|intro _))<;>first|omega|exact True.intro|exact False.elim ‹False›|skip
          all_goals first|omega|exact hA3|(simp only [List.length_cons,List.length_nil];omega)|trace_state
    have keyQ : ∀ (j:Int) (nm:Str) (st:St),i<j→j≤s.length→(s.drop j.toNat).length<n→finL w (medS n l (if(quoF (s.drop j.toNat)).isSome=true then(0,⟨nm,quoV (s.drop j.toNat)⟩,quoR (s.drop j.toNat)) else(14,⟨[],[]⟩,[])))=(⟨pw,ps⟩,c)→cutM { cfgM with seam:=[9,24,46],keep:=some [0,2,3,4,5,6,7,8,9]} 0 [0,2,4,6,7,8] st=some ⟨[(0,.v (.one (.p (.str s)))),(2,.v (.one (.ptr 0 0))),(4,.v (.one (.p (.int .i64 j)))),(6,.v (.one (.ptr 1 0))),(7,.v (.one (.ptr 2 0))),(8,.v (.one (.p (.bool false))))],[.pack [.obj 85 [(.p (.str ([]))),(.row 1)],.row .fld 82 ([])],.pack [.obj 85 [(.p (.str w)),(.row 1)],.row .fld 82 l],.pack [.obj 82 [(.p (.str nm)),(.p (.str ([])))]]],223,none⟩→Ok Tryz.prog X (fun o h=>o=AOut.ret (D.tup [V0.agg [C.p (P.str pw),C.p (P.list U.fld ps)],V0.one (C.p (P.int IntKind.i64 c))])∧h=[]) (leaf I tab { cfgM with seam:=[9,24,46],keep:=some [0,2,3,4,5,6,7,8,9]} (round I tab { cfgM with seam:=[9,24,46],keep:=some [0,2,3,4,5,6,7,8,9]} 0 [0,2,4,6] A [⟨xQ Tryz.f59,finK I tab { cfgM with seam:=[9,24,46],keep:=some [0,2,3,4,5,6,7,8,9]} 0 Tryz.f59⟩] 0 [1,1,1,1,1,1,1,1,0]::[⟨xQ Tryz.f59,finK I tab { cfgM with seam:=[9,24,46],keep:=some [0,2,3,4,5,6,7,8,9]} 0 Tryz.f59⟩]) 0 [0,1,1,1,1,1,1,1,1,0,1,0,1,1,0,0] st):=by
      intro j nm st hj hj1 hjn hm hst
      refine zu hI zi mixed [zZ,zY,yF,yE,xZ,xY,yL,yK] hX [0,2,4,6,7,8] (fun(g:Int × Bool × Str)=>match g with|(k,b,v)=>j≤k∧k≤s.length∧(v.length:Int)≤k - j∧(b=true→quoF (s.drop j.toNat)=some (v,s.drop k.toNat))∧(b=false→quoF (s.drop j.toNat)=(quoF (s.drop k.toNat)).map (fun p=>(v++p.1,p.2)))) (fun(g:Int × Bool × Str)=>match g with|(k,b,v)=>⟨[(0,.v (.one (.p (.str s)))),(2,.v (.one (.ptr 0 0))),(4,.v (.one (.p (.int .i64 k)))),(6,.v (.one (.ptr 1 0))),(7,.v (.one (.ptr 2 0))),(8,.v (.one (.p (.bool b))))],[.pack [.obj 85 [(.p (.str ([]))),(.row 1)],.row .fld 82 ([])],.pack [.obj 85 [(.p (.str w)),(.row 1)],.row .fld 82 l],.pack [.obj 82 [(.p (.str nm)),(.p (.str v))]]],223,none⟩) (fun(g:Int × Bool × Str)=>match g with|(k,b,v)=>(s.length - k).toNat) (j,false,[]) (by kernel_rfl) hst ?_ ?_
      · exact⟨Int.le_refl _,hj1,by simp,by simp,by simp⟩
      rintro⟨k,b,v⟩ ⟨h2,h3,h4,h5,h6⟩ B hB
      simp only at hB
      refine zh (let y0:HO:=.pack [(.obj 85 [(.p (.str ([]:Str))),(.row 1)]),(.row .fld 82 ([]:List Fld))];let y1:HO:=.pack [(.obj 85 [(.p (.str w)),(.row 1)]),(.row .fld 82 l)];let y2:=I.inr Go.IntKind.i64 (I.add k 1);let y3:HO:=.pack [(.obj 82 [(.p (.str nm)),(.p (.str v))])];let y4:=I.cut (α:=UInt8) s (I.add k 1) (I.add k 2);let y5:=I.cut (α:=UInt8) s k (I.add k 1);let y6:=I.b2i (I.get (α:=UInt8) s 0 k);.br (I.ilt k (I.len (α:=UInt8) s)) (.br (I.bnot b) (.need (I.inb k (I.len (α:=UInt8) s)) (.br (I.ieq y6 34) (.need y2 (.need (B ⟨[(0,(.v (.one (.p (.str s))))),(2,(.v (.one (.ptr 0 0)))),(4,(.v (.one (.p (.int .i64 (I.add k 1)))))),(6,(.v (.one (.ptr 1 0)))),(7,(.v (.one (.ptr 2 0)))),(8,(.v (.one (.p (.bool Bool.true)))))],[y0,y1,y3],223,none⟩) .qed)) (.need (I.inb k (I.len (α:=UInt8) s)) (.br (I.ieq y6 92) (.need y2 (.br (I.ieq (I.add k 1) (I.len (α:=UInt8) s)) (.fin (.ret (.tup [(.agg [(.p (.str ([]:Str))),(.p (.list .fld ([]:List Fld)))]),(.one (.p (.int .i64 14)))])) []) (.need y2 (.need (I.inr Go.IntKind.i64 (I.add k 2)) (.need (I.cutb (I.add k 1) (I.add k 2) (I.len (α:=UInt8) s)) (.need (I.few (I.add (I.len (α:=UInt8) v) (I.len (α:=UInt8) y4)) 1000000000) (.need y2 (.need (I.inr Go.IntKind.i64 (I.add (I.add k 1) 1)) (.need (B ⟨[(0,(.v (.one (.p (.str s))))),(2,(.v (.one (.ptr 0 0)))),(4,(.v (.one (.p (.int .i64 (I.add (I.add k 1) 1)))))),(6,(.v (.one (.ptr 1 0)))),(7,(.v (.one (.ptr 2 0)))),(8,(.v (.one (.p (.bool b)))))],[y0,y1,(.pack [(.obj 82 [(.p (.str nm)),(.p (.str (I.app (α:=UInt8) v y4)))])])],223,none⟩) .qed))))))))) (.need y2 (.need (I.cutb k (I.add k 1) (I.len (α:=UInt8) s)) (.need (I.few (I.add (I.len (α:=UInt8) v) (I.len (α:=UInt8) y5)) 1000000000) (.need y2 (.need (B ⟨[(0,(.v (.one (.p (.str s))))),(2,(.v (.one (.ptr 0 0)))),(4,(.v (.one (.p (.int .i64 (I.add k 1)))))),(6,(.v (.one (.ptr 1 0)))),(7,(.v (.one (.ptr 2 0)))),(8,(.v (.one (.p (.bool b)))))],[y0,y1,(.pack [(.obj 82 [(.p (.str nm)),(.p (.str (I.app (α:=UInt8) v y5)))])])],223,none⟩) .qed))))))))) (.br (I.bnot b) (.fin (.ret (.tup [(.agg [(.p (.str ([]:Str))),(.p (.list .fld ([]:List Fld)))]),(.one (.p (.int .i64 14)))])) []) (.code 1 [0,1,1,1,1,1,1,1,1,1,0,0] ⟨[(0,(.v (.one (.p (.str s))))),(2,(.v (.one (.ptr 0 0)))),(4,(.v (.one (.p (.int .i64 k))))),(6,(.v (.one (.ptr 1 0)))),(7,(.v (.one (.ptr 2 0)))),(8,(.v (.one (.p (.bool b)))))],[y0,y1,y3],223,none⟩))) (.br (I.bnot b) (.fin (.ret (.tup [(.agg [(.p (.str ([]:Str))),(.p (.list .fld ([]:List Fld)))]),(.one (.p (.int .i64 14)))])) []) (.code 1 [0,1,1,1,1,1,1,1,1,1,0,0] ⟨[(0,(.v (.one (.p (.str s))))),(2,(.v (.one (.ptr 0 0)))),(4,(.v (.one (.p (.int .i64 k))))),(6,(.v (.one (.ptr 1 0)))),(7,(.v (.one (.ptr 2 0)))),(8,(.v (.one (.p (.bool b)))))],[y0,y1,y3],223,none⟩))) (by kernel_rfl) ?_
      simp only [zn]
      subst hI
      simp only [nrmA,nrmB]
      clear hA hst
      have hk46:=key46 k nm v (by omega) h3
      clear key46
      have hle:(skS (s.drop k.toNat)).length<n:=by
        have:=xE (s.drop k.toNat)
        rw [List.length_drop] at this hjn
        omega
      cases b with
      | true=>
        rw [h5 rfl] at hm
        have e1:quoV (s.drop j.toNat)=v:=by unfold quoV;rw [h5 rfl]
        have e2:quoR (s.drop j.toNat)=s.drop k.toNat:=by unfold quoR;rw [h5 rfl]
        rw [e1,e2] at hm
        have hk:=hk46 hle hm
        (repeat' (first|refine And.intro ?_ ?_|intro _))<;>first|omega|exact True.intro|exact False.elim ‹False›|skip
        all_goals first|omega|contradiction|skip
        all_goals exact seam (by first|rfl|exact hI) zi mixed [zZ,zY,yF,yE,xZ,xY,yL,yK] hX [0,2,4,6,7] ⟨[(0,.v (.one (.p (.str s)))),(2,.v (.one (.ptr 0 0))),(4,.v (.one (.p (.int .i64 k)))),(6,.v (.one (.ptr 1 0))),(7,.v (.one (.ptr 2 0)))],[.pack [.obj 85 [(.p (.str ([]))),(.row 1)],.row .fld 82 ([])],.pack [.obj 85 [(.p (.str w)),(.row 1)],.row .fld 82 l],.pack [.obj 82 [(.p (.str nm)),(.p (.str v))]]],223,none⟩ (by kernel_rfl) (hk)
      | false =>
        have h6:=h6 rfl
        have hend:quoF (s.drop j.toNat)=none→(⟨[],[]⟩,14)=((⟨pw,ps⟩,c):Med × Int):=fun h=>by
          rw [h] at hm
          exact hm
        clear hm hk46 h5
        by_cases hk:k<s.length
        · have hc:=VQ (by omega) hk
          have hu1:=zge (by omega:0≤k) hk (e:=k+1) rfl
          rw [hc] at h6
          have e34:((s.getD k.toNat 0).toNat:Int)=34↔s.getD k.toNat 0=34:=xP _ 34
          have e92:((s.getD k.toNat 0).toNat:Int)=92↔s.getD k.toNat 0=92:=xP _ 92
          rw [e34,e92]
          by_cases q34:s.getD k.toNat 0=34
          · rw [ziN _ q34] at h6
            have hg:=hB (k+1,true,v) ⟨by simp only;omega,by simp only;omega,by simp only;omega,fun _=>by rw [h6];simp,fun h=>(by cases h)⟩ (by simp only;omega)
            simp only at hg
            clear hB
            (repeat' (first|refine And.intro ?_ ?_|intro _))<;>first|omega|exact True.intro|exact False.elim ‹False›|skip
            all_goals first|omega|exact hg|contradiction|(exfalso;exact absurd q34 ‹_›)|trace_state
          by_cases q92:s.getD k.toNat 0=92
          · by_cases hk1:k+1<s.length
            · have hc1:=VQ (s:=s) (k:=k+1) (by omega) hk1
              have hu2:=zge (s:=s) (k:=k+1) (e:=k+2) (by omega) hk1 (by omega)
              rw [hc1,ziM _ _ q92,Option.map_map] at h6
              have hg:=hB (k+1+1,false,v++[s.getD (k+1).toNat 0]) ⟨by simp only;omega,by simp only;omega,by simp only [List.length_append,List.length_cons,List.length_nil];omega,fun h=>(by cases h),fun _=>by rw [h6];congr 1;funext p;simp⟩ (by simp only;omega)
              simp only at hg
              rw [hu2]
              clear hB
              (repeat' (first|refine And.intro ?_ ?_|intro _))<;>first|omega|exact True.intro|exact False.elim ‹False›|skip
              all_goals first|omega|exact hg|contradiction|(exfalso;exact absurd q92 ‹_›)|(exfalso;exact absurd ‹_› q34)|(simp only [List.length_cons,List.length_nil];omega)|trace_state
            · have hnil:s.drop (k+1).toNat=[]:=by rw [← List.length_eq_zero_iff,List.length_drop];omega
              rw [hnil,q92] at h6
              have hz:=hend (by rw [h6];simp [quoF])
              simp only [Prod.mk.injEq,Med.mk.injEq] at hz
              clear hB
              (repeat' (first|refine And.intro ?_ ?_|intro _))<;>first|omega|exact True.intro|exact False.elim ‹False›|skip
              all_goals first|omega|contradiction|(simp [← hz.1.1,← hz.1.2,← hz.2];done)|(exfalso;exact absurd q92 ‹_›)|(exfalso;exact absurd ‹_› q34)|trace_state
          · rw [zkf _ q34 q92,Option.map_map] at h6
            have hg:=hB (k+1,false,v++[s.getD k.toNat 0]) ⟨by simp only;omega,by simp only;omega,by simp only [List.length_append,List.length_cons,List.length_nil];omega,fun h=>(by cases h),fun _=>by rw [h6];congr 1;funext p;simp⟩ (by simp only;omega)
            simp only at hg
            rw [hu1]
            clear hB
            (repeat' (first|refine And.intro ?_ ?_|intro _))<;>first|omega|exact True.intro|exact False.elim ‹False›|skip
            all_goals first|omega|exact hg|contradiction|(exfalso;exact absurd ‹_› q92)|(exfalso;exact absurd ‹_› q34)|(simp only [List.length_cons,List.length_nil];omega)|trace_state
        · have hnil:s.drop k.toNat=[]:=by rw [← List.length_eq_zero_iff,List.length_drop];omega
          rw [hnil] at h6
          have hz:=hend (by rw [h6];simp [quoF])
          simp only [Prod.mk.injEq,Med.mk.injEq] at hz
          clear hB
          (repeat' (first|refine And.intro ?_ ?_|intro _))<;>first|omega|exact True.intro|exact False.elim ‹False›|skip
          all_goals first|omega|contradiction|(simp [← hz.1.1,← hz.1.2,← hz.2];done)|contradiction|trace_state
    have key24: ∀ (j m:Int),i<j→j+m<s.length→m=(tokS (s.drop j.toNat)).length→¬ tokS (s.drop j.toNat)=[]→zI (s.drop (j+m).toNat) 61=true→(s.drop j.toNat).length<n+1→finL w (medS n l (parM (s.drop j.toNat)))=(⟨pw,ps⟩,c)→Ok Tryz.prog X (fun o h=>o=AOut.ret (D.tup [V0.agg [C.p (P.str pw),C.p (P.list U.fld ps)],V0.one (C.p (P.int IntKind.i64 c))])∧h=[]) (go I tab { cfgM with seam:=[9,24,46],keep:=some [0,2,3,4,5,6,7,8,9]} [zZ,zY,yF,yE,xZ,xY,yL,yK] (round I tab { cfgM with seam:=[9,24,46],keep:=some [0,2,3,4,5,6,7,8,9]} 0 [0,2,4,6] A [⟨xQ Tryz.f59,finK I tab { cfgM with seam:=[9,24,46],keep:=some [0,2,3,4,5,6,7,8,9]} 0 Tryz.f59⟩] 0 [1,1,1,1,1,1,1,1,0]::[⟨xQ Tryz.f59,finK I tab { cfgM with seam:=[9,24,46],keep:=some [0,2,3,4,5,6,7,8,9]} 0 Tryz.f59⟩]) 0 [0,1,1,1,1,1,1,0] ⟨[(0,.v (.one (.p (.str s)))),(2,.v (.one (.ptr 0 0))),(4,.v (.one (.p (.int .i64 j)))),(5,.v (.one (.p (.int .i64 m)))),(6,.v (.one (.ptr 1 0)))],[.pack [.obj 85 [(.p (.str ([]))),(.row 1)],.row .fld 82 ([])],.pack [.obj 85 [(.p (.str w)),(.row 1)],.row .fld 82 l]],223,none⟩):=by
      intro j m hj hjm em ht hq hjn hm
      refine zh (let y0:=I.hid (α:=Int) (Nat.cast (List.length (tokS (List.drop (Int.toNat (I.add j (I.add m 1))) s))));let y7:=I.cut (α:=UInt8) s j (I.add j m);let y1:HO:=.obj 82 [(.p (.str (I.hid (α:=Str) (lowS y7)))),(.p (.str (I.cut (α:=UInt8) s (I.add j (I.add m 1)) (I.add (I.add j (I.add m 1)) y0))))];let y2:HO:=.pack [(.obj 85 [(.p (.str ([]:Str))),(.row 1)]),(.row .fld 82 ([]:List Fld))];let y3:=I.hid (α:=(Prop)) (And (LE.le (List.length s) 1000000) (And (LE.le (0:Int) (I.add j (I.add m 1))) (LE.le (I.add j (I.add m 1)) (Nat.cast (List.length s)))));let y4:=I.inr Go.IntKind.i64 (I.add (I.add j (I.add m 1)) y0);let y5:HO:=.pack [(.obj 85 [(.p (.str w)),(.row 1)]),(.row .fld 82 l)];let y6:=I.cutb (I.add j (I.add m 1)) (I.add (I.add j (I.add m 1)) y0) (I.len (α:=UInt8) s);.need (I.inr Go.IntKind.i64 (I.add j m)) (.need (I.cutb j (I.add j m) (I.len (α:=UInt8) s)) (.need (I.hid (α:=(Prop)) (LE.le (List.length y7) 1000000)) (.need (I.inr Go.IntKind.i64 (I.add m 1)) (.need (I.inr Go.IntKind.i64 (I.add j (I.add m 1))) (.br (I.ilt (I.add j (I.add m 1)) (I.len (α:=UInt8) s)) (.need (I.inb (I.add j (I.add m 1)) (I.len (α:=UInt8) s)) (.br (I.ieq (I.b2i (I.get (α:=UInt8) s 0 (I.add j (I.add m 1)))) 34) (.need (I.inr Go.IntKind.i64 (I.add (I.add j (I.add m 1)) 1)) (.code 0 [0,1,1,1,1,1,1,1,1,0,1,0,1,1,0,0] ⟨[(8,(.v (.one (.p (.val (.bool .false)))))),(4,(.v (.one (.p (.int .i64 (I.add (I.add j (I.add m 1)) 1)))))),(7,(.v (.one (.ptr 2 0)))),(0,(.v (.one (.p (.str s))))),(2,(.v (.one (.ptr 0 0)))),(5,(.v (.one (.p (.int .i64 m))))),(6,(.v (.one (.ptr 1 0))))],[y2,y5,(.obj 82 [(.p (.str (I.hid (α:=Str) (lowS y7)))),(.p (.str ([]:Str)))])],223,none⟩)) (.need y3 (.br (I.ieq y0 0) (.fin (.ret (.tup [(.agg [(.p (.str ([]:Str))),(.p (.list .fld ([]:List Fld)))]),(.one (.p (.int .i64 5)))])) []) (.need y4 (.need y6 (.need y4 (.code 0 [0,1,1,1,1,1,1,1,1,1,0,0] ⟨[(4,(.v (.one (.p (.int .i64 (I.add (I.add j (I.add m 1)) y0)))))),(5,(.v (.one (.p (.int .i64 y0))))),(7,(.v (.one (.ptr 2 0)))),(0,(.v (.one (.p (.str s))))),(2,(.v (.one (.ptr 0 0)))),(6,(.v (.one (.ptr 1 0))))],[y2,y5,y1],223,none⟩)))))))) (.need y3 (.br (I.ieq y0 0) (.fin (.ret (.tup [(.agg [(.p (.str ([]:Str))),(.p (.list .fld ([]:List Fld)))]),(.one (.p (.int .i64 5)))])) []) (.need y4 (.need y6 (.need y4 (.code 0 [0,1,1,1,1,1,1,1,1,1,0,0] ⟨[(4,(.v (.one (.p (.int .i64 (I.add (I.add j (I.add m 1)) y0)))))),(5,(.v (.one (.p (.int .i64 y0))))),(7,(.v (.one (.ptr 2 0)))),(0,(.v (.one (.p (.str s))))),(2,(.v (.one (.ptr 0 0)))),(6,(.v (.one (.ptr 1 0))))],[y2,y5,y1],223,none⟩)))))))))))) (by kernel_rfl) ?_
      simp only [zn]
      subst hI
      simp only [nrmA,nrmB]
      have f3:=Yv s j.toNat
      rw [show j.toNat+(tokS (s.drop j.toNat)).length=(j+m).toNat by omega] at f3
      have e1:(s.drop j.toNat).take ((j+m).toNat - j.toNat)=tokS (s.drop j.toNat):=by
        rw [show(j+m).toNat - j.toNat=(tokS (s.drop j.toNat)).length by omega]
        exact WN isTk _
      have hml:=yP (s.drop j.toNat)
      have hp:parM (s.drop j.toNat)=if zI (s.drop (j+(m+1)).toNat) 34=true then(if(quoF (s.drop (j+(m+1)+1).toNat)).isSome=true then(0,⟨lowS (tokS (s.drop j.toNat)),quoV (s.drop (j+(m+1)+1).toNat)⟩,quoR (s.drop (j+(m+1)+1).toNat)) else(14,⟨[],[]⟩,[]))
          else if tokS (s.drop (j+(m+1)).toNat)=[] then(5,⟨[],[]⟩,tokE (s.drop (j+(m+1)).toNat)) else(0,⟨lowS (tokS (s.drop j.toNat)),tokS (s.drop (j+(m+1)).toNat)⟩,tokE (s.drop (j+(m+1)).toNat)):=by
        unfold parM
        rw [if_neg ht,← f3,if_neg (by rw [hq];simp),List.drop_drop,List.drop_drop,show(j+m).toNat+1=(j+(m+1)).toNat by omega,show(j+m).toNat+2=(j+(m+1)+1).toNat by omega]
      rw [hp] at hm
      rw [e1]
      rw [List.length_drop] at hml hjn
      have hnl:=yS (tokS (s.drop j.toNat))
      generalize lowS (tokS (s.drop j.toNat))=nm at *
      generalize hj3:j+(m+1)=p at *
      clear hp f3 ht hq e1 hA
      have hH:=tY s p (by omega) 34
      rw [show(((34:UInt8).toNat:Nat):Int)=34 from rfl] at hH
      have hT:tokS (s.drop p.toNat)=[]↔((tokS (s.drop p.toNat)).length:Int)=0:=by rw [← List.length_eq_zero_iff];omega
      have f4:=Yv s p.toNat
      have e2:(s.drop p.toNat).take ((p+(tokS (s.drop p.toNat)).length).toNat - p.toNat)=tokS (s.drop p.toNat):=by
        rw [show(p+((tokS (s.drop p.toNat)).length:Int)).toNat - p.toNat=(tokS (s.drop p.toNat)).length by omega]
        exact WN isTk _
      have hml2:=yP (s.drop p.toNat)
      rw [List.length_drop] at hml2
      rw [show p.toNat+(tokS (s.drop p.toNat)).length=(p+((tokS (s.drop p.toNat)).length:Int)).toNat by omega] at f4
      rw [e2]
      have hsl:=xE (tokE (s.drop p.toNat))
      rw [← f4,List.length_drop] at hsl
      by_cases q1:zI (s.drop p.toNat) 34=true
      · have q2:=hH.1 q1
        rw [if_pos q1] at hm
        have hk:=keyQ (p+1) nm
        (repeat' (first|refine And.intro ?_ ?_|intro _))<;>first|omega|exact True.intro|exact False.elim ‹False›|skip
        all_goals first|omega|exact hk _ (by omega) (by omega) (by rw [List.length_drop];omega) hm (by kernel_rfl)|(exfalso;exact absurd q2.2 ‹_›)|trace_state
      · rw [if_neg q1] at hm
        have q2:p<s.length→¬ ((s.getD p.toNat 0).toNat:Int)=34:=fun a b=>q1 (hH.2 ⟨a,b⟩)
        by_cases q3:tokS (s.drop p.toNat)=[]
        · rw [if_pos q3] at hm
          have q4:=hT.1 q3
          simp only [medS,finL,ne_eq,reduceCtorEq,not_false_eq_true,if_true,if_false,Prod.mk.injEq,Med.mk.injEq,Int.reduceEq] at hm
          (repeat' (first|refine And.intro ?_ ?_|intro _))<;>first|omega|exact True.intro|exact False.elim ‹False›|skip
          all_goals first|omega|(simp [← hm.1.1,← hm.1.2,← hm.2];done)|(exfalso;exact q2 (by omega) ‹_›)|trace_state
        · rw [if_neg q3,← f4] at hm
          have q4: ¬ ((tokS (s.drop p.toNat)).length:Int)=0:=fun h=>q3 (hT.2 h)
          have hk:=key46 (p+((tokS (s.drop p.toNat)).length:Int)) nm (tokS (s.drop p.toNat)) (by omega) (by omega) (by omega) hm
          (repeat' (first|refine And.intro ?_ ?_|intro _))<;>first|omega|exact True.intro|exact False.elim ‹False›|skip
          all_goals first|omega|(exfalso;exact q2 (by omega) ‹_›)|exact seam (by first|rfl|exact hI) zi mixed [zZ,zY,yF,yE,xZ,xY,yL,yK] hX [0,2,4,6,7] ⟨[(0,.v (.one (.p (.str s)))),(2,.v (.one (.ptr 0 0))),(4,.v (.one (.p (.int .i64 ((p+((tokS (s.drop p.toNat)).length:Int))))))),(6,.v (.one (.ptr 1 0))),(7,.v (.one (.ptr 2 0)))],[.pack [.obj 85 [(.p (.str ([]))),(.row 1)],.row .fld 82 ([])],.pack [.obj 85 [(.p (.str w)),(.row 1)],.row .fld 82 l],.pack [.obj 82 [(.p (.str nm)),(.p (.str ((tokS (s.drop p.toNat)))))]]],223,none⟩ (by kernel_rfl) (hk)|trace_state
    refine zh (let y2:=I.hid (α:=Int) (HAdd.hAdd i (Nat.cast (blkN (List.drop (Int.toNat i) s))));let y0:=I.hid (α:=Int) (HAdd.hAdd (I.add y2 1) (Nat.cast (blkN (List.drop (Int.toNat (I.add y2 1)) s))));let y1:=I.hid (α:=Int) (Nat.cast (List.length (tokS (List.drop (Int.toNat y0) s))));let y3:=I.inr Go.IntKind.i64 (I.add y0 y1);.need (I.hid (α:=(Prop)) (And (LE.le (List.length s) 1000000) (And (LE.le (0:Int) i) (LE.le i (Nat.cast (List.length s)))))) (.br (I.ieq y2 (I.len (α:=UInt8) s)) (.fin (.ret (.tup [(.agg [(.p (.str w)),(.p (.list .fld l))]),(.one (.p (.int .i64 0)))])) []) (.need (I.inb y2 (I.len (α:=UInt8) s)) (.br (I.bnot (I.ieq (I.b2i (I.get (α:=UInt8) s 0 y2)) 59)) (.fin (.ret (.tup [(.agg [(.p (.str ([]:Str))),(.p (.list .fld ([]:List Fld)))]),(.one (.p (.int .i64 5)))])) []) (.need (I.inr Go.IntKind.i64 (I.add y2 1)) (.need (I.hid (α:=(Prop)) (And (LE.le (List.length s) 1000000) (And (LE.le (0:Int) (I.add y2 1)) (LE.le (I.add y2 1) (Nat.cast (List.length s)))))) (.need (I.hid (α:=(Prop)) (And (LE.le (List.length s) 1000000) (And (LE.le (0:Int) y0) (LE.le y0 (Nat.cast (List.length s)))))) (.br (I.ieq y1 0) (.fin (.ret (.tup [(.agg [(.p (.str ([]:Str))),(.p (.list .fld ([]:List Fld)))]),(.one (.p (.int .i64 5)))])) []) (.need y3 (.br (I.ieq (I.add y0 y1) (I.len (α:=UInt8) s)) (.fin (.ret (.tup [(.agg [(.p (.str ([]:Str))),(.p (.list .fld ([]:List Fld)))]),(.one (.p (.int .i64 5)))])) []) (.need y3 (.need (I.inb (I.add y0 y1) (I.len (α:=UInt8) s)) (.br (I.bnot (I.ieq (I.b2i (I.get (α:=UInt8) s 0 (I.add y0 y1))) 61)) (.fin (.ret (.tup [(.agg [(.p (.str ([]:Str))),(.p (.list .fld ([]:List Fld)))]),(.one (.p (.int .i64 5)))])) []) (.code 0 [0,1,1,1,1,1,1,0] ⟨[(5,(.v (.one (.p (.int .i64 y1))))),(4,(.v (.one (.p (.int .i64 y0))))),(0,(.v (.one (.p (.str s))))),(2,(.v (.one (.ptr 0 0)))),(6,(.v (.one (.ptr 1 0))))],[(.pack [(.obj 85 [(.p (.str ([]:Str))),(.row 1)]),(.row .fld 82 ([]:List Fld))]),(.pack [(.obj 85 [(.p (.str w)),(.row 1)]),(.row .fld 82 l)])],223,none⟩)))))))))))))) (by kernel_rfl) ?_
    simp only [zn]
    subst hI
    simp only [nrmA,nrmB]
    have hb:=Rf (s.drop i.toNat)
    rw [List.length_drop] at hb
    have f1:=SS s i.toNat
    generalize hj1:i+(blkN (s.drop i.toNat):Int)=j1
    rw [show i.toNat+blkN (s.drop i.toNat)=j1.toNat by omega] at f1
    have hb2:=Rf (s.drop (j1+1).toNat)
    rw [List.length_drop] at hb2
    have f2:=SS s (j1+1).toNat
    generalize hj2:j1+1+(blkN (s.drop (j1+1).toNat):Int)=j2
    rw [show(j1+1).toNat+blkN (s.drop (j1+1).toNat)=j2.toNat by omega] at f2
    rw [← f1] at hm hn
    rw [ze7,List.drop_drop,show j1.toNat+1=(j1+1).toNat by omega,← f2] at hm
    have hH:=tY s j1 (by omega) 59
    rw [show(((59:UInt8).toNat:Nat):Int)=59 from rfl] at hH
    have hE:=drop_nil s j1 (by omega) (by omega)
    have f3:=Yv s j2.toNat
    have hT:tokS (s.drop j2.toNat)=[]↔((tokS (s.drop j2.toNat)).length:Int)=0:=by rw [← List.length_eq_zero_iff];omega
    have hml:=yP (s.drop j2.toNat)
    rw [List.length_drop] at hml hn
    have hP5:tokS (s.drop j2.toNat)=[]→parM (s.drop j2.toNat)=(5,⟨[],[]⟩,tokE (s.drop j2.toNat)):=fun h=>by unfold parM;rw [if_pos h]
    have hP6: ¬ tokS (s.drop j2.toNat)=[]→zI (tokE (s.drop j2.toNat)) 61=false→parM (s.drop j2.toNat)=(5,⟨[],[]⟩,tokE (s.drop j2.toNat)):=fun h k=>by unfold parM;rw [if_neg h,if_pos k]
    have hk:=key24 j2 (tokS (s.drop j2.toNat)).length
    generalize hm2:((tokS (s.drop j2.toNat)).length:Int)=m at *
    rw [show j2.toNat+(tokS (s.drop j2.toNat)).length=(j2+m).toNat by omega] at f3
    rw [← f3] at hP6
    have hH2:=tY s (j2+m) (by omega) 61
    rw [show(((61:UInt8).toNat:Nat):Int)=61 from rfl] at hH2
    clear hA
    by_cases q1:j1=s.length
    · have q2:=hE.2 q1
      have q3:zI (s.drop j1.toNat) 59=false:=by
        cases hh:zI (s.drop j1.toNat) 59 with
        |false=>rfl
        |true=>exact absurd (hH.1 hh).1 (by omega)
      rw [q3,if_neg Bool.false_ne_true,if_pos q2] at hm
      simp only [finL,if_true,Prod.mk.injEq,Med.mk.injEq] at hm
      (repeat' (first|refine And.intro ?_ ?_|intro _))<;>first|omega|exact True.intro|exact False.elim ‹False›|skip
      all_goals first|omega|(simp [hm];done)|trace_state
    have q2: ¬ s.drop j1.toNat=[]:=fun h=>q1 (hE.1 h)
    by_cases q3:zI (s.drop j1.toNat) 59=true
    · have q4:=hH.1 q3
      rw [if_pos q3] at hm
      by_cases q5:tokS (s.drop j2.toNat)=[]
      · rw [hP5 q5] at hm
        have q6:=hT.1 q5
        simp only [medS,finL,ne_eq,reduceCtorEq,not_false_eq_true,if_true,if_false,Prod.mk.injEq,Med.mk.injEq,Int.reduceEq] at hm
        (repeat' (first|refine And.intro ?_ ?_|intro _))<;>first|omega|exact True.intro|exact False.elim ‹False›|skip
        all_goals first|omega|(simp [← hm.1.1,← hm.1.2,← hm.2];done)|trace_state
      have q6: ¬ m=0:=fun h=>q5 (hT.2 h)
      cases q7:zI (s.drop (j2+m).toNat) 61 with
      | false=>
        rw [hP6 q5 q7] at hm
        simp only [medS,finL,ne_eq,reduceCtorEq,not_false_eq_true,if_true,if_false,Prod.mk.injEq,Med.mk.injEq,Int.reduceEq] at hm
        have q8:j2+m<s.length→¬ ((s.getD (j2+m).toNat 0).toNat:Int)=61:=fun a b=>by rw [hH2.2 ⟨a,b⟩] at q7;cases q7
        generalize((s.getD (j2+m).toNat 0).toNat:Int)=x at *
        (repeat' (first|refine And.intro ?_ ?_|intro _))<;>first|omega|exact True.intro|exact False.elim ‹False›|skip
        all_goals first|omega|(simp [← hm.1.1,← hm.1.2,← hm.2];done)|(exfalso;exact q8 (by omega) ‹_›)|trace_state
      | true=>
        have q8:=hH2.1 q7
        have hk2:=hk (by omega) q8.1 rfl q5 q7 (by rw [List.length_drop];omega) hm
        (repeat' (first|refine And.intro ?_ ?_|intro _))<;>first|omega|exact True.intro|exact False.elim ‹False›|skip
        all_goals first|omega|(exfalso;exact absurd q8.2 ‹_›)|exact seam (by first|rfl|exact hI) zi mixed [zZ,zY,yF,yE,xZ,xY,yL,yK] hX [0,2,4,5,6] ⟨[(0,.v (.one (.p (.str s)))),(2,.v (.one (.ptr 0 0))),(4,.v (.one (.p (.int .i64 j2)))),(5,.v (.one (.p (.int .i64 m)))),(6,.v (.one (.ptr 1 0)))],[.pack [.obj 85 [(.p (.str ([]))),(.row 1)],.row .fld 82 ([])],.pack [.obj 85 [(.p (.str w)),(.row 1)],.row .fld 82 l]],223,none⟩ (by kernel_rfl) (hk2)|trace_state
    · have q4:j1<s.length→¬ ((s.getD j1.toNat 0).toNat:Int)=59:=fun a b=>q3 (hH.2 ⟨a,b⟩)
      rw [if_neg q3,if_neg q2] at hm
      simp only [medS,finL,ne_eq,reduceCtorEq,not_false_eq_true,if_true,if_false,Prod.mk.injEq,Med.mk.injEq,Int.reduceEq] at hm
      have q5:=q4 (by omega)
      (repeat' (first|refine And.intro ?_ ?_|intro _))<;>first|omega|exact True.intro|exact False.elim ‹False›|skip
      all_goals first|omega|(simp [← hm.1.1,← hm.1.2,← hm.2];done)|(exfalso;exact q5 ‹_›)|trace_state
  have key9: ∀ (i:Int) (w:Str),0≤i→i≤s.length→w.length≤1000000→finM (if zI (s.drop i.toNat) 47=true then(if tokS (s.drop (i+1).toNat)=[] then(5,⟨[],[]⟩,tokE (s.drop (i+1).toNat)) else medB (w++([47]++lowS (tokS (s.drop (i+1).toNat)))) (tokE (s.drop (i+1).toNat))) else medB w (s.drop i.toNat))=(⟨pw,ps⟩,c)→Ok Tryz.prog X (fun o h=>o=AOut.ret (D.tup [V0.agg [C.p (P.str pw),C.p (P.list U.fld ps)],V0.one (C.p (P.int IntKind.i64 c))])∧h=[]) (go I tab { cfgM with seam:=[9,24,46],keep:=some [0,2,3,4,5,6,7,8,9]} [zZ,zY,yF,yE,xZ,xY,yL,yK] [⟨xQ Tryz.f59,finK I tab { cfgM with seam:=[9,24,46],keep:=some [0,2,3,4,5,6,7,8,9]} 0 Tryz.f59⟩] 0 [1,1,1,1,1,1,1,0,0] ⟨[(0,.v (.one (.p (.str s)))),(2,.v (.one (.ptr 0 0))),(4,.v (.one (.p (.int .i64 i)))),(6,.v (.one (.ptr 1 0)))],[.pack [.obj 85 [(.p (.str ([]))),(.row 1)],.row .fld 82 ([])],.pack [.obj 85 [(.p (.str w)),(.row 1)],.row .fld 82 ([])]],223,none⟩):=by
    intro i w h0 h1 hw hm
    refine zh (let y0:=I.hid (α:=Int) (Nat.cast (List.length (tokS (List.drop (Int.toNat (I.add i 1)) s))));let y1:=I.hid (α:=Str) (lowS (I.cut (α:=UInt8) s (I.add i 1) (I.add (I.add i 1) y0)));let y2:HO:=.pack [(.obj 85 [(.p (.str ([]:Str))),(.row 1)]),(.row .fld 82 ([]:List Fld))];let y3:=I.hid (α:=(Prop)) (LE.le (List.length (I.cut (α:=UInt8) s (I.add i 1) (I.add (I.add i 1) y0))) 1000000);let y4:=I.few (I.add (I.len (α:=UInt8) w) (I.len (α:=UInt8) (I.app (α:=UInt8) ([47]:Str) y1))) 1000000000;let y5:HO:=.obj 85 [(.p (.str (I.app (α:=UInt8) w (I.app (α:=UInt8) ([47]:Str) y1)))),(.row 2)];let y6:=I.few (I.add (I.len (α:=UInt8) ([47]:Str)) (I.len (α:=UInt8) y1)) 1000000000;let y7:HO:=.pack [(.obj 85 [(.p (.str w)),(.row 1)]),(.row .fld 82 ([]:List Fld))];let y8:=I.inr Go.IntKind.i64 (I.add i 1);let y9:=I.inr Go.IntKind.i64 (I.add i (I.add 1 y0));let y10:=I.inr Go.IntKind.i64 (I.add 1 y0);.br (I.ilt i (I.len (α:=UInt8) s)) (.need (I.inb i (I.len (α:=UInt8) s)) (.br (I.ieq (I.b2i (I.get (α:=UInt8) s 0 i)) 47) (.need y8 (.need (I.hid (α:=(Prop)) (And (LE.le (List.length s) 1000000) (And (LE.le (0:Int) (I.add i 1)) (LE.le (I.add i 1) (Nat.cast (List.length s)))))) (.br (I.ieq y0 0) (.fin (.ret (.tup [(.agg [(.p (.str ([]:Str))),(.p (.list .fld ([]:List Fld)))]),(.one (.p (.int .i64 5)))])) []) (.need y8 (.need y8 (.need (I.inr Go.IntKind.i64 (I.add (I.add i 1) y0)) (.need (I.cutb (I.add i 1) (I.add (I.add i 1) y0) (I.len (α:=UInt8) s)) (.both (.need y3 (.need y6 (.need y4 (.need y10 (.need y9 (.code 0 [1,1,1,1,1,1,1,1,0] ⟨[(4,(.v (.one (.p (.int .i64 (I.add i (I.add 1 y0))))))),(5,(.v (.one (.p (.int .i64 y0))))),(0,(.v (.one (.p (.str s))))),(2,(.v (.one (.ptr 0 0)))),(6,(.v (.one (.ptr 1 0))))],[y2,y5,(.row .fld 82 ([]:List Fld))],223,none⟩)))))) (.need y3 (.need y6 (.need y4 (.need y10 (.need y9 (.code 0 [1,1,1,1,1,1,1,1,0] ⟨[(4,(.v (.one (.p (.int .i64 (I.add i (I.add 1 y0))))))),(5,(.v (.one (.p (.int .i64 y0))))),(0,(.v (.one (.p (.str s))))),(2,(.v (.one (.ptr 0 0)))),(6,(.v (.one (.ptr 1 0))))],[y2,y5,(.row .fld 82 ([]:List Fld))],223,none⟩)))))))))))))) (.code 0 [1,1,1,1,1,1,1,1,0] ⟨[(0,(.v (.one (.p (.str s))))),(2,(.v (.one (.ptr 0 0)))),(4,(.v (.one (.p (.int .i64 i))))),(6,(.v (.one (.ptr 1 0))))],[y2,y7],223,none⟩))) (.code 0 [1,1,1,1,1,1,1,1,0] ⟨[(0,(.v (.one (.p (.str s))))),(2,(.v (.one (.ptr 0 0)))),(4,(.v (.one (.p (.int .i64 i))))),(6,(.v (.one (.ptr 1 0))))],[y2,y7],223,none⟩)) (by kernel_rfl) ?_
    simp only [zn]
    subst hI
    simp only [nrmA,nrmB]
    have hH:=tY s i h0 47
    rw [show(((47:UInt8).toNat:Nat):Int)=47 from rfl] at hH
    have hT:tokS (s.drop (i+1).toNat)=[]↔((tokS (s.drop (i+1).toNat)).length:Int)=0:=by rw [← List.length_eq_zero_iff];omega
    have f4:=Yv s (i+1).toNat
    have e2:(s.drop (i+1).toNat).take ((i+1+(tokS (s.drop (i+1).toNat)).length).toNat - (i+1).toNat)=tokS (s.drop (i+1).toNat):=by
      rw [show(i+1+((tokS (s.drop (i+1).toNat)).length:Int)).toNat - (i+1).toNat=(tokS (s.drop (i+1).toNat)).length by omega]
      exact WN isTk _
    have hml2:=yP (s.drop (i+1).toNat)
    rw [List.length_drop] at hml2
    rw [show(i+1).toNat+(tokS (s.drop (i+1).toNat)).length=(i+(1+((tokS (s.drop (i+1).toNat)).length:Int))).toNat by omega] at f4
    rw [e2]
    have hll:=yS (tokS (s.drop (i+1).toNat))
    by_cases q1:zI (s.drop i.toNat) 47=true
    · have q2:=hH.1 q1
      rw [if_pos q1] at hm
      by_cases q3:tokS (s.drop (i+1).toNat)=[]
      · rw [if_pos q3] at hm
        have q4:=hT.1 q3
        simp only [finM,ne_eq,reduceCtorEq,not_false_eq_true,if_true,if_false,Prod.mk.injEq,Med.mk.injEq,Int.reduceEq] at hm
        (repeat' (first|refine And.intro ?_ ?_|intro _))<;>first|omega|exact True.intro|exact False.elim ‹False›|skip
        all_goals first|omega|(simp [← hm.1.1,← hm.1.2,← hm.2];done)|(exfalso;exact absurd q2.2 ‹_›)|trace_state
      · rw [if_neg q3,← f4] at hm
        have q4: ¬ ((tokS (s.drop (i+1).toNat)).length:Int)=0:=fun h=>q3 (hT.2 h)
        (repeat' (first|refine And.intro ?_ ?_|intro _))<;>first|omega|exact True.intro|exact False.elim ‹False›|skip
        all_goals first|omega|(exfalso;exact absurd q2.2 ‹_›)|exact keyL _ _ _ (by omega) (by omega) hm (by kernel_rfl)|(simp only [List.length_append,List.length_cons,List.length_nil];omega)|trace_state
    · rw [if_neg q1] at hm
      have q2:i<s.length→¬ ((s.getD i.toNat 0).toNat:Int)=47:=fun a b=>q1 (hH.2 ⟨a,b⟩)
      (repeat' (first|refine And.intro ?_ ?_|intro _))<;>first|omega|exact True.intro|exact False.elim ‹False›|skip
      all_goals first|omega|(exfalso;exact q2 (by omega) ‹_›)|exact keyL _ _ _ h0 h1 hm (by kernel_rfl)|trace_state
  clear keyL
  subst hI
  simp only [nrmA,nrmB]
  rw [Int.zero_add]
  unfold zX yB medA at hr
  have f1:=SS s 0
  have hb:=Rf s
  rw [Nat.zero_add,List.drop_zero] at f1
  rw [show((blkN s:Int)).toNat=blkN s by omega]
  rw [f1]
  have f2:=Yv s (blkN s)
  rw [f1] at f2
  have hml:=yP (skS s)
  have hll:=yS (tokS (skS s))
  have hsl:(skS s).length=s.length - blkN s:=by rw [← f1,List.length_drop]
  have e1:(skS s).take (((blkN s:Int)+(tokS (skS s)).length).toNat - blkN s)=tokS (skS s):=by
    rw [show((blkN s:Int)+((tokS (skS s)).length:Int)).toNat - blkN s=(tokS (skS s)).length by omega]
    exact WN isTk _
  rw [e1]
  have hk:=key9 ((blkN s:Int)+(tokS (skS s)).length) (lowS (tokS (skS s))) (by omega) (by omega) (by omega)
  clear key9
  by_cases hs:wH s=true
  · rw [if_neg (by rw [hs];simp)] at hr
    by_cases q:tokS (skS s)=[]
    · have q2:((tokS (skS s)).length:Int)=0:=by rw [q];rfl
      rw [if_pos q] at hr
      simp only [if_false,Prod.mk.injEq,Med.mk.injEq,Int.reduceEq] at hr
      (repeat' (first|refine And.intro ?_ ?_|intro _))<;>first|omega|exact True.intro|exact False.elim ‹False›|skip
      all_goals first|omega|(simp [← hr.1.1,← hr.1.2,← hr.2];done)|(simp_all;done)|trace_state
    · have q2: ¬ ((tokS (skS s)).length:Int)=0:=fun h=>q (List.length_eq_zero_iff.1 (by omega))
      rw [if_neg q] at hr
      have hk2:=hk (by
        rw [show((blkN s:Int)+((tokS (skS s)).length:Int)).toNat=blkN s+(tokS (skS s)).length by omega,f2,show((blkN s:Int)+((tokS (skS s)).length:Int)+1).toNat=blkN s+(tokS (skS s)).length+1 by omega,← List.drop_drop,f2]
        exact hr)
      (repeat' (first|refine And.intro ?_ ?_|intro _))<;>first|omega|exact True.intro|exact False.elim ‹False›|skip
      all_goals first|omega|(simp_all;done)|exact seam (by first|rfl|exact hI) zi mixed [zZ,zY,yF,yE,xZ,xY,yL,yK] hX [0,2,4,6] ⟨[(0,.v (.one (.p (.str s)))),(2,.v (.one (.ptr 0 0))),(4,.v (.one (.p (.int .i64 (((blkN s:Int)+((tokS (skS s)).length:Int))))))),(6,.v (.one (.ptr 1 0)))],[.pack [.obj 85 [(.p (.str ([]))),(.row 1)],.row .fld 82 ([])],.pack [.obj 85 [(.p (.str ((lowS (tokS (skS s)))))),(.row 1)],.row .fld 82 ([])]],223,none⟩ (by kernel_rfl) (hk2)|trace_state
  · have hs:wH s=false:=by simpa using hs
    rw [if_pos hs] at hr
    simp only [Prod.mk.injEq,Med.mk.injEq] at hr
    (repeat' (first|refine And.intro ?_ ?_|intro _))<;>first|omega|exact True.intro|exact False.elim ‹False›|skip
    all_goals first|omega|(simp [← hr.1.1,← hr.1.2,← hr.2];done)|(simp_all;done)|trace_state
def ZN (I:Alg) (args:List D) (hp:List HO):Option CT:=match args,hp with
  |[.v (.one (.p (.str s)))],[]=>(fun(s:Str)=>(some (.one ⟨I.hid (s.length≤1000000),(.ret (.tup [(.agg [(.p (.str (I.hid ((zX s).1.word)))),(.p (.list .fld (I.hid ((zX s).1.params))))]),(.one (.p (.int .i64 (I.hid ((zX s).2)))))])),[]⟩):Option CT)) s
  |_,_=>none
theorem Qj:zy Tryz.prog 59 (ZN alg):=by
  intro args hp r h
  unfold ZN at h
  split at h
  · cases h;exact fun hn=>ziK _ hn
  · cases h
def W9:Know Tryz.prog:=⟨59,ZN,Qj⟩
def WZ:Know Tryz.prog:=⟨59,fun I=>zA I (ZN I),zf Qj⟩
end Go.Proofs.YtknaogelmckimaaGreatDoor
namespace Go.Proofs.YtknaogelmckimaaGreatDoor
open Go Go.Sep Go.Ab
set_option maxRecDepth 100000
theorem zaA {l m:List Fld} {i:Nat} (h1:i<l.length) (h2:i<m.length):(decide (l.drop i=m.drop i))=(decide (l.getD i ⟨[],[]⟩=m.getD i ⟨[],[]⟩)&&decide (l.drop (i+1)=m.drop (i+1))):=by
  have e1:l.getD i ⟨[],[]⟩=l[i]:=by simp [h1]
  have e2:m.getD i ⟨[],[]⟩=m[i]:=by simp [h2]
  rw [e1,e2,Bool.eq_iff_iff,Bool.and_eq_true,decide_eq_true_iff,decide_eq_true_iff,decide_eq_true_iff,List.drop_eq_getElem_cons h1,List.drop_eq_getElem_cons h2,List.cons.injEq]
theorem zjE {x y:Fld} (h1:x.name=y.name) (h2:x.value=y.value):x=y:=by cases x;cases y;simp_all
theorem zj6 (l m:List Fld) (hneed:l.length≤140737488355328∧m.length≤140737488355328):Spc Tryz.prog 64 [.v (.one (.p (.list .fld l))),.v (.one (.p (.list .fld m)))] [] (.ret (.v (.one (.p (.bool ((decide (l=m)))))))) []:=by
  obtain⟨hl,hm⟩:=hneed
  generalize hr:decide (l=m)=r
  refine spcG zi mixed Tryz.func64 (by kernel_rfl) { keep:=some [0,1,4,5]} [] (by kernel_rfl) ?_
  intro I X hI hX
  refine zh (.br (I.bnot (I.ieq (I.len (α:=Fld) l) (I.len (α:=Fld) m))) (.fin (.ret (.v (.one (.p (.bool Bool.false))))) []) (.code 0 [1,1,0,1,0] ⟨[(5,(.v (.one (.p (.int .i64 0))))),(4,(.v (.one (.p (.val (.bool .false)))))),(0,(.v (.one (.p (.list .fld l))))),(1,(.v (.one (.p (.list .fld m)))))],[],26,none⟩)) (by kernel_rfl) ?_
  simp only [zn]
  refine⟨fun c1=> ?_,fun c1=> ?_⟩
  · subst hI
    simp only [nrmA,nrmB] at c1
    simp only [nrmA,nrmB]
    rw [← hr]
    exact(decide_eq_false fun e=>c1 (by rw [e])).symm
  have hlm:l.length=m.length:=by
    subst hI
    simp only [nrmA,nrmB] at c1
    omega
  refine zu hI zi mixed [] hX [0,1,5] (fun(i:Nat)=>i≤l.length∧r=decide (l.drop i=m.drop i)) (fun(i:Nat)=>⟨[(0,.v (.one (.p (.list .fld l)))),(1,.v (.one (.p (.list .fld m)))),(5,.v (.one (.p (.int .i64 i))))],[],26,none⟩) (fun(i:Nat)=>l.length - i) 0 (by kernel_rfl) (by kernel_rfl) ?_ ?_
  · exact⟨Nat.zero_le _,hr.symm⟩
  rintro i ⟨h1,h2⟩ A hA
  refine zh (let y0:=I.get (α:=Fld) l (Fld.mk ([]:Str) ([]:Str)) (Nat.cast i);let y1:=I.get (α:=Fld) m (Fld.mk ([]:Str) ([]:Str)) (Nat.cast i);let y2:=I.inb (Nat.cast i) (I.len (α:=Fld) l);let y3:=I.inb (Nat.cast i) (I.len (α:=Fld) m);.br (I.ilt (Nat.cast i) (I.len (α:=Fld) l)) (.need y2 (.need y2 (.need y3 (.need y3 (.br (I.bnot (I.ban (I.seq (Fld.name y0) (Fld.name y1)) (I.seq (Fld.value y0) (Fld.value y1)))) (.fin (.ret (.v (.one (.p (.bool Bool.false))))) []) (.need (I.inr Go.IntKind.i64 (I.add (Nat.cast i) 1)) (.need (A ⟨[(0,(.v (.one (.p (.list .fld l))))),(1,(.v (.one (.p (.list .fld m))))),(5,(.v (.one (.p (.int .i64 (I.add (Nat.cast i) 1))))))],[],26,none⟩) .qed))))))) (.fin (.ret (.v (.one (.p (.bool Bool.true))))) [])) (by kernel_rfl) ?_
  simp only [zn]
  subst hI
  simp only [nrmA,nrmB,nrlB,reduceCtorEq]
  have hd:i<l.length→_:=fun h=>zaA (l:=l) (m:=m) (i:=i) h (by omega)
  have hend: ¬ i<l.length→r=true:=fun h=>by
    rw [h2,List.drop_of_length_le (by omega),List.drop_of_length_le (by omega)];simp
  generalize l.getD i ⟨[],[]⟩=x at *
  generalize m.getD i ⟨[],[]⟩=y at *
  have hx: ¬ x=y→i<l.length→r=false:=fun h hi=>by rw [h2,hd hi,decide_eq_false h,Bool.false_and]
  have hy:x=y→i<l.length→r=decide (l.drop (i+1)=m.drop (i+1)):=fun h hi=>by rw [h2,hd hi,decide_eq_true h,Bool.true_and]
  (repeat' (first|refine And.intro ?_ ?_|intro _))<;>first|omega|exact True.intro|exact False.elim ‹False›|skip
  all_goals first
    |omega
    |(exact(hx (by rintro rfl;simp_all) (by omega)).symm)
    |(rw [hx (by rintro rfl;simp_all) (by omega)])
    |exact hA (i+1) ⟨by omega,hy (zjE (by simp_all) (by simp_all)) (by omega)⟩ (by omega)
    |(rw [hend (by omega)])
def XL (I:Alg) (args:List D) (hp:List HO):Option CT:=match args,hp with
  |[.v (.one (.p (.list .fld l))),.v (.one (.p (.list .fld m)))],[]=>(fun(l m:List Fld)=>(some (.one ⟨I.hid (l.length≤140737488355328∧m.length≤140737488355328),(.ret (.v (.one (.p (.bool (I.hid ((decide (l=m))))))))),[]⟩):Option CT)) l m
  |_,_=>none
theorem zcg:zy Tryz.prog 64 (XL alg):=by
  intro args hp r h
  unfold XL at h
  split at h
  · cases h;exact fun hn=>zj6 _ _ hn
  · cases h
def zgT:Know Tryz.prog:=⟨64,XL,zcg⟩
def zgS:Know Tryz.prog:=⟨64,fun I=>zA I (XL I),zf zcg⟩
end Go.Proofs.YtknaogelmckimaaGreatDoor
namespace Go.Proofs.YtknaogelmckimaaGreatDoor
open Go Go.Sep Go.Ab
set_option maxRecDepth 100000
def hdB (a b:Str) (c:Int) (f:List Fld) (d:Int) (a2 b2:Str) (c2:Int) (f2:List Fld) (d2:Int):Bool:=decide ((⟨a,b,c,f,d⟩:Hd)=⟨a2,b2,c2,f2,d2⟩)
def ptB (a b c d a2 b2 c2 d2:Str):Bool:=decide ((⟨a,b,c,d⟩:Prt)=⟨a2,b2,c2,d2⟩)
theorem zjj {x y:Hd}:hdB x.method x.target x.minor x.fields x.length y.method y.target y.minor y.fields y.length=true↔x=y:=by unfold hdB;exact decide_eq_true_iff
theorem zeO {x y:Prt}:ptB x.name x.file x.type x.bytes y.name y.file y.type y.bytes=true↔x=y:=by unfold ptB;exact decide_eq_true_iff
theorem ziD (a b:Str) (c:Int) (f:List Fld) (d:Int) (a2 b2:Str) (c2:Int) (f2:List Fld) (d2:Int) (hneed:f.length≤140737488355328∧f2.length≤140737488355328):Spc Tryz.prog 39 [.v (.agg [(.p (.str a)),(.p (.str b)),(.p (.int .i64 c)),(.p (.list .fld f)),(.p (.int .i64 d))]),.v (.agg [(.p (.str a2)),(.p (.str b2)),(.p (.int .i64 c2)),(.p (.list .fld f2)),(.p (.int .i64 d2))])] [] (.ret (.v (.one (.p (.bool ((hdB a b c f d a2 b2 c2 f2 d2))))))) []:=by
  refine spcG zi mixed Tryz.func39 (by kernel_rfl) { keep:=some [0,1,2,3,4]} [zgT,zgS] (by kernel_rfl) ?_
  intro I X hI hX
  refine zh (.br (I.seq a a2) (.br (I.seq b b2) (.br (I.ieq c c2) (.br (I.ieq d d2) (.need (I.hid (α:=(Prop)) (And (LE.le (List.length f) 140737488355328) (LE.le (List.length f2) 140737488355328))) (.fin (.ret (.v (.one (.p (.bool (I.hid (α:=Bool) (Decidable.decide (Eq f f2)))))))) [])) (.fin (.ret (.v (.one (.p (.bool Bool.false))))) [])) (.fin (.ret (.v (.one (.p (.bool Bool.false))))) [])) (.fin (.ret (.v (.one (.p (.bool Bool.false))))) [])) (.fin (.ret (.v (.one (.p (.bool Bool.false))))) [])) (by kernel_rfl) ?_
  simp only [zn]
  subst hI
  simp only [nrmA,nrmB,nrlB,reduceCtorEq]
  unfold hdB
  rw [show decide ((⟨a,b,c,f,d⟩:Hd)=⟨a2,b2,c2,f2,d2⟩)=(decide (a=a2)&&decide (b=b2)&&decide (c=c2)&&decide (d=d2)&&decide (f=f2)) by rw [Bool.eq_iff_iff];simp only [Hd.mk.injEq,decide_eq_true_iff,Bool.and_eq_true];constructor<;>(intro h;simp [h])]
  (repeat' (first|refine And.intro ?_ ?_|intro _))<;>first|omega|exact True.intro|exact False.elim ‹False›|skip
  all_goals first|exact hneed|(simp_all;done)|trace_state
def ZE (I:Alg) (args:List D) (hp:List HO):Option CT:=match args,hp with
  |[.v (.agg [(.p (.str a)),(.p (.str b)),(.p (.int .i64 c)),(.p (.list .fld f)),(.p (.int .i64 d))]),.v (.agg [(.p (.str a2)),(.p (.str b2)),(.p (.int .i64 c2)),(.p (.list .fld f2)),(.p (.int .i64 d2))])],[]=>(fun(a b:Str) (c:Int) (f:List Fld) (d:Int) (a2 b2:Str) (c2:Int) (f2:List Fld) (d2:Int)=>(some (.one ⟨I.hid (f.length≤140737488355328∧f2.length≤140737488355328),(.ret (.v (.one (.p (.bool (I.hid ((hdB a b c f d a2 b2 c2 f2 d2)))))))),[]⟩):Option CT)) a b c f d a2 b2 c2 f2 d2
  |_,_=>none
theorem Qa:zy Tryz.prog 39 (ZE alg):=by
  intro args hp r h
  unfold ZE at h
  split at h
  · cases h;exact fun hn=>ziD _ _ _ _ _ _ _ _ _ _ hn
  · cases h
def RZ:Know Tryz.prog:=⟨39,ZE,Qa⟩
def RY:Know Tryz.prog:=⟨39,fun I=>zA I (ZE I),zf Qa⟩
theorem ziB (a b c d a2 b2 c2 d2:Str):Spc Tryz.prog 30 [.v (.agg [(.p (.str a)),(.p (.str b)),(.p (.str c)),(.p (.nl d))]),.v (.agg [(.p (.str a2)),(.p (.str b2)),(.p (.str c2)),(.p (.nl d2))])] [] (.ret (.v (.one (.p (.bool ((ptB a b c d a2 b2 c2 d2))))))) []:=by
  refine spcG zi mixed Tryz.func30 (by kernel_rfl) { keep:=some [0,1,2,3,4]} [rJ,rH] (by kernel_rfl) ?_
  intro I X hI hX
  refine zh (.br (I.seq a a2) (.br (I.seq b b2) (.br (I.seq c c2) (.need (I.hid (α:=(Prop)) True) (.fin (.ret (.v (.one (.p (.bool (I.hid (α:=Bool) (BEq.beq d d2))))))) [])) (.fin (.ret (.v (.one (.p (.bool Bool.false))))) [])) (.fin (.ret (.v (.one (.p (.bool Bool.false))))) [])) (.fin (.ret (.v (.one (.p (.bool Bool.false))))) [])) (by kernel_rfl) ?_
  simp only [zn]
  subst hI
  simp only [nrmA,nrmB,nrlB,reduceCtorEq]
  unfold ptB
  rw [show decide ((⟨a,b,c,d⟩:Prt)=⟨a2,b2,c2,d2⟩)=(decide (a=a2)&&decide (b=b2)&&decide (c=c2)&&(d == d2)) by rw [Bool.eq_iff_iff];simp only [Prt.mk.injEq,decide_eq_true_iff,Bool.and_eq_true,beq_iff_eq];constructor<;>(intro h;simp [h])]
  (repeat' (first|refine And.intro ?_ ?_|intro _))<;>first|omega|exact True.intro|exact False.elim ‹False›|skip
  all_goals first|(simp_all;done)|trace_state
def ZB (I:Alg) (args:List D) (hp:List HO):Option CT:=match args,hp with
  |[.v (.agg [(.p (.str a)),(.p (.str b)),(.p (.str c)),(.p (.nl d))]),.v (.agg [(.p (.str a2)),(.p (.str b2)),(.p (.str c2)),(.p (.nl d2))])],[]=>(fun(a b c d a2 b2 c2 d2:Str)=>(some (.one ⟨I.hid (True),(.ret (.v (.one (.p (.bool (I.hid ((ptB a b c d a2 b2 c2 d2)))))))),[]⟩):Option CT)) a b c d a2 b2 c2 d2
  |_,_=>none
theorem RS:zy Tryz.prog 30 (ZB alg):=by
  intro args hp r h
  unfold ZB at h
  split at h
  · cases h;exact fun hn=>ziB _ _ _ _ _ _ _ _
  · cases h
def ZA:Know Tryz.prog:=⟨30,ZB,RS⟩
def Zz:Know Tryz.prog:=⟨30,fun I=>zA I (ZB I),zf RS⟩
theorem zde {α:Type} [DecidableEq α] {l m:List α} {i:Nat} (d:α) (h1:i<l.length) (h2:i<m.length):(decide (l.drop i=m.drop i))=(decide (l.getD i d=m.getD i d)&&decide (l.drop (i+1)=m.drop (i+1))):=by
  have e1:l.getD i d=l[i]:=by simp [h1]
  have e2:m.getD i d=m[i]:=by simp [h2]
  rw [e1,e2,Bool.eq_iff_iff,Bool.and_eq_true,decide_eq_true_iff,decide_eq_true_iff,decide_eq_true_iff,List.drop_eq_getElem_cons h1,List.drop_eq_getElem_cons h2,List.cons.injEq]
theorem getD_in {α:Type} {l:List α} {i:Nat} (d:α) (h:i<l.length):l.getD i d ∈ l:=by
  rw [show l.getD i d=l[i] by simp [h]];exact List.getElem_mem h
theorem zjQ {x y:Evt} (h1:x.kind=y.kind) (h2:x.code=y.code) (h3:x.bytes=y.bytes) (h4:x.head=y.head) (h5:x.part=y.part):x=y:=by cases x;cases y;simp_all
def fewE (l:List Evt):Prop:=l.length≤100000000∧∀ e ∈ l,e.head.fields.length≤140737488355328
theorem ziE (l m:List Evt) (hneed:fewE l∧fewE m):Spc Tryz.prog 15 [.v (.one (.p (.list .evt l))),.v (.one (.p (.list .evt m)))] [] (.ret (.v (.one (.p (.bool ((decide (l=m)))))))) []:=by
  obtain⟨⟨hl,hl2⟩,hm,hm2⟩:=hneed
  generalize hr:decide (l=m)=r
  refine spcG zi mixed Tryz.func15 (by kernel_rfl) { keep:=some [0,1,4,5]} [rJ,rH,RZ,RY,ZA,Zz] (by kernel_rfl) ?_
  intro I X hI hX
  refine zh (.br (I.bnot (I.ieq (I.len (α:=Go.Ab.Evt) l) (I.len (α:=Go.Ab.Evt) m))) (.fin (.ret (.v (.one (.p (.bool Bool.false))))) []) (.code 0 [1,1,0,1,0] ⟨[(5,(.v (.one (.p (.int .i64 0))))),(4,(.v (.one (.p (.val (.bool .false)))))),(0,(.v (.one (.p (.list .evt l))))),(1,(.v (.one (.p (.list .evt m)))))],[],83,none⟩)) (by kernel_rfl) ?_
  simp only [zn]
  refine⟨fun c1=> ?_,fun c1=> ?_⟩
  · subst hI
    simp only [nrmA,nrmB] at c1
    simp only [nrmA,nrmB]
    rw [← hr]
    exact(decide_eq_false fun e=>c1 (by rw [e])).symm
  have hlm:l.length=m.length:=by
    subst hI
    simp only [nrmA,nrmB] at c1
    omega
  refine zu hI zi mixed [rJ,rH,RZ,RY,ZA,Zz] hX [0,1,5] (fun(i:Nat)=>i≤l.length∧r=decide (l.drop i=m.drop i)) (fun(i:Nat)=>⟨[(0,.v (.one (.p (.list .evt l)))),(1,.v (.one (.p (.list .evt m)))),(5,.v (.one (.p (.int .i64 i))))],[],83,none⟩) (fun(i:Nat)=>l.length - i) 0 (by kernel_rfl) (by kernel_rfl) ?_ ?_
  · exact⟨Nat.zero_le _,hr.symm⟩
  rintro i ⟨h1,h2⟩ A hA
  refine zh (let y0:=I.get (α:=Go.Ab.Evt) l (Go.Ab.Evt.mk (0:Int) (Hd.mk ([]:Str) ([]:Str) (0:Int) ([]:List Fld) (0:Int)) ([]:Str) (Go.Ab.Prt.mk ([]:Str) ([]:Str) ([]:Str) ([]:Str)) (0:Int)) (Nat.cast i);let y1:=I.get (α:=Go.Ab.Evt) m (Go.Ab.Evt.mk (0:Int) (Hd.mk ([]:Str) ([]:Str) (0:Int) ([]:List Fld) (0:Int)) ([]:Str) (Go.Ab.Prt.mk ([]:Str) ([]:Str) ([]:Str) ([]:Str)) (0:Int)) (Nat.cast i);let y2:=I.inb (Nat.cast i) (I.len (α:=Go.Ab.Evt) l);let y3:=I.inb (Nat.cast i) (I.len (α:=Go.Ab.Evt) m);.br (I.ilt (Nat.cast i) (I.len (α:=Go.Ab.Evt) l)) (.need y2 (.need y2 (.need y3 (.need y3 (.br (I.bnot (I.ieq (Go.Ab.Evt.kind y0) (Go.Ab.Evt.kind y1))) (.fin (.ret (.v (.one (.p (.bool Bool.false))))) []) (.need y2 (.need y2 (.need y3 (.need y3 (.br (I.bnot (I.ieq (Go.Ab.Evt.code y0) (Go.Ab.Evt.code y1))) (.fin (.ret (.v (.one (.p (.bool Bool.false))))) []) (.need y2 (.need y2 (.need y3 (.need y3 (.need (I.hid (α:=(Prop)) True) (.br (I.bnot (I.hid (α:=Bool) (BEq.beq (Go.Ab.Evt.bytes y0) (Go.Ab.Evt.bytes y1)))) (.fin (.ret (.v (.one (.p (.bool Bool.false))))) []) (.need y2 (.need y2 (.need y3 (.need y3 (.need (I.hid (α:=(Prop)) (And (LE.le (List.length (Hd.fields (Go.Ab.Evt.head y0))) 140737488355328) (LE.le (List.length (Hd.fields (Go.Ab.Evt.head y1))) 140737488355328))) (.br (I.bnot (I.hid (α:=Bool) (hdB (Hd.method (Go.Ab.Evt.head y0)) (Hd.target (Go.Ab.Evt.head y0)) (Hd.minor (Go.Ab.Evt.head y0)) (Hd.fields (Go.Ab.Evt.head y0)) (Hd.length (Go.Ab.Evt.head y0)) (Hd.method (Go.Ab.Evt.head y1)) (Hd.target (Go.Ab.Evt.head y1)) (Hd.minor (Go.Ab.Evt.head y1)) (Hd.fields (Go.Ab.Evt.head y1)) (Hd.length (Go.Ab.Evt.head y1))))) (.fin (.ret (.v (.one (.p (.bool Bool.false))))) []) (.need y2 (.need y2 (.need y3 (.need y3 (.need (I.hid (α:=(Prop)) True) (.br (I.bnot (I.hid (α:=Bool) (ptB (Go.Ab.Prt.name (Go.Ab.Evt.part y0)) (Go.Ab.Prt.file (Go.Ab.Evt.part y0)) (Go.Ab.Prt.type (Go.Ab.Evt.part y0)) (Go.Ab.Prt.bytes (Go.Ab.Evt.part y0)) (Go.Ab.Prt.name (Go.Ab.Evt.part y1)) (Go.Ab.Prt.file (Go.Ab.Evt.part y1)) (Go.Ab.Prt.type (Go.Ab.Evt.part y1)) (Go.Ab.Prt.bytes (Go.Ab.Evt.part y1))))) (.fin (.ret (.v (.one (.p (.bool Bool.false))))) []) (.need (I.inr Go.IntKind.i64 (I.add (Nat.cast i) 1)) (.need (A ⟨[(0,(.v (.one (.p (.list .evt l))))),(1,(.v (.one (.p (.list .evt m))))),(5,(.v (.one (.p (.int .i64 (I.add (Nat.cast i) 1))))))],[],83,none⟩) .qed)))))))))))))))))))))))))))))) (.fin (.ret (.v (.one (.p (.bool Bool.true))))) [])) (by kernel_rfl) ?_
  simp only [zn]
  subst hI
  simp only [nrmA,nrmB,nrlB,reduceCtorEq]
  have hd:i<l.length→_:=fun h=>zde (l:=l) (m:=m) (i:=i) ⟨0,⟨[],[],0,[],0⟩,[],⟨[],[],[],[]⟩,0⟩ h (by omega)
  have hend: ¬ i<l.length→r=true:=fun h=>by
    rw [h2,List.drop_of_length_le (by omega),List.drop_of_length_le (by omega)];simp
  have hfx:i<l.length→(l.getD i ⟨0,⟨[],[],0,[],0⟩,[],⟨[],[],[],[]⟩,0⟩).head.fields.length≤140737488355328:=fun h=>hl2 _ (by simp [h])
  have hfy:i<l.length→(m.getD i ⟨0,⟨[],[],0,[],0⟩,[],⟨[],[],[],[]⟩,0⟩).head.fields.length≤140737488355328:=fun h=>hm2 _ (getD_in _ (by omega))
  generalize l.getD i ⟨0,⟨[],[],0,[],0⟩,[],⟨[],[],[],[]⟩,0⟩=x at *
  generalize m.getD i ⟨0,⟨[],[],0,[],0⟩,[],⟨[],[],[],[]⟩,0⟩=y at *
  have hx: ¬ x=y→i<l.length→r=false:=fun h hi=>by rw [h2,hd hi,decide_eq_false h,Bool.false_and]
  have hy:x=y→i<l.length→r=decide (l.drop (i+1)=m.drop (i+1)):=fun h hi=>by rw [h2,hd hi,decide_eq_true h,Bool.true_and]
  have hbh:=zjj (x:=x.head) (y:=y.head)
  have hbp:=zeO (x:=x.part) (y:=y.part)
  generalize hdB x.head.method x.head.target x.head.minor x.head.fields x.head.length y.head.method y.head.target y.head.minor y.head.fields y.head.length=B1 at *
  generalize ptB x.part.name x.part.file x.part.type x.part.bytes y.part.name y.part.file y.part.type y.part.bytes=B2 at *
  (repeat' (first|refine And.intro ?_ ?_|intro _))<;>first|omega|exact True.intro|exact False.elim ‹False›|skip
  all_goals first
    |omega
    |(exact(hx (by rintro rfl;simp_all) (by omega)).symm)
    |(rw [hx (by rintro rfl;simp_all) (by omega)])
    |exact hA (i+1) ⟨by omega,hy (zjQ (by simp_all) (by simp_all) (by simp_all) (by simp_all) (by simp_all)) (by omega)⟩ (by omega)
    |(rw [hend (by omega)])
def ZF (I:Alg) (args:List D) (hp:List HO):Option CT:=match args,hp with
  |[.v (.one (.p (.list .evt l))),.v (.one (.p (.list .evt m)))],[]=>(fun(l m:List Evt)=>(some (.one ⟨I.hid (fewE l∧fewE m),(.ret (.v (.one (.p (.bool (I.hid ((decide (l=m))))))))),[]⟩):Option CT)) l m
  |_,_=>none
theorem Qd:zy Tryz.prog 15 (ZF alg):=by
  intro args hp r h
  unfold ZF at h
  split at h
  · cases h;exact fun hn=>ziE _ _ hn
  · cases h
def Qc:Know Tryz.prog:=⟨15,ZF,Qd⟩
def Qb:Know Tryz.prog:=⟨15,fun I=>zA I (ZF I),zf Qd⟩
end Go.Proofs.YtknaogelmckimaaGreatDoor
namespace Go.Proofs.YtknaogelmckimaaGreatDoor
open Go Go.Sep Go.Ab
set_option maxRecDepth 100000
theorem zjo {l:List Fld} {i:Nat} {n:Str} (h:i<l.length) (k: ∀ x ∈ l.take i,x.name≠n) (e:(l.getD i ⟨[],[]⟩).name=n):getP l n=((l.getD i ⟨[],[]⟩).value,true):=by
  have hs:l=l.take i++l.getD i ⟨[],[]⟩::l.drop (i+1):=by
    have:l.getD i ⟨[],[]⟩=l[i]:=by simp [h]
    rw [this,← List.drop_eq_getElem_cons h,List.take_append_drop]
  generalize l.getD i ⟨[],[]⟩=f at *
  unfold getP
  rw [hs,List.find?_append,List.find?_eq_none.2 (fun x hx=>by simpa using k x hx),List.find?_cons_of_pos (by simpa using e)]
  rfl
theorem ziJ (w:Str) (l:List Fld) (n:Str) (hneed:l.length≤1000000):Spc Tryz.prog 60 [.v (.agg [(.p (.str w)),(.p (.list .fld l))]),.v (.one (.p (.str n)))] [] (.ret (.tup [(.one (.p (.str ((getP l n).1)))),(.one (.p (.bool ((getP l n).2))))])) []:=by
  generalize hr:getP l n=r
  refine spcG zi mixed Tryz.func60 (by kernel_rfl) { keep:=some [0,1,2,4,5,6]} [] (by kernel_rfl) ?_
  intro I X hI hX
  refine zh (.code 0 [1,0,1,0] ⟨[(6,(.v (.one (.p (.int .i64 0))))),(5,(.v (.one (.p (.val (.bool .false)))))),(4,(.v (.one (.p (.str ([]:Str)))))),(2,(.v (.one (.ptr 0 0)))),(0,(.v (.agg [(.p (.str w)),(.p (.list .fld l))]))),(1,(.v (.one (.p (.str n)))))],[(.obj 85 [(.p (.str w)),(.p (.list .fld l))])],28,none⟩) (by kernel_rfl) ?_
  simp only [zn]
  refine zu hI zi mixed [] hX [1,2,6] (fun(i:Nat)=>i≤l.length∧∀ x ∈ l.take i,x.name≠n) (fun(i:Nat)=>⟨[(1,.v (.one (.p (.str n)))),(2,.v (.one (.ptr 0 0))),(6,.v (.one (.p (.int .i64 i))))],[.pack [.obj 85 [(.p (.str w)),(.p (.list .fld l))]]],28,none⟩) (fun(i:Nat)=>l.length - i) 0 (by kernel_rfl) (by kernel_rfl) ?_ ?_
  · exact⟨Nat.zero_le _,fun x hx=>absurd hx (by simp)⟩
  rintro i ⟨h1,h2⟩ A hA
  refine zh (let y0:=I.inb (Nat.cast i) (I.len (α:=Fld) l);let y1:=I.get (α:=Fld) l (Fld.mk ([]:Str) ([]:Str)) (Nat.cast i);.br (I.ilt (Nat.cast i) (I.len (α:=Fld) l)) (.need y0 (.need y0 (.br (I.seq (Fld.name y1) n) (.need y0 (.need y0 (.fin (.ret (.tup [(.one (.p (.str (Fld.value y1)))),(.one (.p (.bool Bool.true)))])) []))) (.need (I.inr Go.IntKind.i64 (I.add (Nat.cast i) 1)) (.need (A ⟨[(1,(.v (.one (.p (.str n))))),(2,(.v (.one (.ptr 0 0)))),(6,(.v (.one (.p (.int .i64 (I.add (Nat.cast i) 1))))))],[(.pack [(.obj 85 [(.p (.str w)),(.p (.list .fld l))])])],28,none⟩) .qed))))) (.fin (.ret (.tup [(.one (.p (.str ([]:Str)))),(.one (.p (.bool Bool.false)))])) [])) (by kernel_rfl) ?_
  simp only [zn]
  subst hI
  simp only [nrmA,nrmB,nrlB,reduceCtorEq]
  have hat:=fun(h:i<l.length) e=>zjo h h2 e
  have hmo:=fun(h:i<l.length) (e: ¬ (l.getD i ⟨[],[]⟩).name=n)=>hA (i+1) ⟨by omega,zey h ⟨[],[]⟩ h2 e⟩ (by omega)
  have hno: ¬ i<l.length→(getP l n).2=false:=fun h=>zbp.2 (by rw [← List.take_of_length_le (show l.length≤i by omega)];exact h2)
  have hno1: ¬ i<l.length→getP l n=([],false):=fun h=>by
    have e:=hno h
    unfold getP at *
    split at e
    · cases e
    · first|rfl|(rename_i q;rw [q])
  simp only [Int.natCast_add,Int.natCast_one] at hmo
  generalize l.getD i ⟨[],[]⟩=f at *
  (repeat' (first|refine And.intro ?_ ?_|intro _))<;>first|omega|exact True.intro|exact False.elim ‹False›|skip
  all_goals first
    |omega
    |(rw [hat (by omega) ‹_›] at hr;subst hr;with_reducible rfl)
    |(rw [hno1 (by omega)] at hr;subst hr;with_reducible rfl)
    |with_reducible exact hmo (by omega) ‹_›
def ZM (I:Alg) (args:List D) (hp:List HO):Option CT:=match args,hp with
  |[.v (.agg [(.p (.str w)),(.p (.list .fld l))]),.v (.one (.p (.str n)))],[]=>(fun(w:Str) (l:List Fld) (n:Str)=>(some (.one ⟨I.hid (l.length≤1000000),(.ret (.tup [(.one (.p (.str (I.hid ((getP l n).1))))),(.one (.p (.bool (I.hid ((getP l n).2)))))])),[]⟩):Option CT)) w l n
  |_,_=>none
theorem Qi:zy Tryz.prog 60 (ZM alg):=by
  intro args hp r h
  unfold ZM at h
  split at h
  · cases h;exact fun hn=>ziJ _ _ _ hn
  · cases h
def WY:Know Tryz.prog:=⟨60,ZM,Qi⟩
def WX:Know Tryz.prog:=⟨60,fun I=>zA I (ZM I),zf Qi⟩
end Go.Proofs.YtknaogelmckimaaGreatDoor
namespace Go.Proofs.YtknaogelmckimaaGreatDoor
open Go Go.Sep Go.Ab
set_option maxRecDepth 100000
theorem zh3 (v:List Str):((oneF v).2=9↔1<v.length)∧((oneF v).2=0↔v.length=1)∧(v.length=1→(oneF v).1=v.getD 0 []):=by
  unfold oneF
  by_cases h0:v.length=0
  · rw [if_pos h0]
    refine⟨⟨fun h=>absurd (show(10:Int)=9 from h) (by decide),fun h=>by omega⟩,⟨fun h=>absurd (show(10:Int)=0 from h) (by decide),fun h=>by omega⟩,fun h=>by omega⟩
  · rw [if_neg h0]
    by_cases h1:v.length=1
    · rw [if_pos h1]
      exact⟨⟨fun h=>absurd (show(0:Int)=9 from h) (by decide),fun h=>by omega⟩,⟨fun _=>h1,fun _=>rfl⟩,fun _=>rfl⟩
    · rw [if_neg h1]
      exact⟨⟨fun _=>by omega,fun _=>rfl⟩,⟨fun h=>absurd (show(9:Int)=0 from h) (by decide),fun h=>absurd h h1⟩,fun h=>absurd h h1⟩
theorem zk1 {s:Str} (h:s.length<7∨¬ lowS (s.take 7)=[117,116,102,45,56,39,39]):extB s=false:=by
  unfold extB extM
  rw [if_pos (show s.length<7∨lowS (s.take 7)≠utfS from h)];rfl
theorem zf2 {s:Str} (h: ¬ s.length<7) (k:lowS (s.take 7)=[117,116,102,45,56,39,39]):extM s=pctM (s.drop 7):=by
  unfold extM
  rw [if_neg]
  rintro(e|e)
  · exact h e
  · exact e k
theorem ziT (v:List Str):partT (oneF v)=if v.length=1 then v.getD 0 [] else []:=by
  obtain⟨_,h2,h3⟩:=zh3 v
  unfold partT
  by_cases h:v.length=1
  · rw [if_pos h,if_pos (h2.2 h),h3 h]
  · rw [if_neg h,if_neg (fun e=>h (h2.1 e))]
theorem zkc (l:List Fld) (hneed:l.length≤1000∧∀ f ∈ l,f.name.length≤1000000∧f.value.length≤1000000):Spc Tryz.prog 37 [.v (.one (.p (.list .fld l)))] [] (.ret (.tup [(.agg [(.p (.str ((zM l).1.name))),(.p (.str ((zM l).1.file))),(.p (.str ((zM l).1.type))),.nilS]),(.one (.p (.int .i64 ((zM l).2))))])) []:=by
  obtain⟨hl,hf⟩:=hneed
  generalize hr:zM l=r
  refine spcG zi mixed Tryz.func37 (by kernel_rfl) { raw:=true,nr:=[14],keep:=some [0,2,3,4,5,6,7,8,9,10,11,12,13,14,15,16]} [yF,yE,tu,tq,TW,TV,Sv,Sr,TD,TB,W9,WZ,WY,WX] (by kernel_rfl) ?_
  intro I X hI hX
  refine zh (let y8:=([99,111,110,116,101,110,116,45,100,105,115,112,111,115,105,116,105,111,110]:Str);let y1:=I.hid (α:=Str) (Prod.fst (oneF (valsF l y8)));let y0:=I.hid (α:=(List Fld)) (Go.Ab.Med.params (Prod.fst (zX y1)));let y2:=I.hid (α:=(List (Str))) (valsF l ([99,111,110,116,101,110,116,45,116,121,112,101]:Str));let y3:=I.hid (α:=Str) (Prod.fst (getP y0 ([102,105,108,101,110,97,109,101,42]:Str)));let y4:=I.hid (α:=Str) (Prod.fst (getP y0 ([110,97,109,101]:Str)));let y5:=I.hid (α:=Str) (Prod.fst (getP y0 ([102,105,108,101,110,97,109,101]:Str)));let y6:=I.hid (α:=Bool) (Prod.snd (getP y0 ([102,105,108,101,110,97,109,101,42]:Str)));let y7:=I.hid (α:=(Prop)) (And (LE.le (List.length l) 1000) (And (LE.le (List.length ([99,111,110,116,101,110,116,45,116,121,112,101]:Str)) 1000000) (∀ (f:Fld),f ∈ l→List.length f.name≤1000000∧List.length f.value≤1000000)));let y9:=I.hid (α:=Bool) (Prod.snd (getP y0 ([102,105,108,101,110,97,109,101]:Str)));let y10:=I.hid (α:=(Prop)) (LE.le (List.length y0) 1000000);let y11:=I.hid (α:=Bool) (Prod.snd (getP y0 ([110,97,109,101]:Str)));let y12:=I.hid (α:=Int) (Prod.snd (zX y1));let y13:=I.hid (α:=Str) (Go.Ab.Med.word (Prod.fst (zX y1)));let y14:=I.bnot (I.seq (I.hid (α:=Str) (lowS (I.cut (α:=UInt8) y3 0 7))) ([117,116,102,45,56,39,39]:Str));let y15:HO:=.obj 51 [(.p (.str ([]:Str))),(.p (.str ([]:Str))),(.p (.str ([]:Str))),.nilS];let y16:=I.hid (α:=(Prop)) (LE.le (List.length (I.cut (α:=UInt8) y3 0 7)) 1000000);let y17:=I.hid (α:=Int) (Prod.snd (oneF (valsF l y8)));let y18:HO:=.obj 85 [(.p (.str y13)),(.p (.list .fld y0))];let y19:=I.cutb 0 7 (I.len (α:=UInt8) y3);let y20:=I.get (α:=Str) y2 ([]:Str) 0;.need (I.hid (α:=(Prop)) (And (LE.le (List.length l) 1000) (And (LE.le (List.length y8) 1000000) (∀ (f:Fld),f ∈ l→List.length f.name≤1000000∧List.length f.value≤1000000)))) (.br (I.bnot (I.ieq y17 0)) (.fin (.ret (.tup [(.agg [(.p (.str ([]:Str))),(.p (.str ([]:Str))),(.p (.str ([]:Str))),.nilS]),(.one (.p (.int .i64 y17)))])) []) (.need (I.hid (α:=(Prop)) (LE.le (List.length y1) 1000000)) (.br (I.bnot (I.ieq y12 0)) (.fin (.ret (.tup [(.agg [(.p (.str ([]:Str))),(.p (.str ([]:Str))),(.p (.str ([]:Str))),.nilS]),(.one (.p (.int .i64 y12)))])) []) (.br (I.bnot (I.seq y13 ([102,111,114,109,45,100,97,116,97]:Str))) (.fin (.ret (.tup [(.agg [(.p (.str ([]:Str))),(.p (.str ([]:Str))),(.p (.str ([]:Str))),.nilS]),(.one (.p (.int .i64 11)))])) []) (.need y10 (.br (I.bnot y11) (.fin (.ret (.tup [(.agg [(.p (.str ([]:Str))),(.p (.str ([]:Str))),(.p (.str ([]:Str))),.nilS]),(.one (.p (.int .i64 6)))])) []) (.need y10 (.br y9 (.need (I.hid (α:=(Prop)) (LE.le (List.length y5) 1000000)) (.need y10 (.br y6 (.br (I.ilt (I.len (α:=UInt8) y3) 7) (.fin (.ret (.tup [(.agg [(.p (.str ([]:Str))),(.p (.str ([]:Str))),(.p (.str ([]:Str))),.nilS]),(.one (.p (.int .i64 5)))])) []) (.need y19 (.need y16 (.br y14 (.fin (.ret (.tup [(.agg [(.p (.str ([]:Str))),(.p (.str ([]:Str))),(.p (.str ([]:Str))),.nilS]),(.one (.p (.int .i64 5)))])) []) (.code 0 [1,1,1,1,1,1,1,1,1,1,0,1,1,0,1,1,0,1,0] ⟨[(15,(.v (.one (.p (.int .i64 7))))),(14,(.v (.one (.row 3)))),(13,(.v (.one (.p (.bool y6))))),(12,(.v (.one (.p (.str y3))))),(11,(.v (.one (.p (.bool y9))))),(10,(.v (.one (.p (.str y5))))),(9,(.v (.one (.ptr 2 0)))),(8,(.v (.one (.p (.bool y11))))),(7,(.v (.one (.p (.str y4))))),(5,(.v (.one (.p (.int .i64 y12))))),(6,(.v (.one (.ptr 1 0)))),(4,(.v (.one (.p (.str y1))))),(3,(.v (.one (.p (.int .i64 0))))),(2,(.v (.one (.ptr 0 0)))),(0,(.v (.one (.p (.list .fld l)))))],[y15,y18,(.obj 51 [(.p (.str y4)),(.p (.str (I.hid (α:=Str) (vI y5)))),(.p (.str ([]:Str))),.nilS]),(.row .byte 5 ([]:Str))],148,none⟩))))) (.need y7 (.br (I.ilt 1 (I.len (α:=Str) y2)) (.fin (.ret (.tup [(.agg [(.p (.str ([]:Str))),(.p (.str ([]:Str))),(.p (.str ([]:Str))),.nilS]),(.one (.p (.int .i64 9)))])) []) (.br (I.ieq (I.len (α:=Str) y2) 1) (.need (I.inb 0 (I.len (α:=Str) y2)) (.need (I.inb 0 (I.len (α:=Str) y2)) (.fin (.ret (.tup [(.agg [(.p (.str y4)),(.p (.str (I.hid (α:=Str) (vI y5)))),(.p (.str y20)),.nilS]),(.one (.p (.int .i64 0)))])) []))) (.fin (.ret (.tup [(.agg [(.p (.str y4)),(.p (.str (I.hid (α:=Str) (vI y5)))),(.p (.str ([]:Str))),.nilS]),(.one (.p (.int .i64 0)))])) []))))))) (.need y10 (.br y6 (.br (I.ilt (I.len (α:=UInt8) y3) 7) (.fin (.ret (.tup [(.agg [(.p (.str ([]:Str))),(.p (.str ([]:Str))),(.p (.str ([]:Str))),.nilS]),(.one (.p (.int .i64 5)))])) []) (.need y19 (.need y16 (.br y14 (.fin (.ret (.tup [(.agg [(.p (.str ([]:Str))),(.p (.str ([]:Str))),(.p (.str ([]:Str))),.nilS]),(.one (.p (.int .i64 5)))])) []) (.code 0 [1,1,1,1,1,1,1,1,1,1,0,1,1,0,1,1,0,1,0] ⟨[(15,(.v (.one (.p (.int .i64 7))))),(14,(.v (.one (.row 3)))),(13,(.v (.one (.p (.bool y6))))),(12,(.v (.one (.p (.str y3))))),(11,(.v (.one (.p (.bool y9))))),(10,(.v (.one (.p (.str y5))))),(9,(.v (.one (.ptr 2 0)))),(8,(.v (.one (.p (.bool y11))))),(7,(.v (.one (.p (.str y4))))),(5,(.v (.one (.p (.int .i64 y12))))),(6,(.v (.one (.ptr 1 0)))),(4,(.v (.one (.p (.str y1))))),(3,(.v (.one (.p (.int .i64 0))))),(2,(.v (.one (.ptr 0 0)))),(0,(.v (.one (.p (.list .fld l)))))],[y15,y18,(.obj 51 [(.p (.str y4)),(.p (.str ([]:Str))),(.p (.str ([]:Str))),.nilS]),(.row .byte 5 ([]:Str))],148,none⟩))))) (.need y7 (.br (I.ilt 1 (I.len (α:=Str) y2)) (.fin (.ret (.tup [(.agg [(.p (.str ([]:Str))),(.p (.str ([]:Str))),(.p (.str ([]:Str))),.nilS]),(.one (.p (.int .i64 9)))])) []) (.br (I.ieq (I.len (α:=Str) y2) 1) (.need (I.inb 0 (I.len (α:=Str) y2)) (.need (I.inb 0 (I.len (α:=Str) y2)) (.fin (.ret (.tup [(.agg [(.p (.str y4)),(.p (.str ([]:Str))),(.p (.str y20)),.nilS]),(.one (.p (.int .i64 0)))])) []))) (.fin (.ret (.tup [(.agg [(.p (.str y4)),(.p (.str ([]:Str))),(.p (.str ([]:Str))),.nilS]),(.one (.p (.int .i64 0)))])) []))))))))))))))) (by kernel_rfl) ?_
  simp only [zn]
  try rw [show([99,111,110,116,101,110,116,45,100,105,115,112,111,115,105,116,105,111,110]:Str)=xA from rfl]
  try rw [show([99,111,110,116,101,110,116,45,116,121,112,101]:Str)=Yz from rfl]
  try rw [show([102,111,114,109,45,100,97,116,97]:Str)=zaF from rfl]
  try rw [show([102,105,108,101,110,97,109,101,42]:Str)=Xy from rfl]
  try rw [show([102,105,108,101,110,97,109,101]:Str)=zby from rfl]
  try rw [show([110,97,109,101]:Str)=ze5 from rfl]
  have hk1:xA.length≤1000000:=by decide
  have hk2:Yz.length≤1000000:=by decide
  have hv:=zcx (fun f h=>(hf f h).2) xA
  have hp:=Qr (oneF (valsF l xA)).1
  have hg:=fun n=>zcR hp.2 n
  have hg1:=hg Xy
  have hg2:=hg zby
  have ht1:=(zh3 (valsF l Yz)).1
  have ht2:=ziT (valsF l Yz)
  unfold zM at hr
  have hpl:=hp.1
  clear hp hg
  have hh: ∀ {α:Type} (y:α),I.hid y=y:=fun y=>by subst hI;rfl
  simp only [hh]
  generalize hTT:valsF l Yz=T at *
  generalize getP (zX (oneF (valsF l xA)).1).1.params Xy=x at *
  generalize getP (zX (oneF (valsF l xA)).1).1.params zby=f at *
  generalize getP (zX (oneF (valsF l xA)).1).1.params ze5=n at *
  generalize zX (oneF (valsF l xA)).1=m at *
  generalize oneF (valsF l xA)=a at *
  unfold zg5 ziU at hr
  rw [ht2] at hr
  clear ht2
  have hT1:(1<T.length)↔((1:Int)<(T.length:Int)):=by omega
  have hT2:(T.length=1)↔((T.length:Int)=1):=by omega
  simp only [ht1,hT1,hT2] at hr
  clear ht1 hT1 hT2
  (repeat' (first|refine And.intro ?_ ?_|intro _))
  all_goals try(subst hI;(simp only [nrmA,nrmB,nrlB,reduceCtorEq] at *);first
    |done
    |with_reducible exact True.intro
    |omega
    |exact hl
    |exact hk1
    |exact hk2
    |exact(hf _ ‹_›).1
    |exact(hf _ ‹_›).2
    |(simp only [List.length_take];omega)
    | (have hE:extB x.1=false:=zk1 (by first|exact .inl (by omega)|exact .inr ‹_›)
       subst hr;clear hf hX hv hg1 hg2 hpl hl hk1 hk2;simp [*,prt0];done)
    |(subst hr;clear hf hX hv hg1 hg2 hpl hl hk1 hk2;simp [*,prt0];done))
  · have hx:x.2=true∧¬ x.1.length<7∧lowS (x.1.take 7)=[117,116,102,45,56,39,39]∧a.2=0∧m.2=0∧m.1.word=zaF∧n.2=true:=by
      subst hI
      simp only [nrmA,nrmB,nrlB,reduceCtorEq] at *
      exact⟨‹_›,by omega,‹_›,‹_›,‹_›,‹_›,‹_›⟩
    obtain⟨q1,q2,q3,q4,q5,q6,q7⟩:=hx
    rw [if_neg (fun h=>h q4),if_neg (fun h=>h q5),if_neg (fun h=>h q6),if_neg (fun h=>absurd (q7.symm.trans h) (by decide))] at hr
    simp only [q1,true_and,if_true] at hr
    have hE:=zf2 q2 q3
    have hxl:x.1.length≤1000000:=by omega
    generalize x.1=X at *
    generalize n.1=NM at *
    generalize vI f.1=FL at *
    clear q1 q3 q4 q5 q6 q7 hv hg1 hg2 hpl
    refine zu hI zi mixed [yF,yE,tu,tq,TW,TV,Sv,Sr,TD,TB,W9,WZ,WY,WX] hX [0,2,9,12,14,15] (fun(g:Nat × Str)=>match g with|(i,b)=>7≤i∧i≤X.length∧b.length≤i∧extM X=(pctM (X.drop i)).map (b++ ·)) (fun(g:Nat × Str)=>match g with|(i,b)=>⟨[(0,.v (.one (.p (.list .fld l)))),(2,.v (.one (.ptr 0 0))),(9,.v (.one (.ptr 1 0))),(12,.v (.one (.p (.str X)))),(14,.v (.one (.row 2))),(15,.v (.one (.p (.int .i64 i))))],[.pack [.obj 51 [(.p (.str ([]))),(.p (.str ([]))),(.p (.str ([]))),.nilS]],.pack [.obj 51 [(.p (.str NM)),(.p (.str FL)),(.p (.str ([]))),.nilS]],.row .byte 5 b],148,none⟩) (fun(g:Nat × Str)=>match g with|(i,b)=>X.length - i) (7,[]) (by kernel_rfl) (by kernel_rfl) ?_ ?_
    · refine⟨Nat.le_refl _,by omega,Nat.zero_le _,?_⟩
      rw [hE]
      cases pctM (X.drop 7)<;>rfl
    rintro⟨i,b⟩ ⟨h0,h1,h2,h3⟩ A hA
    simp only at hA h0 h1 h2 h3
    refine zh (let y2:=I.b2i (I.get (α:=UInt8) X 0 (I.add (Nat.cast i) 1));let y3:=I.b2i (I.get (α:=UInt8) X 0 (I.add (Nat.cast i) 2));let y0:=I.add (I.mul 16 (I.hid (α:=Int) (hexK y2))) (I.hid (α:=Int) (hexK y3));let y1:=I.hid (α:=(List (Str))) (valsF l ([99,111,110,116,101,110,116,45,116,121,112,101]:Str));let y4:=I.b2i (I.get (α:=UInt8) X 0 (Nat.cast i));let y5:=I.inr Go.IntKind.i64 (I.add (Nat.cast i) 2);let y6:HO:=.pack [(.obj 51 [(.p (.str ([]:Str))),(.p (.str ([]:Str))),(.p (.str ([]:Str))),.nilS])];let y7:=I.inr Go.IntKind.i64 (I.add (Nat.cast i) 1);let y8:HO:=.pack [(.obj 51 [(.p (.str NM)),(.p (.str FL)),(.p (.str ([]:Str))),.nilS])];let y9:=I.hid (α:=(Prop)) (And (LE.le (0:Int) y2) (LE.le y2 (255:Int)));let y10:=I.hid (α:=(Prop)) (And (LE.le (0:Int) y3) (LE.le y3 (255:Int)));let y11:=I.inb (I.add (Nat.cast i) 1) (I.len (α:=UInt8) X);let y12:=I.inb (I.add (Nat.cast i) 2) (I.len (α:=UInt8) X);let y13:=I.inb (Nat.cast i) (I.len (α:=UInt8) X);.br (I.ilt (Nat.cast i) (I.len (α:=UInt8) X)) (.need y13 (.br (I.bnot (I.ieq y4 37)) (.need y13 (.need (I.inr Go.IntKind.u8 y4) (.need (I.few (I.add (I.len (α:=UInt8) b) (I.len (α:=UInt8) ([(I.i2b y4)]:Str))) 140737488355328) (.need y7 (.need (A ⟨[(0,(.v (.one (.p (.list .fld l))))),(2,(.v (.one (.ptr 0 0)))),(9,(.v (.one (.ptr 1 0)))),(12,(.v (.one (.p (.str X))))),(14,(.v (.one (.row 2)))),(15,(.v (.one (.p (.int .i64 (I.add (Nat.cast i) 1))))))],[y6,y8,(.row .byte 5 (I.app (α:=UInt8) b ([(I.i2b y4)]:Str)))],148,none⟩) .qed))))) (.need y5 (.br (I.ile (I.len (α:=UInt8) X) (I.add (Nat.cast i) 2)) (.fin (.ret (.tup [(.agg [(.p (.str ([]:Str))),(.p (.str ([]:Str))),(.p (.str ([]:Str))),.nilS]),(.one (.p (.int .i64 5)))])) []) (.need y7 (.need y11 (.need y9 (.br (I.ilt (I.hid (α:=Int) (hexK y2)) 0) (.fin (.ret (.tup [(.agg [(.p (.str ([]:Str))),(.p (.str ([]:Str))),(.p (.str ([]:Str))),.nilS]),(.one (.p (.int .i64 5)))])) []) (.need y5 (.need y12 (.need y10 (.br (I.ilt (I.hid (α:=Int) (hexK y3)) 0) (.fin (.ret (.tup [(.agg [(.p (.str ([]:Str))),(.p (.str ([]:Str))),(.p (.str ([]:Str))),.nilS]),(.one (.p (.int .i64 5)))])) []) (.need y7 (.need y11 (.need y5 (.need y12 (.need y9 (.need (I.inr Go.IntKind.i64 (I.mul 16 (I.hid (α:=Int) (hexK y2)))) (.need y10 (.need (I.inr Go.IntKind.i64 y0) (.need (I.inr Go.IntKind.u8 (I.wrap Go.IntKind.u8 y0)) (.need (I.few (I.add (I.len (α:=UInt8) b) (I.len (α:=UInt8) ([(I.i2b (I.wrap Go.IntKind.u8 y0))]:Str))) 140737488355328) (.need y5 (.need (I.inr Go.IntKind.i64 (I.add (I.add (Nat.cast i) 2) 1)) (.need (A ⟨[(0,(.v (.one (.p (.list .fld l))))),(2,(.v (.one (.ptr 0 0)))),(9,(.v (.one (.ptr 1 0)))),(12,(.v (.one (.p (.str X))))),(14,(.v (.one (.row 2)))),(15,(.v (.one (.p (.int .i64 (I.add (I.add (Nat.cast i) 2) 1))))))],[y6,y8,(.row .byte 5 (I.app (α:=UInt8) b ([(I.i2b (I.wrap Go.IntKind.u8 y0))]:Str)))],148,none⟩) .qed))))))))))))))))))))))))) (.need (I.hid (α:=(Prop)) (LE.le (List.length b) 1000000)) (.need (I.hid (α:=(Prop)) (And (LE.le (List.length l) 1000) (And (LE.le (List.length ([99,111,110,116,101,110,116,45,116,121,112,101]:Str)) 1000000) (∀ (f:Fld),f ∈ l→List.length f.name≤1000000∧List.length f.value≤1000000)))) (.br (I.ilt 1 (I.len (α:=Str) y1)) (.fin (.ret (.tup [(.agg [(.p (.str ([]:Str))),(.p (.str ([]:Str))),(.p (.str ([]:Str))),.nilS]),(.one (.p (.int .i64 9)))])) []) (.br (I.ieq (I.len (α:=Str) y1) 1) (.need (I.inb 0 (I.len (α:=Str) y1)) (.need (I.inb 0 (I.len (α:=Str) y1)) (.fin (.ret (.tup [(.agg [(.p (.str NM)),(.p (.str (I.hid (α:=Str) (vI b)))),(.p (.str (I.get (α:=Str) y1 ([]:Str) 0))),.nilS]),(.one (.p (.int .i64 0)))])) []))) (.fin (.ret (.tup [(.agg [(.p (.str NM)),(.p (.str (I.hid (α:=Str) (vI b)))),(.p (.str ([]:Str))),.nilS]),(.one (.p (.int .i64 0)))])) [])))))) (by kernel_rfl) ?_
    simp only [zn]
    subst hI
    simp only [nrmA,nrmB,nrlB,reduceCtorEq]
    have e1:((i:Int)+1).toNat=i+1:=by omega
    have e2:((i:Int)+2).toNat=i+2:=by omega
    rw [e1,e2]
    have b37:(X.getD i 0).toNat=37↔X.getD i 0=37:=⟨fun h=>UInt8.toNat_inj.1 h,fun h=>by rw [h];rfl⟩
    have g0:i<X.length→¬ X.getD i 0=37→_:=fun h k=>ziR h k
    have g1:i<X.length→X.getD i 0=37→X.length≤i+2→_:=fun h k=>ziQ h k
    have g2:i+2<X.length→X.getD i 0=37→_:=fun h k=>ziS h k
    have l0:=(X.getD i 0).toNat_lt
    have l1:=(X.getD (i+1) 0).toNat_lt
    have l2:=(X.getD (i+2) 0).toNat_lt
    have m1:=YS (k:=((X.getD (i+1) 0).toNat:Int)) ⟨by omega,by omega⟩
    have m2:=YS (k:=((X.getD (i+2) 0).toNat:Int)) ⟨by omega,by omega⟩
    have hend: ¬ i<X.length→extM X=some b:=fun h=>by rw [h3,List.drop_of_length_le (by omega)];simp [pctM]
    have hA2:=fun(c:UInt8) (j:Nat) (h:i<j) (hj:j≤X.length) (e:pctM (X.drop i)=(pctM (X.drop j)).map (c:: ·))=>hA (j,b++[c]) ⟨by simp only;omega,hj,by rw [List.length_append,List.length_singleton];omega,by rw [h3,e,Option.map_map];congr 1;funext x;simp⟩ (by simp only;omega)
    generalize X.getD i 0=x0 at *
    generalize X.getD (i+1) 0=x1 at *
    generalize X.getD (i+2) 0=x2 at *
    refine⟨fun c=>⟨by omega,fun c2=>⟨by omega,by omega,by simp only [List.length_singleton];omega,by omega,?_⟩,fun c2=> ?_⟩,fun c=> ?_⟩
    · have:=hA2 x0 (i+1) (by omega) (by omega) (g0 (by omega) (fun h=>c2 (by have:=b37.2 h;omega)))
      simp only [Int.natCast_add,Int.natCast_one] at this
      exact this
    · have hx:x0=37:=b37.1 (by omega)
      subst hx
      have r5:extM X=none→r=(prt0,5):=fun h=>by rw [if_pos (show extB X=false by unfold extB;rw [h];rfl)] at hr;exact hr.symm
      have gs:X.length≤i+2→r=(prt0,5):=fun h=>r5 (by rw [h3,g1 (by omega) rfl h];rfl)
      have gm:=fun h=>g2 h rfl
      have gn:i+2<X.length→(hexK (x1.toNat:Int)<0∨hexK (x2.toNat:Int)<0)→r=(prt0,5):=fun h k=>r5 (by rw [h3,gm h,if_pos k];rfl)
      have gy:i+2<X.length→¬ hexK (x1.toNat:Int)<0→¬ hexK (x2.toNat:Int)<0→_:=fun h k k2=>hA2 (UInt8.ofNat (16 * hexK (x1.toNat:Int)+hexK (x2.toNat:Int)).toNat) (i+3) (by omega) (by omega) (by rw [gm h,if_neg (fun q=>q.elim k k2)])
      have wr: ¬ hexK (x1.toNat:Int)<0→¬ hexK (x2.toNat:Int)<0→IntKind.u8.wrap (16 * hexK (x1.toNat:Int)+hexK (x2.toNat:Int))=16 * hexK (x1.toNat:Int)+hexK (x2.toNat:Int):=fun k k2=>zis _ ⟨by omega,by omega⟩
      clear hr r5
      (repeat' (first|refine And.intro ?_ ?_|intro _))<;>first|omega|exact True.intro|exact False.elim ‹False›|skip
      all_goals first
        |omega
        |(rw [gs (by omega)];done)
        |(rw [gs (by omega)];rfl)
        |(rw [gn (by omega) (Or.inl ‹_›)];done)
        |(rw [gn (by omega) (Or.inr ‹_›)];done)
        |(rw [gn (by omega) (Or.inl ‹_›)];rfl)
        |(rw [gn (by omega) (Or.inr ‹_›)];rfl)
        |(rw [wr ‹_› ‹_›];omega)
        |(simp only [List.length_singleton];omega)
        |(rw [wr ‹_› ‹_›,show(i:Int)+2+1=((i+3:Nat):Int) by omega];exact gy (by omega) ‹_› ‹_›)
    · have he:=hend (by omega)
      have he1:extB X=true:=by unfold extB;rw [he];rfl
      have he2:extV X=b:=by unfold extV;rw [he];rfl
      rw [he1,he2] at hr
      simp only [Bool.true_eq_false,if_false] at hr
      clear he he1 he2 hA hA2 g0 g1 g2
      rw [show valsF l [99,111,110,116,101,110,116,45,116,121,112,101]=T from hTT]
      (repeat' (first|refine And.intro ?_ ?_|intro _))<;>first|omega|exact True.intro|exact False.elim ‹False›|skip
      all_goals first
        |omega
        |exact hl
        |exact hk2
        |exact(hf _ ‹_›).1
        |exact(hf _ ‹_›).2
        |(clear hf;subst hr;simp [*,prt0];done)
  · have hx:x.2=true∧¬ x.1.length<7∧lowS (x.1.take 7)=[117,116,102,45,56,39,39]∧a.2=0∧m.2=0∧m.1.word=zaF∧n.2=true:=by
      subst hI
      simp only [nrmA,nrmB,nrlB,reduceCtorEq] at *
      exact⟨‹_›,by omega,‹_›,‹_›,‹_›,‹_›,‹_›⟩
    obtain⟨q1,q2,q3,q4,q5,q6,q7⟩:=hx
    rw [if_neg (fun h=>h q4),if_neg (fun h=>h q5),if_neg (fun h=>h q6),if_neg (fun h=>absurd (q7.symm.trans h) (by decide))] at hr
    simp only [q1,true_and,if_true] at hr
    have hE:=zf2 q2 q3
    have hxl:x.1.length≤1000000:=by omega
    generalize x.1=X at *
    generalize n.1=NM at *
    obtain⟨FL,hFL⟩: ∃ FL:Str,FL=[]:=⟨_,rfl⟩
    clear q1 q3 q4 q5 q6 q7 hv hg1 hg2 hpl
    refine zu hI zi mixed [yF,yE,tu,tq,TW,TV,Sv,Sr,TD,TB,W9,WZ,WY,WX] hX [0,2,9,12,14,15] (fun(g:Nat × Str)=>match g with|(i,b)=>7≤i∧i≤X.length∧b.length≤i∧extM X=(pctM (X.drop i)).map (b++ ·)) (fun(g:Nat × Str)=>match g with|(i,b)=>⟨[(0,.v (.one (.p (.list .fld l)))),(2,.v (.one (.ptr 0 0))),(9,.v (.one (.ptr 1 0))),(12,.v (.one (.p (.str X)))),(14,.v (.one (.row 2))),(15,.v (.one (.p (.int .i64 i))))],[.pack [.obj 51 [(.p (.str ([]))),(.p (.str ([]))),(.p (.str ([]))),.nilS]],.pack [.obj 51 [(.p (.str NM)),(.p (.str ([]))),(.p (.str ([]))),.nilS]],.row .byte 5 b],148,none⟩) (fun(g:Nat × Str)=>match g with|(i,b)=>X.length - i) (7,[]) (by kernel_rfl) (by kernel_rfl) ?_ ?_
    · refine⟨Nat.le_refl _,by omega,Nat.zero_le _,?_⟩
      rw [hE]
      cases pctM (X.drop 7)<;>rfl
    rintro⟨i,b⟩ ⟨h0,h1,h2,h3⟩ A hA
    simp only at hA h0 h1 h2 h3
    refine zh (let y2:=I.b2i (I.get (α:=UInt8) X 0 (I.add (Nat.cast i) 1));let y3:=I.b2i (I.get (α:=UInt8) X 0 (I.add (Nat.cast i) 2));let y0:=I.add (I.mul 16 (I.hid (α:=Int) (hexK y2))) (I.hid (α:=Int) (hexK y3));let y1:=I.hid (α:=(List (Str))) (valsF l ([99,111,110,116,101,110,116,45,116,121,112,101]:Str));let y4:=I.b2i (I.get (α:=UInt8) X 0 (Nat.cast i));let y5:=I.inr Go.IntKind.i64 (I.add (Nat.cast i) 2);let y6:HO:=.pack [(.obj 51 [(.p (.str ([]:Str))),(.p (.str ([]:Str))),(.p (.str ([]:Str))),.nilS])];let y7:HO:=.pack [(.obj 51 [(.p (.str NM)),(.p (.str ([]:Str))),(.p (.str ([]:Str))),.nilS])];let y8:=I.inr Go.IntKind.i64 (I.add (Nat.cast i) 1);let y9:=I.hid (α:=(Prop)) (And (LE.le (0:Int) y2) (LE.le y2 (255:Int)));let y10:=I.hid (α:=(Prop)) (And (LE.le (0:Int) y3) (LE.le y3 (255:Int)));let y11:=I.inb (I.add (Nat.cast i) 1) (I.len (α:=UInt8) X);let y12:=I.inb (I.add (Nat.cast i) 2) (I.len (α:=UInt8) X);let y13:=I.inb (Nat.cast i) (I.len (α:=UInt8) X);.br (I.ilt (Nat.cast i) (I.len (α:=UInt8) X)) (.need y13 (.br (I.bnot (I.ieq y4 37)) (.need y13 (.need (I.inr Go.IntKind.u8 y4) (.need (I.few (I.add (I.len (α:=UInt8) b) (I.len (α:=UInt8) ([(I.i2b y4)]:Str))) 140737488355328) (.need y8 (.need (A ⟨[(0,(.v (.one (.p (.list .fld l))))),(2,(.v (.one (.ptr 0 0)))),(9,(.v (.one (.ptr 1 0)))),(12,(.v (.one (.p (.str X))))),(14,(.v (.one (.row 2)))),(15,(.v (.one (.p (.int .i64 (I.add (Nat.cast i) 1))))))],[y6,y7,(.row .byte 5 (I.app (α:=UInt8) b ([(I.i2b y4)]:Str)))],148,none⟩) .qed))))) (.need y5 (.br (I.ile (I.len (α:=UInt8) X) (I.add (Nat.cast i) 2)) (.fin (.ret (.tup [(.agg [(.p (.str ([]:Str))),(.p (.str ([]:Str))),(.p (.str ([]:Str))),.nilS]),(.one (.p (.int .i64 5)))])) []) (.need y8 (.need y11 (.need y9 (.br (I.ilt (I.hid (α:=Int) (hexK y2)) 0) (.fin (.ret (.tup [(.agg [(.p (.str ([]:Str))),(.p (.str ([]:Str))),(.p (.str ([]:Str))),.nilS]),(.one (.p (.int .i64 5)))])) []) (.need y5 (.need y12 (.need y10 (.br (I.ilt (I.hid (α:=Int) (hexK y3)) 0) (.fin (.ret (.tup [(.agg [(.p (.str ([]:Str))),(.p (.str ([]:Str))),(.p (.str ([]:Str))),.nilS]),(.one (.p (.int .i64 5)))])) []) (.need y8 (.need y11 (.need y5 (.need y12 (.need y9 (.need (I.inr Go.IntKind.i64 (I.mul 16 (I.hid (α:=Int) (hexK y2)))) (.need y10 (.need (I.inr Go.IntKind.i64 y0) (.need (I.inr Go.IntKind.u8 (I.wrap Go.IntKind.u8 y0)) (.need (I.few (I.add (I.len (α:=UInt8) b) (I.len (α:=UInt8) ([(I.i2b (I.wrap Go.IntKind.u8 y0))]:Str))) 140737488355328) (.need y5 (.need (I.inr Go.IntKind.i64 (I.add (I.add (Nat.cast i) 2) 1)) (.need (A ⟨[(0,(.v (.one (.p (.list .fld l))))),(2,(.v (.one (.ptr 0 0)))),(9,(.v (.one (.ptr 1 0)))),(12,(.v (.one (.p (.str X))))),(14,(.v (.one (.row 2)))),(15,(.v (.one (.p (.int .i64 (I.add (I.add (Nat.cast i) 2) 1))))))],[y6,y7,(.row .byte 5 (I.app (α:=UInt8) b ([(I.i2b (I.wrap Go.IntKind.u8 y0))]:Str)))],148,none⟩) .qed))))))))))))))))))))))))) (.need (I.hid (α:=(Prop)) (LE.le (List.length b) 1000000)) (.need (I.hid (α:=(Prop)) (And (LE.le (List.length l) 1000) (And (LE.le (List.length ([99,111,110,116,101,110,116,45,116,121,112,101]:Str)) 1000000) (∀ (f:Fld),f ∈ l→List.length f.name≤1000000∧List.length f.value≤1000000)))) (.br (I.ilt 1 (I.len (α:=Str) y1)) (.fin (.ret (.tup [(.agg [(.p (.str ([]:Str))),(.p (.str ([]:Str))),(.p (.str ([]:Str))),.nilS]),(.one (.p (.int .i64 9)))])) []) (.br (I.ieq (I.len (α:=Str) y1) 1) (.need (I.inb 0 (I.len (α:=Str) y1)) (.need (I.inb 0 (I.len (α:=Str) y1)) (.fin (.ret (.tup [(.agg [(.p (.str NM)),(.p (.str (I.hid (α:=Str) (vI b)))),(.p (.str (I.get (α:=Str) y1 ([]:Str) 0))),.nilS]),(.one (.p (.int .i64 0)))])) []))) (.fin (.ret (.tup [(.agg [(.p (.str NM)),(.p (.str (I.hid (α:=Str) (vI b)))),(.p (.str ([]:Str))),.nilS]),(.one (.p (.int .i64 0)))])) [])))))) (by kernel_rfl) ?_
    simp only [zn]
    subst hI
    simp only [nrmA,nrmB,nrlB,reduceCtorEq]
    have e1:((i:Int)+1).toNat=i+1:=by omega
    have e2:((i:Int)+2).toNat=i+2:=by omega
    rw [e1,e2]
    have b37:(X.getD i 0).toNat=37↔X.getD i 0=37:=⟨fun h=>UInt8.toNat_inj.1 h,fun h=>by rw [h];rfl⟩
    have g0:i<X.length→¬ X.getD i 0=37→_:=fun h k=>ziR h k
    have g1:i<X.length→X.getD i 0=37→X.length≤i+2→_:=fun h k=>ziQ h k
    have g2:i+2<X.length→X.getD i 0=37→_:=fun h k=>ziS h k
    have l0:=(X.getD i 0).toNat_lt
    have l1:=(X.getD (i+1) 0).toNat_lt
    have l2:=(X.getD (i+2) 0).toNat_lt
    have m1:=YS (k:=((X.getD (i+1) 0).toNat:Int)) ⟨by omega,by omega⟩
    have m2:=YS (k:=((X.getD (i+2) 0).toNat:Int)) ⟨by omega,by omega⟩
    have hend: ¬ i<X.length→extM X=some b:=fun h=>by rw [h3,List.drop_of_length_le (by omega)];simp [pctM]
    have hA2:=fun(c:UInt8) (j:Nat) (h:i<j) (hj:j≤X.length) (e:pctM (X.drop i)=(pctM (X.drop j)).map (c:: ·))=>hA (j,b++[c]) ⟨by simp only;omega,hj,by rw [List.length_append,List.length_singleton];omega,by rw [h3,e,Option.map_map];congr 1;funext x;simp⟩ (by simp only;omega)
    generalize X.getD i 0=x0 at *
    generalize X.getD (i+1) 0=x1 at *
    generalize X.getD (i+2) 0=x2 at *
    refine⟨fun c=>⟨by omega,fun c2=>⟨by omega,by omega,by simp only [List.length_singleton];omega,by omega,?_⟩,fun c2=> ?_⟩,fun c=> ?_⟩
    · have:=hA2 x0 (i+1) (by omega) (by omega) (g0 (by omega) (fun h=>c2 (by have:=b37.2 h;omega)))
      simp only [Int.natCast_add,Int.natCast_one] at this
      exact this
    · have hx:x0=37:=b37.1 (by omega)
      subst hx
      have r5:extM X=none→r=(prt0,5):=fun h=>by rw [if_pos (show extB X=false by unfold extB;rw [h];rfl)] at hr;exact hr.symm
      have gs:X.length≤i+2→r=(prt0,5):=fun h=>r5 (by rw [h3,g1 (by omega) rfl h];rfl)
      have gm:=fun h=>g2 h rfl
      have gn:i+2<X.length→(hexK (x1.toNat:Int)<0∨hexK (x2.toNat:Int)<0)→r=(prt0,5):=fun h k=>r5 (by rw [h3,gm h,if_pos k];rfl)
      have gy:i+2<X.length→¬ hexK (x1.toNat:Int)<0→¬ hexK (x2.toNat:Int)<0→_:=fun h k k2=>hA2 (UInt8.ofNat (16 * hexK (x1.toNat:Int)+hexK (x2.toNat:Int)).toNat) (i+3) (by omega) (by omega) (by rw [gm h,if_neg (fun q=>q.elim k k2)])
      have wr: ¬ hexK (x1.toNat:Int)<0→¬ hexK (x2.toNat:Int)<0→IntKind.u8.wrap (16 * hexK (x1.toNat:Int)+hexK (x2.toNat:Int))=16 * hexK (x1.toNat:Int)+hexK (x2.toNat:Int):=fun k k2=>zis _ ⟨by omega,by omega⟩
      clear hr r5
      (repeat' (first|refine And.intro ?_ ?_|intro _))<;>first|omega|exact True.intro|exact False.elim ‹False›|skip
      all_goals first
        |omega
        |(rw [gs (by omega)];done)
        |(rw [gs (by omega)];rfl)
        |(rw [gn (by omega) (Or.inl ‹_›)];done)
        |(rw [gn (by omega) (Or.inr ‹_›)];done)
        |(rw [gn (by omega) (Or.inl ‹_›)];rfl)
        |(rw [gn (by omega) (Or.inr ‹_›)];rfl)
        |(rw [wr ‹_› ‹_›];omega)
        |(simp only [List.length_singleton];omega)
        |(rw [wr ‹_› ‹_›,show(i:Int)+2+1=((i+3:Nat):Int) by omega];exact gy (by omega) ‹_› ‹_›)
    · have he:=hend (by omega)
      have he1:extB X=true:=by unfold extB;rw [he];rfl
      have he2:extV X=b:=by unfold extV;rw [he];rfl
      rw [he1,he2] at hr
      simp only [Bool.true_eq_false,if_false] at hr
      clear he he1 he2 hA hA2 g0 g1 g2
      rw [show valsF l [99,111,110,116,101,110,116,45,116,121,112,101]=T from hTT]
      (repeat' (first|refine And.intro ?_ ?_|intro _))<;>first|omega|exact True.intro|exact False.elim ‹False›|skip
      all_goals first
        |omega
        |exact hl
        |exact hk2
        |exact(hf _ ‹_›).1
        |exact(hf _ ‹_›).2
        |(clear hf;subst hr;simp [*,prt0];done)
def XR (I:Alg) (args:List D) (hp:List HO):Option CT:=match args,hp with
  |[.v (.one (.p (.list .fld l)))],[]=>(fun(l:List Fld)=>(some (.one ⟨I.hid (l.length≤1000∧∀ f ∈ l,f.name.length≤1000000∧f.value.length≤1000000),(.ret (.tup [(.agg [(.p (.str (I.hid ((zM l).1.name)))),(.p (.str (I.hid ((zM l).1.file)))),(.p (.str (I.hid ((zM l).1.type)))),.nilS]),(.one (.p (.int .i64 (I.hid ((zM l).2)))))])),[]⟩):Option CT)) l
  |_,_=>none
theorem zck:zy Tryz.prog 37 (XR alg):=by
  intro args hp r h
  unfold XR at h
  split at h
  · cases h;exact fun hn=>zkc _ hn
  · cases h
def XQ:Know Tryz.prog:=⟨37,XR,zck⟩
def XP:Know Tryz.prog:=⟨37,fun I=>zA I (XR I),zf zck⟩
end Go.Proofs.YtknaogelmckimaaGreatDoor
namespace Go.Proofs.YtknaogelmckimaaGreatDoor
open Go Go.Sep Go.Ab
set_option maxRecDepth 100000
set_option linter.unusedSimpArgs false
set_option linter.unusedVariables false
theorem U6 (mark since:Str) (c:UInt8): ∃ out n' fd,yh mark (P.held mark since) c=(out,n',fd)∧(fd=true↔mark≠[]∧mark<:+since++[c])∧(fd=false→n'=P.held mark (since++[c]))∧(fd=true→n'=0)∧
    P.held mark since≤since.length∧(P.held mark since<mark.length∨mark=[])∧since.drop (since.length - P.held mark since)=mark.take (P.held mark since)∧
    (if fd then mark.length else P.held mark (since++[c]))≤P.held mark since+1∧out.length≤P.held mark since+1∧
    out=((since++[c]).drop (since.length - P.held mark since)).take (P.held mark since+1 - (if fd then mark.length else P.held mark (since++[c]))):=by
  have ht:=P.uq mark since
  have hle:P.held mark since≤since.length:=by
    have h1:=ht.suf.length_le
    have h2:=ht.le
    rw [List.length_take] at h1;omega
  have hdrop:since.drop (since.length - P.held mark since)=mark.take (P.held mark since):=by
    have h2:=ht.le
    have:=List.suffix_iff_eq_drop.1 ht.suf
    rw [List.length_take,Nat.min_eq_left (by omega)] at this
    exact this.symm
  have hdrop2:(since++[c]).drop (since.length - P.held mark since)=mark.take (P.held mark since)++[c]:=by
    rw [List.drop_append_of_le_length (by omega),hdrop]
  by_cases hm:mark=[]
  · subst hm
    have h0: ∀ s,P.held [] s=0:=fun s=>rfl
    refine⟨[c],0,false,by simp [yh,h0],by simp,by simp [h0],by simp,hle,.inr rfl,hdrop,by simp [h0],by simp,?_⟩
    rw [hdrop2];simp [h0]
  have hm0:0<mark.length:=by cases mark<;>simp_all
  have hlt:P.held mark since<mark.length:=by have:=ht.le;omega
  obtain⟨h1,h2,h3,h4,h5⟩:=P.zaD hm0 c ht
  have h0:(if mark=[] then(([c],P.held mark since,false):Str × Nat × Bool) else P.feed mark (P.held mark since) c)=P.feed mark (P.held mark since) c:=if_neg hm
  unfold yh
  rw [h0]
  generalize P.feed mark (P.held mark since) c=r at *
  obtain⟨out,n',fd⟩:=r
  simp only at h1 h2 h3 h4 h5
  refine⟨out,n',fd,rfl,⟨fun h=>⟨hm,h1.1 h⟩,fun h=>h1.2 h.2⟩,fun h=>(h2 h).eq (P.uq mark _),fun h=>(h3 h).1,hle,.inl hlt,hdrop,?_,h5,?_⟩
  · have:=congrArg List.length h4
    cases fd with
    | true=>
      simp only [if_true,List.length_append,List.length_take,List.length_cons,List.length_nil] at this ⊢
      omega
    | false=>
      have e:=(h2 rfl).eq (P.uq mark _)
      have e2:=(P.uq mark (since++[c])).le
      rw [e] at this
      simp only [Bool.false_eq_true,if_false,List.length_append,List.length_take,List.length_cons,List.length_nil] at this ⊢
      omega
  · rw [hdrop2,← h4]
    have hl:=congrArg List.length h4
    cases fd with
    | true=>
      simp only [if_true,List.length_append,List.length_take,List.length_cons,List.length_nil] at hl ⊢
      exact(List.take_left' (by omega)).symm
    | false=>
      have e:=(h2 rfl).eq (P.uq mark _)
      have e2:=(P.uq mark (since++[c])).le
      rw [e] at hl ⊢
      simp only [Bool.false_eq_true,if_false,List.length_append,List.length_take,List.length_cons,List.length_nil] at hl ⊢
      exact(List.take_left' (by omega)).symm
def uG (m s:Str):Prop:=∀ k,¬ m<:+s.take k
theorem uG.find {m:Str}: ∀ {s:Str} {i:Int},uG m s→zx m s i= -1
  | [],i,h=>by
    rw [zx,if_neg]
    intro hp
    have:=List.isPrefixOf_iff_prefix.1 hp
    have e:m=[]:=List.prefix_nil.1 this
    subst e
    exact h 0 (List.suffix_refl _)
  | x ::s,i,h=>by
    rw [zx,if_neg]
    · refine uG.find fun k hk=>h (k+1) ?_
      rw [List.take_succ_cons]
      exact hk.trans (List.suffix_cons _ _)
    · intro hp
      have:=List.prefix_iff_eq_take.1 (List.isPrefixOf_iff_prefix.1 hp)
      exact h m.length (by rw [← this];exact List.suffix_refl _)
theorem uG.pre {m a b:Str} (h:uG m (a++b)):uG m a:=fun k hk=>by
  refine h (min k a.length) ?_
  rw [List.take_append_of_le_length (by omega)]
  rcases Nat.le_total k a.length with hl|hl
  · rw [Nat.min_eq_left hl];exact hk
  · rw [List.take_of_length_le hl] at hk
    rw [Nat.min_eq_right hl,List.take_length];exact hk
theorem uG.snoc {m s:Str} {c:UInt8} (h:uG m s) (hc: ¬ m<:+s++[c]):uG m (s++[c]):=fun k hk=>by
  rcases Nat.lt_or_ge s.length k with hl|hl
  · rw [List.take_of_length_le (by simp;omega)] at hk;exact hc hk
  · rw [List.take_append_of_le_length hl] at hk;exact h k hk
theorem uG.nil {m:Str} (h:m≠[]):uG m []:=fun k hk=>by
  rw [List.take_nil] at hk
  exact h (List.suffix_nil.1 hk)
theorem Y2 (mark since:Str) (c:UInt8): ∃ out n' fd,yh mark (P.held mark since) c=(out,n',fd)∧(fd=true↔mark≠[]∧mark<:+since++[c])∧(fd=false→n'=P.held mark (since++[c]))∧(fd=true→n'=0)∧
    out++(if fd then mark else mark.take n')=mark.take (P.held mark since)++[c]∧(P.held mark since<mark.length∨mark=[])∧P.held mark since≤since.length∧out.length≤P.held mark since+1:=by
  obtain⟨out,n',fd,h1,h2,h3,h4,h5,h6,h7,h8,h9,h10⟩:=U6 mark since c
  refine⟨out,n',fd,h1,h2,h3,h4,?_,h6,h5,h9⟩
  by_cases hm:mark=[]
  · subst hm
    have h0: ∀ s,P.held [] s=0:=fun s=>rfl
    simp only [yh,h0,if_true,Prod.mk.injEq] at h1
    obtain⟨rfl,rfl,rfl⟩:=h1
    rfl
  have hm0:0<mark.length:=by cases mark<;>simp_all
  obtain⟨_,_,_,h4,_⟩:=P.zaD hm0 c (P.uq mark since)
  have h0:yh mark (P.held mark since) c=P.feed mark (P.held mark since) c:=if_neg hm
  rw [h0] at h1
  rw [h1] at h4
  exact h4
theorem zc5 {m:Str}: ∀ {a b:Str} {i:Int},(∀ k,k<a.length→¬ m<+:(a++b).drop k)→m<+:b→zx m (a++b) i=i+a.length
  | [],[],i,h,hb=>by
    rw [List.nil_append,zx,if_pos (List.isPrefixOf_iff_prefix.2 hb)];simp
  | [],x::b,i,h,hb=>by
    rw [List.nil_append,zx,if_pos (List.isPrefixOf_iff_prefix.2 hb)];simp
  | x::a,b,i,h,hb=>by
    rw [List.cons_append,zx,if_neg (fun e=>h 0 (by simp) (by simpa using List.isPrefixOf_iff_prefix.1 e))]
    rw [zc5 (a:=a) (b:=b) (fun k hk=>by have:=h (k+1) (by simp;omega);simpa using this) hb]
    simp only [List.length_cons];omega
theorem zho {m s r:Str} {c:UInt8} (h:uG m s) (hm:m≠[]) (k:m<:+s++[c]):zx m (s++c::r) 0=(s.length+1 - m.length:Nat)∧m.length≤s.length+1:=by
  obtain⟨a,ha⟩:=k
  have hl:a.length+m.length=s.length+1:=by have:=congrArg List.length ha;simpa using this
  have e:s++c::r=a++(m++r):=by rw [← List.append_assoc,ha];simp
  rw [e,zc5]
  · refine⟨by omega,by omega⟩
  · intro k hk hp
    obtain⟨t,ht⟩:=hp
    refine h (k+m.length) ?_
    have h1:(a++(m++r)).take (k+m.length)=(a++(m++r)).take k++m:=by
      rw [List.take_add,← ht];simp
    have h2:(s++c::r).take (k+m.length)=s.take (k+m.length):=List.take_append_of_le_length (by omega)
    rw [← h2,e,h1]
    exact List.suffix_append _ _
  · exact List.prefix_append _ _
theorem uV (m s:Str):s.take (s.length - P.held m s)++m.take (P.held m s)=s∧P.held m s≤s.length:=by
  obtain⟨_,_,_,_,_,_,_,h,_,h2,_⟩:=U6 m s 0
  rw [← h2,List.take_append_drop]
  exact⟨rfl,h⟩
end Go.Proofs.YtknaogelmckimaaGreatDoor
namespace Go.Proofs.YtknaogelmckimaaGreatDoor
open Go Go.Sep Go.Ab
theorem zfb {r:Str} {s:Ln} (h:x9 ln0 r=.more s):zC r=([],0,false,0):=by
  have:=zbg r;rw [h] at this;exact this.1
theorem zbf {r t rest:Str} (h:x9 ln0 r=.line t rest): ∃ n:Nat,zC r=(t,(n:Int),true,0)∧n≤r.length∧0<n∧rest=r.drop n:=by
  have:=zbg r;rw [h] at this
  obtain⟨n,h1,h2⟩:=this
  exact⟨n,by rw [zC,h1];simp,h2⟩
theorem zh8 {r rest:Str} {e:Int} (h:x9 ln0 r=.bad e rest): ∃ n:Nat,zC r=([],(n:Int),false,e)∧e≠0∧n≤r.length∧0<n∧rest=r.drop n:=by
  have:=zbg r;rw [h] at this
  obtain⟨n,h1,h2⟩:=this
  exact⟨n,by rw [zC,h1];simp,h2⟩
theorem zhf (r:Str): ∃ n:Nat,(zC r).2.1=(n:Int)∧n≤r.length∧((zC r).2.2.1=true∨(zC r).2.2.2≠0→0<n)∧((zC r).2.2.1=false→(zC r).2.2.2=0→n=0)∧((zC r).2.2.1=true→(zC r).2.2.2=0):=by
  cases h:x9 ln0 r with
  |more s=>rw [zfb h];exact⟨0,rfl,Nat.zero_le _,by simp,by simp,by simp⟩
  |line t rest=>obtain⟨n,h1,h2,h3,_⟩:=zbf h;rw [h1];exact⟨n,rfl,h2,fun _=>h3,by simp,by simp⟩
  |bad e rest=>obtain⟨n,h1,h2,h3,h4,_⟩:=zh8 h;rw [h1];exact⟨n,rfl,h3,fun _=>h4,fun _ h=>absurd h h2,by simp⟩
theorem zhd {s:Ln} {c:UInt8} (h:(lnF s c).2.2.2=0):(lnF s c).1.code=0:=by
  unfold lnF at h ⊢
  split
  · rename_i h1;rw [if_pos h1] at h;exact h
  rename_i h1
  rw [if_neg h1] at h
  split
  · rename_i h2
    rw [if_pos h2] at h
    split
    · rfl
    · rename_i h3;rw [if_neg h3] at h;cases h
  rename_i h2
  rw [if_neg h2] at h
  split
  · rename_i h3;rw [if_pos h3] at h;cases h
  rename_i h3
  rw [if_neg h3] at h
  split
  · exact Decidable.not_not.1 h1
  rename_i h4
  rw [if_neg h4] at h
  split
  · rename_i h5;rw [if_pos h5] at h;cases h
  rename_i h5
  rw [if_neg h5] at h
  split
  · rename_i h6;rw [if_pos h6] at h;cases h
  · exact Decidable.not_not.1 h1
theorem zhc {s:Ln} {c:UInt8} (h:(lnF s c).2.2.1=true) (h0:s.code=0):(lnF s c).2.2.2=0∧(lnF s c).1=ln0:=by
  unfold lnF at h ⊢
  rw [if_neg (by simp [h0])] at h ⊢
  split
  · rename_i h2
    rw [if_pos h2] at h
    split
    · exact⟨rfl,rfl⟩
    · rename_i h3;rw [if_neg h3] at h;cases h
  rename_i h2
  rw [if_neg h2] at h
  split at h
  · cases h
  split at h
  · cases h
  split at h
  · cases h
  split at h
  · cases h
  · cases h
theorem UC: ∀ (r pre:Str),(yM pre r).1.length≤pre.length+r.length
  |[],pre=>by simp [yM]
  | c ::r,pre=>by
    rw [yM.eq_def]
    simp only
    split
    · split
      · simp
      · split
        · simp
        · simp
    split
    · simp
    split
    · simp
    split
    · simp
    · have:=UC r (pre++[c])
      rw [List.length_append] at this
      simp at this ⊢
      omega
theorem zdX (r:Str):(zC r).1.length≤r.length:=by have:=UC r [];simpa [zC] using this
end Go.Proofs.YtknaogelmckimaaGreatDoor
namespace Go.Proofs.YtknaogelmckimaaGreatDoor
open Go Go.Sep Go.Ab
set_option maxRecDepth 100000
def bodF (b:Str):List Evt:=if b=[] then [] else [evB b]
def NB (l:List Evt):Prop:=∀ z x,l=z++[x]→x.kind≠2
theorem zkA:NB []:=fun z x h=>by simp at h
theorem ze4 {l:List Evt} {e:Evt} (h:e.kind≠2):NB (l++[e]):=fun z x k=>by
  have:=(List.append_inj' k rfl).2
  simp only [List.cons.injEq,and_true] at this
  rw [← this];exact h
theorem Wl {e:Evt} (h:e.kind≠2) (o:List Evt):zN (o++[e])=zN o++[e]:=by
  rw [vG]
  rcases List.eq_nil_or_concat (zN o) with h0|⟨z,x,h0⟩
  · rw [h0];rfl
  · rw [h0,List.concat_eq_append,yY,if_neg (fun k=>h k.1)]
def zgF (l:List Evt) (o:Str):Prop:=(∀ e ∈ l,∃ b,b≠[]∧e=evB b)∧(l.map fun e=>e.bytes).flatten=o
theorem YD:zgF [] []:=⟨(fun e h=>by cases h),rfl⟩
theorem U8 {b:Str} {l:List Evt} {o:Str} (h:b≠[]) (k:zgF l o):zgF (evB b::l) (b++o):=
  ⟨fun e m=>(List.mem_cons.1 m).elim (fun q=>⟨b,h,q⟩) (k.1 e),by rw [List.map_cons,List.flatten_cons,k.2];rfl⟩
theorem zdZ {o:List Evt} (hn:NB (zN o)): ∀ (l:List Evt) (p:Str),zgF l p→zN (o++l)=zN o++bodF p:=by
  suffices h: ∀ (l m:List Evt) (a:Str),zN (o++m)=zN o++bodF a→(∀ e ∈ l,∃ b,b≠[]∧e=evB b)→zN (o++m++l)=zN o++bodF (a++(l.map fun e=>e.bytes).flatten) by
    intro l p hb
    have:=h l [] [] (by simp [bodF]) hb.1
    rw [List.append_nil,List.nil_append,hb.2] at this
    exact this
  intro l
  induction l with
  |nil=>intro m a h _;simpa using h
  | cons e l ih=>
    intro m a h hl
    obtain⟨b,hb,rfl⟩:=hl e (List.mem_cons_self ..)
    have hs:zN (o++(m++[evB b]))=zN o++bodF (a++b):=by
      rw [← List.append_assoc,vG,h]
      unfold bodF
      rw [if_neg (show ¬ a++b=[] by simp [hb])]
      by_cases ha:a=[]
      · subst ha
        rw [if_pos rfl,List.append_nil,List.nil_append]
        rcases List.eq_nil_or_concat (zN o) with h0|⟨z,x,h0⟩
        · rw [h0];rfl
        · rw [List.concat_eq_append] at h0
          rw [h0,yY,if_neg (fun k=>hn z x h0 k.2)]
      · rw [if_neg ha,yY,if_pos ⟨rfl,rfl⟩];rfl
    have:=ih (m++[evB b]) (a++b) hs (fun x hx=>hl x (List.mem_cons_of_mem _ hx))
    rw [show o++m++evB b::l=o++(m++[evB b])++l by simp,this]
    simp [evB]
inductive HdR
  |short
  |bad (c:Int)
  |ok (l:List Fld) (rest:Str)
def YU:Nat→List Fld→Str→HdR
  |0,_,_=>.short
  | n +1,l,r=>match x9 ln0 r with
    |.more _=>.short
    |.bad e _=>.bad e
    | .line t rest=>
      if t=[] then .ok l rest
      else if l.length=16 then .bad 8
      else if(zF t).2≠0 then .bad (zF t).2
      else YU n (l++[(zF t).1]) rest
def uF (c:UInt8):Bool:=decide (c=32∨c=9)
def preF (x:List Evt) (p:List Evt × Int):List Evt × Int:=(x++p.1,p.2)
def za9 (m:Str) (go:Str→List Evt × Int) (k:Nat) (l:List Fld) (r:Str):List Evt × Int:=
  if(zM l).2≠0 then([evF (zM l).2],(zM l).2)
  else if k=12 then([evF 8],8)
  else if zx m (13::10::r) 0<0 then(evP (zM l).1::bodF (r.take (r.length+2 - P.held m (13::10::r) - 2)),14)
  else preF (evP (zM l).1::(bodF (r.take ((zx m (13::10::r) 0).toNat - 2))++[evO])) (go (r.drop ((zx m (13::10::r) 0).toNat+m.length - 2)))
def hdG (m:Str) (go:Str→List Evt × Int) (k:Nat) (r:Str):List Evt × Int:=
  match YU (r.length+1) [] r with
  |.short=>([],14)
  |.bad c=>([evF c],c)
  |.ok l r2=>za9 m go k l r2
def padG (m:Str) (go:Str→List Evt × Int) (k:Nat) (r:Str):List Evt × Int:=
  match r with
  |[]=>([],14)
  |[c]=>if c≠13 then([evF 5],5) else([],14)
  |c::d::r2=>if c≠13 then([evF 5],5) else if d≠10 then([evF 2],2) else hdG m go k r2
def Zp (m:Str):Nat→Nat→Str→List Evt × Int
  |0,_,_=>([],14)
  | f+1,k,r=>match r with
    |[]=>([],14)
    |[c]=>if c=45 then([],14) else padG m (Zp m f (k+1)) k ([c].dropWhile uF)
    |c::d::r2=>if c=45 then(if d≠45 then([evF 5],5) else([evE],0)) else padG m (Zp m f (k+1)) k ((c::d::r2).dropWhile uF)
def qX (m:Str) (x:Str):List Evt × Int:=
  if zx m (13::10::x) 0<0 then([],14)
  else Zp m (x.length+1) 0 (x.drop ((zx m (13::10::x) 0).toNat+m.length - 2))
theorem xg (f:Fm) (c:UInt8) (r:Str):xC f (c::r)=xC (fmF f c) r:=rfl
theorem yZ {f:Fm} (h:f.pos=7∨f.pos=8): ∀ r:Str,xC f r=f
  |[]=>rfl
  | c::r=>by
    have:fmF f c=f:=by unfold fmF;rw [if_neg (by omega),if_neg (by omega),if_neg (by omega),if_neg (by omega)]
    rw [xg,this];exact yZ h r
theorem UN {f:Fm} (hp:f.pos=5): ∀ (r:Str) (l:Ln),l.code=0→match x9 l r with
    |.more s=>xC { f with ln:=some l} r= { f with ln:=some s}
    |.bad e _=>∃ l',xC { f with ln:=some l} r=zG { f with ln:=some l'} e
    |.line t rest=>xC { f with ln:=some l} r=xC (xH { f with ln:=some ln0} t) rest
  |[],l,hl=>rfl
  | c ::r,l,hl=>by
    have e0:fmF { f with ln:=some l} c=(if(lnF l c).2.2.2≠0 then zG { f with ln:=some (lnF l c).1} (lnF l c).2.2.2
      else if(lnF l c).2.2.1=true then xH { f with ln:=some (lnF l c).1} (lnF l c).2.1
      else { f with ln:=some (lnF l c).1}):=by
      unfold fmF
      rw [if_neg (show ¬ (f.pos=0∨f.pos=6) by omega),if_neg (show ¬ (f.pos=1∨f.pos=2∨f.pos=3) by omega),if_neg (show ¬ f.pos=4 by omega),if_pos (show f.pos=5 from hp)]
      rfl
    rw [xg,e0,x9]
    by_cases h1:(lnF l c).2.2.1=true
    · obtain⟨h2,h3⟩:=zhc h1 hl
      rw [if_pos h1,if_pos h1,if_neg (by simp [h2]),h3]
    · rw [if_neg h1,if_neg h1]
      by_cases h2:(lnF l c).2.2.2=0
      · rw [if_neg (by simp [h2]),if_neg (by simp [h2])]
        exact UN hp r (lnF l c).1 (zhd h2)
      · rw [if_pos h2,if_pos h2]
        exact⟨(lnF l c).1,yZ (.inr rfl) r⟩
structure DtI (m:Str) (f:Fm) (s:Str):Prop where
  mr:f.mark=m
  hd:f.held=(P.held m s:Nat)
  no:uG m s
  sk:f.pos=6→f.skip=2 - min 2 ((s.length - P.held m s:Nat):Int)
theorem YW {m:Str} (hm:m≠[]): ∀ (r:Str) (f:Fm) (s:Str),DtI m f s→f.pos=0∨f.pos=6→
    ∃ l o h sk,zgF l o∧(f.pos=0→l=[])∧
      (zx m (s++r) 0<0→(f.pos=6→(s.take (s.length - P.held m s)).drop 2++o=((s++r).take ((s++r).length - P.held m (s++r))).drop 2)∧xC f r= { f with held:=h,skip:=sk,out:=f.out++l})∧
      (¬ zx m (s++r) 0<0→(f.pos=6→(s.take (s.length - P.held m s)).drop 2++o=((s++r).take (zx m (s++r) 0).toNat).drop 2)∧
        xC f r=xC { f with pos:=1,held:=0,skip:=0,out:=f.out++l++(if f.pos=6 then [evO] else [])} ((s++r).drop ((zx m (s++r) 0).toNat+m.length)))
  | [],f,s,hi,hp=>by
    have hn:zx m (s++[]) 0<0:=by rw [List.append_nil,hi.no.find];decide
    refine⟨[],[],f.held,f.skip,YD,fun _=>rfl,fun _=>⟨fun _=>by simp,by simp [xC]⟩,fun h=>absurd hn h⟩
  | c :: r, f,s,hi,hp=>by
    obtain⟨out,n',fd,e1,e2,e3,e4,e5,e6,e7,e8⟩:=Y2 m s c
    have hA:yh f.mark f.held.toNat c=(out,n',fd):=by rw [hi.mr,hi.hd,Int.toNat_natCast];exact e1
    obtain⟨g1,g2⟩:=uV m s
    have e0:fmF f c=yg f c:=by unfold fmF;rw [if_pos hp]
    have hO:yI f c=out.drop (min f.skip (out.length:Int)).toNat:=by unfold yI;rw [hA]
    have hT:f.pos=6→((s.take (s.length - P.held m s))++out).drop 2=(s.take (s.length - P.held m s)).drop 2++yI f c:=fun h=>by
      rw [List.drop_append,hO,hi.sk h]
      congr 1
      rw [List.length_take,Nat.min_eq_left (by omega)]
      have hq: ∀ k j:Nat,min k out.length=min j out.length→out.drop k=out.drop j:=fun k j h=>by
        rcases Nat.lt_or_ge k out.length with h1|h1
        · rw [show k=j by omega]
        · rw [List.drop_of_length_le h1,List.drop_of_length_le (by omega)]
      refine hq _ _ ?_
      omega
    rw [xg,e0]
    cases fd with
    | false =>
      have hns: ¬ m<:+s++[c]:=fun h=>by have:=e2.2 ⟨hm,h⟩;cases this
      have hn':=e3 rfl
      simp only [Bool.false_eq_true,if_false] at e5
      have hs:s++c::r=(s++[c])++r:=by simp
      have eB:yg f c= { fmSk f c with skip:=f.skip - min f.skip (out.length:Int),out:=if f.pos=6∧yI f c≠[] then f.out++[evB (yI f c)] else f.out}:=by
        unfold yg;rw [if_pos (by rw [hA]),hA]
      have hk:(s++[c]).take ((s++[c]).length - P.held m (s++[c]))=s.take (s.length - P.held m s)++out:=by
        obtain⟨k1,k2⟩:=uV m (s++[c])
        have:(s.take (s.length - P.held m s)++out)++m.take n'=s++[c]:=by rw [List.append_assoc,e5,← List.append_assoc,g1]
        rw [hn'] at this
        exact List.append_cancel_right (k1.trans this.symm)
      have hl:=congrArg List.length hk
      rw [List.length_take,List.length_append,List.length_append,List.length_take,List.length_singleton] at hl
      have hI:DtI m (yg f c) (s++[c]):=by
        rw [eB]
        refine⟨hi.mr,?_,hi.no.snoc hns,fun h=> ?_⟩
        · show((yh f.mark f.held.toNat c).2.1:Int)=_
          rw [hA,hn']
        · have hsk:=hi.sk h
          simp only
          rw [List.length_append,List.length_singleton]
          omega
      obtain⟨l,o,h,sk,hb,h0,hN,hY⟩:=YW hm r (yg f c) (s++[c]) hI (by rw [eB];exact hp)
      rw [hk] at hN hY
      rw [hs]
      have hpos:(yg f c).pos=f.pos:=by rw [eB];rfl
      rw [hpos] at h0 hN hY
      by_cases hx:f.pos=6∧yI f c≠[]
      · have eC:yg f c= { f with held:=(n':Int),skip:=f.skip - min f.skip (out.length:Int),out:=f.out++[evB (yI f c)]}:=by
          rw [eB,if_pos hx];unfold fmSk;rw [hA]
        refine⟨evB (yI f c)::l,yI f c++o,h,sk,U8 hx.2 hb,fun q=>by omega,fun q=> ?_,fun q=> ?_⟩
        · obtain⟨a1,a2⟩:=hN q
          refine⟨fun p=> ?_,?_⟩
          · rw [← a1 p,hT p,List.append_assoc]
          · rw [a2,eC];simp
        · obtain⟨a1,a2⟩:=hY q
          refine⟨fun p=> ?_,?_⟩
          · rw [← a1 p,hT p,List.append_assoc]
          · rw [a2,eC];simp
      · have eC:yg f c= { f with held:=(n':Int),skip:=f.skip - min f.skip (out.length:Int)}:=by
          rw [eB,if_neg hx];unfold fmSk;rw [hA]
        refine⟨l,o,h,sk,hb,h0,fun q=> ?_,fun q=> ?_⟩
        · obtain⟨a1,a2⟩:=hN q
          refine⟨fun p=> ?_,?_⟩
          · have:yI f c=[]:=Classical.not_not.1 (fun z=>hx ⟨p,z⟩)
            rw [← a1 p,hT p,this,List.append_nil]
          · rw [a2,eC]
        · obtain⟨a1,a2⟩:=hY q
          refine⟨fun p=> ?_,?_⟩
          · have:yI f c=[]:=Classical.not_not.1 (fun z=>hx ⟨p,z⟩)
            rw [← a1 p,hT p,this,List.append_nil]
          · rw [a2,eC]
    | true=>
      obtain⟨_,hsm⟩:=e2.1 rfl
      obtain⟨k1,k2⟩:=zho (r:=r) hi.no hm hsm
      simp only [if_true] at e5
      have hk:s.take (s.length - P.held m s)++out++m=s++[c]:=by rw [List.append_assoc,e5,← List.append_assoc,g1]
      have hl:=congrArg List.length hk
      rw [List.length_append,List.length_append,List.length_take,List.length_append,List.length_singleton] at hl
      have hpre:(s++c::r).take (zx m (s++c::r) 0).toNat=s.take (s.length - P.held m s)++out:=by
        rw [k1,Int.toNat_natCast,show s++c::r=(s.take (s.length - P.held m s)++out)++(m++r) by rw [← List.append_assoc,hk];simp]
        exact List.take_left' (by rw [List.length_append,List.length_take];omega)
      have hdr:(s++c::r).drop ((zx m (s++c::r) 0).toNat+m.length)=r:=by
        rw [k1,Int.toNat_natCast,show s++c::r=(s++[c])++r by simp]
        exact List.drop_left' (by rw [List.length_append,List.length_singleton];omega)
      have h0:=e4 rfl
      subst h0
      rw [hpre,hdr]
      have eB:yg f c= { fmSk f c with pos:=1,skip:=0,out:=if f.pos=6 then(if yI f c≠[] then f.out++[evB (yI f c),evO] else f.out++[evO]) else f.out}:=by
        unfold yg;rw [if_neg (by rw [hA];simp)]
      have hno: ¬ zx m (s++c::r) 0<0:=by rw [k1];omega
      have hsk:fmSk f c= { f with held:=0}:=by unfold fmSk;rw [hA];rfl
      by_cases h6:f.pos=6
      · by_cases hx:yI f c=[]
        · refine⟨[],[],0,0,YD,fun _=>rfl,fun q=>absurd q hno,fun _=>⟨fun _=> ?_,?_⟩⟩
          · rw [hT h6,hx]
          · rw [eB,hsk,if_pos h6,if_neg (by simp [hx]),if_pos h6,List.append_nil]
        · refine⟨[evB (yI f c)],yI f c,0,0,by have:=U8 hx YD;rwa [List.append_nil] at this,fun q=>by omega,fun q=>absurd q hno,fun _=>⟨fun _=> ?_,?_⟩⟩
          · rw [hT h6]
          · rw [eB,hsk,if_pos h6,if_pos hx,if_pos h6];simp
      · refine⟨[],[],0,0,YD,fun _=>rfl,fun q=>absurd q hno,fun _=>⟨fun q=>absurd q h6,?_⟩⟩
        rw [eB,hsk,if_neg h6,if_neg h6];simp
end Go.Proofs.YtknaogelmckimaaGreatDoor
namespace Go.Proofs.YtknaogelmckimaaGreatDoor
open Go Go.Sep Go.Ab
set_option maxRecDepth 100000
def CF (f f':Fm) (g:List Evt × Int):Prop:=zN f'.out=zN f.out++g.1∧yT f'=g.2
structure MkI (m:Str) (f:Fm) (k:Nat):Prop where
  mr:f.mark=m
  hd:f.held=0
  pa:f.parts=(k:Int)
  nb:NB (zN f.out)
theorem Zr {f g:Fm} (h:g.out=f.out) (c:Int):CF f (zG g c) ([evF c],c):=by
  refine⟨?_,?_⟩
  · show zN (g.out++[evF c])=_
    rw [Wl (show(4:Int)≠2 by decide),h]
  · unfold yT zG;simp
theorem YA {f g:Fm} (h:g.out=f.out) (h7:g.pos≠7) (h8:g.pos≠8):CF f g ([],14):=by
  refine⟨by rw [h,List.append_nil],?_⟩
  unfold yT
  rw [if_neg h8,if_neg h7]
theorem Vt {m t:Str} (h:m=13::10::45::45::t):P.held m [13,10]=2∧uG m [13,10]∧m≠[]:=by
  have hl:m.length=t.length+4:=by rw [h];simp
  refine⟨?_,fun k hk=> ?_,by rw [h];simp⟩
  · have h1:=(P.uq m [13,10]).top 2 (by omega) (by rw [h];exact List.suffix_refl _)
    have h2:=(uV m [13,10]).2
    simp only [List.length_cons,List.length_nil] at h2
    omega
  · have:=hk.length_le
    rw [List.length_take,List.length_cons,List.length_cons,List.length_nil] at this
    omega
theorem zeC {m t:Str} (h:m=13::10::45::45::t) {f:Fm} (hk:f.mark=m) (h0:f.held=0):fmSk (fmSk f 13) 10= { f with held:=2}:=by
  obtain⟨q1,q2,q3⟩:=Vt h
  have hl:m.length=t.length+4:=by rw [h];simp
  obtain⟨out,n',fd,e1,e2,e3,-,-,-,-,-⟩:=Y2 m [] 13
  rw [P.zhj] at e1
  have f1:fd=false:=by
    cases fd with
    |false=>rfl
    |true=>have:=(e2.1 rfl).2.length_le;simp at this;omega
  obtain⟨out2,n2,fd2,g1,g2,g3,-,-,-,-,-⟩:=Y2 m [13] 10
  have f2:fd2=false:=by
    cases fd2 with
    |false=>rfl
    |true=>have:=(g2.1 rfl).2.length_le;simp at this;omega
  have a1:fmSk f 13= { f with held:=(n':Int)}:=by
    have:yh f.mark f.held.toNat 13=(out,n',fd):=by rw [hk,h0];exact e1
    unfold fmSk;rw [this]
  rw [a1]
  unfold fmSk
  simp only [Int.toNat_natCast]
  have a2:yh f.mark n' 10=(out2,n2,fd2):=by
    rw [hk,e3 f1];exact g1
  have a3:n2=2:=(g3 f2).trans q1
  rw [a2,a3];rfl
theorem zcQ: ∀ (n:Nat) (r:Str) (f:Fm),r.length<n→f.pos=5→f.ln=some ln0→match YU n f.fields r with
    |.short=>(xC f r).out=f.out∧(xC f r).pos=5
    |.bad c=>∃ g,xC f r=zG g c∧g.out=f.out
    |.ok l r2=>xC f r=xC (yD { f with fields:=l}) r2∧r2.length<r.length
  |0,r,f,h,_,_=>absurd h (Nat.not_lt_zero _)
  | n + 1, r,f,h,hp,hl=>by
    have hr:=UN hp r ln0 rfl
    have hf: { f with ln:=some ln0}=f:=by rw [← hl]
    rw [hf] at hr
    have hrest: ∀ {t rest:Str},x9 ln0 r=.line t rest→rest.length<r.length:=fun h=>by
      obtain⟨n,-,h2,h3,h4⟩:=zbf h
      rw [h4,List.length_drop];omega
    rw [YU]
    cases hx:x9 ln0 r with
    | more s=>
      rw [hx] at hr
      simp only at hr ⊢
      rw [hr]
      exact⟨rfl,hp⟩
    | bad e rest=>
      rw [hx] at hr
      obtain⟨l',hr⟩:=hr
      exact⟨_,hr,rfl⟩
    | line t rest=>
      rw [hx] at hr
      have hrl:=hrest hx
      simp only at hr ⊢
      rw [hr]
      unfold xH
      by_cases ht:t=[]
      · rw [if_pos ht,if_pos ht]
        exact⟨rfl,hrl⟩
      · rw [if_neg ht,if_neg ht]
        by_cases h16:f.fields.length=16
        · rw [if_pos h16,if_pos h16]
          exact⟨f,yZ (.inr rfl) _,rfl⟩
        · rw [if_neg h16,if_neg h16]
          by_cases hb:(zF t).2=0
          · rw [if_neg (show ¬ (zF t).2≠0 by simp [hb]),if_neg (show ¬ (zF t).2≠0 by simp [hb])]
            have ih:=zcQ n rest { f with fields:=f.fields++[(zF t).1]} (by omega) hp hl
            simp only at ih
            generalize YU n (f.fields++[(zF t).1]) rest=w at ih
            cases w with
            |short=>exact ih
            |bad c=>exact ih
            |ok l r2=>exact⟨ih.1,by omega⟩
          · rw [if_pos hb,if_pos hb]
            exact⟨f,yZ (.inr rfl) _,rfl⟩
theorem drop2 (r:Str) (n:Nat):((13::10::r).take n).drop 2=r.take (n - 2):=by rw [List.drop_take];rfl
theorem zg6 {m t:Str} (hm:m=13::10::45::45::t) {go:Str→List Evt × Int} {k n:Nat} (ih: ∀ (r:Str) (f:Fm),r.length<n→MkI m f (k+1)→f.pos=1→CF f (xC f r) (go r))
    {r:Str} {f:Fm} (hr:r.length<n) (hi:MkI m f k):CF f (xC (yD f) r) (za9 m go k f.fields r):=by
  unfold yD za9
  by_cases h1:(zM f.fields).2=0
  · rw [if_neg (show ¬ (zM f.fields).2≠0 by simp [h1]),if_neg (show ¬ (zM f.fields).2≠0 by simp [h1])]
    by_cases h2:f.parts=12
    · rw [if_pos h2,if_pos (show k=12 by have:=hi.pa;omega),yZ (.inr rfl)]
      exact Zr rfl 8
    · rw [if_neg h2,if_neg (show ¬ k=12 by have:=hi.pa;omega)]
      obtain⟨q1,q2,q3⟩:=Vt hm
      rw [zeC hm (f:= { f with parts:=f.parts+1,pos:=6,out:=f.out++[evP (zM f.fields).1],skip:=2}) hi.mr hi.hd]
      have hP:zN (f.out++[evP (zM f.fields).1])=zN f.out++[evP (zM f.fields).1]:=Wl (show(5:Int)≠2 by decide) _
      have hN:NB (zN (f.out++[evP (zM f.fields).1])):=by rw [hP];exact ze4 (show(5:Int)≠2 by decide)
      obtain⟨l,o,h,sk,hb,-,hn,hy⟩:=YW q3 r { f with parts:=f.parts+1,pos:=6,out:=f.out++[evP (zM f.fields).1],skip:=2,held:=2} [13,10] ⟨hi.mr,by rw [q1];rfl,q2,fun _=>by rw [q1];rfl⟩ (.inr rfl)
      have hT:([13,10]:Str).take (([13,10]:Str).length - P.held m [13,10])=[]:=by rw [q1];rfl
      rw [hT] at hn hy
      have hJ:=zdZ hN l o hb
      have ec:([13,10]:Str)++r=13::10::r:=rfl
      rw [ec] at hn hy
      by_cases h3:zx m (13::10::r) 0<0
      · rw [if_pos h3]
        obtain⟨a1,a2⟩:=hn h3
        have a1:=a1 rfl
        rw [drop2,List.drop_nil,List.nil_append] at a1
        rw [a2]
        refine⟨?_,rfl⟩
        show zN (f.out++[evP (zM f.fields).1]++l)=_
        rw [hJ,hP,a1]
        simp only [List.length_cons,List.append_assoc,List.cons_append,List.nil_append]
      · rw [if_neg h3]
        obtain⟨a1,a2⟩:=hy h3
        have a1:=a1 rfl
        rw [drop2,List.drop_nil,List.nil_append] at a1
        rw [a2]
        have hml:m.length=t.length+4:=by rw [hm];simp
        have hd:(13::10::r).drop ((zx m (13::10::r) 0).toNat+m.length)=r.drop ((zx m (13::10::r) 0).toNat+m.length - 2):=by
          rw [show(zx m (13::10::r) 0).toNat+m.length=(zx m (13::10::r) 0).toNat+m.length - 2+2 by omega];rfl
        rw [hd]
        have hO:zN (f.out++[evP (zM f.fields).1]++l++[evO])=zN f.out++(evP (zM f.fields).1::(bodF (r.take ((zx m (13::10::r) 0).toNat - 2))++[evO])):=by
          rw [Wl (show(6:Int)≠2 by decide),hJ,hP,a1];simp
        simp only [if_true]
        generalize r.drop ((zx m (13::10::r) 0).toNat+m.length - 2)=r2 at *
        have hlen:r2.length<n:=by
          have:=congrArg List.length hd
          rw [List.length_drop,List.length_cons,List.length_cons] at this
          omega
        obtain⟨c1,c2⟩:=ih r2 { f with parts:=f.parts+1,pos:=1,out:=f.out++[evP (zM f.fields).1]++l++[evO],skip:=0,held:=0} hlen ⟨hi.mr,rfl,by simp only;have:=hi.pa;omega,by rw [hO,← List.cons_append,← List.append_assoc];exact ze4 (show(6:Int)≠2 by decide)⟩ rfl
        refine⟨?_,c2⟩
        rw [c1,hO]
        simp only [preF,List.append_assoc]
  · rw [if_pos h1,if_pos h1,yZ (.inr rfl)]
    exact Zr rfl _
theorem zeP {m t:Str} (hm:m=13::10::45::45::t) {go:Str→List Evt × Int} {k n:Nat} (ih: ∀ (r:Str) (f:Fm),r.length<n→MkI m f (k+1)→f.pos=1→CF f (xC f r) (go r)):
    ∀ (r:Str) (f:Fm),r.length≤n→MkI m f k→f.pos=3→CF f (xC f r) (padG m go k (r.dropWhile uF))
  |[],f,_,_,hp=>YA rfl (by show f.pos≠7;rw [hp];decide) (by show f.pos≠8;rw [hp];decide)
  | c :: r, f,hr,hi,hp=>by
    have e0:fmF f c=zJ f c:=by unfold fmF;rw [if_neg (by omega),if_pos (by omega)]
    rw [xg,e0]
    unfold zJ
    rw [if_neg (fun h=>by omega),if_neg (fun h=>by omega)]
    rw [List.length_cons] at hr
    by_cases hb:c=32∨c=9
    · rw [if_pos ⟨by omega,hb⟩]
      have hf: { f with pos:=3}=f:=by rw [← hp]
      rw [hf,List.dropWhile_cons_of_pos (by unfold uF;exact decide_eq_true hb)]
      exact zeP hm ih r f (by omega) hi hp
    · rw [if_neg (fun h=>hb h.2),List.dropWhile_cons_of_neg (by unfold uF;simpa using hb)]
      by_cases h13:c=13
      · rw [if_pos ⟨by omega,h13⟩]
        cases r with
        | nil=>
          simp only [padG,h13,ne_eq,not_true_eq_false,if_false]
          exact YA rfl (show(4:Int)≠7 by decide) (show(4:Int)≠8 by decide)
        | cons d r2=>
          rw [xg]
          have e1:fmF { f with pos:=4} d=if d≠10 then zG { f with pos:=4} 2 else { f with pos:=5,ln:=some ln0,fields:=[]}:=by
            unfold fmF
            rw [if_neg (show ¬ ((4:Int)=0∨(4:Int)=6) by decide),if_neg (show ¬ ((4:Int)=1∨(4:Int)=2∨(4:Int)=3) by decide),if_pos rfl]
          rw [e1]
          simp only [padG,h13,ne_eq,not_true_eq_false,if_false]
          by_cases h10:d=10
          · rw [if_neg (by simp [h10]),if_neg (by simp [h10])]
            rw [List.length_cons] at hr
            have hh:=zcQ (r2.length+1) r2 { f with pos:=5,ln:=some ln0,fields:=[]} (by omega) rfl rfl
            simp only at hh
            unfold hdG
            generalize YU (r2.length+1) [] r2=w at hh
            cases w with
            |short=>exact YA hh.1 (by rw [hh.2];decide) (by rw [hh.2];decide)
            | bad c=>
              obtain⟨g,g1,g2⟩:=hh
              rw [g1];exact Zr g2 c
            | ok l r3=>
              obtain⟨g1,g2⟩:=hh
              rw [g1]
              exact zg6 hm ih (f:= { f with pos:=5,ln:=some ln0,fields:=l}) (by omega) ⟨hi.mr,hi.hd,hi.pa,hi.nb⟩
          · rw [if_pos h10,if_pos h10,yZ (.inr rfl)]
            exact Zr rfl 2
      · rw [if_neg (fun h=>h13 h.2),yZ (.inr rfl)]
        cases r with
        |nil=>simp only [padG];rw [if_pos h13];exact Zr rfl 5
        |cons d r2=>simp only [padG];rw [if_pos h13];exact Zr rfl 5
theorem zaO {f:Fm} (hp:f.pos=1∨f.pos=3) {c:UInt8} (hc:c≠45):zJ f c=if c=32∨c=9 then { f with pos:=3} else if c=13 then { f with pos:=4} else zG f 5:=by
  unfold zJ
  have p2:f.pos≠2:=by omega
  rw [if_neg (fun h=>hc h.2),if_neg (fun h=>hc h.2)]
  simp only [p2,ne_eq,not_false_eq_true,true_and]
theorem zcS {m t:Str} (hm:m=13::10::45::45::t): ∀ (n k:Nat) (r:Str) (f:Fm),r.length<n→MkI m f k→f.pos=1→CF f (xC f r) (Zp m n k r)
  |0,k,r,f,h,_,_=>absurd h (Nat.not_lt_zero _)
  |n+1,k,[],f,h,hi,hp=>YA rfl (by show f.pos≠7;rw [hp];decide) (by show f.pos≠8;rw [hp];decide)
  | n + 1,k,c::r,f,h,hi,hp=>by
    have e0:fmF f c=zJ f c:=by unfold fmF;rw [if_neg (by omega),if_pos (by omega)]
    have hpad:c≠45→CF f (xC f (c::r)) (padG m (Zp m n (k+1)) k ((c::r).dropWhile uF)):=fun hc=>by
      have e1:fmF f c=fmF { f with pos:=3} c:=by
        have e2:fmF { f with pos:=3} c=zJ { f with pos:=3} c:=by unfold fmF;rw [if_neg (show ¬ ((3:Int)=0∨(3:Int)=6) by decide),if_pos (show(3:Int)=1∨(3:Int)=2∨(3:Int)=3 by decide)]
        rw [e0,e2,zaO (.inl hp) hc,zaO (f:= { f with pos:=3}) (.inr rfl) hc]
        rfl
      rw [xg,e1,← xg]
      rw [List.length_cons] at h
      exact zeP hm (fun r2 f2 h2 i2 p2=>zcS hm n (k+1) r2 f2 h2 i2 p2) (c::r) { f with pos:=3} (by rw [List.length_cons];omega) ⟨hi.mr,hi.hd,hi.pa,hi.nb⟩ rfl
    by_cases hc:c=45
    · cases r with
      | nil=>
        rw [Zp,if_pos hc,xg,e0]
        unfold zJ
        rw [if_pos ⟨hp,hc⟩]
        exact YA rfl (show(2:Int)≠7 by decide) (show(2:Int)≠8 by decide)
      | cons d r2=>
        rw [Zp,if_pos hc,xg,e0,xg]
        have e1:zJ f c= { f with pos:=2}:=by unfold zJ;rw [if_pos ⟨hp,hc⟩]
        have e2:fmF { f with pos:=2} d=if d=45 then { f with pos:=7,out:=f.out++[evE]} else zG { f with pos:=2} 5:=by
          unfold fmF
          rw [if_neg (show ¬ ((2:Int)=0∨(2:Int)=6) by decide),if_pos (show(2:Int)=1∨(2:Int)=2∨(2:Int)=3 by decide)]
          unfold zJ
          rw [if_neg (fun h=>absurd (show(2:Int)=1 from h.1) (by decide))]
          by_cases hd:d=45
          · rw [if_pos ⟨rfl,hd⟩,if_pos hd]
          · rw [if_neg (fun h=>hd h.2),if_neg (fun h=>h.1 rfl),if_neg (fun h=>h.1 rfl),if_neg hd]
        rw [e1,e2]
        by_cases hd:d=45
        · rw [if_pos hd,if_neg (by simp [hd]),yZ (.inl rfl)]
          refine⟨?_,rfl⟩
          show zN (f.out++[evE])=_
          rw [Wl (show(3:Int)≠2 by decide)]
        · rw [if_neg hd,if_pos hd,yZ (.inr rfl)]
          exact Zr rfl 5
    · cases r with
      |nil=>rw [Zp,if_neg hc];exact hpad hc
      |cons d r2=>rw [Zp,if_neg hc];exact hpad hc
theorem zkS (s:Str):fm0 s= { (⟨zH s,0,wG (zH s),0,none,[],0,0,0,[]⟩:Fm) with held:=2}:=by
  unfold fm0
  exact zeC (m:=zH s) (t:=s) rfl rfl rfl
theorem zcT (s x:Str):zN (zW (fm0 s) x).out=(qX (zH s) x).1∧yT (zW (fm0 s) x)=(qX (zH s) x).2:=by
  obtain⟨q1,q2,q3⟩:=Vt (m:=zH s) (t:=s) rfl
  unfold zW qX
  rw [zkS]
  obtain⟨l,o,h,sk,hb,h0,hn,hy⟩:=YW q3 x ⟨zH s,2,wG (zH s),0,none,[],0,0,0,[]⟩ [13,10] ⟨rfl,by rw [q1];rfl,q2,fun e=>absurd (show(0:Int)=6 from e) (by decide)⟩ (.inl rfl)
  have h0:=h0 rfl
  subst h0
  have ec:([13,10]:Str)++x=13::10::x:=rfl
  rw [ec] at hn hy
  by_cases h3:zx (zH s) (13::10::x) 0<0
  · rw [if_pos h3]
    have:=(hn h3).2
    simp only at this ⊢
    rw [this]
    exact⟨rfl,rfl⟩
  · rw [if_neg h3]
    have:=(hy h3).2
    simp only at this ⊢
    rw [this]
    have hml:(zH s).length=s.length+4:=by simp [zH]
    have hd:(13::10::x).drop ((zx (zH s) (13::10::x) 0).toNat+(zH s).length)=x.drop ((zx (zH s) (13::10::x) 0).toNat+(zH s).length - 2):=by
      rw [show(zx (zH s) (13::10::x) 0).toNat+(zH s).length=(zx (zH s) (13::10::x) 0).toNat+(zH s).length - 2+2 by omega];rfl
    rw [hd]
    obtain⟨c1,c2⟩:=zcS (m:=zH s) (t:=s) rfl (x.length+1) 0 (x.drop ((zx (zH s) (13::10::x) 0).toNat+(zH s).length - 2)) ⟨zH s,0,wG (zH s),1,none,[],0,0,0,[]⟩ (by rw [List.length_drop];omega) ⟨rfl,rfl,rfl,zkA⟩ rfl
    exact⟨by rw [show([]:List Evt)++[]++(if(0:Int)=6 then [evO] else [])=[] from rfl];exact c1,c2⟩
end Go.Proofs.YtknaogelmckimaaGreatDoor
namespace Go.Proofs.YtknaogelmckimaaGreatDoor
open Go Go.Sep Go.Ab
set_option maxRecDepth 100000
theorem zbx (m:Str): ∀ (b:Str) (i:Int),zx m b i= -1∨(i≤zx m b i∧zx m b i - i+m.length≤b.length)
  | [],i=>by
    rw [zx]
    split
    · rename_i h
      have:=(List.isPrefixOf_iff_prefix.1 h).length_le
      rw [List.length_nil] at this ⊢
      exact .inr ⟨Int.le_refl _,by omega⟩
    · exact .inl rfl
  | x ::b,i=>by
    rw [zx]
    split
    · rename_i h
      have:=(List.isPrefixOf_iff_prefix.1 h).length_le
      exact .inr ⟨Int.le_refl _,by omega⟩
    · rcases zbx m b (i+1) with h|⟨h1,h2⟩
      · exact .inl h
      · exact .inr ⟨by omega,by rw [List.length_cons];omega⟩
theorem SB (m b:Str) (h: ¬ zx m b 0<0): ∃ k:Nat,zx m b 0=(k:Int)∧k+m.length≤b.length:=by
  rcases zbx m b 0 with h1|⟨h1,h2⟩
  · rw [h1] at h;exact absurd (by decide) h
  · exact⟨(zx m b 0).toNat,by omega,by omega⟩
theorem drop_at {X:Str} {a:Nat} (h:a<X.length):X.drop a=X.getD a 0::X.drop (a+1):=by
  rw [List.drop_eq_getElem_cons h];simp [h]
theorem zhp (m:Str) (f p:Nat) (X:Str) (a:Nat) (h:a≤X.length):Zp m (f+1) p (X.drop a)=
    if a=X.length then([],14)
    else if X.getD a 0=45 then(if a+1=X.length then([],14) else if X.getD (a+1) 0≠45 then([evF 5],5) else([evE],0))
    else padG m (Zp m f (p+1)) p ((X.drop a).dropWhile uF):=by
  by_cases h0:a=X.length
  · rw [if_pos h0,List.drop_of_length_le (by omega)];rfl
  · rw [if_neg h0,drop_at (show a<X.length by omega)]
    by_cases h1:a+1=X.length
    · rw [if_pos h1,List.drop_of_length_le (show X.length≤a+1 by omega)];rfl
    · rw [if_neg h1,drop_at (show a+1<X.length by omega)];rfl
theorem ziV (m:Str) (go:Str→List Evt × Int) (p:Nat) (X:Str) (j:Nat) (h:j≤X.length):padG m go p (X.drop j)=
    if j=X.length then([],14)
    else if X.getD j 0≠13 then([evF 5],5)
    else if j+1=X.length then([],14)
    else if X.getD (j+1) 0≠10 then([evF 2],2)
    else hdG m go p (X.drop (j+2)):=by
  by_cases h0:j=X.length
  · rw [if_pos h0,List.drop_of_length_le (by omega)];rfl
  · rw [if_neg h0,drop_at (show j<X.length by omega)]
    by_cases h1:j+1=X.length
    · rw [if_pos h1,List.drop_of_length_le (show X.length≤j+1 by omega)];rfl
    · rw [if_neg h1,drop_at (show j+1<X.length by omega)];rfl
theorem zhP {X:Str} {j:Nat} (h:j<X.length) (k:X.getD j 0=32∨X.getD j 0=9):(X.drop j).dropWhile uF=(X.drop (j+1)).dropWhile uF:=by
  rw [drop_at h,List.dropWhile_cons_of_pos (by unfold uF;exact decide_eq_true k)]
theorem zgm {X:Str} {j:Nat} (h:j<X.length→¬ (X.getD j 0=32∨X.getD j 0=9)):(X.drop j).dropWhile uF=X.drop j:=by
  by_cases hj:j<X.length
  · rw [drop_at hj,List.dropWhile_cons_of_neg (by unfold uF;simpa using h hj)]
  · rw [List.drop_of_length_le (by omega)];rfl
def hdK (m:Str) (go:Str→List Evt × Int) (k:Nat) (h:HdR):List Evt × Int:=
  match h with
  |.short=>([],14)
  |.bad c=>([evF c],c)
  |.ok l r2=>za9 m go k l r2
theorem zlm (m:Str) (go:Str→List Evt × Int) (k:Nat) (r:Str):hdG m go k r=hdK m go k (YU (r.length+1) [] r):=rfl
theorem zhl (n:Nat) (l:List Fld) (r:Str):YU (n+1) l r=
    if(zC r).2.2.2≠0 then .bad (zC r).2.2.2
    else if(zC r).2.2.1=false then .short
    else if(zC r).1=[] then .ok l (r.drop (zC r).2.1.toNat)
    else if l.length=16 then .bad 8
    else if(zF (zC r).1).2≠0 then .bad (zF (zC r).1).2
    else YU n (l++[(zF (zC r).1).1]) (r.drop (zC r).2.1.toNat):=by
  rw [YU]
  cases hr:x9 ln0 r with
  |more x=>rw [zfb hr];simp
  |line t rest=>obtain⟨n,h1,h2,h3,rfl⟩:=zbf hr;rw [h1];simp
  |bad e rest=>obtain⟨n,h1,h2,h3,h4,rfl⟩:=zh8 hr;rw [h1];simp [h2]
theorem zhk (m:Str) (go:Str→List Evt × Int) (p n:Nat) (l:List Fld) (r:Str):hdK m go p (YU (n+1) l r)=
    if(zC r).2.2.2≠0 then([evF (zC r).2.2.2],(zC r).2.2.2)
    else if(zC r).2.2.1=false then([],14)
    else if(zC r).1=[] then za9 m go p l (r.drop (zC r).2.1.toNat)
    else if l.length=16 then([evF 8],8)
    else if(zF (zC r).1).2≠0 then([evF (zF (zC r).1).2],(zF (zC r).1).2)
    else hdK m go p (YU n (l++[(zF (zC r).1).1]) (r.drop (zC r).2.1.toNat)):=by
  rw [zhl]
  repeat' split
  all_goals rfl
theorem UB: ∀ (r pre:Str),(yM pre r).2.2.1=true→pre.length≤(yM pre r).1.length
  |[],pre,h=>by simp [yM] at h
  | c :: r, pre,h=>by
    rw [yM.eq_def] at h ⊢
    simp only at h ⊢
    split
    · rename_i h13
      rw [if_pos h13] at h
      split
      · simp at h
      · split
        · exact Nat.le_refl _
        · rename_i hd
          simp [hd] at h
    · rename_i h13
      rw [if_neg h13] at h
      split
      · rename_i h10;simp [h10] at h
      · rename_i h10
        rw [if_neg h10] at h
        split
        · rename_i hs;simp [hs] at h
        · rename_i hs
          rw [if_neg hs] at h
          split
          · rename_i hl;simp [hl] at h
          · rename_i hl
            rw [if_neg hl] at h
            have:=UB r (pre++[c]) h
            rw [List.length_append] at this
            omega
theorem zhe {r:Str} (h:(zC r).2.2.1=true) (k:(zC r).1=[]):r=13::10::r.drop 2∧(zC r).2.1=2:=by
  unfold zC at h k ⊢
  cases r with
  |nil=>simp [yM] at h
  | cons c r=>
    rw [yM.eq_def] at h k ⊢
    simp only at h k ⊢
    by_cases h13:c=13
    · rw [if_pos h13] at h ⊢
      cases r with
      |nil=>simp at h
      | cons d r2=>
        simp only at h ⊢
        by_cases hd:d=10
        · rw [if_pos hd,h13,hd];exact⟨rfl,rfl⟩
        · rw [if_neg hd] at h;simp at h
    · rw [if_neg h13] at h k ⊢
      by_cases h10:c=10
      · rw [if_pos h10] at h;simp at h
      · rw [if_neg h10] at h k ⊢
        by_cases hs:za3 c=false
        · rw [if_pos hs] at h;simp at h
        · rw [if_neg hs] at h k ⊢
          by_cases hl:([]:Str).length=200
          · simp at hl
          · rw [if_neg hl] at h k ⊢
            have:=UB r ([]++[c]) h
            rw [k] at this;simp at this
theorem zgl (r:Str) (e:Nat) (h:e≤r.length+2):bodF (r.take (e - 2))=if(2:Int)<(e:Int) then [evB (r.take (e - 2))] else []:=by
  unfold bodF
  by_cases h2:2<e
  · rw [if_pos (show(2:Int)<(e:Int) by omega),if_neg]
    intro k
    have:=congrArg List.length k
    rw [List.length_take,List.length_nil] at this;omega
  · rw [if_neg (show ¬ (2:Int)<(e:Int) by omega),show e - 2=0 by omega];rfl
theorem zg4 (a b:List Evt) (g:List Evt × Int):preF a (preF b g)=preF (a++b) g:=by simp [preF]
theorem zg7 {m:Str} (hm:2≤m.length) (go:Str→List Evt × Int) (k:Nat) (l:List Fld) (X:Str) (q:Nat) (h:q+2≤X.length) (hr:X.drop q=13::10::X.drop (q+2)):za9 m go k l (X.drop (q+2))=
    if(zM l).2≠0 then([evF (zM l).2],(zM l).2)
    else if k=12 then([evF 8],8)
    else if zx m (X.drop q) 0<0 then(evP (zM l).1::(if(2:Int)<(X.length:Int) - q - (P.held m (X.drop q):Nat) then [evB ((X.drop (q+2)).take (((X.length:Int) - q - (P.held m (X.drop q):Nat)).toNat - 2))] else []),14)
    else preF (evP (zM l).1::((if(2:Int)<zx m (X.drop q) 0 then [evB ((X.drop (q+2)).take ((zx m (X.drop q) 0).toNat - 2))] else [])++[evO])) (go (X.drop (q+(zx m (X.drop q) 0).toNat+m.length))):=by
  have hl:=(uV m (X.drop q)).2
  rw [List.length_drop] at hl
  unfold za9
  rw [← hr]
  have e1:(X.drop (q+2)).length+2 - P.held m (X.drop q)=X.length - q - P.held m (X.drop q):=by rw [List.length_drop];omega
  rw [e1,zgl _ _ (by rw [List.length_drop];omega),show((X.length - q - P.held m (X.drop q):Nat):Int)=(X.length:Int) - q - (P.held m (X.drop q):Nat) by omega,show((X.length:Int) - q - (P.held m (X.drop q):Nat)).toNat=X.length - q - P.held m (X.drop q) by omega]
  split
  · rfl
  split
  · rfl
  split
  · rfl
  · rename_i h3
    obtain⟨j,hj,hj2⟩:=SB m (X.drop q) h3
    rw [List.length_drop] at hj2
    rw [hj,Int.toNat_natCast,zgl _ _ (by rw [List.length_drop];omega),List.drop_drop,show q+2+(j+m.length - 2)=q+j+m.length by omega]
end Go.Proofs.YtknaogelmckimaaGreatDoor
namespace Go.Proofs.YtknaogelmckimaaGreatDoor
open Go Go.Sep Go.Ab
set_option maxRecDepth 100000
theorem zfg {b:Str} {i:Nat} (h:i<b.length):yM (b.take i) (b.drop i)=
    if b.getD i 0=13 then(if i+1<b.length then(if b.getD (i+1) 0=10 then(b.take i,(i:Int)+2,true,0) else([],(i:Int)+2,false,2)) else([],0,false,0))
    else if b.getD i 0=10 then([],(i:Int)+1,false,2) else if za3 (b.getD i 0)=false then([],(i:Int)+1,false,3) else if i=200 then([],(i:Int)+1,false,4)
    else yM (b.take (i+1)) (b.drop (i+1)):=by
  have e1:b.getD i 0=b[i]:=by simp [h]
  have hl:(b.take i).length=i:=by rw [List.length_take];omega
  rw [e1,List.drop_eq_getElem_cons h,List.take_succ_eq_append_getElem h,yM.eq_def]
  simp only [hl]
  split
  · by_cases h2:i+1<b.length
    · have e2:b.getD (i+1) 0=b[i+1]:=by simp [h2]
      rw [if_pos h2,e2,List.drop_eq_getElem_cons h2]
    · rw [if_neg h2,List.drop_of_length_le (by omega)]
  · rfl
theorem zja (b:Str) (hneed:b.length≤1000000):Spc Tryz.prog 35 [.v (.one (.p (.list .byte b)))] [] (.ret (.tup [(.one (.p (.str ((zC b).1)))),(.one (.p (.int .i64 ((zC b).2.1)))),(.one (.p (.bool ((zC b).2.2.1)))),(.one (.p (.int .i64 ((zC b).2.2.2))))])) []:=by
  generalize hr:zC b=r
  obtain⟨s,n,ok,c⟩:=r
  refine spcG zi mixed Tryz.func35 (by kernel_rfl) { keep:=some [0,2,3,4,5,6,7]} [wu,wo] (by kernel_rfl) ?_
  intro I X hI hX
  refine zh (.code 0 [1,0,1,0] ⟨[(6,(.v (.one (.p (.int .i64 0))))),(5,(.v (.one (.p (.int .i64 0))))),(4,(.v (.one (.p (.val (.bool .false)))))),(3,(.v (.one (.p (.int .i64 0))))),(2,(.v (.one (.p (.str ([]:Str)))))),(0,(.v (.one (.p (.list .byte b)))))],[],52,none⟩) (by kernel_rfl) ?_
  simp only [zn]
  refine zu hI zi mixed [wu,wo] hX [0,6] (fun(i:Nat)=>i≤b.length∧i≤200∧yM (b.take i) (b.drop i)=(s,n,ok,c)) (fun(i:Nat)=>⟨[(0,.v (.one (.p (.list .byte b)))),(6,.v (.one (.p (.int .i64 i))))],[],52,none⟩) (fun(i:Nat)=>b.length - i) 0 (by kernel_rfl) (by kernel_rfl) ?_ ?_
  · exact⟨Nat.zero_le _,Nat.zero_le _,hr⟩
  rintro i ⟨h1,h2,h3⟩ A hA
  refine zh (let y0:=I.inr Go.IntKind.i64 (I.add (Nat.cast i) 1);let y1:=I.b2i (I.get (α:=UInt8) b 0 (Nat.cast i));let y2:=I.inb (I.add (Nat.cast i) 1) (I.len (α:=UInt8) b);let y3:=I.inr Go.IntKind.i64 (I.add (Nat.cast i) 2);let y4:=I.inb (Nat.cast i) (I.len (α:=UInt8) b);.br (I.ilt (Nat.cast i) (I.len (α:=UInt8) b)) (.need y4 (.need y4 (.br (I.ieq y1 13) (.need y0 (.br (I.ieq (I.add (Nat.cast i) 1) (I.len (α:=UInt8) b)) (.fin (.ret (.tup [(.one (.p (.str ([]:Str)))),(.one (.p (.int .i64 0))),(.one (.p (.bool Bool.false))),(.one (.p (.int .i64 0)))])) []) (.need y0 (.need y2 (.need y2 (.br (I.bnot (I.ieq (I.b2i (I.get (α:=UInt8) b 0 (I.add (Nat.cast i) 1))) 10)) (.need y3 (.fin (.ret (.tup [(.one (.p (.str ([]:Str)))),(.one (.p (.int .i64 (I.add (Nat.cast i) 2)))),(.one (.p (.bool Bool.false))),(.one (.p (.int .i64 2)))])) [])) (.need (I.cutb 0 (Int.ofNat i) (I.len (α:=UInt8) b)) (.need y3 (.fin (.ret (.tup [(.one (.p (.str (I.cut (α:=UInt8) b 0 (Int.ofNat i))))),(.one (.p (.int .i64 (I.add (Nat.cast i) 2)))),(.one (.p (.bool Bool.true))),(.one (.p (.int .i64 0)))])) []))))))))) (.br (I.ieq y1 10) (.need y0 (.fin (.ret (.tup [(.one (.p (.str ([]:Str)))),(.one (.p (.int .i64 (I.add (Nat.cast i) 1)))),(.one (.p (.bool Bool.false))),(.one (.p (.int .i64 2)))])) [])) (.need (I.hid (α:=(Prop)) True) (.br (I.bnot (I.hid (α:=Bool) (vk y1))) (.need y0 (.fin (.ret (.tup [(.one (.p (.str ([]:Str)))),(.one (.p (.int .i64 (I.add (Nat.cast i) 1)))),(.one (.p (.bool Bool.false))),(.one (.p (.int .i64 3)))])) [])) (.br (I.ieq (Nat.cast i) 200) (.need y0 (.fin (.ret (.tup [(.one (.p (.str ([]:Str)))),(.one (.p (.int .i64 (I.add (Nat.cast i) 1)))),(.one (.p (.bool Bool.false))),(.one (.p (.int .i64 4)))])) [])) (.need y0 (.need (A ⟨[(0,(.v (.one (.p (.list .byte b))))),(6,(.v (.one (.p (.int .i64 (I.add (Nat.cast i) 1))))))],[],52,none⟩) .qed))))))))) (.fin (.ret (.tup [(.one (.p (.str ([]:Str)))),(.one (.p (.int .i64 0))),(.one (.p (.bool Bool.false))),(.one (.p (.int .i64 0)))])) [])) (by kernel_rfl) ?_
  simp only [zn]
  subst hI
  simp only [nrmA,nrmB,nrlB,reduceCtorEq]
  have hx:i<b.length→_:=fun h=>zfg (b:=b) (i:=i) h
  have hend: ¬ i<b.length→(s,n,ok,c)=([],0,false,0):=fun h=>by rw [← h3,List.drop_of_length_le (by omega)];rfl
  unfold za3 at hx
  rw [h3] at hx
  have hn1:((i:Int)+1).toNat=i+1:=by omega
  rw [hn1]
  generalize b.getD i 0=x at *
  generalize b.getD (i+1) 0=y at *
  have h13:(x.toNat:Int)=13↔x=13:=⟨fun h=>UInt8.toNat_inj.1 (Int.ofNat_inj.1 h),fun h=>by subst h;rfl⟩
  have h10:(x.toNat:Int)=10↔x=10:=⟨fun h=>UInt8.toNat_inj.1 (Int.ofNat_inj.1 h),fun h=>by subst h;rfl⟩
  have hy10:(y.toNat:Int)=10↔y=10:=⟨fun h=>UInt8.toNat_inj.1 (Int.ofNat_inj.1 h),fun h=>by subst h;rfl⟩
  simp only [h13,h10,hy10]
  (repeat' (first|refine And.intro ?_ ?_|intro _))<;>first|omega|exact True.intro|exact False.elim ‹False›|skip
  all_goals first
    |(have hx:=hx (by omega);((repeat(first|rewrite [if_pos (by first|omega|assumption|(simp only [*,or_self,or_true,true_or,or_false,false_or,not_true_eq_false,not_false_eq_true,Bool.false_eq_true,Bool.true_eq_false,and_self,and_true,true_and];done)|(simp only [*];omega)|(simp [*];done)|(simp [*];omega))] at hx|rewrite [if_neg (by first|omega|assumption|(simp only [*,or_self,or_true,true_or,or_false,false_or,not_true_eq_false,not_false_eq_true,Bool.false_eq_true,Bool.true_eq_false,and_self,and_true,true_and];done)|(simp only [*];omega)|(simp [*];done)|(simp [*];omega))] at hx)));cases hx;first|rfl|done|exact⟨rfl,rfl,rfl,rfl⟩|(simp;done)|(simp;omega))
    |(have hx:=hx (by omega);((repeat(first|rewrite [if_pos (by first|omega|assumption|(simp only [*,or_self,or_true,true_or,or_false,false_or,not_true_eq_false,not_false_eq_true,Bool.false_eq_true,Bool.true_eq_false,and_self,and_true,true_and];done)|(simp only [*];omega)|(simp [*];done)|(simp [*];omega))] at hx|rewrite [if_neg (by first|omega|assumption|(simp only [*,or_self,or_true,true_or,or_false,false_or,not_true_eq_false,not_false_eq_true,Bool.false_eq_true,Bool.true_eq_false,and_self,and_true,true_and];done)|(simp only [*];omega)|(simp [*];done)|(simp [*];omega))] at hx)));exact hA (i+1) ⟨by omega,by omega,hx.symm⟩ (by omega))
    |(have hend:=hend (by omega);cases hend;first|rfl|exact⟨rfl,rfl,rfl,rfl⟩)
def Z7 (I:Alg) (args:List D) (hp:List HO):Option CT:=match args,hp with
  |[.v (.one (.p (.list .byte b)))],[]=>(fun(b:Str)=>(some (.one ⟨I.hid (b.length≤1000000),(.ret (.tup [(.one (.p (.str (I.hid ((zC b).1))))),(.one (.p (.int .i64 (I.hid ((zC b).2.1))))),(.one (.p (.bool (I.hid ((zC b).2.2.1))))),(.one (.p (.int .i64 (I.hid ((zC b).2.2.2)))))])),[]⟩):Option CT)) b
  |_,_=>none
theorem QF:zy Tryz.prog 35 (Z7 alg):=by
  intro args hp r h
  unfold Z7 at h
  split at h
  · cases h;exact fun hn=>zja _ hn
  · cases h
def Z5:Know Tryz.prog:=⟨35,Z7,QF⟩
def Z4:Know Tryz.prog:=⟨35,fun I=>zA I (Z7 I),zf QF⟩
end Go.Proofs.YtknaogelmckimaaGreatDoor
namespace Go.Proofs.YtknaogelmckimaaGreatDoor
open Go Go.Sep Go.Ab
set_option maxRecDepth 100000
set_option linter.unusedSimpArgs false
set_option linter.unusedVariables false
theorem zji (b m:Str) (hneed:b.length≤1000000∧m.length≤1000000):Spc Tryz.prog 38 [.v (.one (.p (.list .byte b))),.v (.one (.p (.str m)))] [] (.ret (.v (.one (.p (.int .i64 (((P.held m b:Nat):Int))))))) []:=by
  refine spcG zi mixed Tryz.func38 (by kernel_rfl) { keep:=some [0,1,4,5]} [] (by kernel_rfl) ?_
  intro I X hI hX
  refine zh (.need (I.inr Go.IntKind.i64 (I.sub (I.len (α:=UInt8) m) 1)) (.code 0 [1,0,1,0] ⟨[(5,(.v (.one (.p (.int .i64 (I.sub (I.len (α:=UInt8) m) 1)))))),(4,(.v (.one (.p (.int .i64 0))))),(0,(.v (.one (.p (.list .byte b))))),(1,(.v (.one (.p (.str m)))))],[],31,none⟩)) (by kernel_rfl) ?_
  simp only [zn]
  refine⟨by subst hI;simp only [nrmA,nrmB];omega,?_⟩
  refine zu hI zi mixed [] hX [0,1,5] (fun(n:Int)=>n<m.length∧ -1≤n∧P.held m b=P.xw m b n.toNat) (fun(n:Int)=>⟨[(0,.v (.one (.p (.list .byte b)))),(1,.v (.one (.p (.str m)))),(5,.v (.one (.p (.int .i64 n))))],[],31,none⟩) (fun(n:Int)=>n.toNat) (I.sub (I.len m) 1) (by kernel_rfl) (by kernel_rfl) ?_ ?_
  · subst hI
    simp only [nrmA,nrmB]
    refine⟨by omega,by omega,?_⟩
    rw [P.held,show((m.length:Int) - 1).toNat=m.length - 1 by omega]
  rintro n ⟨hn,hn1,hh⟩ A hA
  refine zh (let y0:=I.inr Go.IntKind.i64 (I.sub n 1);.br (I.ilt 0 n) (.br (I.ile n (I.len (α:=UInt8) b)) (.need (I.inr Go.IntKind.i64 (I.sub (I.len (α:=UInt8) b) n)) (.need (I.cutb (I.sub (I.len (α:=UInt8) b) n) (I.len (α:=UInt8) b) (I.len (α:=UInt8) b)) (.need (I.cutb 0 n (I.len (α:=UInt8) m)) (.br (I.seq (I.cut (α:=UInt8) b (I.sub (I.len (α:=UInt8) b) n) (I.len (α:=UInt8) b)) (I.cut (α:=UInt8) m 0 n)) (.fin (.ret (.v (.one (.p (.int .i64 n))))) []) (.need y0 (.need (A ⟨[(0,(.v (.one (.p (.list .byte b))))),(1,(.v (.one (.p (.str m))))),(5,(.v (.one (.p (.int .i64 (I.sub n 1))))))],[],31,none⟩) .qed)))))) (.need y0 (.need (A ⟨[(0,(.v (.one (.p (.list .byte b))))),(1,(.v (.one (.p (.str m))))),(5,(.v (.one (.p (.int .i64 (I.sub n 1))))))],[],31,none⟩) .qed))) (.fin (.ret (.v (.one (.p (.int .i64 0))))) [])) (by kernel_rfl) ?_
  simp only [zn]
  subst hI
  simp only [nrmA,nrmB]
  have hs:0<n→P.xw m b n.toNat=if m.take n.toNat<:+b then n.toNat else P.xw m b (n - 1).toNat:=by
    intro h
    obtain⟨k,rfl⟩: ∃ k:Nat,n=(k:Int)+1:=⟨(n - 1).toNat,by omega⟩
    rw [show((k:Int)+1).toNat=k+1 by omega,show((k:Int)+1 - 1).toNat=k by omega]
    rfl
  have hsuf:0<n→n≤b.length→(b.drop ((b.length:Int) - n).toNat=m.take n.toNat↔m.take n.toNat<:+b):=by
    intro h0 hn
    rw [List.suffix_iff_eq_drop,List.length_take,show b.length - min n.toNat m.length=((b.length:Int) - n).toNat by omega]
    exact eq_comm
  have hcut:0<n→n≤b.length→List.take ((b.length:Int).toNat - ((b.length:Int) - n).toNat) (b.drop ((b.length:Int) - n).toNat)=b.drop ((b.length:Int) - n).toNat:=by
    intro h0 hn
    exact List.take_of_length_le (by simp)
  have hno: ¬ n≤b.length→¬ m.take n.toNat<:+b:=fun h hp=>by
    have:=hp.length_le
    rw [List.length_take] at this;omega
  (repeat' (first|refine And.intro ?_ ?_|intro _))<;>first|omega|exact True.intro|exact False.elim ‹False›|skip
  · rename_i h0 hle heq
    rw [hh,hs (by omega),if_pos ((hsuf h0 hle).1 (by rw [← heq];exact(hcut h0 hle).symm)),Int.toNat_of_nonneg (by omega)]
  · rename_i h0 hle hne
    refine hA (n - 1) ⟨by omega,by omega,?_⟩ (by omega)
    rw [hh,hs (by omega),if_neg (fun h=>hne ((hcut h0 hle).trans ((hsuf h0 hle).2 h)))]
  · rename_i h0 hle
    refine hA (n - 1) ⟨by omega,by omega,?_⟩ (by omega)
    rw [hh,hs (by omega),if_neg (hno (by omega))]
  · rename_i h0
    rw [hh,show n.toNat=0 by omega];rfl
def Yd (I:Alg) (args:List D) (hp:List HO):Option CT:=match args,hp with
  |[.v (.one (.p (.list .byte b))),.v (.one (.p (.str m)))],[]=>(fun(b m:Str)=>(some (.one ⟨I.hid (b.length≤1000000∧m.length≤1000000),(.ret (.v (.one (.p (.int .i64 (I.hid (((P.held m b:Nat):Int)))))))),[]⟩):Option CT)) b m
  |_,_=>none
theorem Q9:zy Tryz.prog 38 (Yd alg):=by
  intro args hp r h
  unfold Yd at h
  split at h
  · cases h;exact fun hn=>zji _ _ hn
  · cases h
def Yc:Know Tryz.prog:=⟨38,Yd,Q9⟩
def Yb:Know Tryz.prog:=⟨38,fun I=>zA I (Yd I),zf Q9⟩
end Go.Proofs.YtknaogelmckimaaGreatDoor
namespace Go.Proofs.YtknaogelmckimaaGreatDoor
open Go Go.Sep Go.Ab
set_option maxRecDepth 100000
theorem zfr (o:List Evt) (c:Int) (hneed:o.length≤1000000):Spc Tryz.prog 33 [.v (.one (.p (.int .i64 c))),.v (.one (.ptr 0 0))] [.pack [.obj 32 [(.row 1)],.row .evt 53 o]] (.ret (.tup [(.one (.row 1)),(.one (.p (.int .i64 c)))])) [.pack [.obj 32 [.any]],.row .evt 53 ((o++[evF c]))]:=by
  refine spcG zi mixed Tryz.func33 (by kernel_rfl) { keep:=some [0,1,3,4]} [] (by kernel_rfl) ?_
  intro I X hI hX
  refine zh (.need (I.few (I.add (I.len (α:=Go.Ab.Evt) o) (I.len (α:=Go.Ab.Evt) ([(Go.Ab.Evt.mk (4:Int) (Hd.mk ([]:Str) ([]:Str) (0:Int) ([]:List Fld) (0:Int)) ([]:Str) (Go.Ab.Prt.mk ([]:Str) ([]:Str) ([]:Str) ([]:Str)) c)]:List Go.Ab.Evt))) 100000000) (.fin (.ret (.tup [(.one (.row 1)),(.one (.p (.int .i64 c)))])) [(.pack [(.obj 32 [.any])]),(.row .evt 53 (I.app (α:=Go.Ab.Evt) o ([(Go.Ab.Evt.mk (4:Int) (Hd.mk ([]:Str) ([]:Str) (0:Int) ([]:List Fld) (0:Int)) ([]:Str) (Go.Ab.Prt.mk ([]:Str) ([]:Str) ([]:Str) ([]:Str)) c)]:List Go.Ab.Evt)))])) (by kernel_rfl) ?_
  simp only [zn]
  subst hI
  simp only [nrmA,nrmB,nrlB,reduceCtorEq]
  simp only [List.length_cons,List.length_nil]
  exact⟨by omega,rfl⟩
def sD (I:Alg) (args:List D) (hp:List HO):Option CT:=match args,hp with
  |[.v (.one (.p (.int .i64 c))),.v (.one (.ptr 0 0))],[.pack [.obj 32 [(.row 1)],.row .evt 53 o]]=>(fun(o:List Evt) (c:Int)=>(some (.one ⟨I.hid (o.length≤1000000),(.ret (.tup [(.one (.row 1)),(.one (.p (.int .i64 c)))])),[.pack [.obj 32 [.any]],.row .evt 53 (I.hid ((o++[evF c])))]⟩):Option CT)) o c
  |_,_=>none
theorem Vy:zy Tryz.prog 33 (sD alg):=by
  intro args hp r h
  unfold sD at h
  split at h
  · cases h;exact fun hn=>zfr _ _ hn
  · cases h
def vS:Know Tryz.prog:=⟨33,sD,Vy⟩
def su:Know Tryz.prog:=⟨33,fun I=>zA I (sD I),zf Vy⟩
def zlw:Cfg:= { nr:=[13],rl:=[0],sl:=[⟨32,0,.evt,some 53⟩]}
set_option maxHeartbeats 8000000 in
theorem zke (s b:Str) (hneed:s.length≤1000∧b.length≤100000):Spc Tryz.prog 14 [.v (.one (.p (.str s))),.v (.one (.p (.list .byte b)))] [] (.ret (.tup [(.one (.p (.list .evt ((qX (zH s) b).1)))),(.one (.p (.int .i64 ((qX (zH s) b).2))))])) []:=by
  obtain⟨hs,hb⟩:=hneed
  generalize hR:qX (zH s) b=R
  obtain⟨RE,RC⟩:=R
  refine spcG zi mixed Tryz.func14 (by kernel_rfl) { zlw with fz:=[34,37],keep:=some [0,1,4,5,6,7,8,9,10,11,12,13,14,15,16,17,18,19,20,21,22,23]} [vS,wZ,wY,qP,qO,XQ,XP,Z5,Z4,Yc,Yb,vS,su] (by kernel_rfl) ?_
  intro I X hI hX
  refine zh (let y0:=I.hid (α:=Int) (zx (I.app (α:=UInt8) ([13,10,45,45]:Str) s) (I.app (α:=UInt8) ([(I.i2b 13),(I.i2b 10)]:Str) b) (0:Int));let y1:=I.add y0 (I.len (α:=UInt8) (I.app (α:=UInt8) ([13,10,45,45]:Str) s));let y2:=I.len (α:=UInt8) ([(I.i2b 13),(I.i2b 10)]:Str);.need (I.few (I.add (I.len (α:=UInt8) ([13,10,45,45]:Str)) (I.len (α:=UInt8) s)) 1000000000) (.need (I.inr Go.IntKind.u8 13) (.need (I.inr Go.IntKind.u8 10) (.need (I.inb 0 y2) (.need (I.few (I.add y2 (I.len (α:=UInt8) b)) 140737488355328) (.need (I.hid (α:=(Prop)) (And (LE.le (List.length (I.app (α:=UInt8) ([(I.i2b 13),(I.i2b 10)]:Str) b)) 1000000) (LE.le (List.length (I.app (α:=UInt8) ([13,10,45,45]:Str) s)) 1000000))) (.br (I.ilt y0 0) (.fin (.ret (.tup [(.one (.p (.list .evt ([]:List Go.Ab.Evt)))),(.one (.p (.int .i64 14)))])) []) (.need (I.inr Go.IntKind.i64 y1) (.code 0 [1,1,1,1,1,1,1,1,1,0] ⟨[(12,(.v (.one (.p (.int .i64 0))))),(11,(.v (.one (.p (.int .i64 y1))))),(10,(.v (.one (.p (.int .i64 y0))))),(9,(.v (.one (.p (.list .byte (I.app (α:=UInt8) ([(I.i2b 13),(I.i2b 10)]:Str) b)))))),(8,(.v (.one (.p (.str (I.app (α:=UInt8) ([13,10,45,45]:Str) s)))))),(7,(.v (.one (.fn 33 [(.ptr 0 0)])))),(6,(.v (.one (.ptr 0 0)))),(5,(.v (.one (.p (.int .i64 0))))),(4,(.v (.one .nilS))),(0,(.v (.one (.p (.str s))))),(1,(.v (.one (.p (.list .byte b)))))],[(.obj 32 [.nilS]),.gone,.gone],233,none⟩))))))))) (by kernel_rfl) ?_
  simp only [zn]
  have hM:I.app [13,10,45,45] s=zH s:=by subst hI;rfl
  have hXx:I.app [I.i2b 13,I.i2b 10] b=13::10::b:=by subst hI;rfl
  rw [hM,hXx]
  have hml:(zH s).length=s.length+4:=by simp [zH]
  have hm2:zH s=13::10::45::45::s:=rfl
  unfold qX at hR
  have hbx: ∀ k:Nat,2≤k→b.drop (k - 2)=(13::10::b).drop k:=fun k h=>by
    rw [show k=k - 2+2 by omega];rfl
  have hXl:(13::10::b).length=b.length+2:=rfl
  have hhid: ∀ {α:Type} (x:α),I.hid x=x:=by subst hI;intros;rfl
  generalize zH s=m at *
  generalize 13::10::b=Xs at *
  have hfl:=zbx m Xs 0
  (repeat' (first|refine And.intro ?_ ?_|intro _))
  all_goals try(subst hI;(simp only [nrmA,nrmB,nrlB,reduceCtorEq] at *);first
    |done
    |with_reducible exact True.intro
    |omega
    |exact⟨by omega,by omega⟩
    |(simp only [List.length_cons,List.length_nil];omega)
    |(rw [if_pos ‹zx m Xs 0<0›] at hR;cases hR;first|rfl|exact⟨rfl,rfl⟩))
  have hneg: ¬ zx m Xs 0<0:=by
    subst hI
    (simp only [nrmA,nrmB,nrlB,reduceCtorEq] at *)
    omega
  clear hfl
  rw [if_neg hneg] at hR
  obtain⟨k,hk,hk2⟩:=SB m Xs hneg
  rw [hk,Int.toNat_natCast,hbx _ (by omega)] at hR
  have ea:I.add (I.hid (zx m Xs 0)) (I.len m)=((k+m.length:Nat):Int):=by
    rw [hhid,hk];subst hI;rw [xJ,zO];omega
  rw [ea]
  refine zu hI zi mixed [wZ,wY,qP,qO,XQ,XP,Z5,Z4,Yc,Yb,vS,su] hX [6,7,8,9,11,12] (fun(g:Nat × Nat × List Evt)=>match g with|(a,p,o)=>a≤Xs.length∧o.length≤3 * p∧p≤12∧∃ f,(Xs.drop a).length<f∧preF o (Zp m f p (Xs.drop a))=(RE,RC)) (fun(g:Nat × Nat × List Evt)=>match g with|(a,p,o)=>⟨[(6,.v (.one (.ptr 0 0))),(7,.v (.one (.fn 33 [.ptr 0 0]))),(8,.v (.one (.p (.str m)))),(9,.v (.one (.p (.list .byte Xs)))),(11,.v (.one (.p (.int .i64 a)))),(12,.v (.one (.p (.int .i64 p))))],[.pack [.obj 32 [(.row 1)],.row .evt 53 o]],233,none⟩) (fun(g:Nat × Nat × List Evt)=>match g with|(a,p,o)=>Xs.length - a) (k+m.length,0,[]) (by kernel_rfl) (by kernel_rfl) ?_ ?_
  · exact⟨hk2,Nat.zero_le _,Nat.zero_le _,b.length+1,by rw [List.length_drop];omega,by rw [hR];rfl⟩
  rintro⟨a,p,o⟩ ⟨h1,h2,h3,f,h4,h5⟩ A hA
  simp only at hA h1 h2 h3 h4 h5
  clear hR hk hk2 ea hneg hbx
  refine zh (let y0:=I.inb (I.add (Nat.cast a) 1) (I.len (α:=UInt8) Xs);let y1:=I.inr Go.IntKind.i64 (I.add (Nat.cast a) 1);let y2:=I.inb (Nat.cast a) (I.len (α:=UInt8) Xs);.br (I.ieq (Nat.cast a) (I.len (α:=UInt8) Xs)) (.fin (.ret (.tup [(.one (.p (.list .evt o))),(.one (.p (.int .i64 14)))])) []) (.need y2 (.need y2 (.br (I.ieq (I.b2i (I.get (α:=UInt8) Xs 0 (Nat.cast a))) 45) (.need y1 (.br (I.ieq (I.add (Nat.cast a) 1) (I.len (α:=UInt8) Xs)) (.fin (.ret (.tup [(.one (.p (.list .evt o))),(.one (.p (.int .i64 14)))])) []) (.need y1 (.need y0 (.need y0 (.br (I.bnot (I.ieq (I.b2i (I.get (α:=UInt8) Xs 0 (I.add (Nat.cast a) 1))) 45)) (.need (I.hid (α:=(Prop)) (LE.le (List.length o) 1000000)) (.fin (.ret (.tup [(.one (.p (.list .evt (I.hid (α:=(List Go.Ab.Evt)) (HAppend.hAppend o ([(evF (5:Int))]:List Go.Ab.Evt)))))),(.one (.p (.int .i64 5)))])) [])) (.need (I.few (I.add (I.len (α:=Go.Ab.Evt) o) (I.len (α:=Go.Ab.Evt) ([(Go.Ab.Evt.mk (3:Int) (Hd.mk ([]:Str) ([]:Str) (0:Int) ([]:List Fld) (0:Int)) ([]:Str) (Go.Ab.Prt.mk ([]:Str) ([]:Str) ([]:Str) ([]:Str)) (0:Int))]:List Go.Ab.Evt))) 100000000) (.fin (.ret (.tup [(.one (.p (.list .evt (I.app (α:=Go.Ab.Evt) o ([(Go.Ab.Evt.mk (3:Int) (Hd.mk ([]:Str) ([]:Str) (0:Int) ([]:List Fld) (0:Int)) ([]:Str) (Go.Ab.Prt.mk ([]:Str) ([]:Str) ([]:Str) ([]:Str)) (0:Int))]:List Go.Ab.Evt))))),(.one (.p (.int .i64 0)))])) [])))))))) (.code 0 [0,0,1,1,0,0] ⟨[(6,(.v (.one (.ptr 0 0)))),(7,(.v (.one (.fn 33 [(.ptr 0 0)])))),(8,(.v (.one (.p (.str m))))),(9,(.v (.one (.p (.list .byte Xs))))),(11,(.v (.one (.p (.int .i64 (Nat.cast a)))))),(12,(.v (.one (.p (.int .i64 (Nat.cast p))))))],[(.pack [(.obj 32 [(.row 1)]),(.row .evt 53 o)])],233,none⟩))))) (by kernel_rfl) ?_
  simp only [zn]
  have hcut: ∀ j:Nat,I.cut Xs (j:Int) (I.len Xs)=Xs.drop j:=fun j=>by
    subst hI
    rw [xN,zO,Int.toNat_natCast,Int.toNat_natCast]
    exact List.take_of_length_le (by rw [List.length_drop];exact Nat.le_refl _)
  have hadd: ∀ j k:Nat,I.add (j:Int) (k:Int)=((j+k:Nat):Int):=fun j k=>by subst hI;rw [xJ];omega
  obtain⟨f,rfl⟩: ∃ g',f=g'+1:=⟨f - 1,by omega⟩
  rw [zhp m f p Xs a h1] at h5
  have b45:((Xs.getD a 0).toNat:Int)=45↔Xs.getD a 0=45:=rE (Xs.getD a 0) 45 (by decide)
  have c45:((Xs.getD (a+1) 0).toNat:Int)=45↔Xs.getD (a+1) 0=45:=rE (Xs.getD (a+1) 0) 45 (by decide)
  have e1:((a:Int)+1).toNat=a+1:=by omega
  (repeat' (first|refine And.intro ?_ ?_|intro _))
  all_goals try(clear hA;subst hI;(simp only [nrmA,nrmB,nrlB,reduceCtorEq] at *);(try simp only [e1,b45,c45] at *);first
    |done
    |with_reducible exact True.intro
    |omega
    |(simp only [List.length_cons,List.length_nil];omega)
    | (with_reducible show _=_
       (repeat(first|rw [if_pos (by first|assumption|omega)] at h5|rw [if_neg (by first|assumption|omega|(intro hh;exact hh ‹_›))] at h5))
       simp only [preF,Prod.mk.injEq,List.append_nil] at h5
       obtain⟨rfl,rfl⟩:=h5
       first|rfl|exact⟨rfl,rfl⟩)
    | (with_reducible show _∧_
       (repeat(first|rw [if_pos (by first|assumption|omega)] at h5|rw [if_neg (by first|assumption|omega|(intro hh;exact hh ‹_›))] at h5))
       simp only [preF,Prod.mk.injEq,List.append_nil] at h5
       obtain⟨rfl,rfl⟩:=h5
       first|exact⟨rfl,rfl⟩))
  have hq: ¬ a=Xs.length∧¬ Xs.getD a 0=45:=by
    clear hA
    subst hI
    (simp only [nrmA,nrmB,nrlB,reduceCtorEq] at *)
    simp only [b45] at *
    exact⟨by omega,by assumption⟩
  rw [if_neg hq.1,if_neg hq.2] at h5
  clear hq b45 c45 e1
  refine zu hI zi mixed [wZ,wY,qP,qO,XQ,XP,Z5,Z4,Yc,Yb,vS,su] hX [6,7,8,9,11,12] (fun(j:Nat)=>a≤j∧j≤Xs.length∧(Xs.drop a).dropWhile uF=(Xs.drop j).dropWhile uF) (fun(j:Nat)=>⟨[(6,.v (.one (.ptr 0 0))),(7,.v (.one (.fn 33 [.ptr 0 0]))),(8,.v (.one (.p (.str m)))),(9,.v (.one (.p (.list .byte Xs)))),(11,.v (.one (.p (.int .i64 j)))),(12,.v (.one (.p (.int .i64 p))))],[.pack [.obj 32 [(.row 1)],.row .evt 53 o]],233,none⟩) (fun(j:Nat)=>Xs.length - j) a (by kernel_rfl) (by kernel_rfl) ?_ ?_
  · exact⟨Nat.le_refl _,h1,rfl⟩
  rintro j ⟨g1,g2,g3⟩ B hB
  refine zh (let y0:=I.inb (Nat.cast j) (I.len (α:=UInt8) Xs);let y1:=I.inr Go.IntKind.i64 (I.add (Nat.cast j) 1);let y2:=I.inb (I.add (Nat.cast j) 1) (I.len (α:=UInt8) Xs);let y3:=I.hid (α:=(Prop)) (LE.le (List.length o) 1000000);let y4:HO:=.pack [(.obj 32 [(.row 1)]),(.row .evt 53 o)];let y5:=I.b2i (I.get (α:=UInt8) Xs 0 (Nat.cast j));let y6:=I.hid (α:=(List Go.Ab.Evt)) (HAppend.hAppend o ([(evF (5:Int))]:List Go.Ab.Evt));let y7:=I.hid (α:=(List Go.Ab.Evt)) (HAppend.hAppend o ([(evF (2:Int))]:List Go.Ab.Evt));let y8:=I.bnot (I.ieq (I.b2i (I.get (α:=UInt8) Xs 0 (I.add (Nat.cast j) 1))) 10);let y9:=I.ieq (I.add (Nat.cast j) 1) (I.len (α:=UInt8) Xs);let y10:=I.inr Go.IntKind.i64 (I.add (Nat.cast j) 2);let y11:=I.ieq (Nat.cast j) (I.len (α:=UInt8) Xs);.br (I.ilt (Nat.cast j) (I.len (α:=UInt8) Xs)) (.need y0 (.need y0 (.br (I.ieq y5 32) (.need y1 (.need (B ⟨[(6,(.v (.one (.ptr 0 0)))),(7,(.v (.one (.fn 33 [(.ptr 0 0)])))),(8,(.v (.one (.p (.str m))))),(9,(.v (.one (.p (.list .byte Xs))))),(11,(.v (.one (.p (.int .i64 (I.add (Nat.cast j) 1)))))),(12,(.v (.one (.p (.int .i64 (Nat.cast p))))))],[y4],233,none⟩) .qed)) (.need y0 (.need y0 (.br (I.ieq y5 9) (.need y1 (.need (B ⟨[(6,(.v (.one (.ptr 0 0)))),(7,(.v (.one (.fn 33 [(.ptr 0 0)])))),(8,(.v (.one (.p (.str m))))),(9,(.v (.one (.p (.list .byte Xs))))),(11,(.v (.one (.p (.int .i64 (I.add (Nat.cast j) 1)))))),(12,(.v (.one (.p (.int .i64 (Nat.cast p))))))],[y4],233,none⟩) .qed)) (.br y11 (.fin (.ret (.tup [(.one (.p (.list .evt o))),(.one (.p (.int .i64 14)))])) []) (.need y0 (.need y0 (.br (I.bnot (I.ieq y5 13)) (.need y3 (.fin (.ret (.tup [(.one (.p (.list .evt y6))),(.one (.p (.int .i64 5)))])) [])) (.need y1 (.br y9 (.fin (.ret (.tup [(.one (.p (.list .evt o))),(.one (.p (.int .i64 14)))])) []) (.need y1 (.need y2 (.need y2 (.br y8 (.need y3 (.fin (.ret (.tup [(.one (.p (.list .evt y7))),(.one (.p (.int .i64 2)))])) [])) (.need y10 (.code 1 [0,0,1,1,1,1,1,1,1,1,1,0,0] ⟨[(13,(.v (.one (.row 1)))),(11,(.v (.one (.p (.int .i64 (I.add (Nat.cast j) 2)))))),(6,(.v (.one (.ptr 0 0)))),(7,(.v (.one (.fn 33 [(.ptr 0 0)])))),(8,(.v (.one (.p (.str m))))),(9,(.v (.one (.p (.list .byte Xs))))),(12,(.v (.one (.p (.int .i64 (Nat.cast p))))))],[y4,(.row .fld 72 ([]:List Fld))],233,none⟩)))))))))))))))))) (.br y11 (.fin (.ret (.tup [(.one (.p (.list .evt o))),(.one (.p (.int .i64 14)))])) []) (.need y0 (.need y0 (.br (I.bnot (I.ieq y5 13)) (.need y3 (.fin (.ret (.tup [(.one (.p (.list .evt y6))),(.one (.p (.int .i64 5)))])) [])) (.need y1 (.br y9 (.fin (.ret (.tup [(.one (.p (.list .evt o))),(.one (.p (.int .i64 14)))])) []) (.need y1 (.need y2 (.need y2 (.br y8 (.need y3 (.fin (.ret (.tup [(.one (.p (.list .evt y7))),(.one (.p (.int .i64 2)))])) [])) (.need y10 (.code 1 [0,0,1,1,1,1,1,1,1,1,1,0,0] ⟨[(13,(.v (.one (.row 1)))),(11,(.v (.one (.p (.int .i64 (I.add (Nat.cast j) 2)))))),(6,(.v (.one (.ptr 0 0)))),(7,(.v (.one (.fn 33 [(.ptr 0 0)])))),(8,(.v (.one (.p (.str m))))),(9,(.v (.one (.p (.list .byte Xs))))),(12,(.v (.one (.p (.int .i64 (Nat.cast p))))))],[y4,(.row .fld 72 ([]:List Fld))],233,none⟩))))))))))))) (by kernel_rfl) ?_
  simp only [zn]
  have b32:((Xs.getD j 0).toNat:Int)=32↔Xs.getD j 0=32:=rE (Xs.getD j 0) 32 (by decide)
  have b9:((Xs.getD j 0).toNat:Int)=9↔Xs.getD j 0=9:=rE (Xs.getD j 0) 9 (by decide)
  have b13:((Xs.getD j 0).toNat:Int)=13↔Xs.getD j 0=13:=rE (Xs.getD j 0) 13 (by decide)
  have b10:((Xs.getD (j+1) 0).toNat:Int)=10↔Xs.getD (j+1) 0=10:=rE (Xs.getD (j+1) 0) 10 (by decide)
  have e1:((j:Int)+1).toNat=j+1:=by omega
  have hon:j<Xs.length→Xs.getD j 0=32∨Xs.getD j 0=9→_:=fun h k=>hB (j+1) ⟨by omega,by omega,by rw [g3];exact zhP h k⟩ (by omega)
  have hoff:(j<Xs.length→¬ (Xs.getD j 0=32∨Xs.getD j 0=9))→_:=fun h=>(congrArg (preF o) ((ziV m (Zp m f (p+1)) p Xs j g2).symm.trans (congrArg _ ((zgm h).symm.trans g3.symm)))).trans h5
  simp only [Int.natCast_add,Int.natCast_one] at hon
  clear hB g3 h5
  (repeat' (first|refine And.intro ?_ ?_|intro _))
  all_goals try(clear hA;subst hI;(simp only [nrmA,nrmB,nrlB,reduceCtorEq] at *);(try simp only [e1,b32,b9,b13,b10] at *);first
    |done
    |with_reducible exact True.intro
    |omega
    |(with_reducible show B _;first|exact hon (by omega) (.inl ‹_›)|exact hon (by omega) (.inr ‹_›))
    | (have h5:=hoff (by first|exact fun _ q=>q.elim ‹_› ‹_›|(intro h;omega))
       (repeat(first|rw [if_pos (by first|assumption|omega)] at h5|rw [if_neg (by first|assumption|omega|(intro hh;exact hh ‹_›))] at h5))
       simp only [preF,Prod.mk.injEq,List.append_nil] at h5
       obtain⟨rfl,rfl⟩:=h5
       first|rfl|exact⟨rfl,rfl⟩))
  have hq:(¬ j=Xs.length)∧Xs.getD j 0=13∧(¬ j+1=Xs.length)∧Xs.getD (j+1) 0=10:=by
    clear hA hoff hon
    subst hI
    (simp only [nrmA,nrmB,nrlB,reduceCtorEq] at *)
    simp only [e1,b13,b10] at *
    refine⟨by omega,?_,by omega,?_⟩
    · first|assumption|exact Classical.not_not.1 ‹_›
    · first|assumption|exact Classical.not_not.1 ‹_›
  have h5:=hoff (fun _ q=>by rw [hq.2.1] at q;exact absurd q (by decide))
  rw [if_neg hq.1,if_neg (fun h=>h hq.2.1),if_neg hq.2.2.1,if_neg (fun h=>h hq.2.2.2),zlm] at h5
  have hj:j+2≤Xs.length:=by omega
  clear hq hoff hon b32 b9 b13 b10 e1
  have ea:I.add (j:Int) 2=((j+2:Nat):Int):=by subst hI;rw [xJ];omega
  rw [ea]
  refine zu hI zi mixed [wZ,wY,qP,qO,XQ,XP,Z5,Z4,Yc,Yb,vS,su] hX [6,7,8,9,11,12,13] (fun(g:Nat × List Fld)=>match g with|(q,fs)=>a<q∧q≤Xs.length∧fs.length≤16∧(∀ x ∈ fs,x.name.length≤1000000∧x.value.length≤1000000)∧∃ n,(Xs.drop q).length<n∧preF o (hdK m (Zp m f (p+1)) p (YU n fs (Xs.drop q)))=(RE,RC)) (fun(g:Nat × List Fld)=>match g with|(q,fs)=>⟨[(6,.v (.one (.ptr 0 0))),(7,.v (.one (.fn 33 [.ptr 0 0]))),(8,.v (.one (.p (.str m)))),(9,.v (.one (.p (.list .byte Xs)))),(11,.v (.one (.p (.int .i64 q)))),(12,.v (.one (.p (.int .i64 p)))),(13,.v (.one (.row 1)))],[.pack [.obj 32 [(.row 1)],.row .evt 53 o],.row .fld 72 fs],233,none⟩) (fun(g:Nat × List Fld)=>match g with|(q,fs)=>Xs.length - q) (j+2,[]) (by kernel_rfl) (by kernel_rfl) ?_ ?_
  · exact⟨by omega,hj,Nat.zero_le _,(fun x h=>by cases h),_,Nat.lt_succ_self _,h5⟩
  rintro⟨q,fs⟩ ⟨k1,k2,k3,k4,n,k5,k6⟩ Z hZ
  simp only at hZ k1 k2 k3 k4 k5 k6
  clear h5 ea
  refine zh (let y5:=I.cut (α:=UInt8) Xs (Int.ofNat q) (I.len (α:=UInt8) Xs);let y19:=I.add (Nat.cast q) (I.hid (α:=Int) (Prod.fst (Prod.snd (zC y5))));let y0:=I.cut (α:=UInt8) Xs (I.sub y19 2) (I.len (α:=UInt8) Xs);let y3:=I.hid (α:=Int) (zx m y0 (0:Int));let y1:=I.add y19 (I.add (I.sub y3 2) (I.len (α:=UInt8) m));let y12:=I.hid (α:=Str) (Go.Ab.Prt.name (Prod.fst (zM fs)));let y13:=I.hid (α:=Str) (Go.Ab.Prt.file (Prod.fst (zM fs)));let y14:=I.hid (α:=Str) (Go.Ab.Prt.type (Prod.fst (zM fs)));let y2:=I.len (α:=Go.Ab.Evt) (I.app (α:=Go.Ab.Evt) o ([(Go.Ab.Evt.mk (5:Int) (Hd.mk ([]:Str) ([]:Str) (0:Int) ([]:List Fld) (0:Int)) ([]:Str) (Go.Ab.Prt.mk y12 y13 y14 ([]:Str)) (0:Int))]:List Go.Ab.Evt));let y4:=I.len (α:=Go.Ab.Evt) ([(Go.Ab.Evt.mk (6:Int) (Hd.mk ([]:Str) ([]:Str) (0:Int) ([]:List Fld) (0:Int)) ([]:Str) (Go.Ab.Prt.mk ([]:Str) ([]:Str) ([]:Str) ([]:Str)) (0:Int))]:List Go.Ab.Evt);let y11:=I.sub (I.len (α:=UInt8) y0) (I.hid (α:=Int) (Nat.cast (Go.Sep.P.held m y0)));let y6:HO:=.pack [(.obj 32 [(.row 1)]),(.row .evt 53 (I.app (α:=Go.Ab.Evt) (I.app (α:=Go.Ab.Evt) (I.app (α:=Go.Ab.Evt) o ([(Go.Ab.Evt.mk (5:Int) (Hd.mk ([]:Str) ([]:Str) (0:Int) ([]:List Fld) (0:Int)) ([]:Str) (Go.Ab.Prt.mk y12 y13 y14 ([]:Str)) (0:Int))]:List Go.Ab.Evt)) ([(Go.Ab.Evt.mk (2:Int) (Hd.mk ([]:Str) ([]:Str) (0:Int) ([]:List Fld) (0:Int)) (I.cut (α:=UInt8) y0 2 y11) (Go.Ab.Prt.mk ([]:Str) ([]:Str) ([]:Str) ([]:Str)) (0:Int))]:List Go.Ab.Evt)) ([(Go.Ab.Evt.mk (6:Int) (Hd.mk ([]:Str) ([]:Str) (0:Int) ([]:List Fld) (0:Int)) ([]:Str) (Go.Ab.Prt.mk ([]:Str) ([]:Str) ([]:Str) ([]:Str)) (0:Int))]:List Go.Ab.Evt)))];let y7:HO:=.pack [(.obj 32 [(.row 1)]),(.row .evt 53 (I.app (α:=Go.Ab.Evt) (I.app (α:=Go.Ab.Evt) (I.app (α:=Go.Ab.Evt) o ([(Go.Ab.Evt.mk (5:Int) (Hd.mk ([]:Str) ([]:Str) (0:Int) ([]:List Fld) (0:Int)) ([]:Str) (Go.Ab.Prt.mk y12 y13 y14 ([]:Str)) (0:Int))]:List Go.Ab.Evt)) ([(Go.Ab.Evt.mk (2:Int) (Hd.mk ([]:Str) ([]:Str) (0:Int) ([]:List Fld) (0:Int)) (I.cut (α:=UInt8) y0 2 y3) (Go.Ab.Prt.mk ([]:Str) ([]:Str) ([]:Str) ([]:Str)) (0:Int))]:List Go.Ab.Evt)) ([(Go.Ab.Evt.mk (6:Int) (Hd.mk ([]:Str) ([]:Str) (0:Int) ([]:List Fld) (0:Int)) ([]:Str) (Go.Ab.Prt.mk ([]:Str) ([]:Str) ([]:Str) ([]:Str)) (0:Int))]:List Go.Ab.Evt)))];let y8:=I.few (I.add (I.len (α:=Go.Ab.Evt) (I.app (α:=Go.Ab.Evt) (I.app (α:=Go.Ab.Evt) o ([(Go.Ab.Evt.mk (5:Int) (Hd.mk ([]:Str) ([]:Str) (0:Int) ([]:List Fld) (0:Int)) ([]:Str) (Go.Ab.Prt.mk y12 y13 y14 ([]:Str)) (0:Int))]:List Go.Ab.Evt)) ([(Go.Ab.Evt.mk (2:Int) (Hd.mk ([]:Str) ([]:Str) (0:Int) ([]:List Fld) (0:Int)) (I.cut (α:=UInt8) y0 2 y11) (Go.Ab.Prt.mk ([]:Str) ([]:Str) ([]:Str) ([]:Str)) (0:Int))]:List Go.Ab.Evt))) y4) 100000000;let y9:=I.few (I.add (I.len (α:=Go.Ab.Evt) (I.app (α:=Go.Ab.Evt) (I.app (α:=Go.Ab.Evt) o ([(Go.Ab.Evt.mk (5:Int) (Hd.mk ([]:Str) ([]:Str) (0:Int) ([]:List Fld) (0:Int)) ([]:Str) (Go.Ab.Prt.mk y12 y13 y14 ([]:Str)) (0:Int))]:List Go.Ab.Evt)) ([(Go.Ab.Evt.mk (2:Int) (Hd.mk ([]:Str) ([]:Str) (0:Int) ([]:List Fld) (0:Int)) (I.cut (α:=UInt8) y0 2 y3) (Go.Ab.Prt.mk ([]:Str) ([]:Str) ([]:Str) ([]:Str)) (0:Int))]:List Go.Ab.Evt))) y4) 100000000;let y10:HO:=.pack [(.obj 32 [(.row 1)]),(.row .evt 53 (I.app (α:=Go.Ab.Evt) (I.app (α:=Go.Ab.Evt) o ([(Go.Ab.Evt.mk (5:Int) (Hd.mk ([]:Str) ([]:Str) (0:Int) ([]:List Fld) (0:Int)) ([]:Str) (Go.Ab.Prt.mk y12 y13 y14 ([]:Str)) (0:Int))]:List Go.Ab.Evt)) ([(Go.Ab.Evt.mk (6:Int) (Hd.mk ([]:Str) ([]:Str) (0:Int) ([]:List Fld) (0:Int)) ([]:Str) (Go.Ab.Prt.mk ([]:Str) ([]:Str) ([]:Str) ([]:Str)) (0:Int))]:List Go.Ab.Evt)))];let y15:=I.inr Go.IntKind.i64 (I.add (I.sub y3 2) (I.len (α:=UInt8) m));let y16:=I.hid (α:=Str) (Prod.fst (zC y5));let y17:=I.few (I.add y2 (I.len (α:=Go.Ab.Evt) ([(Go.Ab.Evt.mk (2:Int) (Hd.mk ([]:Str) ([]:Str) (0:Int) ([]:List Fld) (0:Int)) (I.cut (α:=UInt8) y0 2 y11) (Go.Ab.Prt.mk ([]:Str) ([]:Str) ([]:Str) ([]:Str)) (0:Int))]:List Go.Ab.Evt))) 100000000;let y18:=I.few (I.add y2 (I.len (α:=Go.Ab.Evt) ([(Go.Ab.Evt.mk (2:Int) (Hd.mk ([]:Str) ([]:Str) (0:Int) ([]:List Fld) (0:Int)) (I.cut (α:=UInt8) y0 2 y3) (Go.Ab.Prt.mk ([]:Str) ([]:Str) ([]:Str) ([]:Str)) (0:Int))]:List Go.Ab.Evt))) 100000000;let y20:=I.inr Go.IntKind.i64 (I.add (Nat.cast p) 1);let y21:=I.hid (α:=(Prop)) (LE.le (List.length o) 1000000);let y22:=I.inr Go.IntKind.i64 (I.sub y3 2);let y23:=I.hid (α:=Int) (Prod.snd (Prod.snd (Prod.snd (zC y5))));let y24:=I.hid (α:=(Prop)) (And (LE.le (List.length y0) 1000000) (LE.le (List.length m) 1000000));let y25:=I.hid (α:=(List Go.Ab.Evt)) (HAppend.hAppend o ([(evF (8:Int))]:List Go.Ab.Evt));let y26:=I.hid (α:=Int) (Prod.snd (zF y16));let y27:=I.hid (α:=Int) (Prod.snd (zM fs));let y28:=I.hid (α:=Str) (Fld.value (Prod.fst (zF y16)));let y29:=I.hid (α:=Str) (Fld.name (Prod.fst (zF y16)));.need (I.cutb (Int.ofNat q) (I.len (α:=UInt8) Xs) (I.len (α:=UInt8) Xs)) (.need (I.hid (α:=(Prop)) (LE.le (List.length y5) 1000000)) (.br (I.bnot (I.ieq y23 0)) (.need y21 (.fin (.ret (.tup [(.one (.p (.list .evt (I.hid (α:=(List Go.Ab.Evt)) (HAppend.hAppend o ([(evF y23)]:List Go.Ab.Evt)))))),(.one (.p (.int .i64 y23)))])) [])) (.br (I.bnot (I.hid (α:=Bool) (Prod.fst (Prod.snd (Prod.snd (zC y5)))))) (.fin (.ret (.tup [(.one (.p (.list .evt o))),(.one (.p (.int .i64 14)))])) []) (.need (I.inr Go.IntKind.i64 y19) (.br (I.seq y16 ([]:Str)) (.need (I.hid (α:=(Prop)) (And (LE.le (List.length fs) 1000) (∀ (f:Fld),f ∈ fs→List.length f.name≤1000000∧List.length f.value≤1000000))) (.br (I.bnot (I.ieq y27 0)) (.need y21 (.fin (.ret (.tup [(.one (.p (.list .evt (I.hid (α:=(List Go.Ab.Evt)) (HAppend.hAppend o ([(evF y27)]:List Go.Ab.Evt)))))),(.one (.p (.int .i64 y27)))])) [])) (.br (I.ieq (Nat.cast p) 12) (.need y21 (.fin (.ret (.tup [(.one (.p (.list .evt y25))),(.one (.p (.int .i64 8)))])) [])) (.need (I.few (I.add (I.len (α:=Go.Ab.Evt) o) (I.len (α:=Go.Ab.Evt) ([(Go.Ab.Evt.mk (5:Int) (Hd.mk ([]:Str) ([]:Str) (0:Int) ([]:List Fld) (0:Int)) ([]:Str) (Go.Ab.Prt.mk y12 y13 y14 ([]:Str)) (0:Int))]:List Go.Ab.Evt))) 100000000) (.need (I.inr Go.IntKind.i64 (I.sub y19 2)) (.need (I.cutb (I.sub y19 2) (I.len (α:=UInt8) Xs) (I.len (α:=UInt8) Xs)) (.need y24 (.br (I.ilt y3 0) (.need y24 (.need (I.inr Go.IntKind.i64 y11) (.br (I.ilt 2 y11) (.need (I.cutb 2 y11 (I.len (α:=UInt8) y0)) (.both (.need y17 (.br (I.ilt y3 0) (.fin (.ret (.tup [(.one (.p (.list .evt (I.app (α:=Go.Ab.Evt) (I.app (α:=Go.Ab.Evt) o ([(Go.Ab.Evt.mk (5:Int) (Hd.mk ([]:Str) ([]:Str) (0:Int) ([]:List Fld) (0:Int)) ([]:Str) (Go.Ab.Prt.mk y12 y13 y14 ([]:Str)) (0:Int))]:List Go.Ab.Evt)) ([(Go.Ab.Evt.mk (2:Int) (Hd.mk ([]:Str) ([]:Str) (0:Int) ([]:List Fld) (0:Int)) (I.cut (α:=UInt8) y0 2 y11) (Go.Ab.Prt.mk ([]:Str) ([]:Str) ([]:Str) ([]:Str)) (0:Int))]:List Go.Ab.Evt))))),(.one (.p (.int .i64 14)))])) []) (.need y8 (.need y22 (.need y15 (.need (I.inr Go.IntKind.i64 y1) (.need y20 (.need (A ⟨[(6,(.v (.one (.ptr 0 0)))),(7,(.v (.one (.fn 33 [(.ptr 0 0)])))),(8,(.v (.one (.p (.str m))))),(9,(.v (.one (.p (.list .byte Xs))))),(11,(.v (.one (.p (.int .i64 y1))))),(12,(.v (.one (.p (.int .i64 (I.add (Nat.cast p) 1))))))],[y6],233,none⟩) .qed)))))))) (.need y17 (.br (I.ilt y3 0) (.fin (.ret (.tup [(.one (.p (.list .evt (I.app (α:=Go.Ab.Evt) (I.app (α:=Go.Ab.Evt) o ([(Go.Ab.Evt.mk (5:Int) (Hd.mk ([]:Str) ([]:Str) (0:Int) ([]:List Fld) (0:Int)) ([]:Str) (Go.Ab.Prt.mk y12 y13 y14 ([]:Str)) (0:Int))]:List Go.Ab.Evt)) ([(Go.Ab.Evt.mk (2:Int) (Hd.mk ([]:Str) ([]:Str) (0:Int) ([]:List Fld) (0:Int)) (I.cut (α:=UInt8) y0 2 y11) (Go.Ab.Prt.mk ([]:Str) ([]:Str) ([]:Str) ([]:Str)) (0:Int))]:List Go.Ab.Evt))))),(.one (.p (.int .i64 14)))])) []) (.need y8 (.need y22 (.need y15 (.need (I.inr Go.IntKind.i64 y1) (.need y20 (.need (A ⟨[(6,(.v (.one (.ptr 0 0)))),(7,(.v (.one (.fn 33 [(.ptr 0 0)])))),(8,(.v (.one (.p (.str m))))),(9,(.v (.one (.p (.list .byte Xs))))),(11,(.v (.one (.p (.int .i64 y1))))),(12,(.v (.one (.p (.int .i64 (I.add (Nat.cast p) 1))))))],[y6],233,none⟩) .qed)))))))))) (.br (I.ilt y3 0) (.fin (.ret (.tup [(.one (.p (.list .evt (I.app (α:=Go.Ab.Evt) o ([(Go.Ab.Evt.mk (5:Int) (Hd.mk ([]:Str) ([]:Str) (0:Int) ([]:List Fld) (0:Int)) ([]:Str) (Go.Ab.Prt.mk y12 y13 y14 ([]:Str)) (0:Int))]:List Go.Ab.Evt))))),(.one (.p (.int .i64 14)))])) []) (.need (I.few (I.add y2 y4) 100000000) (.need y22 (.need y15 (.need (I.inr Go.IntKind.i64 y1) (.need y20 (.need (A ⟨[(6,(.v (.one (.ptr 0 0)))),(7,(.v (.one (.fn 33 [(.ptr 0 0)])))),(8,(.v (.one (.p (.str m))))),(9,(.v (.one (.p (.list .byte Xs))))),(11,(.v (.one (.p (.int .i64 y1))))),(12,(.v (.one (.p (.int .i64 (I.add (Nat.cast p) 1))))))],[y10],233,none⟩) .qed)))))))))) (.br (I.ilt 2 y3) (.need (I.cutb 2 y3 (I.len (α:=UInt8) y0)) (.both (.need y18 (.br (I.ilt y3 0) (.fin (.ret (.tup [(.one (.p (.list .evt (I.app (α:=Go.Ab.Evt) (I.app (α:=Go.Ab.Evt) o ([(Go.Ab.Evt.mk (5:Int) (Hd.mk ([]:Str) ([]:Str) (0:Int) ([]:List Fld) (0:Int)) ([]:Str) (Go.Ab.Prt.mk y12 y13 y14 ([]:Str)) (0:Int))]:List Go.Ab.Evt)) ([(Go.Ab.Evt.mk (2:Int) (Hd.mk ([]:Str) ([]:Str) (0:Int) ([]:List Fld) (0:Int)) (I.cut (α:=UInt8) y0 2 y3) (Go.Ab.Prt.mk ([]:Str) ([]:Str) ([]:Str) ([]:Str)) (0:Int))]:List Go.Ab.Evt))))),(.one (.p (.int .i64 14)))])) []) (.need y9 (.need y22 (.need y15 (.need (I.inr Go.IntKind.i64 y1) (.need y20 (.need (A ⟨[(6,(.v (.one (.ptr 0 0)))),(7,(.v (.one (.fn 33 [(.ptr 0 0)])))),(8,(.v (.one (.p (.str m))))),(9,(.v (.one (.p (.list .byte Xs))))),(11,(.v (.one (.p (.int .i64 y1))))),(12,(.v (.one (.p (.int .i64 (I.add (Nat.cast p) 1))))))],[y7],233,none⟩) .qed)))))))) (.need y18 (.br (I.ilt y3 0) (.fin (.ret (.tup [(.one (.p (.list .evt (I.app (α:=Go.Ab.Evt) (I.app (α:=Go.Ab.Evt) o ([(Go.Ab.Evt.mk (5:Int) (Hd.mk ([]:Str) ([]:Str) (0:Int) ([]:List Fld) (0:Int)) ([]:Str) (Go.Ab.Prt.mk y12 y13 y14 ([]:Str)) (0:Int))]:List Go.Ab.Evt)) ([(Go.Ab.Evt.mk (2:Int) (Hd.mk ([]:Str) ([]:Str) (0:Int) ([]:List Fld) (0:Int)) (I.cut (α:=UInt8) y0 2 y3) (Go.Ab.Prt.mk ([]:Str) ([]:Str) ([]:Str) ([]:Str)) (0:Int))]:List Go.Ab.Evt))))),(.one (.p (.int .i64 14)))])) []) (.need y9 (.need y22 (.need y15 (.need (I.inr Go.IntKind.i64 y1) (.need y20 (.need (A ⟨[(6,(.v (.one (.ptr 0 0)))),(7,(.v (.one (.fn 33 [(.ptr 0 0)])))),(8,(.v (.one (.p (.str m))))),(9,(.v (.one (.p (.list .byte Xs))))),(11,(.v (.one (.p (.int .i64 y1))))),(12,(.v (.one (.p (.int .i64 (I.add (Nat.cast p) 1))))))],[y7],233,none⟩) .qed)))))))))) (.br (I.ilt y3 0) (.fin (.ret (.tup [(.one (.p (.list .evt (I.app (α:=Go.Ab.Evt) o ([(Go.Ab.Evt.mk (5:Int) (Hd.mk ([]:Str) ([]:Str) (0:Int) ([]:List Fld) (0:Int)) ([]:Str) (Go.Ab.Prt.mk y12 y13 y14 ([]:Str)) (0:Int))]:List Go.Ab.Evt))))),(.one (.p (.int .i64 14)))])) []) (.need (I.few (I.add y2 y4) 100000000) (.need y22 (.need y15 (.need (I.inr Go.IntKind.i64 y1) (.need y20 (.need (A ⟨[(6,(.v (.one (.ptr 0 0)))),(7,(.v (.one (.fn 33 [(.ptr 0 0)])))),(8,(.v (.one (.p (.str m))))),(9,(.v (.one (.p (.list .byte Xs))))),(11,(.v (.one (.p (.int .i64 y1))))),(12,(.v (.one (.p (.int .i64 (I.add (Nat.cast p) 1))))))],[y10],233,none⟩) .qed)))))))))))))))) (.br (I.ieq (I.len (α:=Fld) fs) 16) (.need y21 (.fin (.ret (.tup [(.one (.p (.list .evt y25))),(.one (.p (.int .i64 8)))])) [])) (.need (I.hid (α:=(Prop)) (LE.le (List.length y16) 1000000)) (.br (I.bnot (I.ieq y26 0)) (.need y21 (.fin (.ret (.tup [(.one (.p (.list .evt (I.hid (α:=(List Go.Ab.Evt)) (HAppend.hAppend o ([(evF y26)]:List Go.Ab.Evt)))))),(.one (.p (.int .i64 y26)))])) [])) (.need (I.few (I.add (I.len (α:=Fld) fs) (I.len (α:=Fld) ([(Fld.mk y29 y28)]:List Fld))) 100000000) (.need (Z ⟨[(6,(.v (.one (.ptr 0 0)))),(7,(.v (.one (.fn 33 [(.ptr 0 0)])))),(8,(.v (.one (.p (.str m))))),(9,(.v (.one (.p (.list .byte Xs))))),(11,(.v (.one (.p (.int .i64 y19))))),(12,(.v (.one (.p (.int .i64 (Nat.cast p)))))),(13,(.v (.one (.row 1))))],[(.pack [(.obj 32 [(.row 1)]),(.row .evt 53 o)]),(.row .fld 72 (I.app (α:=Fld) fs ([(Fld.mk y29 y28)]:List Fld)))],233,none⟩) .qed))))))))))) (by kernel_rfl) ?_
  simp only [zn]
  have hcut0:I.cut Xs (Int.ofNat q) (I.len Xs)=Xs.drop q:=hcut q
  rw [hcut0]
  obtain⟨n',hn,hn1,hn2,hn3,hn4⟩:=zhf (Xs.drop q)
  have hln:=fun h k=>zhe (r:=Xs.drop q) h k
  have hll:=zdX (Xs.drop q)
  obtain⟨n,rfl⟩: ∃ g',n=g'+1:=⟨n - 1,by omega⟩
  rw [zhk] at k6
  have hpl:=Qq (zC (Xs.drop q)).1
  have hXd: ∀ k,(Xs.drop k).length=Xs.length - k:=fun k=>List.length_drop
  rw [hXd] at hn1 hll k5
  generalize zC (Xs.drop q)=x at *
  obtain⟨t',n'',ok,e⟩:=x
  simp only at hn hn1 hn2 hn3 hn4 hln hll hpl k6 ⊢
  subst hn
  rw [Int.toNat_natCast,List.drop_drop] at k6
  by_cases hz:ok=true∧t'=[]
  · obtain ⟨rfl,rfl⟩:=hz
    obtain⟨r1,r2⟩:=hln rfl rfl
    have r3:n'=2:=by omega
    subst r3
    have r4:e=0:=hn4 rfl
    subst r4
    rw [if_neg (by simp),if_neg (by simp),if_pos rfl,zg7 (by omega) _ _ _ Xs q (by omega) (by rw [List.drop_drop] at r1;exact r1)] at k6
    have e2:I.sub (I.add (q:Int) (I.hid ((2:Nat):Int))) 2=(q:Int):=by subst hI;rw [uO,xJ,Rz];omega
    rw [e2,hcut]
    have hAn: ∀ (o':List Evt) (k:Nat),q+k+m.length≤Xs.length→¬ p=12→o'.length≤o.length+3→preF o' (Zp m f (p+1) (Xs.drop (q+k+m.length)))=(RE,RC)→_:=fun o' k q1 q2 q3 q4=>hA (q+k+m.length,p+1,o') ⟨q1,by simp only;omega,by simp only;omega,f,by rw [hXd] at h4 ⊢;omega,q4⟩ (by simp only;omega)
    clear hA hZ hln r1 r2 hpl e2
    have hhl:=(uV m (Xs.drop q)).2
    rw [hXd] at hhl
    have hpc:=TI fs
    have hpe:(⟨(zM fs).1.name,(zM fs).1.file,(zM fs).1.type,[]⟩:Prt)=(zM fs).1:=by rw [← hpc]
    have ofN2:(((2:Nat):Int))=2:=rfl
    have hdl:(Xs.drop q).length=Xs.length - q:=hXd q
    rw [show Xs.drop (q+2)=(Xs.drop q).drop 2 from List.drop_drop.symm,show(Xs.length:Int) - (q:Int)=((Xs.drop q).length:Int) by rw [hdl];omega] at k6
    clear hXd
    by_cases hf:zx m (Xs.drop q) 0<0
    · rw [if_pos hf] at k6
      (repeat' (first|refine And.intro ?_ ?_|intro _))
      all_goals try(subst hI;(simp only [nrmA,nrmB,nrlB,reduceCtorEq] at *);(try simp only [ofN2,List.nil_append] at *);first
        |done
        |with_reducible exact True.intro
        |omega
        |exact⟨by omega,by omega⟩
        |exact⟨by omega,k4⟩
        |(simp only [List.length_append,List.length_cons,List.length_nil];omega)
        | (with_reducible show _=_
           (repeat(first|rw [if_pos (by first|assumption|omega)] at k6|rw [if_neg (by first|assumption|omega|(intro hh;exact hh ‹_›))] at k6))
           simp only [preF,Prod.mk.injEq,List.append_nil,List.nil_append] at k6
           obtain⟨rfl,rfl⟩:=k6
           first|rfl|exact⟨rfl,rfl⟩|(simp [evP,evB,evO,hd0,prt0,hpc,hpe];done))
        | (with_reducible show _∧_
           (repeat(first|rw [if_pos (by first|assumption|omega)] at k6|rw [if_neg (by first|assumption|omega|(intro hh;exact hh ‹_›))] at k6))
           simp only [preF,Prod.mk.injEq,List.append_nil,List.nil_append] at k6
           obtain⟨rfl,rfl⟩:=k6
           first|exact⟨rfl,rfl⟩|(simp [evP,evB,evO,hd0,prt0,hpc,hpe];done)))
      all_goals trace_state
    · rw [if_neg hf] at k6
      obtain⟨k,hk,hk2⟩:=SB m (Xs.drop q) hf
      rw [hk] at k6 ⊢
      rw [Int.toNat_natCast] at k6
      (repeat' (first|refine And.intro ?_ ?_|intro _))
      all_goals try(subst hI;(simp only [nrmA,nrmB,nrlB,reduceCtorEq] at *);(try simp only [ofN2,List.nil_append] at *);first
        |done
        |with_reducible exact True.intro
        |omega
        |exact⟨by omega,by omega⟩
        |exact⟨by omega,k4⟩
        |(simp only [List.length_append,List.length_cons,List.length_nil];omega)
        | (with_reducible show _=_
           (repeat(first|rw [if_pos (by first|assumption|omega)] at k6|rw [if_neg (by first|assumption|omega|(intro hh;exact hh ‹_›))] at k6))
           simp only [preF,Prod.mk.injEq,List.append_nil,List.nil_append] at k6
           obtain⟨rfl,rfl⟩:=k6
           first|rfl|exact⟨rfl,rfl⟩|(simp [evP,evB,evO,hd0,prt0,hpc,hpe];done))
        | (with_reducible show _∧_
           (repeat(first|rw [if_pos (by first|assumption|omega)] at k6|rw [if_neg (by first|assumption|omega|(intro hh;exact hh ‹_›))] at k6))
           simp only [preF,Prod.mk.injEq,List.append_nil,List.nil_append] at k6
           obtain⟨rfl,rfl⟩:=k6
           first|exact⟨rfl,rfl⟩|(simp [evP,evB,evO,hd0,prt0,hpc,hpe];done))
        | (with_reducible show A _
           rw [show(q:Int)+2+((k:Int) - 2+(m.length:Int))=((q+k+m.length:Nat):Int) by omega,show(p:Int)+1=((p+1:Nat):Int) by omega]
           refine hAn _ k (by omega) (by omega) (by simp only [List.length_append,List.length_cons,List.length_nil];omega) ?_
           (repeat(first|rw [if_pos (by first|assumption|omega)] at k6|rw [if_neg (by first|assumption|omega|(intro hh;exact hh ‹_›))] at k6))
           rw [zg4] at k6
           rw [← k6]
           simp only [List.append_assoc,evP,evB,evO,hd0,prt0,List.nil_append,List.cons_append,hpe]
           first|done|rfl))
      all_goals trace_state
  · have hZn:e=0→ok=true→¬ t'=[]→¬ fs.length=16→(zF t').2=0→_:=fun c1 c2 c3 c4 c5=>hZ (q+n',fs++[(zF t').1]) ⟨by simp only;omega,by simp only;omega,by simp only [List.length_append,List.length_singleton];omega,(by
      intro x hx
      rcases List.mem_append.1 hx with hx|hx
      · exact k4 x hx
      · rw [List.mem_singleton.1 hx];omega),n,by rw [hXd];have:=hn2 (.inl c2);omega,by
        rw [if_neg (by simp [c1]),if_neg (by simp [c2]),if_neg c3,if_neg c4,if_neg (by simp [c5])] at k6;exact k6⟩ (by simp only;have:=hn2 (.inl c2);omega)
    have hnz:ok=true→t'=[]→False:=fun h k=>hz ⟨h,k⟩
    have hdl:(Xs.drop q).length=Xs.length - q:=hXd q
    clear hA hZ hln hz hXd hn3
    (repeat' (first|refine And.intro ?_ ?_|intro _))
    all_goals try(subst hI;(simp only [nrmA,nrmB,nrlB,reduceCtorEq] at *);(try simp only [List.nil_append] at *);first
      |done
      |with_reducible exact True.intro
      |omega
      |exact⟨by omega,by omega⟩
      |exact⟨by omega,k4⟩
      |exact(hnz ‹_› ‹_›).elim
      |(simp only [List.length_append,List.length_cons,List.length_nil];omega)
      |exact hZn ‹_› ‹_› ‹_› (by omega) ‹_›
      | (with_reducible show _=_
         (repeat(first|rw [if_pos (by first|assumption|omega)] at k6|rw [if_neg (by first|assumption|omega|(intro hh;exact hh ‹_›)|(rw [‹ok=true›];decide))] at k6))
         simp only [preF,Prod.mk.injEq,List.append_nil,List.nil_append] at k6
         obtain⟨rfl,rfl⟩:=k6
         first|rfl|exact⟨rfl,rfl⟩)
      | (with_reducible show _∧_
         (repeat(first|rw [if_pos (by first|assumption|omega)] at k6|rw [if_neg (by first|assumption|omega|(intro hh;exact hh ‹_›)|(rw [‹ok=true›];decide))] at k6))
         simp only [preF,Prod.mk.injEq,List.append_nil,List.nil_append] at k6
         obtain⟨rfl,rfl⟩:=k6
         exact⟨rfl,rfl⟩))
    all_goals trace_state
def XZ (I:Alg) (args:List D) (hp:List HO):Option CT:=match args,hp with
  |[.v (.one (.p (.str s))),.v (.one (.p (.list .byte b)))],[]=>(fun(s b:Str)=>(some (.one ⟨I.hid (s.length≤1000∧b.length≤100000),(.ret (.tup [(.one (.p (.list .evt (I.hid ((qX (zH s) b).1))))),(.one (.p (.int .i64 (I.hid ((qX (zH s) b).2)))))])),[]⟩):Option CT)) s b
  |_,_=>none
theorem zcm:zy Tryz.prog 14 (XZ alg):=by
  intro args hp r h
  unfold XZ at h
  split at h
  · cases h;exact fun hn=>zke _ _ hn
  · cases h
def XY:Know Tryz.prog:=⟨14,XZ,zcm⟩
def XW:Know Tryz.prog:=⟨14,fun I=>zA I (XZ I),zf zcm⟩
end Go.Proofs.YtknaogelmckimaaGreatDoor
namespace Go.Proofs.YtknaogelmckimaaGreatDoor
open Go Go.Sep Go.Ab
set_option maxRecDepth 100000
theorem zkd (s:Str) (hneed:s.length≤140737488355328):Spc Tryz.prog 8 [.v (.one (.p (.str s)))] [] (.ret (.v (.one (.p (.bool ((yG s))))))) []:=by
  refine spcG zi mixed Tryz.func8 (by kernel_rfl) { keep:=some [0,2]} [zZ,zY,Ue,Ud] (by kernel_rfl) ?_
  intro I X hI hX
  refine zh (let y0:=I.hid (α:=(Prop)) (LE.le (List.length s) 1000000);.br (I.ilt 0 (I.len (α:=UInt8) s)) (.br (I.ile (I.len (α:=UInt8) s) 70) (.need y0 (.br (I.hid (α:=Bool) (wH s)) (.need y0 (.fin (.ret (.v (.one (.p (.bool (I.seq (I.hid (α:=Str) (Go.Lib.trimS s ([32,9]:Str))) s)))))) [])) (.fin (.ret (.v (.one (.p (.bool Bool.false))))) []))) (.fin (.ret (.v (.one (.p (.bool Bool.false))))) [])) (.fin (.ret (.v (.one (.p (.bool Bool.false))))) [])) (by kernel_rfl) ?_
  simp only [zn]
  subst hI
  simp only [nrmA,nrmB,nrlB,reduceCtorEq]
  unfold yG
  have h70:(70<s.length)↔((70:Int)<(s.length:Int)):=by omega
  simp only [h70]
  (repeat' (first|refine And.intro ?_ ?_|intro _))<;>first|omega|exact True.intro|exact False.elim ‹False›|skip
  all_goals first
    |omega
    | (have h0:s≠[]:=fun e=>by subst e;simp at *
       rw [decide_eq_false (by omega),‹wH s=true›,decide_eq_true h0,Bool.eq_iff_iff];simp;done)
    |(cases s<;>simp_all;done)
def XV (I:Alg) (args:List D) (hp:List HO):Option CT:=match args,hp with
  |[.v (.one (.p (.str s)))],[]=>(fun(s:Str)=>(some (.one ⟨I.hid (s.length≤140737488355328),(.ret (.v (.one (.p (.bool (I.hid ((yG s)))))))),[]⟩):Option CT)) s
  |_,_=>none
theorem zcl:zy Tryz.prog 8 (XV alg):=by
  intro args hp r h
  unfold XV at h
  split at h
  · cases h;exact fun hn=>zkd _ hn
  · cases h
def XU:Know Tryz.prog:=⟨8,XV,zcl⟩
def XT:Know Tryz.prog:=⟨8,fun I=>zA I (XV I),zf zcl⟩
theorem ziC (l m:List Prt) (hneed:l.length≤100000000∧m.length≤100000000):Spc Tryz.prog 12 [.v (.one (.p (.list .prt l))),.v (.one (.p (.list .prt m)))] [] (.ret (.v (.one (.p (.bool ((decide (l=m)))))))) []:=by
  obtain⟨hl,hm⟩:=hneed
  generalize hr:decide (l=m)=r
  refine spcG zi mixed Tryz.func12 (by kernel_rfl) { keep:=some [0,1,4,5]} [ZA,Zz] (by kernel_rfl) ?_
  intro I X hI hX
  refine zh (.br (I.bnot (I.ieq (I.len (α:=Go.Ab.Prt) l) (I.len (α:=Go.Ab.Prt) m))) (.fin (.ret (.v (.one (.p (.bool Bool.false))))) []) (.code 0 [1,1,0,1,0] ⟨[(5,(.v (.one (.p (.int .i64 0))))),(4,(.v (.one (.p (.val (.bool .false)))))),(0,(.v (.one (.p (.list .prt l))))),(1,(.v (.one (.p (.list .prt m)))))],[],27,none⟩)) (by kernel_rfl) ?_
  simp only [zn]
  refine⟨fun c1=> ?_,fun c1=> ?_⟩
  · subst hI
    simp only [nrmA,nrmB] at c1
    simp only [nrmA,nrmB]
    rw [← hr]
    exact(decide_eq_false fun e=>c1 (by rw [e])).symm
  have hlm:l.length=m.length:=by
    subst hI
    simp only [nrmA,nrmB] at c1
    omega
  refine zu hI zi mixed [ZA,Zz] hX [0,1,5] (fun(i:Nat)=>i≤l.length∧r=decide (l.drop i=m.drop i)) (fun(i:Nat)=>⟨[(0,.v (.one (.p (.list .prt l)))),(1,.v (.one (.p (.list .prt m)))),(5,.v (.one (.p (.int .i64 i))))],[],27,none⟩) (fun(i:Nat)=>l.length - i) 0 (by kernel_rfl) (by kernel_rfl) ?_ ?_
  · exact⟨Nat.zero_le _,hr.symm⟩
  rintro i ⟨h1,h2⟩ A hA
  refine zh (let y0:=I.get (α:=Go.Ab.Prt) l (Go.Ab.Prt.mk ([]:Str) ([]:Str) ([]:Str) ([]:Str)) (Nat.cast i);let y1:=I.get (α:=Go.Ab.Prt) m (Go.Ab.Prt.mk ([]:Str) ([]:Str) ([]:Str) ([]:Str)) (Nat.cast i);let y2:=I.inb (Nat.cast i) (I.len (α:=Go.Ab.Prt) l);let y3:=I.inb (Nat.cast i) (I.len (α:=Go.Ab.Prt) m);.br (I.ilt (Nat.cast i) (I.len (α:=Go.Ab.Prt) l)) (.need y2 (.need y2 (.need y3 (.need y3 (.need (I.hid (α:=(Prop)) True) (.br (I.bnot (I.hid (α:=Bool) (ptB (Go.Ab.Prt.name y0) (Go.Ab.Prt.file y0) (Go.Ab.Prt.type y0) (Go.Ab.Prt.bytes y0) (Go.Ab.Prt.name y1) (Go.Ab.Prt.file y1) (Go.Ab.Prt.type y1) (Go.Ab.Prt.bytes y1)))) (.fin (.ret (.v (.one (.p (.bool Bool.false))))) []) (.need (I.inr Go.IntKind.i64 (I.add (Nat.cast i) 1)) (.need (A ⟨[(0,(.v (.one (.p (.list .prt l))))),(1,(.v (.one (.p (.list .prt m))))),(5,(.v (.one (.p (.int .i64 (I.add (Nat.cast i) 1))))))],[],27,none⟩) .qed)))))))) (.fin (.ret (.v (.one (.p (.bool Bool.true))))) [])) (by kernel_rfl) ?_
  simp only [zn]
  subst hI
  simp only [nrmA,nrmB,nrlB,reduceCtorEq]
  have hd:i<l.length→_:=fun h=>zde (l:=l) (m:=m) (i:=i) ⟨[],[],[],[]⟩ h (by omega)
  have hend: ¬ i<l.length→r=true:=fun h=>by
    rw [h2,List.drop_of_length_le (by omega),List.drop_of_length_le (by omega)];simp
  generalize l.getD i ⟨[],[],[],[]⟩=x at *
  generalize m.getD i ⟨[],[],[],[]⟩=y at *
  have hx: ¬ x=y→i<l.length→r=false:=fun h hi=>by rw [h2,hd hi,decide_eq_false h,Bool.false_and]
  have hy:x=y→i<l.length→r=decide (l.drop (i+1)=m.drop (i+1)):=fun h hi=>by rw [h2,hd hi,decide_eq_true h,Bool.true_and]
  have hbp:=zeO (x:=x) (y:=y)
  generalize ptB x.name x.file x.type x.bytes y.name y.file y.type y.bytes=B2 at *
  (repeat' (first|refine And.intro ?_ ?_|intro _))<;>first|omega|exact True.intro|exact False.elim ‹False›|skip
  all_goals first
    |omega
    |(exact(hx (by rintro rfl;simp_all) (by omega)).symm)
    |(rw [hx (by rintro rfl;simp_all) (by omega)])
    |exact hA (i+1) ⟨by omega,hy (by simp_all) (by omega)⟩ (by omega)
    |(rw [hend (by omega)])
def ZC (I:Alg) (args:List D) (hp:List HO):Option CT:=match args,hp with
  |[.v (.one (.p (.list .prt l))),.v (.one (.p (.list .prt m)))],[]=>(fun(l m:List Prt)=>(some (.one ⟨I.hid (l.length≤100000000∧m.length≤100000000),(.ret (.v (.one (.p (.bool (I.hid ((decide (l=m))))))))),[]⟩):Option CT)) l m
  |_,_=>none
theorem RX:zy Tryz.prog 12 (ZC alg):=by
  intro args hp r h
  unfold ZC at h
  split at h
  · cases h;exact fun hn=>ziC _ _ hn
  · cases h
def RV:Know Tryz.prog:=⟨12,ZC,RX⟩
def RU:Know Tryz.prog:=⟨12,fun I=>zA I (ZC I),zf RX⟩
theorem ziL (s b:Str) (hneed:s.length≤140737488355328∧b.length≤100000):Spc Tryz.prog 11 [.v (.one (.p (.str s))),.v (.one (.p (.list .byte b)))] [] (.ret (.tup [(.one (.p (.list .prt ((xM s b).1)))),(.one (.p (.int .i64 ((xM s b).2))))])) []:=by
  obtain⟨hs,hb⟩:=hneed
  have h70:yG s=true→s.length≤70:=fun hm=>by unfold yG at hm;simp at hm;omega
  have hle:=fun h=>Ym (s:=s) (b:=b) h
  have hg:=zeK s b ⟨0,⟨[],[],0,[],0⟩,[],⟨[],[],[],[]⟩,0⟩
  generalize hr:xM s b=r
  unfold xM at hr
  obtain⟨d1,d2⟩:=zcT s b
  rw [d1] at hr hg hle
  rw [d2] at hr
  refine spcG zi mixed Tryz.func11 (by kernel_rfl) { rl:=[0],nr:=[8],keep:=some [0,1,4,5,6,7,8,9]} [XY,XW,XU,XT] (by kernel_rfl) ?_
  intro I X hI hX
  refine zh (let y0:=I.hid (α:=Int) (Prod.snd (qX (zH s) b));.need (I.hid (α:=(Prop)) (LE.le (List.length s) 140737488355328)) (.br (I.bnot (I.hid (α:=Bool) (yG s))) (.fin (.ret (.tup [(.one (.p (.list .prt ([]:List Go.Ab.Prt)))),(.one (.p (.int .i64 5)))])) []) (.need (I.hid (α:=(Prop)) (And (LE.le (List.length s) 1000) (LE.le (List.length b) 100000))) (.br (I.bnot (I.ieq y0 0)) (.fin (.ret (.tup [(.one (.p (.list .prt ([]:List Go.Ab.Prt)))),(.one (.p (.int .i64 y0)))])) []) (.code 0 [1,1,1,1,1,0,1,0] ⟨[(9,(.v (.one (.p (.int .i64 0))))),(8,(.v (.one (.row 0)))),(7,(.v (.one (.p (.int .i64 y0))))),(6,(.v (.one (.p (.list .evt (I.hid (α:=(List Go.Ab.Evt)) (Prod.fst (qX (zH s) b)))))))),(5,(.v (.one (.p (.int .i64 0))))),(4,(.v (.one .nilS))),(0,(.v (.one (.p (.str s))))),(1,(.v (.one (.p (.list .byte b)))))],[(.row .prt 51 ([]:List Go.Ab.Prt))],60,none⟩))))) (by kernel_rfl) ?_
  simp only [zn]
  generalize qX (zH s) b=D at *
  obtain⟨L,k⟩:=D
  (repeat' (first|refine And.intro ?_ ?_|intro _))
  all_goals try(subst hI;(simp only [nrmA,nrmB,nrlB,reduceCtorEq] at *);first
    |done
    |with_reducible exact True.intro
    |omega
    |exact hs
    |exact⟨by have:=h70 ‹_›;omega,by omega⟩
    |(rw [if_pos ‹yG s=false›] at hr;subst hr;first|rfl|exact⟨rfl,rfl⟩)
    |(rw [if_neg (by rw [‹yG s=true›];decide),if_pos ‹¬ k=0›] at hr;subst hr;first|rfl|exact⟨rfl,rfl⟩))
  have hm:yG s=true∧k=0:=by
    subst hI
    (simp only [nrmA,nrmB,nrlB,reduceCtorEq] at *)
    exact⟨by assumption,by assumption⟩
  obtain⟨hm,rfl⟩:=hm
  have hle:=hle (h70 hm)
  rw [hm,if_neg (by decide),if_neg (fun h=>h rfl)] at hr
  clear hm h70 d1 d2
  rw [show I.hid (L,(0:Int)).1=L by subst hI;rfl]
  simp only at hg hle hr
  refine zu hI zi mixed [XY,XW,XU,XT] hX [6,8,9] (fun(g:Nat × List Prt)=>match g with|(i,o)=>i≤L.length∧o=(L.take i).foldl prtS []) (fun(g:Nat × List Prt)=>match g with|(i,o)=>⟨[(6,.v (.one (.p (.list .evt L)))),(8,.v (.one (.row 0))),(9,.v (.one (.p (.int .i64 i))))],[.row .prt 51 o],60,none⟩) (fun(g:Nat × List Prt)=>match g with|(i,o)=>L.length - i) (0,[]) (by kernel_rfl) (by kernel_rfl) ?_ ?_
  · exact⟨Nat.zero_le _,rfl⟩
  rintro⟨i,o⟩ ⟨h1,h2⟩ A hA
  simp only at hA h1 h2
  refine zh (let y0:=I.get (α:=Go.Ab.Evt) L (Go.Ab.Evt.mk (0:Int) (Hd.mk ([]:Str) ([]:Str) (0:Int) ([]:List Fld) (0:Int)) ([]:Str) (Go.Ab.Prt.mk ([]:Str) ([]:Str) ([]:Str) ([]:Str)) (0:Int)) (Nat.cast i);let y1:=I.len (α:=Go.Ab.Prt) (I.app (α:=Go.Ab.Prt) o ([(Go.Ab.Prt.mk (Go.Ab.Prt.name (Go.Ab.Evt.part y0)) (Go.Ab.Prt.file (Go.Ab.Evt.part y0)) (Go.Ab.Prt.type (Go.Ab.Evt.part y0)) (Go.Ab.Prt.bytes (Go.Ab.Evt.part y0)))]:List Go.Ab.Prt));let y2:=I.get (α:=Go.Ab.Prt) (I.app (α:=Go.Ab.Prt) o ([(Go.Ab.Prt.mk (Go.Ab.Prt.name (Go.Ab.Evt.part y0)) (Go.Ab.Prt.file (Go.Ab.Evt.part y0)) (Go.Ab.Prt.type (Go.Ab.Evt.part y0)) (Go.Ab.Prt.bytes (Go.Ab.Evt.part y0)))]:List Go.Ab.Prt)) (Go.Ab.Prt.mk ([]:Str) ([]:Str) ([]:Str) ([]:Str)) (I.sub y1 1);let y3:=I.inb (Nat.cast i) (I.len (α:=Go.Ab.Evt) L);let y6:=I.sub (I.len (α:=Go.Ab.Prt) o) 1;let y4:=I.get (α:=Go.Ab.Prt) o (Go.Ab.Prt.mk ([]:Str) ([]:Str) ([]:Str) ([]:Str)) y6;let y5:=I.inr Go.IntKind.i64 (I.add (Nat.cast i) 1);let y7:=I.nne (I.len (α:=UInt8) (Go.Ab.Evt.bytes y0));let y8:=I.inb y6 (I.len (α:=Go.Ab.Prt) o);.br (I.ilt (Nat.cast i) (I.len (α:=Go.Ab.Evt) L)) (.need y3 (.need y3 (.br (I.ieq (Go.Ab.Evt.kind y0) 5) (.need y3 (.need y3 (.need (I.few (I.add (I.len (α:=Go.Ab.Prt) o) (I.len (α:=Go.Ab.Prt) ([(Go.Ab.Prt.mk (Go.Ab.Prt.name (Go.Ab.Evt.part y0)) (Go.Ab.Prt.file (Go.Ab.Evt.part y0)) (Go.Ab.Prt.type (Go.Ab.Evt.part y0)) (Go.Ab.Prt.bytes (Go.Ab.Evt.part y0)))]:List Go.Ab.Prt))) 100000000) (.need y3 (.need y3 (.br (I.ieq (Go.Ab.Evt.kind y0) 2) (.need (I.inr Go.IntKind.i64 (I.sub y1 1)) (.need y3 (.need y3 (.need (I.inb (I.sub y1 1) y1) (.need y7 (.need (I.inb (I.sub y1 1) y1) (.need y5 (.need (A ⟨[(6,(.v (.one (.p (.list .evt L))))),(8,(.v (.one (.row 0)))),(9,(.v (.one (.p (.int .i64 (I.add (Nat.cast i) 1))))))],[(.row .prt 51 (I.set (α:=Go.Ab.Prt) (I.app (α:=Go.Ab.Prt) o ([(Go.Ab.Prt.mk (Go.Ab.Prt.name (Go.Ab.Evt.part y0)) (Go.Ab.Prt.file (Go.Ab.Evt.part y0)) (Go.Ab.Prt.type (Go.Ab.Evt.part y0)) (Go.Ab.Prt.bytes (Go.Ab.Evt.part y0)))]:List Go.Ab.Prt)) (I.sub y1 1) (Go.Ab.Prt.mk (Go.Ab.Prt.name y2) (Go.Ab.Prt.file y2) (Go.Ab.Prt.type y2) (Go.Ab.Evt.bytes y0))))],60,none⟩) .qed)))))))) (.need y5 (.need (A ⟨[(6,(.v (.one (.p (.list .evt L))))),(8,(.v (.one (.row 0)))),(9,(.v (.one (.p (.int .i64 (I.add (Nat.cast i) 1))))))],[(.row .prt 51 (I.app (α:=Go.Ab.Prt) o ([(Go.Ab.Prt.mk (Go.Ab.Prt.name (Go.Ab.Evt.part y0)) (Go.Ab.Prt.file (Go.Ab.Evt.part y0)) (Go.Ab.Prt.type (Go.Ab.Evt.part y0)) (Go.Ab.Prt.bytes (Go.Ab.Evt.part y0)))]:List Go.Ab.Prt)))],60,none⟩) .qed)))))))) (.need y3 (.need y3 (.br (I.ieq (Go.Ab.Evt.kind y0) 2) (.need (I.inr Go.IntKind.i64 y6) (.need y3 (.need y3 (.need y8 (.need y7 (.need y8 (.need y5 (.need (A ⟨[(6,(.v (.one (.p (.list .evt L))))),(8,(.v (.one (.row 0)))),(9,(.v (.one (.p (.int .i64 (I.add (Nat.cast i) 1))))))],[(.row .prt 51 (I.set (α:=Go.Ab.Prt) o y6 (Go.Ab.Prt.mk (Go.Ab.Prt.name y4) (Go.Ab.Prt.file y4) (Go.Ab.Prt.type y4) (Go.Ab.Evt.bytes y0))))],60,none⟩) .qed)))))))) (.need y5 (.need (A ⟨[(6,(.v (.one (.p (.list .evt L))))),(8,(.v (.one (.row 0)))),(9,(.v (.one (.p (.int .i64 (I.add (Nat.cast i) 1))))))],[(.row .prt 51 o)],60,none⟩) .qed)))))))) (.fin (.ret (.tup [(.one (.p (.list .prt o))),(.one (.p (.int .i64 0)))])) [])) (by kernel_rfl) ?_
  simp only [zn]
  subst hI
  simp only [nrmA,nrmB,nrlB,reduceCtorEq]
  have hlo:=TF (L.take i) []
  rw [← h2,List.length_take,List.length_nil] at hlo
  have hb2:i<L.length→_→_:=fun h k=>Qn h hg k
  have hs2:i<L.length→_:=fun h=>Vb L ⟨0,⟨[],[],0,[],0⟩,[],⟨[],[],[],[]⟩,0⟩ h
  rw [← h2] at hb2 hs2
  have hgo:i<L.length→_:=fun h=>hA (i+1,prtS o (L.getD i ⟨0,⟨[],[],0,[],0⟩,[],⟨[],[],[],[]⟩,0⟩)) ⟨by simp only;omega,by simp only;rw [hs2 h]⟩ (by simp only;omega)
  have hend: ¬ i<L.length→L.foldl prtS []=o:=fun h=>by rw [h2,List.take_of_length_le (by omega)]
  clear hg hs2 hA
  generalize L.getD i ⟨0,⟨[],[],0,[],0⟩,[],⟨[],[],[],[]⟩,0⟩=x at *
  simp only [Int.natCast_add,Int.natCast_one] at hgo
  refine⟨fun c=> ?_,fun c=> ?_⟩
  · have hgo:=hgo (by omega)
    have hb2:=hb2 (by omega)
    by_cases k5:x.kind=5
    · rw [prtS,if_pos k5] at hgo
      (repeat' (first|refine And.intro ?_ ?_|intro _))<;>first|omega|exact True.intro|exact False.elim ‹False›|skip
      all_goals first
        |omega
        |(simp only [List.length_singleton];omega)
        |exact hgo
        |exact absurd k5 ‹_›
    · by_cases k2:x.kind=2
      · obtain⟨z,p,hz,hp,hxb⟩:=hb2 k2
        have hxb:0<x.bytes.length:=by cases hq:x.bytes with|nil=>exact absurd hq hxb|cons _ _=>simp
        subst hz
        rw [show prtS (z++[p]) x=z++[⟨p.name,p.file,p.type,x.bytes⟩] by unfold prtS;rw [if_neg k5,if_pos k2];simp [hp]] at hgo
        have e1:(((z++[p]).length:Int) - 1).toNat=z.length:=by rw [List.length_append,List.length_singleton];omega
        have e2:(z++[p]).getD z.length ⟨[],[],[],[]⟩=p:=by simp
        have e3: ∀ q,(z++[p]).set z.length q=z++[q]:=fun q=>by simp
        simp only [e1,e2,e3,hp]
        simp only [List.length_append,List.length_singleton,List.length_nil]
        clear e1 e2 e3
        rw [List.length_append,List.length_singleton] at hlo
        (repeat' (first|refine And.intro ?_ ?_|intro _))<;>first|omega|exact True.intro|exact False.elim ‹False›|skip
        all_goals first
          |omega
          |exact hgo
          |exact absurd k2 ‹_›
          |exact absurd ‹x.kind=5› k5
      · rw [prtS,if_neg k5,if_neg k2] at hgo
        (repeat' (first|refine And.intro ?_ ?_|intro _))<;>first|omega|exact True.intro|exact False.elim ‹False›|skip
        all_goals first
          |omega
          |exact hgo
          |exact absurd ‹x.kind=5› k5
          |exact absurd ‹x.kind=2› k2
  · have he:=hend (by omega)
    rw [he] at hr
    subst hr
    (repeat' (first|refine And.intro ?_ ?_|intro _))<;>first|omega|exact True.intro|exact False.elim ‹False›|skip
    all_goals first
      |omega
      |rfl
def ZO (I:Alg) (args:List D) (hp:List HO):Option CT:=match args,hp with
  |[.v (.one (.p (.str s))),.v (.one (.p (.list .byte b)))],[]=>(fun(s b:Str)=>(some (.one ⟨I.hid (s.length≤140737488355328∧b.length≤100000),(.ret (.tup [(.one (.p (.list .prt (I.hid ((xM s b).1))))),(.one (.p (.int .i64 (I.hid ((xM s b).2)))))])),[]⟩):Option CT)) s b
  |_,_=>none
theorem Qm:zy Tryz.prog 11 (ZO alg):=by
  intro args hp r h
  unfold ZO at h
  split at h
  · cases h;exact fun hn=>ziL _ _ hn
  · cases h
def Ql:Know Tryz.prog:=⟨11,ZO,Qm⟩
def Qk:Know Tryz.prog:=⟨11,fun I=>zA I (ZO I),zf Qm⟩
end Go.Proofs.YtknaogelmckimaaGreatDoor
namespace Go.Proofs.YtknaogelmckimaaGreatDoor
open Go Go.Sep Go.Ab
set_option maxRecDepth 100000
def EvN (l:List Evt):Prop:=∀ e ∈ l,e.head=hd0
theorem zbB {a b:List Evt} (h:EvN a) (k:EvN b):EvN (a++b):=fun e m=>(List.mem_append.1 m).elim (h e) (k e)
theorem zf6 {e:Evt} (h:e.head=hd0):EvN [e]:=fun x m=>by rw [List.mem_singleton.1 m];exact h
theorem zf7 {o:List Evt} {e:Evt} (h:EvN (o++[e])):EvN (Zm o e):=by
  rcases List.eq_nil_or_concat o with rfl|⟨z,x,rfl⟩
  · exact h
  · rw [List.concat_eq_append] at h ⊢
    rw [yY]
    split
    · exact zbB (fun y m=>h y (by simp [m])) (zf6 rfl)
    · exact h
theorem zdg: ∀ (l o:List Evt),EvN (o++l)→EvN (l.foldl Zm o)
  |[],o,h=>by rw [List.append_nil] at h;exact h
  | e::l,o,h=>by
    rw [List.foldl_cons]
    refine zdg l _ ?_
    rw [show o++e::l=(o++[e])++l by simp] at h
    exact zbB (zf7 fun y m=>h y (List.mem_append_left _ m)) (fun y m=>h y (List.mem_append_right _ m))
theorem zlp {f:Fm} (h:EvN f.out) (c:UInt8):EvN (fmF f c).out:=by
  have h1: ∀ (o:List Evt) (e:Evt),EvN o→e.head=hd0→EvN (o++[e]):=fun o e a b=>zbB a (zf6 b)
  have hb: ∀ g:Fm,EvN g.out→EvN (yD g).out:=fun g k=>by
    unfold yD
    split
    · exact h1 _ _ k rfl
    · split
      · exact h1 _ _ k rfl
      · exact h1 _ _ k rfl
  have hl: ∀ (g:Fm) (s:Str),EvN g.out→EvN (xH g s).out:=fun g s k=>by
    unfold xH
    split
    · exact hb g k
    · split
      · exact h1 _ _ k rfl
      · split
        · exact h1 _ _ k rfl
        · exact k
  unfold fmF
  split
  · unfold yg
    split
    · show EvN (if f.pos=6∧yI f c≠[] then f.out++[evB (yI f c)] else f.out)
      split
      · exact h1 _ _ h rfl
      · exact h
    · show EvN (if f.pos=6 then(if yI f c≠[] then f.out++[evB (yI f c),evO] else f.out++[evO]) else f.out)
      split
      · split
        · rw [show f.out++[evB (yI f c),evO]=f.out++[evB (yI f c)]++[evO] by simp]
          exact h1 _ _ (h1 _ _ h rfl) rfl
        · exact h1 _ _ h rfl
      · exact h
  · split
    · unfold zJ
      split
      · exact h
      · split
        · exact h1 _ _ h rfl
        · split
          · exact h
          · split
            · exact h
            · exact h1 _ _ h rfl
    · split
      · split
        · exact h1 _ _ h rfl
        · exact h
      · split
        · split
          · exact h1 _ _ h rfl
          · split
            · exact hl _ _ h
            · exact h
        · exact h
theorem zfB: ∀ (b:Str) (f:Fm),EvN f.out→EvN (xC f b).out
  |[],f,h=>h
  |c::r,f,h=>zfB r (fmF f c) (zlp h c)
theorem zhw (f:Fm) (b:Str):EvN (zN (zW f b).out):=zdg _ [] (zfB b { f with out:=[]} (fun e m=>by cases m))
end Go.Proofs.YtknaogelmckimaaGreatDoor
namespace Go.Proofs.YtknaogelmckimaaGreatDoor
open Go Go.Sep Go.Ab
set_option maxRecDepth 100000
theorem zjw (s:Str) (hneed:s.length≤140737488355328∧yG s=true):Spc Tryz.prog 7 [.v (.one (.p (.str s)))] [] (.ret (.tup [(.one (.ptr 0 0)),(.one (.p (.int .i64 0)))])) [.abs (.fm ((fm0 s)))]:=zfK s hneed
def Yi (I:Alg) (args:List D) (hp:List HO):Option CT:=match args,hp with
  |[.v (.one (.p (.str s)))],[]=>(fun(s:Str)=>(some (.one ⟨I.hid (s.length≤140737488355328∧yG s=true),(.ret (.tup [(.one (.ptr 0 0)),(.one (.p (.int .i64 0)))])),[.abs (.fm (I.hid ((fm0 s))))]⟩):Option CT)) s
  |_,_=>none
theorem zao:zy Tryz.prog 7 (Yi alg):=by
  intro args hp r h
  unfold Yi at h
  split at h
  · cases h;exact fun hn=>zjw _ hn
  · cases h
def zfG:Know Tryz.prog:=⟨7,Yi,zao⟩
def zfF:Know Tryz.prog:=⟨7,fun I=>zA I (Yi I),zf zao⟩
theorem zjG {l:List Evt} (h:EvN l) (k:l.length≤10000000):fewE l:=⟨by omega,fun e m=>by rw [h e m];decide⟩
theorem zeL {s b:Str} (h:s.length≤70):(xM s b).1.length≤4 * b.length:=by
  have h1:=(Ym (b:=b) h).1
  have h2:=TF (zN (zW (fm0 s) b).out) []
  rw [List.length_nil] at h2
  unfold xM
  split
  · exact Nat.zero_le _
  · split
    · exact Nat.zero_le _
    · simp only;omega
theorem zd6 (s b:Str) (hneed:s.length≤140737488355328∧yG s=true):Spc Tryz.prog 3 [.v (.one (.p (.str s))),.v (.one (.p (.list .byte b)))] [] (.ret (.v (.one (.p (.bool true))))) []:=by
  obtain⟨hs,hm⟩:=hneed
  have hl:s.length≤70:=by unfold yG at hm;simp at hm;omega
  have hI0:=zjD hl
  have hN:=zhw (fm0 s) b
  have hle:=Ym (b:=b) hl
  have hrl:=zeL (b:=b) hl
  obtain⟨d1,d2⟩:=zcT s b
  have hfm:b.length≤9000→fmN0 (fm0 s) b:=fun h=>⟨0,hI0,by omega⟩
  have hfew:b.length≤9000→fewE (zN (zW (fm0 s) b).out):=fun h=>zjG hN (by omega)
  clear hI0 hN
  refine spcG zi mixed Tryz.func3 (by kernel_rfl) { cfgF with fz:=[15],keep:=some [0,1,4,5,6,7,8,9,10,11,12,13,14]} [Yt,Yr,qf,qc,YZ,YX,uY,uX,zfG,zfF,SH,SG,Xq,Xp,Qc,Qb,XY,XW,XU,XT,RV,RU,Ql,Qk] (by kernel_rfl) ?_
  intro I X hI hX
  refine zh (let y0:=I.hid (α:=(List Go.Ab.Prt)) (Prod.fst (xM s b));let y1:=I.hid (α:=(Prop)) (And (LE.le (List.length y0) 100000000) (LE.le (List.length y0) 100000000));let y2:=I.ieq (I.hid (α:=Int) (Prod.snd (xM s b))) (I.hid (α:=Int) (Prod.snd (xM s b)));let y3:=I.hid (α:=Bool) (Decidable.decide (Eq y0 y0));let y4:=I.hid (α:=(List Go.Ab.Evt)) (zN (Go.Ab.Fm.out (zW (I.hid (α:=Go.Ab.Fm) (fm0 s)) b)));let y5:=I.hid (α:=(List Go.Ab.Evt)) (Prod.fst (qX (zH s) b));let y6:=I.ieq (I.hid (α:=Int) (yT (I.hid (α:=Go.Ab.Fm) (zW (I.hid (α:=Go.Ab.Fm) (fm0 s)) b)))) (I.hid (α:=Int) (Prod.snd (qX (zH s) b)));let y7:=I.hid (α:=(Prop)) (And (LE.le (List.length s) 140737488355328) (LE.le (List.length b) 100000));let y8:=I.hid (α:=(Prop)) (And (LE.le (List.length s) 1000000) (LE.le (List.length b) 300000));let y9:=I.hid (α:=(Prop)) (And (LE.le (List.length s) 1000) (LE.le (List.length b) 100000));let y10:=I.bnot (I.hid (α:=Bool) (yG s));let y11:=I.hid (α:=(Prop)) (fmN0 (I.hid (α:=Go.Ab.Fm) (fm0 s)) b);let y12:=I.hid (α:=(Prop)) (LE.le (List.length s) 140737488355328);let y13:=I.hid (α:=Bool) (Decidable.decide (Eq y4 y5));let y14:=I.hid (α:=(Prop)) (And (fewE y4) (fewE y5));.need (I.hid (α:=(Prop)) True) (.br (I.bnot Bool.true) (.fin (.ret (.v (.one (.p (.bool Bool.false))))) []) (.br (I.ilt 9000 (I.len (α:=UInt8) b)) (.fin (.ret (.v (.one (.p (.bool Bool.true))))) []) (.br (I.ilt 300 (I.len (α:=UInt8) s)) (.fin (.ret (.v (.one (.p (.bool Bool.true))))) []) (.need (I.hid (α:=(Prop)) (And (LE.le (List.length s) 140737488355328) (Eq (yG s) Bool.true))) (.need y12 (.need y12 (.br (I.bnot (I.beq (I.hid (α:=Bool) (yG s)) (I.hid (α:=Bool) (yG s)))) (.fin (.ret (.v (.one (.p (.bool Bool.false))))) []) (.br (I.bnot (I.beq (I.ieq 0 5) y10)) (.fin (.ret (.v (.one (.p (.bool Bool.false))))) []) (.br (I.bnot (I.ieq 0 0)) (.br (I.bnot (I.ieq 0 5)) (.fin (.ret (.v (.one (.p (.bool Bool.false))))) []) (.need y8 (.need y7 (.need y1 (.br (I.bnot y3) (.need y1 (.br y3 (.fin (.ret (.v (.one (.p (.bool y2))))) []) (.fin (.ret (.v (.one (.p (.bool Bool.false))))) []))) (.br (I.bnot y2) (.need y1 (.br y3 (.fin (.ret (.v (.one (.p (.bool y2))))) []) (.fin (.ret (.v (.one (.p (.bool Bool.false))))) []))) (.br y10 (.need y1 (.br y3 (.fin (.ret (.v (.one (.p (.bool y2))))) []) (.fin (.ret (.v (.one (.p (.bool Bool.false))))) []))) (.need y11 (.need y9 (.need y14 (.br y13 (.need (I.hid (α:=(Prop)) True) (.fin (.ret (.v (.one (.p (.bool y6))))) [])) (.fin (.ret (.v (.one (.p (.bool Bool.false))))) [])))))))))))) (.need y8 (.need y7 (.need y1 (.br (I.bnot y3) (.need y1 (.br y3 (.fin (.ret (.v (.one (.p (.bool y2))))) []) (.fin (.ret (.v (.one (.p (.bool Bool.false))))) []))) (.br (I.bnot y2) (.need y1 (.br y3 (.fin (.ret (.v (.one (.p (.bool y2))))) []) (.fin (.ret (.v (.one (.p (.bool Bool.false))))) []))) (.br y10 (.need y1 (.br y3 (.fin (.ret (.v (.one (.p (.bool y2))))) []) (.fin (.ret (.v (.one (.p (.bool Bool.false))))) []))) (.need y11 (.need y9 (.need y14 (.br y13 (.need (I.hid (α:=(Prop)) True) (.fin (.ret (.v (.one (.p (.bool y6))))) [])) (.fin (.ret (.v (.one (.p (.bool Bool.false))))) []))))))))))))))))))))) (by kernel_rfl) ?_
  simp only [zn]
  rw [← d1,← d2]
  clear d1 d2
  generalize xM s b=R at *
  generalize fm0 s=F0 at *
  rw [show I.hid F0=F0 by subst hI;rfl,show I.hid (zW F0 b)=zW F0 b by subst hI;rfl]
  generalize zW F0 b=F at *
  generalize zN F.out=J at *
  (repeat' (first|refine And.intro ?_ ?_|intro _))
  all_goals try(subst hI;(simp only [nrmA,nrmB,nrlB,reduceCtorEq] at *);first
    |done
    |with_reducible exact True.intro
    |omega
    |exact⟨by omega,by omega⟩
    |exact⟨hs,hm⟩
    |exact hs
    |exact hfm (by omega)
    |exact⟨hfew (by omega),hfew (by omega)⟩
    |(simp_all;done))
  all_goals trace_state
theorem zjv (s:Str) (hneed:s.length≤140737488355328∧yG s=false):Spc Tryz.prog 7 [.v (.one (.p (.str s)))] [] (.ret (.tup [(.one (.p (.val (.pointer none)))),(.one (.p (.int .i64 5)))])) []:=zfJ s hneed
def Yh (I:Alg) (args:List D) (hp:List HO):Option CT:=match args,hp with
  |[.v (.one (.p (.str s)))],[]=>(fun(s:Str)=>(some (.one ⟨I.hid (s.length≤140737488355328∧yG s=false),(.ret (.tup [(.one (.p (.val (.pointer none)))),(.one (.p (.int .i64 5)))])),[]⟩):Option CT)) s
  |_,_=>none
theorem zan:zy Tryz.prog 7 (Yh alg):=by
  intro args hp r h
  unfold Yh at h
  split at h
  · cases h;exact fun hn=>zjv _ hn
  · cases h
def zfE:Know Tryz.prog:=⟨7,Yh,zan⟩
def zfD:Know Tryz.prog:=⟨7,fun I=>zA I (Yh I),zf zan⟩
theorem zfN (hneed:False):Spc Tryz.prog 16 [.v (.one (.p (.val (.pointer none))))] [] (.ret (.v (.one (.p (.int .i64 0))))) []:=hneed.elim
def sG (I:Alg) (args:List D) (hp:List HO):Option CT:=match args,hp with
  |[.v (.one (.p (.val (.pointer none))))],[]=>(fun(_:Unit)=>(some (.one ⟨I.hid (False),(.ret (.v (.one (.p (.int .i64 0))))),[]⟩):Option CT)) ()
  |_,_=>none
theorem VF:zy Tryz.prog 16 (sG alg):=by
  intro args hp r h
  unfold sG at h
  split at h
  · cases h;exact fun hn=>zfN hn
  · cases h
def zbt:Know Tryz.prog:=⟨16,sG,VF⟩
def zbs:Know Tryz.prog:=⟨16,fun I=>zA I (sG I),zf VF⟩
theorem zd5 (s b:Str) (hneed:s.length≤140737488355328∧yG s=false):Spc Tryz.prog 3 [.v (.one (.p (.str s))),.v (.one (.p (.list .byte b)))] [] (.ret (.v (.one (.p (.bool true))))) []:=by
  obtain⟨hs,hm⟩:=hneed
  have hr:xM s b=([],5):=by unfold xM;rw [if_pos hm]
  refine spcG zi mixed Tryz.func3 (by kernel_rfl) { cfgF with fz:=[15],keep:=some [0,1,4,5,6,7,8,9,10,11,12,13,14]} [Yt,Yr,qf,qc,YZ,YX,uY,uX,zbt,zbs,zfE,zfD,SH,SG,Xq,Xp,Qc,Qb,XY,XW,XU,XT,RV,RU,Ql,Qk] (by kernel_rfl) ?_
  intro I X hI hX
  refine zh (let y0:=I.hid (α:=(List Go.Ab.Prt)) (Prod.fst (xM s b));let y1:=I.hid (α:=(Prop)) (And (LE.le (List.length y0) 100000000) (LE.le (List.length y0) 100000000));let y2:=I.ieq (I.hid (α:=Int) (Prod.snd (xM s b))) (I.hid (α:=Int) (Prod.snd (xM s b)));let y3:=I.hid (α:=Bool) (Decidable.decide (Eq y0 y0));let y4:=I.hid (α:=(List Go.Ab.Evt)) (Prod.fst (qX (zH s) b));let y5:=I.hid (α:=(List Go.Ab.Evt)) ([]:List Go.Ab.Evt);let y6:=I.hid (α:=(Prop)) (And (LE.le (List.length s) 140737488355328) (LE.le (List.length b) 100000));let y7:=I.hid (α:=(Prop)) (And (LE.le (List.length s) 1000000) (LE.le (List.length b) 300000));let y8:=I.hid (α:=(Prop)) (And (LE.le (List.length s) 1000) (LE.le (List.length b) 100000));let y9:=I.bnot (I.hid (α:=Bool) (yG s));let y10:=I.hid (α:=(Prop)) (LE.le (List.length s) 140737488355328);let y11:=I.ieq 0 (I.hid (α:=Int) (Prod.snd (qX (zH s) b)));let y12:=I.hid (α:=Bool) (Decidable.decide (Eq y5 y4));let y13:=I.hid (α:=(Prop)) (And (fewE y5) (fewE y4));.need (I.hid (α:=(Prop)) True) (.br (I.bnot Bool.true) (.fin (.ret (.v (.one (.p (.bool Bool.false))))) []) (.br (I.ilt 9000 (I.len (α:=UInt8) b)) (.fin (.ret (.v (.one (.p (.bool Bool.true))))) []) (.br (I.ilt 300 (I.len (α:=UInt8) s)) (.fin (.ret (.v (.one (.p (.bool Bool.true))))) []) (.need (I.hid (α:=(Prop)) (And (LE.le (List.length s) 140737488355328) (Eq (yG s) Bool.false))) (.need y10 (.need y10 (.br (I.bnot (I.beq (I.hid (α:=Bool) (yG s)) (I.hid (α:=Bool) (yG s)))) (.fin (.ret (.v (.one (.p (.bool Bool.false))))) []) (.br (I.bnot (I.beq (I.ieq 5 5) y9)) (.fin (.ret (.v (.one (.p (.bool Bool.false))))) []) (.br (I.bnot (I.ieq 5 0)) (.br (I.bnot (I.ieq 5 5)) (.fin (.ret (.v (.one (.p (.bool Bool.false))))) []) (.need y7 (.need y6 (.need y1 (.br (I.bnot y3) (.need y1 (.br y3 (.fin (.ret (.v (.one (.p (.bool y2))))) []) (.fin (.ret (.v (.one (.p (.bool Bool.false))))) []))) (.br (I.bnot y2) (.need y1 (.br y3 (.fin (.ret (.v (.one (.p (.bool y2))))) []) (.fin (.ret (.v (.one (.p (.bool Bool.false))))) []))) (.br y9 (.need y1 (.br y3 (.fin (.ret (.v (.one (.p (.bool y2))))) []) (.fin (.ret (.v (.one (.p (.bool Bool.false))))) []))) (.need (I.hid (α:=(Prop)) False) (.need y8 (.need y13 (.br y12 (.need (I.hid (α:=(Prop)) False) (.fin (.ret (.v (.one (.p (.bool y11))))) [])) (.fin (.ret (.v (.one (.p (.bool Bool.false))))) [])))))))))))) (.need y7 (.need y6 (.need y1 (.br (I.bnot y3) (.need y1 (.br y3 (.fin (.ret (.v (.one (.p (.bool y2))))) []) (.fin (.ret (.v (.one (.p (.bool Bool.false))))) []))) (.br (I.bnot y2) (.need y1 (.br y3 (.fin (.ret (.v (.one (.p (.bool y2))))) []) (.fin (.ret (.v (.one (.p (.bool Bool.false))))) []))) (.br y9 (.need y1 (.br y3 (.fin (.ret (.v (.one (.p (.bool y2))))) []) (.fin (.ret (.v (.one (.p (.bool Bool.false))))) []))) (.need (I.hid (α:=(Prop)) False) (.need y8 (.need y13 (.br y12 (.need (I.hid (α:=(Prop)) False) (.fin (.ret (.v (.one (.p (.bool y11))))) [])) (.fin (.ret (.v (.one (.p (.bool Bool.false))))) []))))))))))))))))))))) (by kernel_rfl) ?_
  simp only [zn]
  rw [hr]
  (repeat' (first|refine And.intro ?_ ?_|intro _))
  all_goals try(subst hI;(simp only [nrmA,nrmB,nrlB,reduceCtorEq] at *);first
    |done
    |with_reducible exact True.intro
    |omega
    |exact⟨by omega,by omega⟩
    |exact⟨hs,hm⟩
    |exact hs
    |(simp_all;done))
  all_goals trace_state
theorem formDoes_ (s b:Str) (hneed:s.length≤140737488355328):Spc Tryz.prog 3 [.v (.one (.p (.str s))),.v (.one (.p (.list .byte b)))] [] (.ret (.v (.one (.p (.bool true))))) []:=by
  cases hm:yG s with
  |true=>exact zd6 s b ⟨hneed,hm⟩
  |false=>exact zd5 s b ⟨hneed,hm⟩
end Go.Proofs.YtknaogelmckimaaGreatDoor
