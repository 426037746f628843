/- Texts of this proof, one behind the other: SplC SplS SplD StoB StoN Num TusL TusA TusB TusC TusD. -/
import Derived.Lib.ItoaNum
import Derived.Test.YtcclfkakcgnacaaGreatDoorMd
set_option linter.all false
namespace Go.Proofs.YtcclfkakcgnacaaGreatDoor
open Go Go.Sep Go.Ab
set_option maxRecDepth 100000
theorem hAt_ (l:List Upl) (n id:Int) (hneed:l.length≤1000000):Spc Tryz.prog 35 [.v (.one (.ptr 0 0)),.v (.one (.p (.int .i64 id)))] [.pack [.obj 50 [(.row 1),(.p (.int .i64 n))],.row .upl 67 l]] (.ret (.v (.one (.p (.int .i64 ((ixU l id))))))) [.pack [.obj 50 [(.row 1),(.p (.int .i64 n))],.row .upl 67 l]]:=by
  refine spcG zi mixed Tryz.func35 (by kernel_rfl) { sU with keep:=some [0,1,4,5]} [] (by kernel_rfl) ?_
  intro I X hI hX
  refine zh (.code 0 [1,0,1,0] ⟨[(5,(.v (.one (.p (.int .i64 0))))),(4,(.v (.one (.p (.int .i64 0))))),(0,(.v (.one (.ptr 0 0)))),(1,(.v (.one (.p (.int .i64 id)))))],[(.pack [(.obj 50 [(.row 1),(.p (.int .i64 n))]),(.row .upl 67 l)])],26,none⟩) (by kernel_rfl) ?_
  simp only [zl]
  refine zA hI zi mixed [] hX [0,1,5] (fun(i:Nat)=>i≤l.length∧i≤atU l id) (fun(i:Nat)=>⟨[(0,.v (.one (.ptr 0 0))),(1,.v (.one (.p (.int .i64 id)))),(5,.v (.one (.p (.int .i64 i))))],[.pack [.obj 50 [(.row 1),(.p (.int .i64 n))],.row .upl 67 l]],26,none⟩) (fun(i:Nat)=>l.length - i) 0 (by kernel_rfl) (by kernel_rfl) ?_ ?_
  · exact⟨Nat.zero_le _,Nat.zero_le _⟩
  rintro i ⟨h1,h2⟩ A hA
  refine zh (let y0:=I.inb (Nat.cast i) (I.len (α:=Go.Ab.Upl) l);.br (I.ilt (Nat.cast i) (I.len (α:=Go.Ab.Upl) l)) (.need y0 (.need y0 (.br (I.ieq (Go.Ab.Upl.id (I.get (α:=Go.Ab.Upl) l (Go.Ab.Upl.mk (0:Int) (0:Int) ([]:List UInt8) ([]:List UInt8) (0:Int)) (Nat.cast i))) id) (.fin (.ret (.v (.one (.p (.int .i64 (Nat.cast i)))))) [(.pack [(.obj 50 [(.row 1),(.p (.int .i64 n))]),(.row .upl 67 l)])]) (.need (I.inr Go.IntKind.i64 (I.add (Nat.cast i) 1)) (.need (A ⟨[(0,(.v (.one (.ptr 0 0)))),(1,(.v (.one (.p (.int .i64 id))))),(5,(.v (.one (.p (.int .i64 (I.add (Nat.cast i) 1))))))],[(.pack [(.obj 50 [(.row 1),(.p (.int .i64 n))]),(.row .upl 67 l)])],26,none⟩) .qed))))) (.fin (.ret (.v (.one (.p (.int .i64 (Neg.neg (1:Int))))))) [(.pack [(.obj 50 [(.row 1),(.p (.int .i64 n))]),(.row .upl 67 l)])])) (by kernel_rfl) ?_
  simp only [zl]
  subst hI
  simp only [nrmA,nrmB,nrlB,reduceCtorEq]
  have hx:=fun h=>QW (l:=l) (id:=id) (i:=i) h h2
  have hle:=YL l id
  have e0:(⟨0,0,[],[],0⟩:Upl)=upl0:=rfl
  simp only [e0]
  unfold ixU
  (repeat' (first|refine And.intro ?_ ?_|intro _))<;>first|omega|exact True.intro|exact False.elim ‹False›|skip
  all_goals first
    |(have h3:=hx (by omega);rw [if_pos (by assumption)] at h3;rw [if_pos (by omega),h3])
    |(have h3:=hx (by omega);rw [if_neg (by assumption)] at h3;exact hA (i+1) ⟨by omega,h3⟩ (by omega))
    |(rw [if_neg (by omega)])
def zel (I:Alg) (args:List D) (hp:List HO):Option CT:=match args,hp with
  |[.v (.one (.ptr 0 0)),.v (.one (.p (.int .i64 id)))],[.pack [.obj 50 [(.row 1),(.p (.int .i64 n))],.row .upl 67 l]]=>(fun(l:List Upl) (n id:Int)=>(some (.one ⟨I.hid (l.length≤1000000),(.ret (.v (.one (.p (.int .i64 (I.hid ((ixU l id)))))))),[.pack [.obj 50 [(.row 1),(.p (.int .i64 n))],.row .upl 67 l]]⟩):Option CT)) l n id
  |_,_=>none
theorem zkq:zo Tryz.prog 35 (zel alg):=by
  intro args hp r h
  unfold zel at h
  split at h
  · cases h;exact fun hn=>hAt_ _ _ _ hn
  · cases h
def zbf:Know Tryz.prog:=⟨35,zel,zkq⟩
def zbe:Know Tryz.prog:=⟨35,fun I=>zu I (zel I),zf zkq⟩
theorem zhP (l:List Upl) (n:Int) (hneed:zL l≤1000000∧l.length≤1000000):Spc Tryz.prog 127 [.v (.one (.ptr 0 0))] [.obj 50 [(.row 1),(.p (.int .i64 n))],.row .upl 67 l] (.ret (.v (.one (.p (.int .i64 ((zL l))))))) [.obj 50 [(.row 1),(.p (.int .i64 n))],.row .upl 67 l]:=by
  obtain⟨hu,hl⟩:=hneed
  refine spcG zi mixed Tryz.func127 (by kernel_rfl) { flat:=true,keep:=some [0,2,3,4]} [] (by kernel_rfl) ?_
  intro I X hI hX
  refine zh (.code 0 [1,1,0,1,0] ⟨[(4,(.v (.one (.p (.int .i64 0))))),(3,(.v (.one (.p (.int .i64 0))))),(2,(.v (.one (.p (.int .i64 0))))),(0,(.v (.one (.ptr 0 0))))],[(.obj 50 [(.row 1),(.p (.int .i64 n))]),(.row .upl 67 l)],26,none⟩) (by kernel_rfl) ?_
  simp only [zl]
  refine zA hI zi mixed [] hX [0,3,4] (fun(g:Nat × Int)=>match g with|(i,a)=>i≤l.length∧0≤a∧a+zL (l.drop i)=zL l) (fun(g:Nat × Int)=>match g with|(i,a)=>⟨[(0,.v (.one (.ptr 0 0))),(3,.v (.one (.p (.int .i64 a)))),(4,.v (.one (.p (.int .i64 i))))],[.obj 50 [(.row 1),(.p (.int .i64 n))],.row .upl 67 l],26,none⟩) (fun(g:Nat × Int)=>match g with|(i,a)=>l.length - i) (0,0) (by kernel_rfl) (by kernel_rfl) ?_ ?_
  · exact⟨Nat.zero_le _,Int.le_refl _,by simp⟩
  rintro⟨i,a⟩ ⟨h1,h2,h3⟩ A hA
  simp only at hA
  refine zh (let y0:=I.add a (I.len (α:=UInt8) (Go.Ab.Upl.bytes (I.get (α:=Go.Ab.Upl) l (Go.Ab.Upl.mk (0:Int) (0:Int) ([]:List UInt8) ([]:List UInt8) (0:Int)) (Nat.cast i))));let y1:=I.inb (Nat.cast i) (I.len (α:=Go.Ab.Upl) l);.br (I.ilt (Nat.cast i) (I.len (α:=Go.Ab.Upl) l)) (.need y1 (.need y1 (.need (I.inr Go.IntKind.i64 y0) (.need (I.inr Go.IntKind.i64 (I.add (Nat.cast i) 1)) (.need (A ⟨[(0,(.v (.one (.ptr 0 0)))),(3,(.v (.one (.p (.int .i64 y0))))),(4,(.v (.one (.p (.int .i64 (I.add (Nat.cast i) 1))))))],[(.obj 50 [(.row 1),(.p (.int .i64 n))]),(.row .upl 67 l)],26,none⟩) .qed))))) (.fin (.ret (.v (.one (.p (.int .i64 a))))) [(.obj 50 [(.row 1),(.p (.int .i64 n))]),(.row .upl 67 l)])) (by kernel_rfl) ?_
  simp only [zl]
  subst hI
  simp only [nrmA,nrmB]
  have hd:i<l.length→zL (l.drop i)=(l.getD i ⟨0,0,[],[],0⟩).bytes.length+zL (l.drop (i+1)):=fun h=>by
    rw [List.drop_eq_getElem_cons h];simp [zL,h]
  have hn:=xC (l.drop (i+1))
  have hn0: ¬ i<l.length→zL (l.drop i)=0:=fun h=>by rw [List.drop_of_length_le (by omega)];rfl
  generalize l.getD i ⟨0,0,[],[],0⟩=x at *
  (repeat' (first|refine And.intro ?_ ?_|intro _))<;>first|omega|exact True.intro|exact False.elim ‹False›|skip
  all_goals first
    |(have:=hd (by omega);omega)
    |(have:=hd (by omega);refine hA (i+1,_) ⟨by simp only;omega,by simp only;omega,by simp only;omega⟩ (by simp only;omega))
    |(have:=hn0 (by omega);simp only [show a=zL l by omega])
def Yw (I:Alg) (args:List D) (hp:List HO):Option CT:=match args,hp with
  |[.v (.one (.ptr 0 0))],[.obj 50 [(.row 1),(.p (.int .i64 n))],.row .upl 67 l]=>(fun(l:List Upl) (n:Int)=>(some (.one ⟨I.hid (zL l≤1000000∧l.length≤1000000),(.ret (.v (.one (.p (.int .i64 (I.hid ((zL l)))))))),[.obj 50 [(.row 1),(.p (.int .i64 n))],.row .upl 67 l]⟩):Option CT)) l n
  |_,_=>none
theorem zbc:zo Tryz.prog 127 (Yw alg):=by
  intro args hp r h
  unfold Yw at h
  split at h
  · cases h;exact fun hn=>zhP _ _ hn
  · cases h
def zhO:Know Tryz.prog:=⟨127,Yw,zbc⟩
def zhN:Know Tryz.prog:=⟨127,fun I=>zu I (Yw I),zf zbc⟩
theorem zm3 (l:List Upl) (n:Int) (hneed:zL l≤1000000∧l.length≤1000000):Spc Tryz.prog 127 [.v (.one (.ptr 0 0))] [.pack [.obj 50 [(.row 1),(.p (.int .i64 n))],.row .upl 67 l]] (.ret (.v (.one (.p (.int .i64 ((zL l))))))) [.pack [.obj 50 [(.row 1),(.p (.int .i64 n))],.row .upl 67 l]]:=
  Spc.packed (ex:=[]) (zhP l n hneed) rfl (by simp) rfl
def WR (I:Alg) (args:List D) (hp:List HO):Option CT:=match args,hp with
  |[.v (.one (.ptr 0 0))],[.pack [.obj 50 [(.row 1),(.p (.int .i64 n))],.row .upl 67 l]]=>(fun(l:List Upl) (n:Int)=>(some (.one ⟨I.hid (zL l≤1000000∧l.length≤1000000),(.ret (.v (.one (.p (.int .i64 (I.hid ((zL l)))))))),[.pack [.obj 50 [(.row 1),(.p (.int .i64 n))],.row .upl 67 l]]⟩):Option CT)) l n
  |_,_=>none
theorem zei:zo Tryz.prog 127 (WR alg):=by
  intro args hp r h
  unfold WR at h
  split at h
  · cases h;exact fun hn=>zm3 _ _ hn
  · cases h
def zjI:Know Tryz.prog:=⟨127,WR,zei⟩
def zjH:Know Tryz.prog:=⟨127,fun I=>zu I (WR I),zf zei⟩
theorem zjJ (l:List Upl) (n size:Int) (m:Str) (hneed:zy l n∧n≤1000000∧m.length≤1000000):Spc Tryz.prog 119 [.v (.one (.ptr 0 0)),.v (.one (.p (.int .i64 size))),.v (.one (.p (.str m)))] [.pack [.obj 50 [(.row 1),(.p (.int .i64 n))],.row .upl 67 l]] (.ret (.tup [(.one (.p (.int .i64 ((creI l n size m))))),(.one (.p (.int .i64 ((creC l size m)))))])) [.pack [.obj 50 [(.row 1),(.p (.int .i64 ((creN l n size m))))],.row .upl 67 ((creL l n size m))]]:=by
  obtain⟨hs,hn,hm⟩:=hneed
  have hc:=hs.cnt
  have h0:=hs.n0
  generalize hi:creI l n size m=ri
  generalize he:creC l size m=re
  generalize hl:creL l n size m=rl
  generalize hN:creN l n size m=rn
  refine spcG zi mixed Tryz.func119 (by kernel_rfl) { sU with keep:=some [0,1,2,6,7]} [zb9,zb8,ze0,zeZ] (by kernel_rfl) ?_
  intro I X hI hX
  refine zh (let y0:=I.few (I.add (I.len (α:=Go.Ab.Upl) l) (I.len (α:=Go.Ab.Upl) ([(Go.Ab.Upl.mk (I.add n 1) size m ([]:List UInt8) (0:Int))]:List Go.Ab.Upl))) 100000000;let y1:=I.hid (α:=(Prop)) (LE.le (List.length m) 1000000);.br (I.ilt size (Neg.neg (1:Int))) (.fin (.ret (.tup [(.one (.p (.int .i64 0))),(.one (.p (.int .i64 1)))])) [(.pack [(.obj 50 [(.row 1),(.p (.int .i64 n))]),(.row .upl 67 l)])]) (.br (I.ilt 2000 size) (.fin (.ret (.tup [(.one (.p (.int .i64 0))),(.one (.p (.int .i64 4)))])) [(.pack [(.obj 50 [(.row 1),(.p (.int .i64 n))]),(.row .upl 67 l)])]) (.br (I.ilt 100 (I.len (α:=UInt8) m)) (.fin (.ret (.tup [(.one (.p (.int .i64 0))),(.one (.p (.int .i64 4)))])) [(.pack [(.obj 50 [(.row 1),(.p (.int .i64 n))]),(.row .upl 67 l)])]) (.need y1 (.br (I.bnot (I.hid (α:=Bool) (vG m))) (.fin (.ret (.tup [(.one (.p (.int .i64 0))),(.one (.p (.int .i64 3)))])) [(.pack [(.obj 50 [(.row 1),(.p (.int .i64 n))]),(.row .upl 67 l)])]) (.need y1 (.br (I.bnot (I.seq (I.hid (α:=(List UInt8)) (Go.Lib.trimS m ([32,9]:List UInt8))) m)) (.fin (.ret (.tup [(.one (.p (.int .i64 0))),(.one (.p (.int .i64 3)))])) [(.pack [(.obj 50 [(.row 1),(.p (.int .i64 n))]),(.row .upl 67 l)])]) (.br (I.ile 12 (I.len (α:=Go.Ab.Upl) l)) (.fin (.ret (.tup [(.one (.p (.int .i64 0))),(.one (.p (.int .i64 8)))])) [(.pack [(.obj 50 [(.row 1),(.p (.int .i64 n))]),(.row .upl 67 l)])]) (.need (I.inr Go.IntKind.i64 (I.add n 1)) (.both (.need y0 (.fin (.ret (.tup [(.one (.p (.int .i64 (I.add n 1)))),(.one (.p (.int .i64 0)))])) [(.pack [(.obj 50 [(.row 1),(.p (.int .i64 (I.add n 1)))]),(.row .upl 67 (I.app (α:=Go.Ab.Upl) l ([(Go.Ab.Upl.mk (I.add n 1) size m ([]:List UInt8) (0:Int))]:List Go.Ab.Upl)))])])) (.both (.need y0 (.fin (.ret (.tup [(.one (.p (.int .i64 (I.add n 1)))),(.one (.p (.int .i64 0)))])) [(.pack [(.obj 50 [(.row 1),(.p (.int .i64 (I.add n 1)))]),(.row .upl 67 (I.app (α:=Go.Ab.Upl) l ([(Go.Ab.Upl.mk (I.add n 1) size m ([]:List UInt8) (0:Int))]:List Go.Ab.Upl)))])])) (.need y0 (.fin (.ret (.tup [(.one (.p (.int .i64 (I.add n 1)))),(.one (.p (.int .i64 0)))])) [(.pack [(.obj 50 [(.row 1),(.p (.int .i64 (I.add n 1)))]),(.row .upl 67 (I.app (α:=Go.Ab.Upl) l ([(Go.Ab.Upl.mk (I.add n 1) size m ([]:List UInt8) (0:Int))]:List Go.Ab.Upl)))])]))))))))))))) (by kernel_rfl) ?_
  simp only [zl]
  subst hI
  simp only [nrmA,nrmB,nrlB,reduceCtorEq,HO.pack.injEq,HO.obj.injEq]
  unfold creI at hi
  unfold creL at hl
  unfold creN at hN
  rw [he] at hi hl hN
  unfold creC at he
  simp only [List.length_cons,List.length_nil]
  (repeat' (first|refine And.intro ?_ ?_|intro _))<;>first|omega|exact True.intro|exact False.elim ‹False›|skip
  all_goals((repeat(first|rewrite [if_pos (by first|omega|assumption|(simp only [*,or_self,or_true,true_or,or_false,false_or,not_true_eq_false,not_false_eq_true,Bool.false_eq_true,Bool.true_eq_false,and_self,and_true,true_and];done)|(simp only [*];omega)|(simp [*];done)|(simp [*];omega))] at he|rewrite [if_neg (by first|omega|assumption|(simp only [*,or_self,or_true,true_or,or_false,false_or,not_true_eq_false,not_false_eq_true,Bool.false_eq_true,Bool.true_eq_false,and_self,and_true,true_and];done)|(simp only [*];omega)|(simp [*];done)|(simp [*];omega))] at he));subst he;((repeat(first|rewrite [if_pos (by first|omega|assumption|(simp only [*,or_self,or_true,true_or,or_false,false_or,not_true_eq_false,not_false_eq_true,Bool.false_eq_true,Bool.true_eq_false,and_self,and_true,true_and];done)|(simp only [*];omega)|(simp [*];done)|(simp [*];omega))] at hi|rewrite [if_neg (by first|omega|assumption|(simp only [*,or_self,or_true,true_or,or_false,false_or,not_true_eq_false,not_false_eq_true,Bool.false_eq_true,Bool.true_eq_false,and_self,and_true,true_and];done)|(simp only [*];omega)|(simp [*];done)|(simp [*];omega))] at hi)));((repeat(first|rewrite [if_pos (by first|omega|assumption|(simp only [*,or_self,or_true,true_or,or_false,false_or,not_true_eq_false,not_false_eq_true,Bool.false_eq_true,Bool.true_eq_false,and_self,and_true,true_and];done)|(simp only [*];omega)|(simp [*];done)|(simp [*];omega))] at hl|rewrite [if_neg (by first|omega|assumption|(simp only [*,or_self,or_true,true_or,or_false,false_or,not_true_eq_false,not_false_eq_true,Bool.false_eq_true,Bool.true_eq_false,and_self,and_true,true_and];done)|(simp only [*];omega)|(simp [*];done)|(simp [*];omega))] at hl)));((repeat(first|rewrite [if_pos (by first|omega|assumption|(simp only [*,or_self,or_true,true_or,or_false,false_or,not_true_eq_false,not_false_eq_true,Bool.false_eq_true,Bool.true_eq_false,and_self,and_true,true_and];done)|(simp only [*];omega)|(simp [*];done)|(simp [*];omega))] at hN|rewrite [if_neg (by first|omega|assumption|(simp only [*,or_self,or_true,true_or,or_false,false_or,not_true_eq_false,not_false_eq_true,Bool.false_eq_true,Bool.true_eq_false,and_self,and_true,true_and];done)|(simp only [*];omega)|(simp [*];done)|(simp [*];omega))] at hN)));subst hi;subst hl;subst hN;first|rfl|omega)
def qX (I:Alg) (args:List D) (hp:List HO):Option CT:=match args,hp with
  |[.v (.one (.ptr 0 0)),.v (.one (.p (.int .i64 size))),.v (.one (.p (.str m)))],[.pack [.obj 50 [(.row 1),(.p (.int .i64 n))],.row .upl 67 l]]=>(fun(l:List Upl) (n size:Int) (m:Str)=>(some (.one ⟨I.hid (zy l n∧n≤1000000∧m.length≤1000000),(.ret (.tup [(.one (.p (.int .i64 (I.hid ((creI l n size m)))))),(.one (.p (.int .i64 (I.hid ((creC l size m))))))])),[.pack [.obj 50 [(.row 1),(.p (.int .i64 (I.hid ((creN l n size m)))))],.row .upl 67 (I.hid ((creL l n size m)))]]⟩):Option CT)) l n size m
  |_,_=>none
theorem TQ:zo Tryz.prog 119 (qX alg):=by
  intro args hp r h
  unfold qX at h
  split at h
  · cases h;exact fun hn=>zjJ _ _ _ _ hn
  · cases h
def hCreate__k:Know Tryz.prog:=⟨119,qX,TQ⟩
def hCreate__l:Know Tryz.prog:=⟨119,fun I=>zu I (qX I),zf TQ⟩
theorem zjK (l:List Upl) (n id off:Int) (b:Str) (hneed:zy l n∧b.length≤1000000):Spc Tryz.prog 96 [.v (.one (.ptr 0 0)),.v (.one (.p (.int .i64 id))),.v (.one (.p (.int .i64 off))),.v (.one (.p (.list .byte b)))] [.pack [.obj 50 [(.row 1),(.p (.int .i64 n))],.row .upl 67 l]] (.ret (.v (.one (.p (.int .i64 ((appC l id off b))))))) [.pack [.obj 50 [(.row 1),(.p (.int .i64 n))],.row .upl 67 ((appL l id off b))]]:=by
  obtain⟨hs,hb⟩:=hneed
  have hf:=xU hs
  have hle:=YL l id
  generalize he:appC l id off b=re
  generalize hl:appL l id off b=rl
  refine spcG zi mixed Tryz.func96 (by kernel_rfl) { sU with bare:=[127],keep:=some [0,1,2,3,8,9,10,11,12]} [zbf,zbe,zhO,zhN,zjI,zjH] (by kernel_rfl) ?_
  intro I X hI hX
  refine zh (let y0:=I.get (α:=Go.Ab.Upl) l (Go.Ab.Upl.mk (0:Int) (0:Int) ([]:List UInt8) ([]:List UInt8) (0:Int)) (I.hid (α:=Int) (ixU l id));let y1:=I.inb (I.hid (α:=Int) (ixU l id)) (I.len (α:=Go.Ab.Upl) l);let y6:=I.len (α:=UInt8) (Go.Ab.Upl.bytes y0);let y2:=I.add y6 (I.len (α:=UInt8) b);let y3:=I.set (α:=Go.Ab.Upl) l (I.hid (α:=Int) (ixU l id)) (Go.Ab.Upl.mk (Go.Ab.Upl.id y0) (Go.Ab.Upl.size y0) (Go.Ab.Upl.note y0) (I.app (α:=UInt8) (Go.Ab.Upl.bytes y0) b) (Go.Ab.Upl.sent y0));let y4:=I.add (I.hid (α:=Int) (zL l)) (I.len (α:=UInt8) b);let y5:=I.hid (α:=(Prop)) (And (LE.le (zL l) (1000000:Int)) (LE.le (List.length l) 1000000));.need (I.hid (α:=(Prop)) (LE.le (List.length l) 1000000)) (.br (I.ilt (I.hid (α:=Int) (ixU l id)) 0) (.fin (.ret (.v (.one (.p (.int .i64 10))))) [(.pack [(.obj 50 [(.row 1),(.p (.int .i64 n))]),(.row .upl 67 l)])]) (.need y1 (.need y1 (.need y1 (.br (I.bnot (I.ieq (Go.Ab.Upl.sent y0) 0)) (.fin (.ret (.v (.one (.p (.int .i64 19))))) [(.pack [(.obj 50 [(.row 1),(.p (.int .i64 n))]),(.row .upl 67 l)])]) (.br (I.bnot (I.ieq off y6)) (.fin (.ret (.v (.one (.p (.int .i64 17))))) [(.pack [(.obj 50 [(.row 1),(.p (.int .i64 n))]),(.row .upl 67 l)])]) (.need (I.inr Go.IntKind.i64 y2) (.br (I.ilt 2000 y2) (.fin (.ret (.v (.one (.p (.int .i64 4))))) [(.pack [(.obj 50 [(.row 1),(.p (.int .i64 n))]),(.row .upl 67 l)])]) (.need y1 (.br (I.ile 0 (Go.Ab.Upl.size y0)) (.need (I.inr Go.IntKind.i64 y2) (.need y1 (.br (I.ilt (Go.Ab.Upl.size y0) y2) (.fin (.ret (.v (.one (.p (.int .i64 4))))) [(.pack [(.obj 50 [(.row 1),(.p (.int .i64 n))]),(.row .upl 67 l)])]) (.need y5 (.need (I.inr Go.IntKind.i64 y4) (.br (I.ilt 6000 y4) (.fin (.ret (.v (.one (.p (.int .i64 16))))) [(.pack [(.obj 50 [(.row 1),(.p (.int .i64 n))]),(.row .upl 67 l)])]) (.need y1 (.need (I.few y6 140737488355328) (.need (I.few y2 140737488355328) (.need y1 (.fin (.ret (.v (.one (.p (.int .i64 0))))) [(.pack [(.obj 50 [(.row 1),(.p (.int .i64 n))]),(.row .upl 67 y3)])]))))))))))) (.need y5 (.need (I.inr Go.IntKind.i64 y4) (.br (I.ilt 6000 y4) (.fin (.ret (.v (.one (.p (.int .i64 16))))) [(.pack [(.obj 50 [(.row 1),(.p (.int .i64 n))]),(.row .upl 67 l)])]) (.need y1 (.need (I.few y6 140737488355328) (.need (I.few y2 140737488355328) (.need y1 (.fin (.ret (.v (.one (.p (.int .i64 0))))) [(.pack [(.obj 50 [(.row 1),(.p (.int .i64 n))]),(.row .upl 67 y3)])]))))))))))))))))))) (by kernel_rfl) ?_
  simp only [zl]
  subst hI
  simp only [nrmA,nrmB,nrlB,reduceCtorEq,HO.pack.injEq,HO.obj.injEq]
  unfold appL at hl
  rw [he] at hl
  unfold appC at he
  unfold zS upl0 at he hl
  have hx:atU l id<l.length→_:=fun h=>hs.each _ (wB h)
  unfold zS upl0 at hx
  have hu0:=xC l
  by_cases hk:atU l id<l.length
  · rw [ZC hk,Int.toNat_natCast]
    have hx:=hx hk
    generalize l.getD (atU l id) ⟨0,0,[],[],0⟩=x at *
    have hb1:=hx.bl
    have hb2:=hx.s1
    have hb3:=hx.s2
    (try simp only [List.nil_append,List.length_append,List.length_nil])
    (repeat' (first|refine And.intro ?_ ?_|intro _))<;>first|omega|exact True.intro|exact False.elim ‹False›|skip
    all_goals first
      |exact hf.1
      |exact hf.2
      |((repeat(first|rewrite [if_pos (by first|omega|assumption|(simp only [*,or_self,or_true,true_or,or_false,false_or,not_true_eq_false,not_false_eq_true,Bool.false_eq_true,Bool.true_eq_false,and_self,and_true,true_and];done)|(simp only [*];omega)|(simp [*];done)|(simp [*];omega))] at he|rewrite [if_neg (by first|omega|assumption|(simp only [*,or_self,or_true,true_or,or_false,false_or,not_true_eq_false,not_false_eq_true,Bool.false_eq_true,Bool.true_eq_false,and_self,and_true,true_and];done)|(simp only [*];omega)|(simp [*];done)|(simp [*];omega))] at he));subst he;((repeat(first|rewrite [if_pos (by first|omega|assumption|(simp only [*,or_self,or_true,true_or,or_false,false_or,not_true_eq_false,not_false_eq_true,Bool.false_eq_true,Bool.true_eq_false,and_self,and_true,true_and];done)|(simp only [*];omega)|(simp [*];done)|(simp [*];omega))] at hl|rewrite [if_neg (by first|omega|assumption|(simp only [*,or_self,or_true,true_or,or_false,false_or,not_true_eq_false,not_false_eq_true,Bool.false_eq_true,Bool.true_eq_false,and_self,and_true,true_and];done)|(simp only [*];omega)|(simp [*];done)|(simp [*];omega))] at hl)));subst hl;first|rfl|omega)
  · rw [ZE hk]
    (repeat' (first|refine And.intro ?_ ?_|intro _))<;>first|omega|exact True.intro|exact False.elim ‹False›|skip
    all_goals first
      |exact hf.1
      |exact hf.2
      |((repeat(first|rewrite [if_pos (by first|omega|assumption|(simp only [*,or_self,or_true,true_or,or_false,false_or,not_true_eq_false,not_false_eq_true,Bool.false_eq_true,Bool.true_eq_false,and_self,and_true,true_and];done)|(simp only [*];omega)|(simp [*];done)|(simp [*];omega))] at he|rewrite [if_neg (by first|omega|assumption|(simp only [*,or_self,or_true,true_or,or_false,false_or,not_true_eq_false,not_false_eq_true,Bool.false_eq_true,Bool.true_eq_false,and_self,and_true,true_and];done)|(simp only [*];omega)|(simp [*];done)|(simp [*];omega))] at he));subst he;((repeat(first|rewrite [if_pos (by first|omega|assumption|(simp only [*,or_self,or_true,true_or,or_false,false_or,not_true_eq_false,not_false_eq_true,Bool.false_eq_true,Bool.true_eq_false,and_self,and_true,true_and];done)|(simp only [*];omega)|(simp [*];done)|(simp [*];omega))] at hl|rewrite [if_neg (by first|omega|assumption|(simp only [*,or_self,or_true,true_or,or_false,false_or,not_true_eq_false,not_false_eq_true,Bool.false_eq_true,Bool.true_eq_false,and_self,and_true,true_and];done)|(simp only [*];omega)|(simp [*];done)|(simp [*];omega))] at hl)));subst hl;first|rfl|omega)
def qY (I:Alg) (args:List D) (hp:List HO):Option CT:=match args,hp with
  |[.v (.one (.ptr 0 0)),.v (.one (.p (.int .i64 id))),.v (.one (.p (.int .i64 off))),.v (.one (.p (.list .byte b)))],[.pack [.obj 50 [(.row 1),(.p (.int .i64 n))],.row .upl 67 l]]=>(fun(l:List Upl) (n id off:Int) (b:Str)=>(some (.one ⟨I.hid (zy l n∧b.length≤1000000),(.ret (.v (.one (.p (.int .i64 (I.hid ((appC l id off b)))))))),[.pack [.obj 50 [(.row 1),(.p (.int .i64 n))],.row .upl 67 (I.hid ((appL l id off b)))]]⟩):Option CT)) l n id off b
  |_,_=>none
theorem TR:zo Tryz.prog 96 (qY alg):=by
  intro args hp r h
  unfold qY at h
  split at h
  · cases h;exact fun hn=>zjK _ _ _ _ _ hn
  · cases h
def hAppend__k:Know Tryz.prog:=⟨96,qY,TR⟩
def hAppend__l:Know Tryz.prog:=⟨96,fun I=>zu I (qY I),zf TR⟩
theorem zhR (l:List Upl) (n id size:Int) (hneed:zy l n):Spc Tryz.prog 120 [.v (.one (.ptr 0 0)),.v (.one (.p (.int .i64 id))),.v (.one (.p (.int .i64 size)))] [.pack [.obj 50 [(.row 1),(.p (.int .i64 n))],.row .upl 67 l]] (.ret (.v (.one (.p (.int .i64 ((decC l id size))))))) [.pack [.obj 50 [(.row 1),(.p (.int .i64 n))],.row .upl 67 ((decL l id size))]]:=by
  have hs:=hneed
  have hf:=xU hs
  have hle:=YL l id
  generalize he:decC l id size=re
  generalize hl:decL l id size=rl
  refine spcG zi mixed Tryz.func120 (by kernel_rfl) { sU with keep:=some [0,1,2,6,7]} [zbf,zbe] (by kernel_rfl) ?_
  intro I X hI hX
  refine zh (let y0:=I.get (α:=Go.Ab.Upl) l (Go.Ab.Upl.mk (0:Int) (0:Int) ([]:List UInt8) ([]:List UInt8) (0:Int)) (I.hid (α:=Int) (ixU l id));let y1:=I.inb (I.hid (α:=Int) (ixU l id)) (I.len (α:=Go.Ab.Upl) l);.need (I.hid (α:=(Prop)) (LE.le (List.length l) 1000000)) (.br (I.ilt (I.hid (α:=Int) (ixU l id)) 0) (.fin (.ret (.v (.one (.p (.int .i64 10))))) [(.pack [(.obj 50 [(.row 1),(.p (.int .i64 n))]),(.row .upl 67 l)])]) (.need y1 (.need y1 (.br (I.ile 0 (Go.Ab.Upl.size y0)) (.fin (.ret (.v (.one (.p (.int .i64 18))))) [(.pack [(.obj 50 [(.row 1),(.p (.int .i64 n))]),(.row .upl 67 l)])]) (.br (I.ilt size 0) (.fin (.ret (.v (.one (.p (.int .i64 1))))) [(.pack [(.obj 50 [(.row 1),(.p (.int .i64 n))]),(.row .upl 67 l)])]) (.br (I.ilt 2000 size) (.fin (.ret (.v (.one (.p (.int .i64 4))))) [(.pack [(.obj 50 [(.row 1),(.p (.int .i64 n))]),(.row .upl 67 l)])]) (.need y1 (.need y1 (.br (I.ilt size (I.len (α:=UInt8) (Go.Ab.Upl.bytes y0))) (.fin (.ret (.v (.one (.p (.int .i64 4))))) [(.pack [(.obj 50 [(.row 1),(.p (.int .i64 n))]),(.row .upl 67 l)])]) (.need y1 (.need y1 (.fin (.ret (.v (.one (.p (.int .i64 0))))) [(.pack [(.obj 50 [(.row 1),(.p (.int .i64 n))]),(.row .upl 67 (I.set (α:=Go.Ab.Upl) l (I.hid (α:=Int) (ixU l id)) (Go.Ab.Upl.mk (Go.Ab.Upl.id y0) size (Go.Ab.Upl.note y0) (Go.Ab.Upl.bytes y0) (Go.Ab.Upl.sent y0))))])]))))))))))))) (by kernel_rfl) ?_
  simp only [zl]
  subst hI
  simp only [nrmA,nrmB,nrlB,reduceCtorEq,HO.pack.injEq,HO.obj.injEq]
  unfold decL at hl
  rw [he] at hl
  unfold decC at he
  unfold zS upl0 at he hl
  by_cases hk:atU l id<l.length
  · rw [ZC hk,Int.toNat_natCast]
    generalize l.getD (atU l id) ⟨0,0,[],[],0⟩=x at *
    (repeat' (first|refine And.intro ?_ ?_|intro _))<;>first|omega|exact True.intro|exact False.elim ‹False›|skip
    all_goals first
      |exact hf.1
      |((repeat(first|rewrite [if_pos (by first|omega|assumption|(simp only [*,or_self,or_true,true_or,or_false,false_or,not_true_eq_false,not_false_eq_true,Bool.false_eq_true,Bool.true_eq_false,and_self,and_true,true_and];done)|(simp only [*];omega)|(simp [*];done)|(simp [*];omega))] at he|rewrite [if_neg (by first|omega|assumption|(simp only [*,or_self,or_true,true_or,or_false,false_or,not_true_eq_false,not_false_eq_true,Bool.false_eq_true,Bool.true_eq_false,and_self,and_true,true_and];done)|(simp only [*];omega)|(simp [*];done)|(simp [*];omega))] at he));subst he;((repeat(first|rewrite [if_pos (by first|omega|assumption|(simp only [*,or_self,or_true,true_or,or_false,false_or,not_true_eq_false,not_false_eq_true,Bool.false_eq_true,Bool.true_eq_false,and_self,and_true,true_and];done)|(simp only [*];omega)|(simp [*];done)|(simp [*];omega))] at hl|rewrite [if_neg (by first|omega|assumption|(simp only [*,or_self,or_true,true_or,or_false,false_or,not_true_eq_false,not_false_eq_true,Bool.false_eq_true,Bool.true_eq_false,and_self,and_true,true_and];done)|(simp only [*];omega)|(simp [*];done)|(simp [*];omega))] at hl)));subst hl;first|rfl|omega)
  · rw [ZE hk]
    (repeat' (first|refine And.intro ?_ ?_|intro _))<;>first|omega|exact True.intro|exact False.elim ‹False›|skip
    all_goals first
      |exact hf.1
      |((repeat(first|rewrite [if_pos (by first|omega|assumption|(simp only [*,or_self,or_true,true_or,or_false,false_or,not_true_eq_false,not_false_eq_true,Bool.false_eq_true,Bool.true_eq_false,and_self,and_true,true_and];done)|(simp only [*];omega)|(simp [*];done)|(simp [*];omega))] at he|rewrite [if_neg (by first|omega|assumption|(simp only [*,or_self,or_true,true_or,or_false,false_or,not_true_eq_false,not_false_eq_true,Bool.false_eq_true,Bool.true_eq_false,and_self,and_true,true_and];done)|(simp only [*];omega)|(simp [*];done)|(simp [*];omega))] at he));subst he;((repeat(first|rewrite [if_pos (by first|omega|assumption|(simp only [*,or_self,or_true,true_or,or_false,false_or,not_true_eq_false,not_false_eq_true,Bool.false_eq_true,Bool.true_eq_false,and_self,and_true,true_and];done)|(simp only [*];omega)|(simp [*];done)|(simp [*];omega))] at hl|rewrite [if_neg (by first|omega|assumption|(simp only [*,or_self,or_true,true_or,or_false,false_or,not_true_eq_false,not_false_eq_true,Bool.false_eq_true,Bool.true_eq_false,and_self,and_true,true_and];done)|(simp only [*];omega)|(simp [*];done)|(simp [*];omega))] at hl)));subst hl;first|rfl|omega)
def sO (I:Alg) (args:List D) (hp:List HO):Option CT:=match args,hp with
  |[.v (.one (.ptr 0 0)),.v (.one (.p (.int .i64 id))),.v (.one (.p (.int .i64 size)))],[.pack [.obj 50 [(.row 1),(.p (.int .i64 n))],.row .upl 67 l]]=>(fun(l:List Upl) (n id size:Int)=>(some (.one ⟨I.hid (zy l n),(.ret (.v (.one (.p (.int .i64 (I.hid ((decC l id size)))))))),[.pack [.obj 50 [(.row 1),(.p (.int .i64 n))],.row .upl 67 (I.hid ((decL l id size)))]]⟩):Option CT)) l n id size
  |_,_=>none
theorem Uf:zo Tryz.prog 120 (sO alg):=by
  intro args hp r h
  unfold sO at h
  split at h
  · cases h;exact fun hn=>zhR _ _ _ _ hn
  · cases h
def hDeclare__k:Know Tryz.prog:=⟨120,sO,Uf⟩
def hDeclare__l:Know Tryz.prog:=⟨120,fun I=>zu I (sO I),zf Uf⟩
theorem zlq (l:List Upl) (n id:Int) (hneed:zy l n):Spc Tryz.prog 122 [.v (.one (.ptr 0 0)),.v (.one (.p (.int .i64 id)))] [.pack [.obj 50 [(.row 1),(.p (.int .i64 n))],.row .upl 67 l]] (.ret (.v (.one (.p (.int .i64 ((begC l id))))))) [.pack [.obj 50 [(.row 1),(.p (.int .i64 n))],.row .upl 67 ((begL l id))]]:=by
  have hs:=hneed
  have hf:=xU hs
  have hle:=YL l id
  generalize he:begC l id=re
  generalize hl:begL l id=rl
  refine spcG zi mixed Tryz.func122 (by kernel_rfl) { sU with keep:=some [0,1,4,5]} [zbf,zbe] (by kernel_rfl) ?_
  intro I X hI hX
  refine zh (let y0:=I.get (α:=Go.Ab.Upl) l (Go.Ab.Upl.mk (0:Int) (0:Int) ([]:List UInt8) ([]:List UInt8) (0:Int)) (I.hid (α:=Int) (ixU l id));let y1:=I.inb (I.hid (α:=Int) (ixU l id)) (I.len (α:=Go.Ab.Upl) l);.need (I.hid (α:=(Prop)) (LE.le (List.length l) 1000000)) (.br (I.ilt (I.hid (α:=Int) (ixU l id)) 0) (.fin (.ret (.v (.one (.p (.int .i64 10))))) [(.pack [(.obj 50 [(.row 1),(.p (.int .i64 n))]),(.row .upl 67 l)])]) (.need y1 (.need y1 (.br (I.bnot (I.ieq (Go.Ab.Upl.sent y0) 0)) (.fin (.ret (.v (.one (.p (.int .i64 19))))) [(.pack [(.obj 50 [(.row 1),(.p (.int .i64 n))]),(.row .upl 67 l)])]) (.need y1 (.need y1 (.need y1 (.need y1 (.br (I.bnot (I.ieq (Go.Ab.Upl.size y0) (I.len (α:=UInt8) (Go.Ab.Upl.bytes y0)))) (.fin (.ret (.v (.one (.p (.int .i64 14))))) [(.pack [(.obj 50 [(.row 1),(.p (.int .i64 n))]),(.row .upl 67 l)])]) (.need y1 (.need y1 (.fin (.ret (.v (.one (.p (.int .i64 0))))) [(.pack [(.obj 50 [(.row 1),(.p (.int .i64 n))]),(.row .upl 67 (I.set (α:=Go.Ab.Upl) l (I.hid (α:=Int) (ixU l id)) (Go.Ab.Upl.mk (Go.Ab.Upl.id y0) (Go.Ab.Upl.size y0) (Go.Ab.Upl.note y0) (Go.Ab.Upl.bytes y0) (1:Int))))])]))))))))))))) (by kernel_rfl) ?_
  simp only [zl]
  subst hI
  simp only [nrmA,nrmB,nrlB,reduceCtorEq,HO.pack.injEq,HO.obj.injEq]
  unfold begL at hl
  rw [he] at hl
  unfold begC at he
  unfold zS upl0 at he hl
  by_cases hk:atU l id<l.length
  · rw [ZC hk,Int.toNat_natCast]
    generalize l.getD (atU l id) ⟨0,0,[],[],0⟩=x at *
    (repeat' (first|refine And.intro ?_ ?_|intro _))<;>first|omega|exact True.intro|exact False.elim ‹False›|skip
    all_goals first
      |exact hf.1
      |((repeat(first|rewrite [if_pos (by first|omega|assumption|(simp only [*,or_self,or_true,true_or,or_false,false_or,not_true_eq_false,not_false_eq_true,Bool.false_eq_true,Bool.true_eq_false,and_self,and_true,true_and];done)|(simp only [*];omega)|(simp [*];done)|(simp [*];omega))] at he|rewrite [if_neg (by first|omega|assumption|(simp only [*,or_self,or_true,true_or,or_false,false_or,not_true_eq_false,not_false_eq_true,Bool.false_eq_true,Bool.true_eq_false,and_self,and_true,true_and];done)|(simp only [*];omega)|(simp [*];done)|(simp [*];omega))] at he));subst he;((repeat(first|rewrite [if_pos (by first|omega|assumption|(simp only [*,or_self,or_true,true_or,or_false,false_or,not_true_eq_false,not_false_eq_true,Bool.false_eq_true,Bool.true_eq_false,and_self,and_true,true_and];done)|(simp only [*];omega)|(simp [*];done)|(simp [*];omega))] at hl|rewrite [if_neg (by first|omega|assumption|(simp only [*,or_self,or_true,true_or,or_false,false_or,not_true_eq_false,not_false_eq_true,Bool.false_eq_true,Bool.true_eq_false,and_self,and_true,true_and];done)|(simp only [*];omega)|(simp [*];done)|(simp [*];omega))] at hl)));subst hl;first|rfl|omega)
  · rw [ZE hk]
    (repeat' (first|refine And.intro ?_ ?_|intro _))<;>first|omega|exact True.intro|exact False.elim ‹False›|skip
    all_goals first
      |exact hf.1
      |((repeat(first|rewrite [if_pos (by first|omega|assumption|(simp only [*,or_self,or_true,true_or,or_false,false_or,not_true_eq_false,not_false_eq_true,Bool.false_eq_true,Bool.true_eq_false,and_self,and_true,true_and];done)|(simp only [*];omega)|(simp [*];done)|(simp [*];omega))] at he|rewrite [if_neg (by first|omega|assumption|(simp only [*,or_self,or_true,true_or,or_false,false_or,not_true_eq_false,not_false_eq_true,Bool.false_eq_true,Bool.true_eq_false,and_self,and_true,true_and];done)|(simp only [*];omega)|(simp [*];done)|(simp [*];omega))] at he));subst he;((repeat(first|rewrite [if_pos (by first|omega|assumption|(simp only [*,or_self,or_true,true_or,or_false,false_or,not_true_eq_false,not_false_eq_true,Bool.false_eq_true,Bool.true_eq_false,and_self,and_true,true_and];done)|(simp only [*];omega)|(simp [*];done)|(simp [*];omega))] at hl|rewrite [if_neg (by first|omega|assumption|(simp only [*,or_self,or_true,true_or,or_false,false_or,not_true_eq_false,not_false_eq_true,Bool.false_eq_true,Bool.true_eq_false,and_self,and_true,true_and];done)|(simp only [*];omega)|(simp [*];done)|(simp [*];omega))] at hl)));subst hl;first|rfl|omega)
def Yx (I:Alg) (args:List D) (hp:List HO):Option CT:=match args,hp with
  |[.v (.one (.ptr 0 0)),.v (.one (.p (.int .i64 id)))],[.pack [.obj 50 [(.row 1),(.p (.int .i64 n))],.row .upl 67 l]]=>(fun(l:List Upl) (n id:Int)=>(some (.one ⟨I.hid (zy l n),(.ret (.v (.one (.p (.int .i64 (I.hid ((begC l id)))))))),[.pack [.obj 50 [(.row 1),(.p (.int .i64 n))],.row .upl 67 (I.hid ((begL l id)))]]⟩):Option CT)) l n id
  |_,_=>none
theorem zbd:zo Tryz.prog 122 (Yx alg):=by
  intro args hp r h
  unfold Yx at h
  split at h
  · cases h;exact fun hn=>zlq _ _ _ hn
  · cases h
def hBegin__k:Know Tryz.prog:=⟨122,Yx,zbd⟩
def hBegin__l:Know Tryz.prog:=⟨122,fun I=>zu I (Yx I),zf zbd⟩
theorem zn6 (l:List Upl) (n id:Int) (hneed:zy l n):Spc Tryz.prog 123 [.v (.one (.ptr 0 0)),.v (.one (.p (.int .i64 id)))] [.pack [.obj 50 [(.row 1),(.p (.int .i64 n))],.row .upl 67 l]] (.ret (.v (.one (.p (.int .i64 ((endC l id))))))) [.pack [.obj 50 [(.row 1),(.p (.int .i64 n))],.row .upl 67 ((endL l id))]]:=by
  have hs:=hneed
  have hf:=xU hs
  have hle:=YL l id
  generalize he:endC l id=re
  generalize hl:endL l id=rl
  refine spcG zi mixed Tryz.func123 (by kernel_rfl) { sU with keep:=some [0,1,4,5]} [zbf,zbe] (by kernel_rfl) ?_
  intro I X hI hX
  refine zh (let y0:=I.get (α:=Go.Ab.Upl) l (Go.Ab.Upl.mk (0:Int) (0:Int) ([]:List UInt8) ([]:List UInt8) (0:Int)) (I.hid (α:=Int) (ixU l id));let y1:=I.inb (I.hid (α:=Int) (ixU l id)) (I.len (α:=Go.Ab.Upl) l);.need (I.hid (α:=(Prop)) (LE.le (List.length l) 1000000)) (.br (I.ilt (I.hid (α:=Int) (ixU l id)) 0) (.fin (.ret (.v (.one (.p (.int .i64 10))))) [(.pack [(.obj 50 [(.row 1),(.p (.int .i64 n))]),(.row .upl 67 l)])]) (.need y1 (.need y1 (.br (I.bnot (I.ieq (Go.Ab.Upl.sent y0) 1)) (.fin (.ret (.v (.one (.p (.int .i64 19))))) [(.pack [(.obj 50 [(.row 1),(.p (.int .i64 n))]),(.row .upl 67 l)])]) (.need y1 (.need y1 (.fin (.ret (.v (.one (.p (.int .i64 0))))) [(.pack [(.obj 50 [(.row 1),(.p (.int .i64 n))]),(.row .upl 67 (I.set (α:=Go.Ab.Upl) l (I.hid (α:=Int) (ixU l id)) (Go.Ab.Upl.mk (Go.Ab.Upl.id y0) (Go.Ab.Upl.size y0) (Go.Ab.Upl.note y0) (Go.Ab.Upl.bytes y0) (2:Int))))])])))))))) (by kernel_rfl) ?_
  simp only [zl]
  subst hI
  simp only [nrmA,nrmB,nrlB,reduceCtorEq,HO.pack.injEq,HO.obj.injEq]
  unfold endL at hl
  rw [he] at hl
  unfold endC at he
  unfold zS upl0 at he hl
  by_cases hk:atU l id<l.length
  · rw [ZC hk,Int.toNat_natCast]
    generalize l.getD (atU l id) ⟨0,0,[],[],0⟩=x at *
    (repeat' (first|refine And.intro ?_ ?_|intro _))<;>first|omega|exact True.intro|exact False.elim ‹False›|skip
    all_goals first
      |exact hf.1
      |((repeat(first|rewrite [if_pos (by first|omega|assumption|(simp only [*,or_self,or_true,true_or,or_false,false_or,not_true_eq_false,not_false_eq_true,Bool.false_eq_true,Bool.true_eq_false,and_self,and_true,true_and];done)|(simp only [*];omega)|(simp [*];done)|(simp [*];omega))] at he|rewrite [if_neg (by first|omega|assumption|(simp only [*,or_self,or_true,true_or,or_false,false_or,not_true_eq_false,not_false_eq_true,Bool.false_eq_true,Bool.true_eq_false,and_self,and_true,true_and];done)|(simp only [*];omega)|(simp [*];done)|(simp [*];omega))] at he));subst he;((repeat(first|rewrite [if_pos (by first|omega|assumption|(simp only [*,or_self,or_true,true_or,or_false,false_or,not_true_eq_false,not_false_eq_true,Bool.false_eq_true,Bool.true_eq_false,and_self,and_true,true_and];done)|(simp only [*];omega)|(simp [*];done)|(simp [*];omega))] at hl|rewrite [if_neg (by first|omega|assumption|(simp only [*,or_self,or_true,true_or,or_false,false_or,not_true_eq_false,not_false_eq_true,Bool.false_eq_true,Bool.true_eq_false,and_self,and_true,true_and];done)|(simp only [*];omega)|(simp [*];done)|(simp [*];omega))] at hl)));subst hl;first|rfl|omega)
  · rw [ZE hk]
    (repeat' (first|refine And.intro ?_ ?_|intro _))<;>first|omega|exact True.intro|exact False.elim ‹False›|skip
    all_goals first
      |exact hf.1
      |((repeat(first|rewrite [if_pos (by first|omega|assumption|(simp only [*,or_self,or_true,true_or,or_false,false_or,not_true_eq_false,not_false_eq_true,Bool.false_eq_true,Bool.true_eq_false,and_self,and_true,true_and];done)|(simp only [*];omega)|(simp [*];done)|(simp [*];omega))] at he|rewrite [if_neg (by first|omega|assumption|(simp only [*,or_self,or_true,true_or,or_false,false_or,not_true_eq_false,not_false_eq_true,Bool.false_eq_true,Bool.true_eq_false,and_self,and_true,true_and];done)|(simp only [*];omega)|(simp [*];done)|(simp [*];omega))] at he));subst he;((repeat(first|rewrite [if_pos (by first|omega|assumption|(simp only [*,or_self,or_true,true_or,or_false,false_or,not_true_eq_false,not_false_eq_true,Bool.false_eq_true,Bool.true_eq_false,and_self,and_true,true_and];done)|(simp only [*];omega)|(simp [*];done)|(simp [*];omega))] at hl|rewrite [if_neg (by first|omega|assumption|(simp only [*,or_self,or_true,true_or,or_false,false_or,not_true_eq_false,not_false_eq_true,Bool.false_eq_true,Bool.true_eq_false,and_self,and_true,true_and];done)|(simp only [*];omega)|(simp [*];done)|(simp [*];omega))] at hl)));subst hl;first|rfl|omega)
def Qw (I:Alg) (args:List D) (hp:List HO):Option CT:=match args,hp with
  |[.v (.one (.ptr 0 0)),.v (.one (.p (.int .i64 id)))],[.pack [.obj 50 [(.row 1),(.p (.int .i64 n))],.row .upl 67 l]]=>(fun(l:List Upl) (n id:Int)=>(some (.one ⟨I.hid (zy l n),(.ret (.v (.one (.p (.int .i64 (I.hid ((endC l id)))))))),[.pack [.obj 50 [(.row 1),(.p (.int .i64 n))],.row .upl 67 (I.hid ((endL l id)))]]⟩):Option CT)) l n id
  |_,_=>none
theorem zhQ:zo Tryz.prog 123 (Qw alg):=by
  intro args hp r h
  unfold Qw at h
  split at h
  · cases h;exact fun hn=>zn6 _ _ _ hn
  · cases h
def hEnd__k:Know Tryz.prog:=⟨123,Qw,zhQ⟩
def hEnd__l:Know Tryz.prog:=⟨123,fun I=>zu I (Qw I),zf zhQ⟩
theorem zm4 (l:List Upl) (n id:Int) (hneed:zy l n):Spc Tryz.prog 121 [.v (.one (.ptr 0 0)),.v (.one (.p (.int .i64 id)))] [.pack [.obj 50 [(.row 1),(.p (.int .i64 n))],.row .upl 67 l]] (.ret (.v (.one (.p (.int .i64 ((droC l id))))))) [.pack [.obj 50 [(.row 1),(.p (.int .i64 n))],.row .upl 67 ((droL l id))]]:=by
  have hs:=hneed
  have hf:=xU hs
  have hle:=YL l id
  have hcn:=hs.cnt
  generalize he:droC l id=re
  generalize hl:droL l id=rl
  refine spcG zi mixed Tryz.func121 (by kernel_rfl) { sU with keep:=some [0,1,4,5,6]} [zbf,zbe] (by kernel_rfl) ?_
  intro I X hI hX
  refine zh (let y1:=I.cut (α:=Go.Ab.Upl) l 0 (I.hid (α:=Int) (ixU l id));let y2:=I.add (I.hid (α:=Int) (ixU l id)) 1;let y4:=I.cut (α:=Go.Ab.Upl) l y2 (I.len (α:=Go.Ab.Upl) l);let y0:=I.few (I.add (I.len (α:=Go.Ab.Upl) y1) (I.len (α:=Go.Ab.Upl) y4)) 100000000;let y3:=I.cutb y2 (I.len (α:=Go.Ab.Upl) l) (I.len (α:=Go.Ab.Upl) l);let y5:=I.few (I.len (α:=Go.Ab.Upl) y1) 100000000;let y6:=I.cutb 0 (I.hid (α:=Int) (ixU l id)) (I.len (α:=Go.Ab.Upl) l);.need (I.hid (α:=(Prop)) (LE.le (List.length l) 1000000)) (.br (I.ilt (I.hid (α:=Int) (ixU l id)) 0) (.fin (.ret (.v (.one (.p (.int .i64 10))))) [(.pack [(.obj 50 [(.row 1),(.p (.int .i64 n))]),(.row .upl 67 l)])]) (.need (I.inr Go.IntKind.i64 y2) (.both (.need y6 (.both (.need y5 (.need y3 (.need y0 (.fin (.ret (.v (.one (.p (.int .i64 0))))) [(.pack [(.obj 50 [(.row 1),(.p (.int .i64 n))]),(.row .upl 67 (I.app (α:=Go.Ab.Upl) y1 y4))])])))) (.need y3 (.need y5 (.need y0 (.fin (.ret (.v (.one (.p (.int .i64 0))))) [(.pack [(.obj 50 [(.row 1),(.p (.int .i64 n))]),(.row .upl 67 (I.app (α:=Go.Ab.Upl) y1 y4))])])))))) (.need y3 (.need y6 (.need y5 (.need y0 (.fin (.ret (.v (.one (.p (.int .i64 0))))) [(.pack [(.obj 50 [(.row 1),(.p (.int .i64 n))]),(.row .upl 67 (I.app (α:=Go.Ab.Upl) y1 y4))])]))))))))) (by kernel_rfl) ?_
  simp only [zl]
  subst hI
  simp only [nrmA,nrmB,nrlB,reduceCtorEq,HO.pack.injEq,HO.obj.injEq]
  unfold droC at he
  by_cases hk:atU l id<l.length
  · rw [ZC hk]
    have e1:((atU l id:Int)+1).toNat=atU l id+1:=by omega
    have e2:(l.drop (atU l id+1)).take (l.length - (atU l id+1))=l.drop (atU l id+1):=List.take_of_length_le (by rw [List.length_drop];exact Nat.le_refl _)
    have e3:l.take (atU l id)++l.drop (atU l id+1)=rl:=by rw [← hl];unfold droL;exact(List.eraseIdx_eq_take_drop_succ l _).symm
    rw [e1,e2,Int.toNat_natCast]
    simp only [List.length_take,List.length_drop]
    (repeat' (first|refine And.intro ?_ ?_|intro _))<;>first|omega|exact True.intro|exact False.elim ‹False›|skip
    all_goals first
      |exact hf.1
      |exact e3
      |((repeat(first|rewrite [if_pos (by first|omega|assumption|(simp only [*,or_self,or_true,true_or,or_false,false_or,not_true_eq_false,not_false_eq_true,Bool.false_eq_true,Bool.true_eq_false,and_self,and_true,true_and];done)|(simp only [*];omega)|(simp [*];done)|(simp [*];omega))] at he|rewrite [if_neg (by first|omega|assumption|(simp only [*,or_self,or_true,true_or,or_false,false_or,not_true_eq_false,not_false_eq_true,Bool.false_eq_true,Bool.true_eq_false,and_self,and_true,true_and];done)|(simp only [*];omega)|(simp [*];done)|(simp [*];omega))] at he));subst he;rfl)
  · rw [ZE hk]
    (repeat' (first|refine And.intro ?_ ?_|intro _))<;>first|omega|exact True.intro|exact False.elim ‹False›|skip
    all_goals first
      |exact hf.1
      |((repeat(first|rewrite [if_pos (by first|omega|assumption|(simp only [*,or_self,or_true,true_or,or_false,false_or,not_true_eq_false,not_false_eq_true,Bool.false_eq_true,Bool.true_eq_false,and_self,and_true,true_and];done)|(simp only [*];omega)|(simp [*];done)|(simp [*];omega))] at he|rewrite [if_neg (by first|omega|assumption|(simp only [*,or_self,or_true,true_or,or_false,false_or,not_true_eq_false,not_false_eq_true,Bool.false_eq_true,Bool.true_eq_false,and_self,and_true,true_and];done)|(simp only [*];omega)|(simp [*];done)|(simp [*];omega))] at he));subst he;rfl)
      |(rw [← hl];unfold droL;rw [List.eraseIdx_of_length_le (by omega)])
def WS (I:Alg) (args:List D) (hp:List HO):Option CT:=match args,hp with
  |[.v (.one (.ptr 0 0)),.v (.one (.p (.int .i64 id)))],[.pack [.obj 50 [(.row 1),(.p (.int .i64 n))],.row .upl 67 l]]=>(fun(l:List Upl) (n id:Int)=>(some (.one ⟨I.hid (zy l n),(.ret (.v (.one (.p (.int .i64 (I.hid ((droC l id)))))))),[.pack [.obj 50 [(.row 1),(.p (.int .i64 n))],.row .upl 67 (I.hid ((droL l id)))]]⟩):Option CT)) l n id
  |_,_=>none
theorem zej:zo Tryz.prog 121 (WS alg):=by
  intro args hp r h
  unfold WS at h
  split at h
  · cases h;exact fun hn=>zm4 _ _ _ hn
  · cases h
def hDrop__k:Know Tryz.prog:=⟨121,WS,zej⟩
def hDrop__l:Know Tryz.prog:=⟨121,fun I=>zu I (WS I),zf zej⟩
theorem znk (l:List Upl) (hneed:l.length≤1000000∧∀ u ∈ l,u.bytes.length≤1000000):Spc Tryz.prog 118 [.v (.one (.row 0))] [.row .upl 67 l] (.ret (.v (.one (.row 1)))) [.row .upl 67 l,.row .upl 67 l]:=by
  obtain⟨hl,hb⟩:=hneed
  refine spcG zi mixed Tryz.func118 (by kernel_rfl) { nr:=[3],keep:=some [0,2,3,4,5,6]} [] (by kernel_rfl) ?_
  intro I X hI hX
  refine zh (.code 0 [1,1,0,1,0] ⟨[(4,(.v (.one (.p (.int .i64 0))))),(3,(.v (.one (.row 1)))),(2,(.v (.one .nilS))),(0,(.v (.one (.row 0))))],[(.row .upl 67 l),(.row .upl 67 ([]:List Go.Ab.Upl))],30,none⟩) (by kernel_rfl) ?_
  simp only [zl]
  refine zA hI zi mixed [] hX [0,3,4] (fun(g:Nat × List Upl)=>match g with|(i,o)=>i≤l.length∧o=l.take i) (fun(g:Nat × List Upl)=>match g with|(i,o)=>⟨[(0,.v (.one (.row 0))),(3,.v (.one (.row 1))),(4,.v (.one (.p (.int .i64 i))))],[.row .upl 67 l,.row .upl 67 o],30,none⟩) (fun(g:Nat × List Upl)=>match g with|(i,o)=>l.length - i) (0,[]) (by kernel_rfl) (by kernel_rfl) ?_ ?_
  · exact⟨Nat.zero_le _,rfl⟩
  rintro⟨i,o⟩ ⟨h1,h2⟩ A hA
  simp only at hA
  refine zh (let y0:=I.get (α:=Go.Ab.Upl) l (Go.Ab.Upl.mk (0:Int) (0:Int) ([]:List UInt8) ([]:List UInt8) (0:Int)) (Nat.cast i);let y1:=I.inb (Nat.cast i) (I.len (α:=Go.Ab.Upl) l);.br (I.ilt (Nat.cast i) (I.len (α:=Go.Ab.Upl) l)) (.need y1 (.need y1 (.need y1 (.need y1 (.need (I.few (I.len (α:=UInt8) (Go.Ab.Upl.bytes y0)) 140737488355328) (.need (I.few (I.add (I.len (α:=Go.Ab.Upl) o) (I.len (α:=Go.Ab.Upl) ([(Go.Ab.Upl.mk (Go.Ab.Upl.id y0) (Go.Ab.Upl.size y0) (Go.Ab.Upl.note y0) (Go.Ab.Upl.bytes y0) (Go.Ab.Upl.sent y0))]:List Go.Ab.Upl))) 100000000) (.need (I.inr Go.IntKind.i64 (I.add (Nat.cast i) 1)) (.need (A ⟨[(0,(.v (.one (.row 0)))),(3,(.v (.one (.row 1)))),(4,(.v (.one (.p (.int .i64 (I.add (Nat.cast i) 1))))))],[(.row .upl 67 l),(.row .upl 67 (I.app (α:=Go.Ab.Upl) o ([(Go.Ab.Upl.mk (Go.Ab.Upl.id y0) (Go.Ab.Upl.size y0) (Go.Ab.Upl.note y0) (Go.Ab.Upl.bytes y0) (Go.Ab.Upl.sent y0))]:List Go.Ab.Upl)))],30,none⟩) .qed)))))))) (.fin (.ret (.v (.one (.row 1)))) [(.row .upl 67 l),(.row .upl 67 o)])) (by kernel_rfl) ?_
  simp only [zl]
  subst hI
  simp only [nrmA,nrmB,nrlB,reduceCtorEq]
  have hy:i<l.length→l.take (i+1)=l.take i++[l.getD i ⟨0,0,[],[],0⟩]:=fun h=>by rw [List.take_succ_eq_append_getElem h];simp [h]
  have hm:i<l.length→l.getD i ⟨0,0,[],[],0⟩ ∈ l:=fun h=>by rw [show l.getD i ⟨0,0,[],[],0⟩=l[i] by simp [h]];exact List.getElem_mem h
  have hw: ¬ i<l.length→o=l:=fun h=>by rw [h2,List.take_of_length_le (by omega)]
  have hol:o.length≤i:=by rw [h2,List.length_take];omega
  refine⟨fun c=> ?_,fun c=>hw (by omega)⟩
  have hy:=hy (by omega)
  have hm:=hb _ (hm (by omega))
  generalize l.getD i ⟨0,0,[],[],0⟩=x at *
  simp only [List.length_cons,List.length_nil]
  (repeat' (first|refine And.intro ?_ ?_|intro _))<;>first|omega|exact True.intro|exact False.elim ‹False›|skip
  all_goals first
    |exact hA (i+1,_) ⟨by simp only;omega,by simp only;rw [hy,h2]⟩ (by simp only;omega)
def WZ (I:Alg) (args:List D) (hp:List HO):Option CT:=match args,hp with
  |[.v (.one (.row 0))],[.row .upl 67 l]=>(fun(l:List Upl)=>(some (.one ⟨I.hid (l.length≤1000000∧∀ u ∈ l,u.bytes.length≤1000000),(.ret (.v (.one (.row 1)))),[.row .upl 67 l,.row .upl 67 l]⟩):Option CT)) l
  |_,_=>none
theorem zeM:zo Tryz.prog 118 (WZ alg):=by
  intro args hp r h
  unfold WZ at h
  split at h
  · cases h;exact fun hn=>znk _ hn
  · cases h
def zjY:Know Tryz.prog:=⟨118,WZ,zeM⟩
def zjX:Know Tryz.prog:=⟨118,fun I=>zu I (WZ I),zf zeM⟩
theorem zm5 (l:List Upl) (n:Int) (hneed:zy l n):Spc Tryz.prog 90 [.v (.one (.ptr 0 0))] [.pack [.obj 50 [(.row 1),(.p (.int .i64 n))],.row .upl 67 l]] (.ret (.v (.one (.ptr 1 0)))) [.pack [.obj 50 [(.row 1),(.p (.int .i64 n))],.row .upl 67 l],.pack [.obj 50 [(.row 1),(.p (.int .i64 n))],.row .upl 67 l]]:=by
  have hf:=xU hneed
  refine spcG zi mixed Tryz.func90 (by kernel_rfl) { sU with keep:=some [0,2]} [zjY,zjX] (by kernel_rfl) ?_
  intro I X hI hX
  refine zh (let y0:=I.hid (α:=(Prop)) (And (LE.le (List.length l) 1000000) (∀ (u:Upl),u ∈ l→List.length u.bytes≤1000000));.both (.both (.need y0 (.fin (.ret (.v (.one (.ptr 1 0)))) [(.pack [(.obj 50 [(.row 1),(.p (.int .i64 n))]),(.row .upl 67 l)]),(.pack [(.obj 50 [(.row 1),(.p (.int .i64 n))]),(.row .upl 67 l)])])) (.need y0 (.fin (.ret (.v (.one (.ptr 1 0)))) [(.pack [(.obj 50 [(.row 1),(.p (.int .i64 n))]),(.row .upl 67 l)]),(.pack [(.obj 50 [(.row 1),(.p (.int .i64 n))]),(.row .upl 67 l)])]))) (.need y0 (.fin (.ret (.v (.one (.ptr 1 0)))) [(.pack [(.obj 50 [(.row 1),(.p (.int .i64 n))]),(.row .upl 67 l)]),(.pack [(.obj 50 [(.row 1),(.p (.int .i64 n))]),(.row .upl 67 l)])]))) (by kernel_rfl) ?_
  simp only [zl]
  subst hI
  simp only [nrmA,nrmB,nrlB,reduceCtorEq,HO.pack.injEq,HO.obj.injEq]
  have hb:l.length≤1000000∧∀ u ∈ l,u.bytes.length≤1000000:=⟨hf.1,fun u hu=>Nat.le_trans (hneed.each u hu).bl (by decide)⟩
  exact⟨⟨hb,hb⟩,hb⟩
def WT (I:Alg) (args:List D) (hp:List HO):Option CT:=match args,hp with
  |[.v (.one (.ptr 0 0))],[.pack [.obj 50 [(.row 1),(.p (.int .i64 n))],.row .upl 67 l]]=>(fun(l:List Upl) (n:Int)=>(some (.one ⟨I.hid (zy l n),(.ret (.v (.one (.ptr 1 0)))),[.pack [.obj 50 [(.row 1),(.p (.int .i64 n))],.row .upl 67 l],.pack [.obj 50 [(.row 1),(.p (.int .i64 n))],.row .upl 67 l]]⟩):Option CT)) l n
  |_,_=>none
theorem zek:zo Tryz.prog 90 (WT alg):=by
  intro args hp r h
  unfold WT at h
  split at h
  · cases h;exact fun hn=>zm5 _ _ hn
  · cases h
def hCopy__k:Know Tryz.prog:=⟨90,WT,zek⟩
def hCopy__l:Know Tryz.prog:=⟨90,fun I=>zu I (WT I),zf zek⟩
end Go.Proofs.YtcclfkakcgnacaaGreatDoor
namespace Go.Proofs.YtcclfkakcgnacaaGreatDoor
open Go Go.Sep Go.Ab
set_option maxRecDepth 100000
theorem zf6 {a b:Upl} (h1:a.id=b.id) (h2:a.size=b.size) (h3:a.note=b.note) (h4:a.sent=b.sent) (h5:a.bytes=b.bytes):a=b:=by
  cases a;cases b;simp_all
theorem Yr {l m:List Upl} {i:Nat} (h1:i<l.length) (h2:i<m.length):(decide (l.drop i=m.drop i))=(decide (l.getD i ⟨0,0,[],[],0⟩=m.getD i ⟨0,0,[],[],0⟩)&&decide (l.drop (i+1)=m.drop (i+1))):=by
  have e1:l.getD i ⟨0,0,[],[],0⟩=l[i]:=by simp [h1]
  have e2:m.getD i ⟨0,0,[],[],0⟩=m[i]:=by simp [h2]
  rw [e1,e2,Bool.eq_iff_iff,Bool.and_eq_true,decide_eq_true_iff,decide_eq_true_iff,decide_eq_true_iff,List.drop_eq_getElem_cons h1,List.drop_eq_getElem_cons h2,List.cons.injEq]
set_option maxHeartbeats 4000000 in
theorem zml (l m:List Upl) (hneed:l.length≤1000000∧m.length≤1000000):Spc Tryz.prog 14 [.v (.one (.row 0)),.v (.one (.row 1))] [.row .upl 67 l,.row .upl 67 m] (.ret (.v (.one (.p (.bool ((decide (l=m)))))))) [.row .upl 67 l,.row .upl 67 m]:=by
  obtain⟨hl,hm⟩:=hneed
  generalize hr:decide (l=m)=r
  refine spcG zi mixed Tryz.func14 (by kernel_rfl) { keep:=some [0,1,4,5]} [yO,yN] (by kernel_rfl) ?_
  intro I X hI hX
  refine zh (.br (I.bnot (I.ieq (I.len (α:=Go.Ab.Upl) l) (I.len (α:=Go.Ab.Upl) m))) (.fin (.ret (.v (.one (.p (.bool Bool.false))))) [(.row .upl 67 l),(.row .upl 67 m)]) (.code 0 [1,1,0,1,0] ⟨[(5,(.v (.one (.p (.int .i64 0))))),(4,(.v (.one (.p (.val (.bool .false)))))),(0,(.v (.one (.row 0)))),(1,(.v (.one (.row 1))))],[(.row .upl 67 l),(.row .upl 67 m)],81,none⟩)) (by kernel_rfl) ?_
  simp only [zl]
  refine⟨fun c1=> ?_,fun c1=> ?_⟩
  · subst hI
    simp only [nrmA,nrmB] at c1
    simp only [nrmA,nrmB]
    rw [← hr]
    exact(decide_eq_false fun e=>c1 (by rw [e])).symm
  have hlm:l.length=m.length:=by
    subst hI
    simp only [nrmA,nrmB] at c1
    omega
  refine zA hI zi mixed [yO,yN] hX [0,1,5] (fun(i:Nat)=>i≤l.length∧r=decide (l.drop i=m.drop i)) (fun(i:Nat)=>⟨[(0,.v (.one (.row 0))),(1,.v (.one (.row 1))),(5,.v (.one (.p (.int .i64 i))))],[.row .upl 67 l,.row .upl 67 m],81,none⟩) (fun(i:Nat)=>l.length - i) 0 (by kernel_rfl) (by kernel_rfl) ?_ ?_
  · exact⟨Nat.zero_le _,hr.symm⟩
  rintro i ⟨h1,h2⟩ A hA
  refine zh (let y0:=I.get (α:=Go.Ab.Upl) l (Go.Ab.Upl.mk (0:Int) (0:Int) ([]:List UInt8) ([]:List UInt8) (0:Int)) (Nat.cast i);let y1:=I.get (α:=Go.Ab.Upl) m (Go.Ab.Upl.mk (0:Int) (0:Int) ([]:List UInt8) ([]:List UInt8) (0:Int)) (Nat.cast i);let y2:=I.inb (Nat.cast i) (I.len (α:=Go.Ab.Upl) l);let y3:=I.inb (Nat.cast i) (I.len (α:=Go.Ab.Upl) m);.br (I.ilt (Nat.cast i) (I.len (α:=Go.Ab.Upl) l)) (.need y2 (.need y2 (.need y3 (.need y3 (.br (I.bnot (I.ieq (Go.Ab.Upl.id y0) (Go.Ab.Upl.id y1))) (.fin (.ret (.v (.one (.p (.bool Bool.false))))) [(.row .upl 67 l),(.row .upl 67 m)]) (.need y2 (.need y2 (.need y3 (.need y3 (.br (I.bnot (I.ieq (Go.Ab.Upl.size y0) (Go.Ab.Upl.size y1))) (.fin (.ret (.v (.one (.p (.bool Bool.false))))) [(.row .upl 67 l),(.row .upl 67 m)]) (.need y2 (.need y2 (.need y3 (.need y3 (.br (I.bnot (I.seq (Go.Ab.Upl.note y0) (Go.Ab.Upl.note y1))) (.fin (.ret (.v (.one (.p (.bool Bool.false))))) [(.row .upl 67 l),(.row .upl 67 m)]) (.need y2 (.need y2 (.need y3 (.need y3 (.br (I.bnot (I.ieq (Go.Ab.Upl.sent y0) (Go.Ab.Upl.sent y1))) (.fin (.ret (.v (.one (.p (.bool Bool.false))))) [(.row .upl 67 l),(.row .upl 67 m)]) (.need y2 (.need y2 (.need y3 (.need y3 (.need (I.hid (α:=(Prop)) True) (.br (I.bnot (I.hid (α:=Bool) (BEq.beq (Go.Ab.Upl.bytes y0) (Go.Ab.Upl.bytes y1)))) (.fin (.ret (.v (.one (.p (.bool Bool.false))))) [(.row .upl 67 l),(.row .upl 67 m)]) (.need (I.inr Go.IntKind.i64 (I.add (Nat.cast i) 1)) (.need (A ⟨[(0,(.v (.one (.row 0)))),(1,(.v (.one (.row 1)))),(5,(.v (.one (.p (.int .i64 (I.add (Nat.cast i) 1))))))],[(.row .upl 67 l),(.row .upl 67 m)],81,none⟩) .qed)))))))))))))))))))))))))))) (.fin (.ret (.v (.one (.p (.bool Bool.true))))) [(.row .upl 67 l),(.row .upl 67 m)])) (by kernel_rfl) ?_
  simp only [zl]
  subst hI
  simp only [nrmA,nrmB,nrlB,reduceCtorEq]
  have hd:i<l.length→_:=fun h=>Yr (l:=l) (m:=m) (i:=i) h (by omega)
  have hend: ¬ i<l.length→r=true:=fun h=>by
    rw [h2,List.drop_of_length_le (by omega),List.drop_of_length_le (by omega)];simp
  generalize l.getD i ⟨0,0,[],[],0⟩=x at *
  generalize m.getD i ⟨0,0,[],[],0⟩=y at *
  have hx: ¬ x=y→i<l.length→r=false:=fun h hi=>by rw [h2,hd hi,decide_eq_false h,Bool.false_and]
  have hy:x=y→i<l.length→r=decide (l.drop (i+1)=m.drop (i+1)):=fun h hi=>by rw [h2,hd hi,decide_eq_true h,Bool.true_and]
  (repeat' (first|refine And.intro ?_ ?_|intro _))<;>first|omega|exact True.intro|exact False.elim ‹False›|skip
  all_goals first
    |(exact(hx (by rintro rfl;simp_all) (by omega)).symm)
    |(rw [hx (by rintro rfl;simp_all) (by omega)])
    |exact hA (i+1) ⟨by omega,hy (zf6 (by assumption) (by assumption) (by assumption) (by assumption) (by assumption)) (by omega)⟩ (by omega)
    |(rw [hend (by omega)])
    |omega
def Ws (I:Alg) (args:List D) (hp:List HO):Option CT:=match args,hp with
  |[.v (.one (.row 0)),.v (.one (.row 1))],[.row .upl 67 l,.row .upl 67 m]=>(fun(l m:List Upl)=>(some (.one ⟨I.hid (l.length≤1000000∧m.length≤1000000),(.ret (.v (.one (.p (.bool (I.hid ((decide (l=m))))))))),[.row .upl 67 l,.row .upl 67 m]⟩):Option CT)) l m
  |_,_=>none
theorem zdz:zo Tryz.prog 14 (Ws alg):=by
  intro args hp r h
  unfold Ws at h
  split at h
  · cases h;exact fun hn=>zml _ _ hn
  · cases h
def qI:Know Tryz.prog:=⟨14,Ws,zdz⟩
def qH:Know Tryz.prog:=⟨14,fun I=>zu I (Ws I),zf zdz⟩
set_option maxHeartbeats 4000000 in
theorem zkU (l m:List Upl) (a b:Int) (hneed:l.length≤1000000∧m.length≤1000000∧0≤a∧a≤b∧b≤m.length):Spc Tryz.prog 14 [.v (.one (.row 0)),.v (.one (.sub .upl 1 a b))] [.row .upl 67 l,.row .upl 67 m] (.ret (.v (.one (.p (.bool ((decide (l=(m.drop a.toNat).take (b.toNat - a.toNat))))))))) [.row .upl 67 l,.row .upl 67 m]:=by
  obtain⟨hl,hml,ha,hab,hb⟩:=hneed
  obtain⟨a,rfl⟩: ∃ x:Nat,a=x:=⟨a.toNat,by omega⟩
  obtain⟨b,rfl⟩: ∃ x:Nat,b=x:=⟨b.toNat,by omega⟩
  have hq:((m.drop a).take (b - a)).length=b - a:=by rw [List.length_take,List.length_drop];omega
  have hqg: ∀ i,i<b - a→((m.drop a).take (b - a)).getD i ⟨0,0,[],[],0⟩=m.getD (a+i) ⟨0,0,[],[],0⟩:=fun i hi=>by
    simp only [List.getD_eq_getElem?_getD,List.getElem?_take,List.getElem?_drop,if_pos hi]
  obtain⟨q,hqe⟩: ∃ q,q=(m.drop a).take (b - a):=⟨_,rfl⟩
  rw [← hqe] at hq hqg
  generalize hr0:decide (l=(m.drop (a:Int).toNat).take ((b:Int).toNat - (a:Int).toNat))=r
  have hr:decide (l=q)=r:=by rw [← hr0];exact decide_eq_decide.2 (by rw [hqe,Int.toNat_natCast,Int.toNat_natCast])
  refine spcG zi mixed Tryz.func14 (by kernel_rfl) { keep:=some [0,1,4,5]} [yO,yN,qI,qH] (by kernel_rfl) ?_
  intro I X hI hX
  refine zh (.br (I.bnot (I.ieq (I.len (α:=Go.Ab.Upl) l) (I.sub (Nat.cast b) (Nat.cast a)))) (.fin (.ret (.v (.one (.p (.bool Bool.false))))) [(.row .upl 67 l),(.row .upl 67 m)]) (.code 0 [1,1,0,1,0] ⟨[(5,(.v (.one (.p (.int .i64 0))))),(4,(.v (.one (.p (.val (.bool .false)))))),(0,(.v (.one (.row 0)))),(1,(.v (.one (.sub .upl 1 (Nat.cast a) (Nat.cast b)))))],[(.row .upl 67 l),(.row .upl 67 m)],81,none⟩)) (by kernel_rfl) ?_
  simp only [zl]
  refine⟨fun c1=> ?_,fun c1=> ?_⟩
  · subst hI
    simp only [nrmA,nrmB] at c1
    simp only [nrmA,nrmB]
    rw [← hr]
    exact(decide_eq_false fun e=>c1 (by rw [e,hq];omega)).symm
  have hlm:l.length=q.length:=by
    subst hI
    simp only [nrmA,nrmB] at c1
    omega
  refine zA hI zi mixed [yO,yN,qI,qH] hX [0,1,5] (fun(i:Nat)=>i≤l.length∧r=decide (l.drop i=q.drop i)) (fun(i:Nat)=>⟨[(0,.v (.one (.row 0))),(1,.v (.one (.sub .upl 1 (a:Int) (b:Int)))),(5,.v (.one (.p (.int .i64 i))))],[.row .upl 67 l,.row .upl 67 m],81,none⟩) (fun(i:Nat)=>l.length - i) 0 (by kernel_rfl) (by kernel_rfl) ?_ ?_
  · exact⟨Nat.zero_le _,hr.symm⟩
  rintro i ⟨h1,h2⟩ A hA
  refine zh (let y0:=I.get (α:=Go.Ab.Upl) m (Go.Ab.Upl.mk (0:Int) (0:Int) ([]:List UInt8) ([]:List UInt8) (0:Int)) (I.add (Nat.cast a) (Nat.cast i));let y1:=I.get (α:=Go.Ab.Upl) l (Go.Ab.Upl.mk (0:Int) (0:Int) ([]:List UInt8) ([]:List UInt8) (0:Int)) (Nat.cast i);let y2:=I.inb (Nat.cast i) (I.len (α:=Go.Ab.Upl) l);let y3:=I.inb (I.add (Nat.cast a) (Nat.cast i)) (I.len (α:=Go.Ab.Upl) m);let y4:=I.inb (Nat.cast i) (I.sub (Nat.cast b) (Nat.cast a));.br (I.ilt (Nat.cast i) (I.len (α:=Go.Ab.Upl) l)) (.need y2 (.need y2 (.need y4 (.need y3 (.br (I.bnot (I.ieq (Go.Ab.Upl.id y1) (Go.Ab.Upl.id y0))) (.fin (.ret (.v (.one (.p (.bool Bool.false))))) [(.row .upl 67 l),(.row .upl 67 m)]) (.need y2 (.need y2 (.need y4 (.need y3 (.br (I.bnot (I.ieq (Go.Ab.Upl.size y1) (Go.Ab.Upl.size y0))) (.fin (.ret (.v (.one (.p (.bool Bool.false))))) [(.row .upl 67 l),(.row .upl 67 m)]) (.need y2 (.need y2 (.need y4 (.need y3 (.br (I.bnot (I.seq (Go.Ab.Upl.note y1) (Go.Ab.Upl.note y0))) (.fin (.ret (.v (.one (.p (.bool Bool.false))))) [(.row .upl 67 l),(.row .upl 67 m)]) (.need y2 (.need y2 (.need y4 (.need y3 (.br (I.bnot (I.ieq (Go.Ab.Upl.sent y1) (Go.Ab.Upl.sent y0))) (.fin (.ret (.v (.one (.p (.bool Bool.false))))) [(.row .upl 67 l),(.row .upl 67 m)]) (.need y2 (.need y2 (.need y4 (.need y3 (.need (I.hid (α:=(Prop)) True) (.br (I.bnot (I.hid (α:=Bool) (BEq.beq (Go.Ab.Upl.bytes y1) (Go.Ab.Upl.bytes y0)))) (.fin (.ret (.v (.one (.p (.bool Bool.false))))) [(.row .upl 67 l),(.row .upl 67 m)]) (.need (I.inr Go.IntKind.i64 (I.add (Nat.cast i) 1)) (.need (A ⟨[(0,(.v (.one (.row 0)))),(1,(.v (.one (.sub .upl 1 (Nat.cast a) (Nat.cast b))))),(5,(.v (.one (.p (.int .i64 (I.add (Nat.cast i) 1))))))],[(.row .upl 67 l),(.row .upl 67 m)],81,none⟩) .qed)))))))))))))))))))))))))))) (.fin (.ret (.v (.one (.p (.bool Bool.true))))) [(.row .upl 67 l),(.row .upl 67 m)])) (by kernel_rfl) ?_
  simp only [zl]
  subst hI
  simp only [nrmA,nrmB,nrlB,reduceCtorEq]
  have hd:i<l.length→_:=fun h=>Yr (l:=l) (m:=q) (i:=i) h (by omega)
  have hend: ¬ i<l.length→r=true:=fun h=>by
    rw [h2,List.drop_of_length_le (by omega),List.drop_of_length_le (by omega)];simp
  have hqi:i<l.length→q.getD i ⟨0,0,[],[],0⟩=m.getD (a+i) ⟨0,0,[],[],0⟩:=fun h=>hqg i (by omega)
  rw [show((a:Int)+(i:Int)).toNat=a+i by omega]
  generalize l.getD i ⟨0,0,[],[],0⟩=x at *
  generalize q.getD i ⟨0,0,[],[],0⟩=y0 at *
  generalize m.getD (a+i) ⟨0,0,[],[],0⟩=y at *
  have hx: ¬ x=y→i<l.length→r=false:=fun h hi=>by rw [h2,hd hi,hqi hi,decide_eq_false h,Bool.false_and]
  have hy:x=y→i<l.length→r=decide (l.drop (i+1)=q.drop (i+1)):=fun h hi=>by rw [h2,hd hi,hqi hi,decide_eq_true h,Bool.true_and]
  (repeat' (first|refine And.intro ?_ ?_|intro _))<;>first|omega|exact True.intro|exact False.elim ‹False›|skip
  all_goals first
    |(exact(hx (by rintro rfl;simp_all) (by omega)).symm)
    |(rw [hx (by rintro rfl;simp_all) (by omega)])
    |exact hA (i+1) ⟨by omega,hy (zf6 (by assumption) (by assumption) (by assumption) (by assumption) (by assumption)) (by omega)⟩ (by omega)
    |(rw [hend (by omega)])
    |omega
def Z8 (I:Alg) (args:List D) (hp:List HO):Option CT:=match args,hp with
  |[.v (.one (.row 0)),.v (.one (.sub .upl 1 a b))],[.row .upl 67 l,.row .upl 67 m]=>(fun(l m:List Upl) (a b:Int)=>(some (.one ⟨I.hid (l.length≤1000000∧m.length≤1000000∧0≤a∧a≤b∧b≤m.length),(.ret (.v (.one (.p (.bool (I.hid ((decide (l=(m.drop a.toNat).take (b.toNat - a.toNat)))))))))),[.row .upl 67 l,.row .upl 67 m]⟩):Option CT)) l m a b
  |_,_=>none
theorem zaz:zo Tryz.prog 14 (Z8 alg):=by
  intro args hp r h
  unfold Z8 at h
  split at h
  · cases h;exact fun hn=>zkU _ _ _ _ hn
  · cases h
def Z7:Know Tryz.prog:=⟨14,Z8,zaz⟩
def Z5:Know Tryz.prog:=⟨14,fun I=>zu I (Z8 I),zf zaz⟩
end Go.Proofs.YtcclfkakcgnacaaGreatDoor
namespace Go.Proofs.YtcclfkakcgnacaaGreatDoor
open Go Go.Sep Go.Ab
set_option maxRecDepth 100000
def sumW (n:Int):List Sst→Int
  |[]=>n
  |x::l=>sumW (IntKind.i64.wrap (n+x.text.length)) l
def sumT:List Sst→Int
  |[]=>0
  |x::l=>x.text.length+sumT l
def zkr (l:List Sst):Bool:=decide (200<l.length)||decide (20000<sumW 0 l)
theorem Vw: ∀ l:List Sst,0≤sumT l
  |[]=>Int.le_refl _
  |x::l=>by have:=Vw l;simp only [sumT];omega
theorem YU: ∀ (l:List Sst) (n:Int),0≤n→n+l.length * 140737488355328≤9223372036854775807→(∀ x ∈ l,x.text.length≤140737488355328)→sumW n l=n+sumT l
  |[],n,_,_,_=>by simp [sumW,sumT]
  | x::l,n,h0,h1,h2=>by
    have hx:=h2 x (List.mem_cons_self ..)
    rw [List.length_cons] at h1
    have e:IntKind.i64.wrap (n+x.text.length)=n+x.text.length:=SC (k:=.i64) (by rw [ZI,Ud,Ue];omega)
    rw [sumW,e,YU l _ (by omega) (by omega) (fun y hy=>h2 y (List.mem_cons_of_mem _ hy)),sumT]
    omega
theorem SY: ∀ {l:List Sst} {x:Sst},x ∈ l→(x.text.length:Int)≤sumT l
  | y::l,x,h=>by
    have:=Vw l
    simp only [sumT]
    rcases List.mem_cons.1 h with rfl|h
    · omega
    · have:=SY h;omega
theorem great_few {l:List Sst} (hw: ∀ x ∈ l,x.text.length≤140737488355328) (h:zkr l=false):l.length≤200∧∀ x ∈ l,x.text.length≤20000:=by
  unfold zkr at h
  simp only [Bool.or_eq_false_iff,decide_eq_false_iff_not] at h
  have e:=YU l 0 (Int.le_refl _) (by omega) hw
  exact⟨by omega,fun x hx=>by have:=SY hx;omega⟩
end Go.Proofs.YtcclfkakcgnacaaGreatDoor
namespace Go.Proofs.YtcclfkakcgnacaaGreatDoor
open Go Go.Sep Go.Ab Go.Jrn
set_option maxRecDepth 100000
structure Sto where
  l:List Upl
  n:Int
  b:Str
  s:Int
def zgu (n:Int) (x:Sst):Ent:=
  if x.op=0 then⟨1,n+1,x.n,x.text⟩ else if x.op=1 then⟨2,x.id,0,x.text⟩ else if x.op=2 then⟨3,x.id,x.n,[]⟩ else if x.op=3 then⟨4,x.id,0,[]⟩ else if x.op=4 then⟨5,x.id,0,[]⟩ else⟨6,x.id,0,[]⟩
def stepG (l:List Upl) (x:Sst):Bool:=decide (x.op=1)&&apG l x.id x.n
def stepS (q:Sto) (x:Sst):Sto:=
  if x.op=7 then⟨(crsP q.b q.s x.n).1,(crsP q.b q.s x.n).2,crsB q.b q.s x.n,((crsB q.b q.s x.n).length:Int)⟩
  else if x.op=6 then⟨q.l,q.n,q.b,(q.b.length:Int)⟩
  else if 0≤x.op∧x.op≤5∧stepG q.l x=false then⟨wrtL q.l q.n q.b (zgu q.n x),wrtN q.l q.n q.b (zgu q.n x),wrtB q.l q.n q.b (zgu q.n x),q.s⟩
  else q
def stepC (q:Sto) (x:Sst):Int:=if 0≤x.op∧x.op≤5 then(if stepG q.l x then 17 else wrtC q.l q.n q.b (zgu q.n x)) else 0
def stepI (q:Sto) (x:Sst):Int:=if x.op=0∧wrtC q.l q.n q.b (zgu q.n x)=0 then q.n+1 else 0
structure StoOk (q:Sto):Prop where
  spl:zy q.l q.n
  n:q.n≤150000
  b:q.b.length≤100000
  s0:0≤q.s
  s1:q.s≤q.b.length
def zep (l:List Sst):Bool:=decide (150<l.length)||decide (20000<sumW 0 l)
theorem greatSt_few {l:List Sst} (hw: ∀ x ∈ l,x.text.length≤140737488355328) (h:zep l=false):l.length≤150∧∀ x ∈ l,x.text.length≤20000:=by
  unfold zep at h
  simp only [Bool.or_eq_false_iff,decide_eq_false_iff_not] at h
  have e:=YU l 0 (Int.le_refl _) (by omega) hw
  exact⟨by omega,fun x hx=>by have:=SY hx;omega⟩
end Go.Proofs.YtcclfkakcgnacaaGreatDoor
namespace Go.Proofs.YtcclfkakcgnacaaGreatDoor
open Go Go.Sep Go.Ab Go.Jrn
set_option maxRecDepth 100000
theorem zja (l:List Upl) (n:Int) (b:Str) (s m:Int) (hneed:b.length≤100000):Spc Tryz.prog 86 [.v (.one (.ptr 0 0)),.v (.one (.p (.int .i64 m)))] [.pack [.obj 48 [(.ptr 1 0),(.ptr 2 0)],.pack [.obj 90 [(.row 1),(.p (.int .i64 n))],.row .upl 67 l],.pack [.obj 104 [(.row 1),(.p (.int .i64 s))],.row .byte 5 b]]] (.ret (.v (.one (.p (.bool ((Zj b m))))))) [.pack [.obj 48 [(.ptr 1 0),(.ptr 2 0)],.pack [.obj 90 [(.row 1),(.p (.int .i64 n))],.row .upl 67 l],.pack [.obj 104 [(.row 1),(.p (.int .i64 s))],.row .byte 5 b]]]:=by
  refine spcG zi mixed Tryz.func86 (by kernel_rfl) { XP with keep:=some [0,1,4]} [zgP,zgO] (by kernel_rfl) ?_
  intro I X hI hX
  refine zh (.need (I.hid (α:=(Prop)) (LE.le (List.length b) 100000000)) (.fin (.ret (.v (.one (.p (.bool (I.hid (α:=Bool) (Zj b m))))))) [(.pack [(.obj 48 [(.ptr 1 0),(.ptr 2 0)]),(.pack [(.obj 90 [(.row 1),(.p (.int .i64 n))]),(.row .upl 67 l)]),(.pack [(.obj 104 [(.row 1),(.p (.int .i64 s))]),(.row .byte 5 b)])])])) (by kernel_rfl) ?_
  simp only [zl]
  subst hI
  simp only [nrmA,nrmB,nrlB,reduceCtorEq,HO.pack.injEq,HO.obj.injEq]
  (repeat' (first|refine And.intro ?_ ?_|intro _))<;>first|omega|exact True.intro|exact False.elim ‹False›|skip
def qE (I:Alg) (args:List D) (hp:List HO):Option CT:=match args,hp with
  |[.v (.one (.ptr 0 0)),.v (.one (.p (.int .i64 m)))],[.pack [.obj 48 [(.ptr 1 0),(.ptr 2 0)],.pack [.obj 90 [(.row 1),(.p (.int .i64 n))],.row .upl 67 l],.pack [.obj 104 [(.row 1),(.p (.int .i64 s))],.row .byte 5 b]]]=>(fun(l:List Upl) (n:Int) (b:Str) (s m:Int)=>(some (.one ⟨I.hid (b.length≤100000),(.ret (.v (.one (.p (.bool (I.hid ((Zj b m)))))))),[.pack [.obj 48 [(.ptr 1 0),(.ptr 2 0)],.pack [.obj 90 [(.row 1),(.p (.int .i64 n))],.row .upl 67 l],.pack [.obj 104 [(.row 1),(.p (.int .i64 s))],.row .byte 5 b]]]⟩):Option CT)) l n b s m
  |_,_=>none
theorem U5:zo Tryz.prog 86 (qE alg):=by
  intro args hp r h
  unfold qE at h
  split at h
  · cases h;exact fun hn=>zja _ _ _ _ _ hn
  · cases h
def xG:Know Tryz.prog:=⟨86,qE,U5⟩
def xE:Know Tryz.prog:=⟨86,fun I=>zu I (qE I),zf U5⟩
end Go.Proofs.YtcclfkakcgnacaaGreatDoor
namespace Go.Proofs.YtcclfkakcgnacaaGreatDoor
open Go Go.Sep Go.Ab
set_option maxRecDepth 100000
def txtN (base:Nat):Nat→Nat→Str
  |0,_=>[]
  |f+1,n=>if n<base then [if n<10 then UInt8.ofNat (48+n) else UInt8.ofNat (87+n)] else txtN base f (n / base)++[if n % base<10 then UInt8.ofNat (48+n % base) else UInt8.ofNat (87+n % base)]
def dgN (d:Nat):UInt8:=if d<10 then UInt8.ofNat (48+d) else UInt8.ofNat (87+d)
theorem rJ {d:Nat} (h:d<10):(([48,49,50,51,52,53,54,55,56,57]:Str).drop d).take 1=[dgN d]:=(by decide+kernel: ∀ d:Fin 10,(([48,49,50,51,52,53,54,55,56,57]:Str).drop d.1).take 1=[dgN d.1]) ⟨d,h⟩
theorem zV {base f n:Nat} (h:n<base):txtN base (f+1) n=[dgN n]:=by rw [txtN,if_pos h];rfl
theorem xA {base f n:Nat} (h: ¬ n<base):txtN base (f+1) n=txtN base f (n / base)++[dgN (n % base)]:=by rw [txtN,if_neg h];rfl
theorem zW (base:Nat): ∀ f n,(txtN base f n).length≤f
  |0,_=>Nat.le_refl _
  | f +1,n=>by
    rw [txtN]
    split
    · simp
    · have:=zW base f (n / base)
      rw [List.length_append];simp;omega
theorem zn0 (n:Int) (hneed:False):Spc Tryz.prog 21 [.v (.one (.p (.int .i64 n)))] [] (.ret (.v (.one (.p (.str ([])))))) []:=hneed.elim
def Qj (I:Alg) (args:List D) (hp:List HO):Option CT:=match args,hp with
  |[.v (.one (.p (.int .i64 n)))],[]=>(fun(n:Int)=>(some (.one ⟨I.hid (False),(.ret (.v (.one (.p (.str (I.hid ([]))))))),[]⟩):Option CT)) n
  |_,_=>none
theorem zhv:zo Tryz.prog 21 (Qj alg):=by
  intro args hp r h
  unfold Qj at h
  split at h
  · cases h;exact fun hn=>zn0 _ hn
  · cases h
def ul:Know Tryz.prog:=⟨21,Qj,zhv⟩
def sJ:Know Tryz.prog:=⟨21,fun I=>zu I (Qj I),zf zhv⟩
theorem znZ (n:Int) (hneed:0≤n∧n<10):Spc Tryz.prog 21 [.v (.one (.p (.int .i64 n)))] [] (.ret (.v (.one (.p (.str (txtN 10 1 n.toNat)))))) []:=by
  generalize hr:txtN 10 1 n.toNat=r
  refine spcG zi mixed Tryz.func21 (by kernel_rfl) { keep:=some [0,2]} [ul,ul,sJ] (by kernel_rfl) ?_
  intro I X hI hX
  refine zh (let y0:=I.cut (α:=UInt8) (Array.toList (List.toArray ([48,49,50,51,52,53,54,55,56,57]:List UInt8))) (I.rem n 10) (I.add (I.rem n 10) 1);let y1:=I.hid (α:=(List UInt8)) ([]:List UInt8);let y2:=I.len (α:=UInt8) (Array.toList (List.toArray ([48,49,50,51,52,53,54,55,56,57]:List UInt8)));.br (I.ilt n 0) (.need (I.inr Go.IntKind.i64 (I.sub 0 n)) (.need (I.hid (α:=(Prop)) False) (.need (I.few (I.add (I.len (α:=UInt8) (Array.toList (List.toArray ([45]:List UInt8)))) (I.len (α:=UInt8) y1)) 1000000000) (.fin (.ret (.v (.one (.p (.str (I.app (α:=UInt8) (Array.toList (List.toArray ([45]:List UInt8))) y1)))))) [])))) (.br (I.ilt n 10) (.need (I.inr Go.IntKind.i64 (I.add n 1)) (.need (I.cutb n (I.add n 1) y2) (.fin (.ret (.v (.one (.p (.str (I.cut (α:=UInt8) (Array.toList (List.toArray ([48,49,50,51,52,53,54,55,56,57]:List UInt8))) n (I.add n 1))))))) []))) (.need (I.nne 10) (.need (I.inr Go.IntKind.i64 (I.quo n 10)) (.need (I.nne 10) (.need (I.nne 10) (.need (I.inr Go.IntKind.i64 (I.add (I.rem n 10) 1)) (.need (I.cutb (I.rem n 10) (I.add (I.rem n 10) 1) y2) (.need (I.hid (α:=(Prop)) False) (.need (I.few (I.add (I.len (α:=UInt8) y1) (I.len (α:=UInt8) y0)) 1000000000) (.fin (.ret (.v (.one (.p (.str (I.app (α:=UInt8) y1 y0)))))) []))))))))))) (by kernel_rfl) ?_
  simp only [zl]
  subst hI
  simp only [nrmA,nrmB]
  obtain⟨m,rfl⟩: ∃ m:Nat,n=m:=⟨n.toNat,by omega⟩
  rw [Int.toNat_natCast] at hr
  have e1:(m:Int).tdiv 10=((m / 10:Nat):Int):=by rw [Int.tdiv_eq_ediv_of_nonneg (by omega)];omega
  have e2:(m:Int).tmod 10=((m % 10:Nat):Int):=by rw [Int.tmod_eq_emod_of_nonneg (by omega)];omega
  have e3:m<10→(([48,49,50,51,52,53,54,55,56,57]:Str).drop m).take (((m:Int)+1).toNat - m)=r:=fun h=>by
    rw [show((m:Int)+1).toNat - m=1 by omega,rJ h,← hr,zV h]
  have e4:(([48,49,50,51,52,53,54,55,56,57]:Str).drop (m % 10)).take ((((m % 10:Nat):Int)+1).toNat - m % 10)=[dgN (m % 10)]:=by
    rw [show(((m % 10:Nat):Int)+1).toNat - m % 10=1 by omega,rJ (Nat.mod_lt _ (by decide))]
  have e5: ¬ m<10→txtN 10 0 (m / 10)++[dgN (m % 10)]=r:=fun h=>by rw [← hr,xA h]
  have hl:=zW 10 0 (m / 10)
  have hl2:=zW 10 0 (m % 10)
  have e6:0<0→txtN 10 0 (m % 10)=[dgN (m % 10)]:=fun h=>by first|exact absurd h (by decide)|exact zV (f:=0) (Nat.mod_lt _ (by decide))
  generalize hH:([48,49,50,51,52,53,54,55,56,57]:Str)=H at *
  have hHl:H.length=10:=by rw [← hH];rfl
  simp only [e1,e2,Int.toNat_natCast,e4,List.length_cons,List.length_nil]
  (repeat' (first|refine And.intro ?_ ?_|intro _))<;>first|omega|exact True.intro|exact False.elim ‹False›|skip
  all_goals first
    |exact e3 (by omega)
    |exact e5 (by omega)
    |(rw [e6 (by decide)];exact e5 (by omega))
    |(exfalso;omega)
def Qi (I:Alg) (args:List D) (hp:List HO):Option CT:=match args,hp with
  |[.v (.one (.p (.int .i64 n)))],[]=>(fun(n:Int)=>(some (.one ⟨I.hid (0≤n∧n<10),(.ret (.v (.one (.p (.str (I.hid (txtN 10 1 n.toNat))))))),[]⟩):Option CT)) n
  |_,_=>none
theorem zhu:zo Tryz.prog 21 (Qi alg):=by
  intro args hp r h
  unfold Qi at h
  split at h
  · cases h;exact fun hn=>znZ _ hn
  · cases h
def sH:Know Tryz.prog:=⟨21,Qi,zhu⟩
def qi:Know Tryz.prog:=⟨21,fun I=>zu I (Qi I),zf zhu⟩
theorem znY (n:Int) (hneed:0≤n∧n<100):Spc Tryz.prog 21 [.v (.one (.p (.int .i64 n)))] [] (.ret (.v (.one (.p (.str (txtN 10 2 n.toNat)))))) []:=by
  generalize hr:txtN 10 2 n.toNat=r
  refine spcG zi mixed Tryz.func21 (by kernel_rfl) { keep:=some [0,2]} [sH,ul,sJ,sH,qi] (by kernel_rfl) ?_
  intro I X hI hX
  refine zh (let y0:=I.cut (α:=UInt8) (Array.toList (List.toArray ([48,49,50,51,52,53,54,55,56,57]:List UInt8))) (I.rem n 10) (I.add (I.rem n 10) 1);let y1:=I.len (α:=UInt8) (Array.toList (List.toArray ([48,49,50,51,52,53,54,55,56,57]:List UInt8)));let y2:=I.hid (α:=(List UInt8)) (txtN 10 1 (Int.toNat (I.quo n 10)));let y3:=I.hid (α:=(List UInt8)) (txtN 10 1 (Int.toNat (I.sub 0 n)));.br (I.ilt n 0) (.need (I.inr Go.IntKind.i64 (I.sub 0 n)) (.need (I.hid (α:=(Prop)) (And (LE.le (0:Int) (I.sub 0 n)) (LT.lt (I.sub 0 n) (10:Int)))) (.need (I.few (I.add (I.len (α:=UInt8) (Array.toList (List.toArray ([45]:List UInt8)))) (I.len (α:=UInt8) y3)) 1000000000) (.fin (.ret (.v (.one (.p (.str (I.app (α:=UInt8) (Array.toList (List.toArray ([45]:List UInt8))) y3)))))) [])))) (.br (I.ilt n 10) (.need (I.inr Go.IntKind.i64 (I.add n 1)) (.need (I.cutb n (I.add n 1) y1) (.fin (.ret (.v (.one (.p (.str (I.cut (α:=UInt8) (Array.toList (List.toArray ([48,49,50,51,52,53,54,55,56,57]:List UInt8))) n (I.add n 1))))))) []))) (.need (I.nne 10) (.need (I.inr Go.IntKind.i64 (I.quo n 10)) (.need (I.nne 10) (.need (I.nne 10) (.need (I.inr Go.IntKind.i64 (I.add (I.rem n 10) 1)) (.need (I.cutb (I.rem n 10) (I.add (I.rem n 10) 1) y1) (.need (I.hid (α:=(Prop)) (And (LE.le (0:Int) (I.quo n 10)) (LT.lt (I.quo n 10) (10:Int)))) (.need (I.few (I.add (I.len (α:=UInt8) y2) (I.len (α:=UInt8) y0)) 1000000000) (.fin (.ret (.v (.one (.p (.str (I.app (α:=UInt8) y2 y0)))))) []))))))))))) (by kernel_rfl) ?_
  simp only [zl]
  subst hI
  simp only [nrmA,nrmB]
  obtain⟨m,rfl⟩: ∃ m:Nat,n=m:=⟨n.toNat,by omega⟩
  rw [Int.toNat_natCast] at hr
  have e1:(m:Int).tdiv 10=((m / 10:Nat):Int):=by rw [Int.tdiv_eq_ediv_of_nonneg (by omega)];omega
  have e2:(m:Int).tmod 10=((m % 10:Nat):Int):=by rw [Int.tmod_eq_emod_of_nonneg (by omega)];omega
  have e3:m<10→(([48,49,50,51,52,53,54,55,56,57]:Str).drop m).take (((m:Int)+1).toNat - m)=r:=fun h=>by
    rw [show((m:Int)+1).toNat - m=1 by omega,rJ h,← hr,zV h]
  have e4:(([48,49,50,51,52,53,54,55,56,57]:Str).drop (m % 10)).take ((((m % 10:Nat):Int)+1).toNat - m % 10)=[dgN (m % 10)]:=by
    rw [show(((m % 10:Nat):Int)+1).toNat - m % 10=1 by omega,rJ (Nat.mod_lt _ (by decide))]
  have e5: ¬ m<10→txtN 10 1 (m / 10)++[dgN (m % 10)]=r:=fun h=>by rw [← hr,xA h]
  have hl:=zW 10 1 (m / 10)
  have hl2:=zW 10 1 (m % 10)
  have e6:0<1→txtN 10 1 (m % 10)=[dgN (m % 10)]:=fun h=>by first|exact absurd h (by decide)|exact zV (f:=0) (Nat.mod_lt _ (by decide))
  generalize hH:([48,49,50,51,52,53,54,55,56,57]:Str)=H at *
  have hHl:H.length=10:=by rw [← hH];rfl
  simp only [e1,e2,Int.toNat_natCast,e4,List.length_cons,List.length_nil]
  (repeat' (first|refine And.intro ?_ ?_|intro _))<;>first|omega|exact True.intro|exact False.elim ‹False›|skip
  all_goals first
    |exact e3 (by omega)
    |exact e5 (by omega)
    |(rw [e6 (by decide)];exact e5 (by omega))
    |(exfalso;omega)
def Qh (I:Alg) (args:List D) (hp:List HO):Option CT:=match args,hp with
  |[.v (.one (.p (.int .i64 n)))],[]=>(fun(n:Int)=>(some (.one ⟨I.hid (0≤n∧n<100),(.ret (.v (.one (.p (.str (I.hid (txtN 10 2 n.toNat))))))),[]⟩):Option CT)) n
  |_,_=>none
theorem zht:zo Tryz.prog 21 (Qh alg):=by
  intro args hp r h
  unfold Qh at h
  split at h
  · cases h;exact fun hn=>znY _ hn
  · cases h
def qh:Know Tryz.prog:=⟨21,Qh,zht⟩
def Zy:Know Tryz.prog:=⟨21,fun I=>zu I (Qh I),zf zht⟩
theorem znX (n:Int) (hneed:0≤n∧n<1000):Spc Tryz.prog 21 [.v (.one (.p (.int .i64 n)))] [] (.ret (.v (.one (.p (.str (txtN 10 3 n.toNat)))))) []:=by
  generalize hr:txtN 10 3 n.toNat=r
  refine spcG zi mixed Tryz.func21 (by kernel_rfl) { keep:=some [0,2]} [qh,ul,sJ,sH,qi,qh,Zy] (by kernel_rfl) ?_
  intro I X hI hX
  refine zh (let y0:=I.cut (α:=UInt8) (Array.toList (List.toArray ([48,49,50,51,52,53,54,55,56,57]:List UInt8))) (I.rem n 10) (I.add (I.rem n 10) 1);let y1:=I.len (α:=UInt8) (Array.toList (List.toArray ([48,49,50,51,52,53,54,55,56,57]:List UInt8)));let y2:=I.hid (α:=(List UInt8)) (txtN 10 2 (Int.toNat (I.quo n 10)));let y3:=I.hid (α:=(List UInt8)) (txtN 10 2 (Int.toNat (I.sub 0 n)));.br (I.ilt n 0) (.need (I.inr Go.IntKind.i64 (I.sub 0 n)) (.need (I.hid (α:=(Prop)) (And (LE.le (0:Int) (I.sub 0 n)) (LT.lt (I.sub 0 n) (100:Int)))) (.need (I.few (I.add (I.len (α:=UInt8) (Array.toList (List.toArray ([45]:List UInt8)))) (I.len (α:=UInt8) y3)) 1000000000) (.fin (.ret (.v (.one (.p (.str (I.app (α:=UInt8) (Array.toList (List.toArray ([45]:List UInt8))) y3)))))) [])))) (.br (I.ilt n 10) (.need (I.inr Go.IntKind.i64 (I.add n 1)) (.need (I.cutb n (I.add n 1) y1) (.fin (.ret (.v (.one (.p (.str (I.cut (α:=UInt8) (Array.toList (List.toArray ([48,49,50,51,52,53,54,55,56,57]:List UInt8))) n (I.add n 1))))))) []))) (.need (I.nne 10) (.need (I.inr Go.IntKind.i64 (I.quo n 10)) (.need (I.nne 10) (.need (I.nne 10) (.need (I.inr Go.IntKind.i64 (I.add (I.rem n 10) 1)) (.need (I.cutb (I.rem n 10) (I.add (I.rem n 10) 1) y1) (.need (I.hid (α:=(Prop)) (And (LE.le (0:Int) (I.quo n 10)) (LT.lt (I.quo n 10) (100:Int)))) (.need (I.few (I.add (I.len (α:=UInt8) y2) (I.len (α:=UInt8) y0)) 1000000000) (.fin (.ret (.v (.one (.p (.str (I.app (α:=UInt8) y2 y0)))))) []))))))))))) (by kernel_rfl) ?_
  simp only [zl]
  subst hI
  simp only [nrmA,nrmB]
  obtain⟨m,rfl⟩: ∃ m:Nat,n=m:=⟨n.toNat,by omega⟩
  rw [Int.toNat_natCast] at hr
  have e1:(m:Int).tdiv 10=((m / 10:Nat):Int):=by rw [Int.tdiv_eq_ediv_of_nonneg (by omega)];omega
  have e2:(m:Int).tmod 10=((m % 10:Nat):Int):=by rw [Int.tmod_eq_emod_of_nonneg (by omega)];omega
  have e3:m<10→(([48,49,50,51,52,53,54,55,56,57]:Str).drop m).take (((m:Int)+1).toNat - m)=r:=fun h=>by
    rw [show((m:Int)+1).toNat - m=1 by omega,rJ h,← hr,zV h]
  have e4:(([48,49,50,51,52,53,54,55,56,57]:Str).drop (m % 10)).take ((((m % 10:Nat):Int)+1).toNat - m % 10)=[dgN (m % 10)]:=by
    rw [show(((m % 10:Nat):Int)+1).toNat - m % 10=1 by omega,rJ (Nat.mod_lt _ (by decide))]
  have e5: ¬ m<10→txtN 10 2 (m / 10)++[dgN (m % 10)]=r:=fun h=>by rw [← hr,xA h]
  have hl:=zW 10 2 (m / 10)
  have hl2:=zW 10 2 (m % 10)
  have e6:0<2→txtN 10 2 (m % 10)=[dgN (m % 10)]:=fun h=>by first|exact absurd h (by decide)|exact zV (f:=1) (Nat.mod_lt _ (by decide))
  generalize hH:([48,49,50,51,52,53,54,55,56,57]:Str)=H at *
  have hHl:H.length=10:=by rw [← hH];rfl
  simp only [e1,e2,Int.toNat_natCast,e4,List.length_cons,List.length_nil]
  (repeat' (first|refine And.intro ?_ ?_|intro _))<;>first|omega|exact True.intro|exact False.elim ‹False›|skip
  all_goals first
    |exact e3 (by omega)
    |exact e5 (by omega)
    |(rw [e6 (by decide)];exact e5 (by omega))
    |(exfalso;omega)
def Qg (I:Alg) (args:List D) (hp:List HO):Option CT:=match args,hp with
  |[.v (.one (.p (.int .i64 n)))],[]=>(fun(n:Int)=>(some (.one ⟨I.hid (0≤n∧n<1000),(.ret (.v (.one (.p (.str (I.hid (txtN 10 3 n.toNat))))))),[]⟩):Option CT)) n
  |_,_=>none
theorem zhs:zo Tryz.prog 21 (Qg alg):=by
  intro args hp r h
  unfold Qg at h
  split at h
  · cases h;exact fun hn=>znX _ hn
  · cases h
def Zx:Know Tryz.prog:=⟨21,Qg,zhs⟩
def Xb:Know Tryz.prog:=⟨21,fun I=>zu I (Qg I),zf zhs⟩
theorem znW (n:Int) (hneed:0≤n∧n<10000):Spc Tryz.prog 21 [.v (.one (.p (.int .i64 n)))] [] (.ret (.v (.one (.p (.str (txtN 10 4 n.toNat)))))) []:=by
  generalize hr:txtN 10 4 n.toNat=r
  refine spcG zi mixed Tryz.func21 (by kernel_rfl) { keep:=some [0,2]} [Zx,ul,sJ,sH,qi,qh,Zy,Zx,Xb] (by kernel_rfl) ?_
  intro I X hI hX
  refine zh (let y0:=I.cut (α:=UInt8) (Array.toList (List.toArray ([48,49,50,51,52,53,54,55,56,57]:List UInt8))) (I.rem n 10) (I.add (I.rem n 10) 1);let y1:=I.len (α:=UInt8) (Array.toList (List.toArray ([48,49,50,51,52,53,54,55,56,57]:List UInt8)));let y2:=I.hid (α:=(List UInt8)) (txtN 10 3 (Int.toNat (I.quo n 10)));let y3:=I.hid (α:=(List UInt8)) (txtN 10 3 (Int.toNat (I.sub 0 n)));.br (I.ilt n 0) (.need (I.inr Go.IntKind.i64 (I.sub 0 n)) (.need (I.hid (α:=(Prop)) (And (LE.le (0:Int) (I.sub 0 n)) (LT.lt (I.sub 0 n) (1000:Int)))) (.need (I.few (I.add (I.len (α:=UInt8) (Array.toList (List.toArray ([45]:List UInt8)))) (I.len (α:=UInt8) y3)) 1000000000) (.fin (.ret (.v (.one (.p (.str (I.app (α:=UInt8) (Array.toList (List.toArray ([45]:List UInt8))) y3)))))) [])))) (.br (I.ilt n 10) (.need (I.inr Go.IntKind.i64 (I.add n 1)) (.need (I.cutb n (I.add n 1) y1) (.fin (.ret (.v (.one (.p (.str (I.cut (α:=UInt8) (Array.toList (List.toArray ([48,49,50,51,52,53,54,55,56,57]:List UInt8))) n (I.add n 1))))))) []))) (.need (I.nne 10) (.need (I.inr Go.IntKind.i64 (I.quo n 10)) (.need (I.nne 10) (.need (I.nne 10) (.need (I.inr Go.IntKind.i64 (I.add (I.rem n 10) 1)) (.need (I.cutb (I.rem n 10) (I.add (I.rem n 10) 1) y1) (.need (I.hid (α:=(Prop)) (And (LE.le (0:Int) (I.quo n 10)) (LT.lt (I.quo n 10) (1000:Int)))) (.need (I.few (I.add (I.len (α:=UInt8) y2) (I.len (α:=UInt8) y0)) 1000000000) (.fin (.ret (.v (.one (.p (.str (I.app (α:=UInt8) y2 y0)))))) []))))))))))) (by kernel_rfl) ?_
  simp only [zl]
  subst hI
  simp only [nrmA,nrmB]
  obtain⟨m,rfl⟩: ∃ m:Nat,n=m:=⟨n.toNat,by omega⟩
  rw [Int.toNat_natCast] at hr
  have e1:(m:Int).tdiv 10=((m / 10:Nat):Int):=by rw [Int.tdiv_eq_ediv_of_nonneg (by omega)];omega
  have e2:(m:Int).tmod 10=((m % 10:Nat):Int):=by rw [Int.tmod_eq_emod_of_nonneg (by omega)];omega
  have e3:m<10→(([48,49,50,51,52,53,54,55,56,57]:Str).drop m).take (((m:Int)+1).toNat - m)=r:=fun h=>by
    rw [show((m:Int)+1).toNat - m=1 by omega,rJ h,← hr,zV h]
  have e4:(([48,49,50,51,52,53,54,55,56,57]:Str).drop (m % 10)).take ((((m % 10:Nat):Int)+1).toNat - m % 10)=[dgN (m % 10)]:=by
    rw [show(((m % 10:Nat):Int)+1).toNat - m % 10=1 by omega,rJ (Nat.mod_lt _ (by decide))]
  have e5: ¬ m<10→txtN 10 3 (m / 10)++[dgN (m % 10)]=r:=fun h=>by rw [← hr,xA h]
  have hl:=zW 10 3 (m / 10)
  have hl2:=zW 10 3 (m % 10)
  have e6:0<3→txtN 10 3 (m % 10)=[dgN (m % 10)]:=fun h=>by first|exact absurd h (by decide)|exact zV (f:=2) (Nat.mod_lt _ (by decide))
  generalize hH:([48,49,50,51,52,53,54,55,56,57]:Str)=H at *
  have hHl:H.length=10:=by rw [← hH];rfl
  simp only [e1,e2,Int.toNat_natCast,e4,List.length_cons,List.length_nil]
  (repeat' (first|refine And.intro ?_ ?_|intro _))<;>first|omega|exact True.intro|exact False.elim ‹False›|skip
  all_goals first
    |exact e3 (by omega)
    |exact e5 (by omega)
    |(rw [e6 (by decide)];exact e5 (by omega))
    |(exfalso;omega)
def Qe (I:Alg) (args:List D) (hp:List HO):Option CT:=match args,hp with
  |[.v (.one (.p (.int .i64 n)))],[]=>(fun(n:Int)=>(some (.one ⟨I.hid (0≤n∧n<10000),(.ret (.v (.one (.p (.str (I.hid (txtN 10 4 n.toNat))))))),[]⟩):Option CT)) n
  |_,_=>none
theorem zhr:zo Tryz.prog 21 (Qe alg):=by
  intro args hp r h
  unfold Qe at h
  split at h
  · cases h;exact fun hn=>znW _ hn
  · cases h
def Xa:Know Tryz.prog:=⟨21,Qe,zhr⟩
def VY:Know Tryz.prog:=⟨21,fun I=>zu I (Qe I),zf zhr⟩
theorem znV (n:Int) (hneed:0≤n∧n<100000):Spc Tryz.prog 21 [.v (.one (.p (.int .i64 n)))] [] (.ret (.v (.one (.p (.str (txtN 10 5 n.toNat)))))) []:=by
  generalize hr:txtN 10 5 n.toNat=r
  refine spcG zi mixed Tryz.func21 (by kernel_rfl) { keep:=some [0,2]} [Xa,ul,sJ,sH,qi,qh,Zy,Zx,Xb,Xa,VY] (by kernel_rfl) ?_
  intro I X hI hX
  refine zh (let y0:=I.cut (α:=UInt8) (Array.toList (List.toArray ([48,49,50,51,52,53,54,55,56,57]:List UInt8))) (I.rem n 10) (I.add (I.rem n 10) 1);let y1:=I.len (α:=UInt8) (Array.toList (List.toArray ([48,49,50,51,52,53,54,55,56,57]:List UInt8)));let y2:=I.hid (α:=(List UInt8)) (txtN 10 4 (Int.toNat (I.quo n 10)));let y3:=I.hid (α:=(List UInt8)) (txtN 10 4 (Int.toNat (I.sub 0 n)));.br (I.ilt n 0) (.need (I.inr Go.IntKind.i64 (I.sub 0 n)) (.need (I.hid (α:=(Prop)) (And (LE.le (0:Int) (I.sub 0 n)) (LT.lt (I.sub 0 n) (10000:Int)))) (.need (I.few (I.add (I.len (α:=UInt8) (Array.toList (List.toArray ([45]:List UInt8)))) (I.len (α:=UInt8) y3)) 1000000000) (.fin (.ret (.v (.one (.p (.str (I.app (α:=UInt8) (Array.toList (List.toArray ([45]:List UInt8))) y3)))))) [])))) (.br (I.ilt n 10) (.need (I.inr Go.IntKind.i64 (I.add n 1)) (.need (I.cutb n (I.add n 1) y1) (.fin (.ret (.v (.one (.p (.str (I.cut (α:=UInt8) (Array.toList (List.toArray ([48,49,50,51,52,53,54,55,56,57]:List UInt8))) n (I.add n 1))))))) []))) (.need (I.nne 10) (.need (I.inr Go.IntKind.i64 (I.quo n 10)) (.need (I.nne 10) (.need (I.nne 10) (.need (I.inr Go.IntKind.i64 (I.add (I.rem n 10) 1)) (.need (I.cutb (I.rem n 10) (I.add (I.rem n 10) 1) y1) (.need (I.hid (α:=(Prop)) (And (LE.le (0:Int) (I.quo n 10)) (LT.lt (I.quo n 10) (10000:Int)))) (.need (I.few (I.add (I.len (α:=UInt8) y2) (I.len (α:=UInt8) y0)) 1000000000) (.fin (.ret (.v (.one (.p (.str (I.app (α:=UInt8) y2 y0)))))) []))))))))))) (by kernel_rfl) ?_
  simp only [zl]
  subst hI
  simp only [nrmA,nrmB]
  obtain⟨m,rfl⟩: ∃ m:Nat,n=m:=⟨n.toNat,by omega⟩
  rw [Int.toNat_natCast] at hr
  have e1:(m:Int).tdiv 10=((m / 10:Nat):Int):=by rw [Int.tdiv_eq_ediv_of_nonneg (by omega)];omega
  have e2:(m:Int).tmod 10=((m % 10:Nat):Int):=by rw [Int.tmod_eq_emod_of_nonneg (by omega)];omega
  have e3:m<10→(([48,49,50,51,52,53,54,55,56,57]:Str).drop m).take (((m:Int)+1).toNat - m)=r:=fun h=>by
    rw [show((m:Int)+1).toNat - m=1 by omega,rJ h,← hr,zV h]
  have e4:(([48,49,50,51,52,53,54,55,56,57]:Str).drop (m % 10)).take ((((m % 10:Nat):Int)+1).toNat - m % 10)=[dgN (m % 10)]:=by
    rw [show(((m % 10:Nat):Int)+1).toNat - m % 10=1 by omega,rJ (Nat.mod_lt _ (by decide))]
  have e5: ¬ m<10→txtN 10 4 (m / 10)++[dgN (m % 10)]=r:=fun h=>by rw [← hr,xA h]
  have hl:=zW 10 4 (m / 10)
  have hl2:=zW 10 4 (m % 10)
  have e6:0<4→txtN 10 4 (m % 10)=[dgN (m % 10)]:=fun h=>by first|exact absurd h (by decide)|exact zV (f:=3) (Nat.mod_lt _ (by decide))
  generalize hH:([48,49,50,51,52,53,54,55,56,57]:Str)=H at *
  have hHl:H.length=10:=by rw [← hH];rfl
  simp only [e1,e2,Int.toNat_natCast,e4,List.length_cons,List.length_nil]
  (repeat' (first|refine And.intro ?_ ?_|intro _))<;>first|omega|exact True.intro|exact False.elim ‹False›|skip
  all_goals first
    |exact e3 (by omega)
    |exact e5 (by omega)
    |(rw [e6 (by decide)];exact e5 (by omega))
    |(exfalso;omega)
def Qd (I:Alg) (args:List D) (hp:List HO):Option CT:=match args,hp with
  |[.v (.one (.p (.int .i64 n)))],[]=>(fun(n:Int)=>(some (.one ⟨I.hid (0≤n∧n<100000),(.ret (.v (.one (.p (.str (I.hid (txtN 10 5 n.toNat))))))),[]⟩):Option CT)) n
  |_,_=>none
theorem zhq:zo Tryz.prog 21 (Qd alg):=by
  intro args hp r h
  unfold Qd at h
  split at h
  · cases h;exact fun hn=>znV _ hn
  · cases h
def VX:Know Tryz.prog:=⟨21,Qd,zhq⟩
def Qc:Know Tryz.prog:=⟨21,fun I=>zu I (Qd I),zf zhq⟩
theorem znU (n:Int) (hneed:0≤n∧n<1000000):Spc Tryz.prog 21 [.v (.one (.p (.int .i64 n)))] [] (.ret (.v (.one (.p (.str (txtN 10 6 n.toNat)))))) []:=by
  generalize hr:txtN 10 6 n.toNat=r
  refine spcG zi mixed Tryz.func21 (by kernel_rfl) { keep:=some [0,2]} [VX,ul,sJ,sH,qi,qh,Zy,Zx,Xb,Xa,VY,VX,Qc] (by kernel_rfl) ?_
  intro I X hI hX
  refine zh (let y0:=I.cut (α:=UInt8) (Array.toList (List.toArray ([48,49,50,51,52,53,54,55,56,57]:List UInt8))) (I.rem n 10) (I.add (I.rem n 10) 1);let y1:=I.len (α:=UInt8) (Array.toList (List.toArray ([48,49,50,51,52,53,54,55,56,57]:List UInt8)));let y2:=I.hid (α:=(List UInt8)) (txtN 10 5 (Int.toNat (I.quo n 10)));let y3:=I.hid (α:=(List UInt8)) (txtN 10 5 (Int.toNat (I.sub 0 n)));.br (I.ilt n 0) (.need (I.inr Go.IntKind.i64 (I.sub 0 n)) (.need (I.hid (α:=(Prop)) (And (LE.le (0:Int) (I.sub 0 n)) (LT.lt (I.sub 0 n) (100000:Int)))) (.need (I.few (I.add (I.len (α:=UInt8) (Array.toList (List.toArray ([45]:List UInt8)))) (I.len (α:=UInt8) y3)) 1000000000) (.fin (.ret (.v (.one (.p (.str (I.app (α:=UInt8) (Array.toList (List.toArray ([45]:List UInt8))) y3)))))) [])))) (.br (I.ilt n 10) (.need (I.inr Go.IntKind.i64 (I.add n 1)) (.need (I.cutb n (I.add n 1) y1) (.fin (.ret (.v (.one (.p (.str (I.cut (α:=UInt8) (Array.toList (List.toArray ([48,49,50,51,52,53,54,55,56,57]:List UInt8))) n (I.add n 1))))))) []))) (.need (I.nne 10) (.need (I.inr Go.IntKind.i64 (I.quo n 10)) (.need (I.nne 10) (.need (I.nne 10) (.need (I.inr Go.IntKind.i64 (I.add (I.rem n 10) 1)) (.need (I.cutb (I.rem n 10) (I.add (I.rem n 10) 1) y1) (.need (I.hid (α:=(Prop)) (And (LE.le (0:Int) (I.quo n 10)) (LT.lt (I.quo n 10) (100000:Int)))) (.need (I.few (I.add (I.len (α:=UInt8) y2) (I.len (α:=UInt8) y0)) 1000000000) (.fin (.ret (.v (.one (.p (.str (I.app (α:=UInt8) y2 y0)))))) []))))))))))) (by kernel_rfl) ?_
  simp only [zl]
  subst hI
  simp only [nrmA,nrmB]
  obtain⟨m,rfl⟩: ∃ m:Nat,n=m:=⟨n.toNat,by omega⟩
  rw [Int.toNat_natCast] at hr
  have e1:(m:Int).tdiv 10=((m / 10:Nat):Int):=by rw [Int.tdiv_eq_ediv_of_nonneg (by omega)];omega
  have e2:(m:Int).tmod 10=((m % 10:Nat):Int):=by rw [Int.tmod_eq_emod_of_nonneg (by omega)];omega
  have e3:m<10→(([48,49,50,51,52,53,54,55,56,57]:Str).drop m).take (((m:Int)+1).toNat - m)=r:=fun h=>by
    rw [show((m:Int)+1).toNat - m=1 by omega,rJ h,← hr,zV h]
  have e4:(([48,49,50,51,52,53,54,55,56,57]:Str).drop (m % 10)).take ((((m % 10:Nat):Int)+1).toNat - m % 10)=[dgN (m % 10)]:=by
    rw [show(((m % 10:Nat):Int)+1).toNat - m % 10=1 by omega,rJ (Nat.mod_lt _ (by decide))]
  have e5: ¬ m<10→txtN 10 5 (m / 10)++[dgN (m % 10)]=r:=fun h=>by rw [← hr,xA h]
  have hl:=zW 10 5 (m / 10)
  have hl2:=zW 10 5 (m % 10)
  have e6:0<5→txtN 10 5 (m % 10)=[dgN (m % 10)]:=fun h=>by first|exact absurd h (by decide)|exact zV (f:=4) (Nat.mod_lt _ (by decide))
  generalize hH:([48,49,50,51,52,53,54,55,56,57]:Str)=H at *
  have hHl:H.length=10:=by rw [← hH];rfl
  simp only [e1,e2,Int.toNat_natCast,e4,List.length_cons,List.length_nil]
  (repeat' (first|refine And.intro ?_ ?_|intro _))<;>first|omega|exact True.intro|exact False.elim ‹False›|skip
  all_goals first
    |exact e3 (by omega)
    |exact e5 (by omega)
    |(rw [e6 (by decide)];exact e5 (by omega))
    |(exfalso;omega)
def Qb (I:Alg) (args:List D) (hp:List HO):Option CT:=match args,hp with
  |[.v (.one (.p (.int .i64 n)))],[]=>(fun(n:Int)=>(some (.one ⟨I.hid (0≤n∧n<1000000),(.ret (.v (.one (.p (.str (I.hid (txtN 10 6 n.toNat))))))),[]⟩):Option CT)) n
  |_,_=>none
theorem zhp:zo Tryz.prog 21 (Qb alg):=by
  intro args hp r h
  unfold Qb at h
  split at h
  · cases h;exact fun hn=>znU _ hn
  · cases h
def Qa:Know Tryz.prog:=⟨21,Qb,zhp⟩
def zcp:Know Tryz.prog:=⟨21,fun I=>zu I (Qb I),zf zhp⟩
theorem znT (n:Int) (hneed:0≤n∧n<10000000):Spc Tryz.prog 21 [.v (.one (.p (.int .i64 n)))] [] (.ret (.v (.one (.p (.str (txtN 10 7 n.toNat)))))) []:=by
  generalize hr:txtN 10 7 n.toNat=r
  refine spcG zi mixed Tryz.func21 (by kernel_rfl) { keep:=some [0,2]} [Qa,ul,sJ,sH,qi,qh,Zy,Zx,Xb,Xa,VY,VX,Qc,Qa,zcp] (by kernel_rfl) ?_
  intro I X hI hX
  refine zh (let y0:=I.cut (α:=UInt8) (Array.toList (List.toArray ([48,49,50,51,52,53,54,55,56,57]:List UInt8))) (I.rem n 10) (I.add (I.rem n 10) 1);let y1:=I.len (α:=UInt8) (Array.toList (List.toArray ([48,49,50,51,52,53,54,55,56,57]:List UInt8)));let y2:=I.hid (α:=(List UInt8)) (txtN 10 6 (Int.toNat (I.quo n 10)));let y3:=I.hid (α:=(List UInt8)) (txtN 10 6 (Int.toNat (I.sub 0 n)));.br (I.ilt n 0) (.need (I.inr Go.IntKind.i64 (I.sub 0 n)) (.need (I.hid (α:=(Prop)) (And (LE.le (0:Int) (I.sub 0 n)) (LT.lt (I.sub 0 n) (1000000:Int)))) (.need (I.few (I.add (I.len (α:=UInt8) (Array.toList (List.toArray ([45]:List UInt8)))) (I.len (α:=UInt8) y3)) 1000000000) (.fin (.ret (.v (.one (.p (.str (I.app (α:=UInt8) (Array.toList (List.toArray ([45]:List UInt8))) y3)))))) [])))) (.br (I.ilt n 10) (.need (I.inr Go.IntKind.i64 (I.add n 1)) (.need (I.cutb n (I.add n 1) y1) (.fin (.ret (.v (.one (.p (.str (I.cut (α:=UInt8) (Array.toList (List.toArray ([48,49,50,51,52,53,54,55,56,57]:List UInt8))) n (I.add n 1))))))) []))) (.need (I.nne 10) (.need (I.inr Go.IntKind.i64 (I.quo n 10)) (.need (I.nne 10) (.need (I.nne 10) (.need (I.inr Go.IntKind.i64 (I.add (I.rem n 10) 1)) (.need (I.cutb (I.rem n 10) (I.add (I.rem n 10) 1) y1) (.need (I.hid (α:=(Prop)) (And (LE.le (0:Int) (I.quo n 10)) (LT.lt (I.quo n 10) (1000000:Int)))) (.need (I.few (I.add (I.len (α:=UInt8) y2) (I.len (α:=UInt8) y0)) 1000000000) (.fin (.ret (.v (.one (.p (.str (I.app (α:=UInt8) y2 y0)))))) []))))))))))) (by kernel_rfl) ?_
  simp only [zl]
  subst hI
  simp only [nrmA,nrmB]
  obtain⟨m,rfl⟩: ∃ m:Nat,n=m:=⟨n.toNat,by omega⟩
  rw [Int.toNat_natCast] at hr
  have e1:(m:Int).tdiv 10=((m / 10:Nat):Int):=by rw [Int.tdiv_eq_ediv_of_nonneg (by omega)];omega
  have e2:(m:Int).tmod 10=((m % 10:Nat):Int):=by rw [Int.tmod_eq_emod_of_nonneg (by omega)];omega
  have e3:m<10→(([48,49,50,51,52,53,54,55,56,57]:Str).drop m).take (((m:Int)+1).toNat - m)=r:=fun h=>by
    rw [show((m:Int)+1).toNat - m=1 by omega,rJ h,← hr,zV h]
  have e4:(([48,49,50,51,52,53,54,55,56,57]:Str).drop (m % 10)).take ((((m % 10:Nat):Int)+1).toNat - m % 10)=[dgN (m % 10)]:=by
    rw [show(((m % 10:Nat):Int)+1).toNat - m % 10=1 by omega,rJ (Nat.mod_lt _ (by decide))]
  have e5: ¬ m<10→txtN 10 6 (m / 10)++[dgN (m % 10)]=r:=fun h=>by rw [← hr,xA h]
  have hl:=zW 10 6 (m / 10)
  have hl2:=zW 10 6 (m % 10)
  have e6:0<6→txtN 10 6 (m % 10)=[dgN (m % 10)]:=fun h=>by first|exact absurd h (by decide)|exact zV (f:=5) (Nat.mod_lt _ (by decide))
  generalize hH:([48,49,50,51,52,53,54,55,56,57]:Str)=H at *
  have hHl:H.length=10:=by rw [← hH];rfl
  simp only [e1,e2,Int.toNat_natCast,e4,List.length_cons,List.length_nil]
  (repeat' (first|refine And.intro ?_ ?_|intro _))<;>first|omega|exact True.intro|exact False.elim ‹False›|skip
  all_goals first
    |exact e3 (by omega)
    |exact e5 (by omega)
    |(rw [e6 (by decide)];exact e5 (by omega))
    |(exfalso;omega)
def RZ (I:Alg) (args:List D) (hp:List HO):Option CT:=match args,hp with
  |[.v (.one (.p (.int .i64 n)))],[]=>(fun(n:Int)=>(some (.one ⟨I.hid (0≤n∧n<10000000),(.ret (.v (.one (.p (.str (I.hid (txtN 10 7 n.toNat))))))),[]⟩):Option CT)) n
  |_,_=>none
theorem zho:zo Tryz.prog 21 (RZ alg):=by
  intro args hp r h
  unfold RZ at h
  split at h
  · cases h;exact fun hn=>znT _ hn
  · cases h
def zco:Know Tryz.prog:=⟨21,RZ,zho⟩
def zhn:Know Tryz.prog:=⟨21,fun I=>zu I (RZ I),zf zho⟩
theorem znS (n:Int) (hneed:0≤n∧n<100000000):Spc Tryz.prog 21 [.v (.one (.p (.int .i64 n)))] [] (.ret (.v (.one (.p (.str (txtN 10 8 n.toNat)))))) []:=by
  generalize hr:txtN 10 8 n.toNat=r
  refine spcG zi mixed Tryz.func21 (by kernel_rfl) { keep:=some [0,2]} [zco,ul,sJ,sH,qi,qh,Zy,Zx,Xb,Xa,VY,VX,Qc,Qa,zcp,zco,zhn] (by kernel_rfl) ?_
  intro I X hI hX
  refine zh (let y0:=I.cut (α:=UInt8) (Array.toList (List.toArray ([48,49,50,51,52,53,54,55,56,57]:List UInt8))) (I.rem n 10) (I.add (I.rem n 10) 1);let y1:=I.len (α:=UInt8) (Array.toList (List.toArray ([48,49,50,51,52,53,54,55,56,57]:List UInt8)));let y2:=I.hid (α:=(List UInt8)) (txtN 10 7 (Int.toNat (I.quo n 10)));let y3:=I.hid (α:=(List UInt8)) (txtN 10 7 (Int.toNat (I.sub 0 n)));.br (I.ilt n 0) (.need (I.inr Go.IntKind.i64 (I.sub 0 n)) (.need (I.hid (α:=(Prop)) (And (LE.le (0:Int) (I.sub 0 n)) (LT.lt (I.sub 0 n) (10000000:Int)))) (.need (I.few (I.add (I.len (α:=UInt8) (Array.toList (List.toArray ([45]:List UInt8)))) (I.len (α:=UInt8) y3)) 1000000000) (.fin (.ret (.v (.one (.p (.str (I.app (α:=UInt8) (Array.toList (List.toArray ([45]:List UInt8))) y3)))))) [])))) (.br (I.ilt n 10) (.need (I.inr Go.IntKind.i64 (I.add n 1)) (.need (I.cutb n (I.add n 1) y1) (.fin (.ret (.v (.one (.p (.str (I.cut (α:=UInt8) (Array.toList (List.toArray ([48,49,50,51,52,53,54,55,56,57]:List UInt8))) n (I.add n 1))))))) []))) (.need (I.nne 10) (.need (I.inr Go.IntKind.i64 (I.quo n 10)) (.need (I.nne 10) (.need (I.nne 10) (.need (I.inr Go.IntKind.i64 (I.add (I.rem n 10) 1)) (.need (I.cutb (I.rem n 10) (I.add (I.rem n 10) 1) y1) (.need (I.hid (α:=(Prop)) (And (LE.le (0:Int) (I.quo n 10)) (LT.lt (I.quo n 10) (10000000:Int)))) (.need (I.few (I.add (I.len (α:=UInt8) y2) (I.len (α:=UInt8) y0)) 1000000000) (.fin (.ret (.v (.one (.p (.str (I.app (α:=UInt8) y2 y0)))))) []))))))))))) (by kernel_rfl) ?_
  simp only [zl]
  subst hI
  simp only [nrmA,nrmB]
  obtain⟨m,rfl⟩: ∃ m:Nat,n=m:=⟨n.toNat,by omega⟩
  rw [Int.toNat_natCast] at hr
  have e1:(m:Int).tdiv 10=((m / 10:Nat):Int):=by rw [Int.tdiv_eq_ediv_of_nonneg (by omega)];omega
  have e2:(m:Int).tmod 10=((m % 10:Nat):Int):=by rw [Int.tmod_eq_emod_of_nonneg (by omega)];omega
  have e3:m<10→(([48,49,50,51,52,53,54,55,56,57]:Str).drop m).take (((m:Int)+1).toNat - m)=r:=fun h=>by
    rw [show((m:Int)+1).toNat - m=1 by omega,rJ h,← hr,zV h]
  have e4:(([48,49,50,51,52,53,54,55,56,57]:Str).drop (m % 10)).take ((((m % 10:Nat):Int)+1).toNat - m % 10)=[dgN (m % 10)]:=by
    rw [show(((m % 10:Nat):Int)+1).toNat - m % 10=1 by omega,rJ (Nat.mod_lt _ (by decide))]
  have e5: ¬ m<10→txtN 10 7 (m / 10)++[dgN (m % 10)]=r:=fun h=>by rw [← hr,xA h]
  have hl:=zW 10 7 (m / 10)
  have hl2:=zW 10 7 (m % 10)
  have e6:0<7→txtN 10 7 (m % 10)=[dgN (m % 10)]:=fun h=>by first|exact absurd h (by decide)|exact zV (f:=6) (Nat.mod_lt _ (by decide))
  generalize hH:([48,49,50,51,52,53,54,55,56,57]:Str)=H at *
  have hHl:H.length=10:=by rw [← hH];rfl
  simp only [e1,e2,Int.toNat_natCast,e4,List.length_cons,List.length_nil]
  (repeat' (first|refine And.intro ?_ ?_|intro _))<;>first|omega|exact True.intro|exact False.elim ‹False›|skip
  all_goals first
    |exact e3 (by omega)
    |exact e5 (by omega)
    |(rw [e6 (by decide)];exact e5 (by omega))
    |(exfalso;omega)
def RY (I:Alg) (args:List D) (hp:List HO):Option CT:=match args,hp with
  |[.v (.one (.p (.int .i64 n)))],[]=>(fun(n:Int)=>(some (.one ⟨I.hid (0≤n∧n<100000000),(.ret (.v (.one (.p (.str (I.hid (txtN 10 8 n.toNat))))))),[]⟩):Option CT)) n
  |_,_=>none
theorem zhm:zo Tryz.prog 21 (RY alg):=by
  intro args hp r h
  unfold RY at h
  split at h
  · cases h;exact fun hn=>znS _ hn
  · cases h
def zhl:Know Tryz.prog:=⟨21,RY,zhm⟩
def zla:Know Tryz.prog:=⟨21,fun I=>zu I (RY I),zf zhm⟩
theorem zmN (n:Int) (hneed:0≤n∧n<1000000000):Spc Tryz.prog 21 [.v (.one (.p (.int .i64 n)))] [] (.ret (.v (.one (.p (.str (txtN 10 9 n.toNat)))))) []:=by
  generalize hr:txtN 10 9 n.toNat=r
  refine spcG zi mixed Tryz.func21 (by kernel_rfl) { keep:=some [0,2]} [zhl,ul,sJ,sH,qi,qh,Zy,Zx,Xb,Xa,VY,VX,Qc,Qa,zcp,zco,zhn,zhl,zla] (by kernel_rfl) ?_
  intro I X hI hX
  refine zh (let y0:=I.cut (α:=UInt8) (Array.toList (List.toArray ([48,49,50,51,52,53,54,55,56,57]:List UInt8))) (I.rem n 10) (I.add (I.rem n 10) 1);let y1:=I.len (α:=UInt8) (Array.toList (List.toArray ([48,49,50,51,52,53,54,55,56,57]:List UInt8)));let y2:=I.hid (α:=(List UInt8)) (txtN 10 8 (Int.toNat (I.quo n 10)));let y3:=I.hid (α:=(List UInt8)) (txtN 10 8 (Int.toNat (I.sub 0 n)));.br (I.ilt n 0) (.need (I.inr Go.IntKind.i64 (I.sub 0 n)) (.need (I.hid (α:=(Prop)) (And (LE.le (0:Int) (I.sub 0 n)) (LT.lt (I.sub 0 n) (100000000:Int)))) (.need (I.few (I.add (I.len (α:=UInt8) (Array.toList (List.toArray ([45]:List UInt8)))) (I.len (α:=UInt8) y3)) 1000000000) (.fin (.ret (.v (.one (.p (.str (I.app (α:=UInt8) (Array.toList (List.toArray ([45]:List UInt8))) y3)))))) [])))) (.br (I.ilt n 10) (.need (I.inr Go.IntKind.i64 (I.add n 1)) (.need (I.cutb n (I.add n 1) y1) (.fin (.ret (.v (.one (.p (.str (I.cut (α:=UInt8) (Array.toList (List.toArray ([48,49,50,51,52,53,54,55,56,57]:List UInt8))) n (I.add n 1))))))) []))) (.need (I.nne 10) (.need (I.inr Go.IntKind.i64 (I.quo n 10)) (.need (I.nne 10) (.need (I.nne 10) (.need (I.inr Go.IntKind.i64 (I.add (I.rem n 10) 1)) (.need (I.cutb (I.rem n 10) (I.add (I.rem n 10) 1) y1) (.need (I.hid (α:=(Prop)) (And (LE.le (0:Int) (I.quo n 10)) (LT.lt (I.quo n 10) (100000000:Int)))) (.need (I.few (I.add (I.len (α:=UInt8) y2) (I.len (α:=UInt8) y0)) 1000000000) (.fin (.ret (.v (.one (.p (.str (I.app (α:=UInt8) y2 y0)))))) []))))))))))) (by kernel_rfl) ?_
  simp only [zl]
  subst hI
  simp only [nrmA,nrmB]
  obtain⟨m,rfl⟩: ∃ m:Nat,n=m:=⟨n.toNat,by omega⟩
  rw [Int.toNat_natCast] at hr
  have e1:(m:Int).tdiv 10=((m / 10:Nat):Int):=by rw [Int.tdiv_eq_ediv_of_nonneg (by omega)];omega
  have e2:(m:Int).tmod 10=((m % 10:Nat):Int):=by rw [Int.tmod_eq_emod_of_nonneg (by omega)];omega
  have e3:m<10→(([48,49,50,51,52,53,54,55,56,57]:Str).drop m).take (((m:Int)+1).toNat - m)=r:=fun h=>by
    rw [show((m:Int)+1).toNat - m=1 by omega,rJ h,← hr,zV h]
  have e4:(([48,49,50,51,52,53,54,55,56,57]:Str).drop (m % 10)).take ((((m % 10:Nat):Int)+1).toNat - m % 10)=[dgN (m % 10)]:=by
    rw [show(((m % 10:Nat):Int)+1).toNat - m % 10=1 by omega,rJ (Nat.mod_lt _ (by decide))]
  have e5: ¬ m<10→txtN 10 8 (m / 10)++[dgN (m % 10)]=r:=fun h=>by rw [← hr,xA h]
  have hl:=zW 10 8 (m / 10)
  have hl2:=zW 10 8 (m % 10)
  have e6:0<8→txtN 10 8 (m % 10)=[dgN (m % 10)]:=fun h=>by first|exact absurd h (by decide)|exact zV (f:=7) (Nat.mod_lt _ (by decide))
  generalize hH:([48,49,50,51,52,53,54,55,56,57]:Str)=H at *
  have hHl:H.length=10:=by rw [← hH];rfl
  simp only [e1,e2,Int.toNat_natCast,e4,List.length_cons,List.length_nil]
  (repeat' (first|refine And.intro ?_ ?_|intro _))<;>first|omega|exact True.intro|exact False.elim ‹False›|skip
  all_goals first
    |exact e3 (by omega)
    |exact e5 (by omega)
    |(rw [e6 (by decide)];exact e5 (by omega))
    |(exfalso;omega)
def RX (I:Alg) (args:List D) (hp:List HO):Option CT:=match args,hp with
  |[.v (.one (.p (.int .i64 n)))],[]=>(fun(n:Int)=>(some (.one ⟨I.hid (0≤n∧n<1000000000),(.ret (.v (.one (.p (.str (I.hid (txtN 10 9 n.toNat))))))),[]⟩):Option CT)) n
  |_,_=>none
theorem zhk:zo Tryz.prog 21 (RX alg):=by
  intro args hp r h
  unfold RX at h
  split at h
  · cases h;exact fun hn=>zmN _ hn
  · cases h
def num9__k:Know Tryz.prog:=⟨21,RX,zhk⟩
def num9__l:Know Tryz.prog:=⟨21,fun I=>zu I (RX I),zf zhk⟩
theorem zd8: ∀ (k n:Nat),n<10 ^ (k+1)→Lib.decDigits n=txtN 10 (k+1) n
  | 0,n,h=>by
    rw [Lib.decDigits,dif_pos (by omega),zV (by omega)]
    unfold dgN
    rw [if_pos (by omega)]
  | k +1,n,h=>by
    rw [Lib.decDigits]
    by_cases hn:n<10
    · rw [dif_pos hn,zV hn]
      unfold dgN
      rw [if_pos hn]
    · rw [dif_neg hn,xA hn,zd8 k (n / 10) (by rw [Nat.pow_succ] at h;omega)]
      unfold dgN
      rw [if_pos (Nat.mod_lt _ (by decide))]
def decS (n:Int):Str:=txtN 10 9 n.toNat
theorem zjD {n:Int} (h0:0≤n) (h1:n<1000000000):Lib.itoa n=decS n:=by
  unfold Lib.itoa decS
  rw [if_neg (by omega),zd8 8 n.toNat (by omega)]
theorem zeH (n:Int):(decS n).length≤9:=zW 10 9 _
theorem zn3 (n:Int) (hneed:0≤n∧n<1000000000):Spc Tryz.prog 77 [.v (.one (.p (.int .i64 n)))] [] (.ret (.v (.one (.p (.str (decS n)))))) []:=by
  refine Spc.of_below ⟨_,Tryz.func77,by kernel_rfl,by kernel_rfl⟩ fun S bs w vs hW hM=> ?_
  obtain⟨v,r,rfl⟩: ∃ v r,vs=v::r:=by cases vs with|nil=>exact hM.elim|cons v r=>exact⟨v,r,rfl⟩
  obtain⟨h1,hM⟩:=hM
  obtain rfl:r=[]:=by cases r with|nil=>rfl|cons v r=>exact hM.elim
  cases h1 with
  | int _ _=>
    refine⟨.string (Sep.S (decS n)),.str _ (by have:=zeH n;unfold maxLen;omega),?_⟩
    rw [← zjD hneed.1 hneed.2]
    refine(Tryz.strconv_Itoa n (by omega) (by omega) w (by first|exact hW|exact hW.1)).mono fun e w' h=> ?_
    obtain⟨he,k,os,rfl⟩:=h
    refine⟨he,?_⟩
    exact⟨rfl,rfl,rfl,(show w.heap.size≤(w.heap++os).size by rw [Array.size_append];omega),fun j hj=>show(w.heap++os)[j]? =w.heap[j]? from Array.getElem?_append_left hj⟩
def Qq (I:Alg) (args:List D) (hp:List HO):Option CT:=match args,hp with
  |[.v (.one (.p (.int .i64 n)))],[]=>(fun(n:Int)=>(some (.one ⟨I.hid (0≤n∧n<1000000000),(.ret (.v (.one (.p (.str (I.hid (decS n))))))),[]⟩):Option CT)) n
  |_,_=>none
theorem zhH:zo Tryz.prog 77 (Qq alg):=by
  intro args hp r h
  unfold Qq at h
  split at h
  · cases h;exact fun hn=>zn3 _ hn
  · cases h
def zlk:Know Tryz.prog:=⟨77,Qq,zhH⟩
def zlj:Know Tryz.prog:=⟨77,fun I=>zu I (Qq I),zf zhH⟩
theorem num_ (n:Int) (hneed:0≤n∧n<1000000000):Spc Tryz.prog 21 [.v (.one (.p (.int .i64 n)))] [] (.ret (.v (.one (.p (.str (decS n)))))) []:=zmN n hneed
def zdU (I:Alg) (args:List D) (hp:List HO):Option CT:=match args,hp with
  |[.v (.one (.p (.int .i64 n)))],[]=>(fun(n:Int)=>(some (.one ⟨I.hid (0≤n∧n<1000000000),(.ret (.v (.one (.p (.str (I.hid (decS n))))))),[]⟩):Option CT)) n
  |_,_=>none
theorem zkk:zo Tryz.prog 21 (zdU alg):=by
  intro args hp r h
  unfold zdU at h
  split at h
  · cases h;exact fun hn=>num_ _ hn
  · cases h
def num__k:Know Tryz.prog:=⟨21,zdU,zkk⟩
def num__l:Know Tryz.prog:=⟨21,fun I=>zu I (zdU I),zf zkk⟩
end Go.Proofs.YtcclfkakcgnacaaGreatDoor
namespace Go.Proofs.YtcclfkakcgnacaaGreatDoor
open Go Go.Sep Go.Ab
def uU:Str:=[47,102,105,108,101,115]
def vC:Str:=[47,102,105,108,101,115,47]
def verS:Str:=[49,46,48,46,48]
def zmJ:Str:=[79,80,84,73,79,78,83]
def zk1:Str:=[80,79,83,84]
def zjG:Str:=[72,69,65,68]
def zdL:Str:=[80,65,84,67,72]
def zjV:Str:=[68,69,76,69,84,69]
def zbZ:Str:=[116,117,115,45,114,101,115,117,109,97,98,108,101]
def yh:Str:=[117,112,108,111,97,100,45,108,101,110,103,116,104]
def Vo:Str:=[117,112,108,111,97,100,45,100,101,102,101,114,45,108,101,110,103,116,104]
def zbW:Str:=[117,112,108,111,97,100,45,109,101,116,97,100,97,116,97]
def vZ:Str:=[117,112,108,111,97,100,45,111,102,102,115,101,116]
def zbE:Str:=[99,111,110,116,101,110,116,45,116,121,112,101]
def octS:Str:=[97,112,112,108,105,99,97,116,105,111,110,47,111,102,102,115,101,116,43,111,99,116,101,116,45,115,116,114,101,97,109]
def ziZ:Str:=[84,117,115,45,82,101,115,117,109,97,98,108,101]
def zf9:Str:=[84,117,115,45,86,101,114,115,105,111,110]
def zl0:Str:=[84,117,115,45,77,97,120,45,83,105,122,101]
def zl2:Str:=[84,117,115,45,69,120,116,101,110,115,105,111,110]
def zl1:Str:=[99,114,101,97,116,105,111,110,44,99,114,101,97,116,105,111,110,45,100,101,102,101,114,45,108,101,110,103,116,104,44,116,101,114,109,105,110,97,116,105,111,110]
def locN:Str:=[76,111,99,97,116,105,111,110]
def Vl:Str:=[85,112,108,111,97,100,45,79,102,102,115,101,116]
def zlV:Str:=[85,112,108,111,97,100,45,76,101,110,103,116,104]
def zlW:Str:=[85,112,108,111,97,100,45,68,101,102,101,114,45,76,101,110,103,116,104]
def zlU:Str:=[85,112,108,111,97,100,45,77,101,116,97,100,97,116,97]
def znp:Str:=[67,97,99,104,101,45,67,111,110,116,114,111,108]
def zmO:Str:=[110,111,45,115,116,111,114,101]
def oneT (f:List Fld) (n:Str):Str × Int:=oneF (valsF f n)
def wL (f:List Fld) (n:Str):Bool:=decide ((oneT f n).2=10)||(decide ((oneT f n).2=0)&&(numA (oneT f n).1 10 9).2)
def zG (f:List Fld) (n:Str):Int:=if(oneT f n).2=10 then -1 else(numA (oneT f n).1 10 9).1
def rH (f:List Fld):Bool:=decide ((oneT f Vo).2=10)||(decide ((oneT f Vo).2=0)&&decide ((oneT f Vo).1=[49]))
def TK (f:List Fld):Bool:=decide ((oneT f Vo).2=0)
def uK (c:Int):Int:=if c=10 then 404 else if c=17∨c=19 then 409 else if c=4 then 413 else if c=8∨c=16 then 507 else 400
def wsS (q:Sto) (e:Ent):Sto:=⟨wrtL q.l q.n q.b e,wrtN q.l q.n q.b e,wrtB q.l q.n q.b e,q.s⟩
def wsC (q:Sto) (e:Ent):Int:=wrtC q.l q.n q.b e
def syS (q:Sto):Sto:= { q with s:=(q.b.length:Int)}
def creE (q:Sto) (n:Int) (t:Str):Ent:=⟨1,q.n+1,n,t⟩
structure TA where
  st:Int
  fs:List Fld
  q:Sto
def zO (q:Sto) (f:List Fld):TA:=
  if wL f yh=false then⟨400,[],q⟩
  else if rH f=false then⟨400,[],q⟩
  else if decide (0≤zG f yh)=TK f then⟨400,[],q⟩
  else if(oneT f zbW).2=9 then⟨400,[],q⟩
  else if wsC q (creE q (zG f yh) (oneT f zbW).1)≠0 then⟨uK (wsC q (creE q (zG f yh) (oneT f zbW).1)),[],q⟩
  else⟨201,[⟨locN,vC++decS (q.n+1)⟩],syS (wsS q (creE q (zG f yh) (oneT f zbW).1))⟩
def idB (t:Str):Bool:=Lib.hasPrefix t vC&&((numA (t.drop 7) 10 9).2&&decide (decS (numA (t.drop 7) 10 9).1=t.drop 7))
def idV (t:Str):Int:=(numA (t.drop 7) 10 9).1
def uplB (q:Sto) (t:Str):Bool:=idB t&&getB q.l (idV t)
def lenF (u:Upl):Fld:=if u.size<0 then⟨zlW,[49]⟩ else⟨zlV,decS u.size⟩
def UH (u:Upl):List Fld:=[⟨Vl,decS (u.bytes.length:Int)⟩,lenF u,⟨znp,zmO⟩]++(if u.note=[] then [] else [⟨zlU,u.note⟩])
def yG (q:Sto) (u:Upl) (f:List Fld) (body:Str):TA:=
  if(oneT f zbE).2=9 then⟨400,[],q⟩
  else if(vO (oneT f zbE).1).2≠0∨(vO (oneT f zbE).1).1.word≠octS then⟨415,[],q⟩
  else if wL f vZ=false then⟨400,[],q⟩
  else if zG f vZ<0 then⟨400,[],q⟩
  else if zG f vZ≠(u.bytes.length:Int) then⟨409,[],q⟩
  else if wL f yh=false then⟨400,[],q⟩
  else if 0≤zG f yh∧0≤u.size∧zG f yh≠u.size then⟨400,[],q⟩
  else if 0≤zG f yh∧u.size<0∧(2000<zG f yh∨zG f yh<zG f vZ+(body.length:Int)) then⟨413,[],q⟩
  else if Zj q.b ((body.length:Int)+60)=false then⟨507,[],q⟩
  else if(if apG q.l u.id (zG f vZ) then 17 else wsC q (apE u.id body))≠0 then⟨uK (if apG q.l u.id (zG f vZ) then 17 else wsC q (apE u.id body)),[],q⟩
  else if 0≤zG f yh∧u.size<0 then
    if wsC (wsS q (apE u.id body)) ⟨3,u.id,zG f yh,[]⟩≠0 then⟨uK (wsC (wsS q (apE u.id body)) ⟨3,u.id,zG f yh,[]⟩),[],wsS q (apE u.id body)⟩
    else⟨204,[⟨Vl,decS (zG f vZ+(body.length:Int))⟩],syS (wsS (wsS q (apE u.id body)) ⟨3,u.id,zG f yh,[]⟩)⟩
  else⟨204,[⟨Vl,decS (zG f vZ+(body.length:Int))⟩],syS (wsS q (apE u.id body))⟩
def UO (q:Sto) (u:Upl):TA:=
  if wsC q ⟨4,u.id,0,[]⟩≠0 then⟨uK (wsC q ⟨4,u.id,0,[]⟩),[],q⟩ else⟨204,[],syS (wsS q ⟨4,u.id,0,[]⟩)⟩
def zB (q:Sto) (m t:Str) (f:List Fld) (body:Str):TA:=
  if t=uU∧m=zmJ then⟨204,[⟨zf9,verS⟩,⟨zl0,decS 2000⟩,⟨zl2,zl1⟩],q⟩
  else if(oneT f zbZ).2=9 then⟨400,[],q⟩
  else if(oneT f zbZ).1≠verS then⟨412,[⟨zf9,verS⟩],q⟩
  else if t=uU then(if m≠zk1 then⟨405,[],q⟩ else zO q f)
  else if uplB q t=false then⟨404,[],q⟩
  else if m=zjG then⟨200,UH (getU q.l (idV t)),q⟩
  else if m=zdL then yG q (getU q.l (idV t)) f body
  else if m=zjV then UO q (getU q.l (idV t))
  else⟨405,[],q⟩
def resT:Fld:=⟨ziZ,verS⟩
end Go.Proofs.YtcclfkakcgnacaaGreatDoor
namespace Go.Proofs.YtcclfkakcgnacaaGreatDoor
open Go Go.Sep Go.Ab
set_option maxRecDepth 100000
theorem one_cell {S:Frz} {bs:List Value} {args:List D} {vs:List Value}:True:=trivial
theorem zfz (s p:Str):Spc Tryz.prog 42 [.v (.one (.p (.str s))),.v (.one (.p (.str p)))] [] (.ret (.v (.one (.p (.bool (Lib.hasPrefix s p)))))) []:=by
  refine Spc.of_below ⟨_,Tryz.func42,by kernel_rfl,by kernel_rfl⟩ fun S bs w vs _ hM=> ?_
  obtain⟨v,r,rfl⟩: ∃ v r,vs=v::r:=by cases vs with|nil=>exact hM.elim|cons v r=>exact⟨v,r,rfl⟩
  obtain⟨h1,hM⟩:=hM
  obtain⟨v2,r2,rfl⟩: ∃ v r2,r=v::r2:=by cases r with|nil=>exact hM.elim|cons v r=>exact⟨v,r,rfl⟩
  obtain⟨h2,hM⟩:=hM
  obtain rfl:r2=[]:=by cases r2 with|nil=>rfl|cons v r=>exact hM.elim
  cases h1 with
  | str _ hl1=>
    cases h2 with
    | str _ hl2=>
      refine⟨.bool (Lib.hasPrefix s p),.bool _,(Tryz.strings_HasPrefix (Sep.S s) (Sep.S p) w).mono fun e w' h=> ?_⟩
      obtain⟨he,rfl⟩:=h
      exact⟨he,Go.RowKit.Below.refl _ _⟩
def vU (I:Alg) (args:List D) (hp:List HO):Option CT:=match args,hp with
  |[.v (.one (.p (.str s))),.v (.one (.p (.str p)))],[]=>(fun(s p:Str)=>(some (.one ⟨I.hid (True),(.ret (.v (.one (.p (.bool (I.hid (Lib.hasPrefix s p))))))),[]⟩):Option CT)) s p
  |_,_=>none
theorem XD:zo Tryz.prog 42 (vU alg):=by
  intro args hp r h
  unfold vU at h
  split at h
  · cases h;exact fun hn=>zfz _ _
  · cases h
def zbb:Know Tryz.prog:=⟨42,vU,XD⟩
def zba:Know Tryz.prog:=⟨42,fun I=>zu I (vU I),zf XD⟩
theorem UG (s p:Str):(Lib.trimPrefix s p).length≤s.length:=by
  unfold Lib.trimPrefix
  split
  · simp
  · exact Nat.le_refl _
theorem zfI (s p:Str):Spc Tryz.prog 82 [.v (.one (.p (.str s))),.v (.one (.p (.str p)))] [] (.ret (.tup [(.one (.p (.str ((Lib.trimPrefix s p))))),(.one (.p (.bool (Lib.hasPrefix s p))))])) []:=by
  refine Spc.of_below ⟨_,Tryz.func82,by kernel_rfl,by kernel_rfl⟩ fun S bs w vs _ hM=> ?_
  obtain⟨v,r,rfl⟩: ∃ v r,vs=v::r:=by cases vs with|nil=>exact hM.elim|cons v r=>exact⟨v,r,rfl⟩
  obtain⟨h1,hM⟩:=hM
  obtain⟨v2,r2,rfl⟩: ∃ v r2,r=v::r2:=by cases r with|nil=>exact hM.elim|cons v r=>exact⟨v,r,rfl⟩
  obtain⟨h2,hM⟩:=hM
  obtain rfl:r2=[]:=by cases r2 with|nil=>rfl|cons v r=>exact hM.elim
  cases h1 with
  | str _ hl1=>
    cases h2 with
    | str _ hl2=>
      refine⟨.tuple #[.string (Sep.S (Lib.trimPrefix s p)),.bool (Lib.hasPrefix s p)],⟨[.string (Sep.S (Lib.trimPrefix s p)),.bool (Lib.hasPrefix s p)],⟨.str _ (Nat.le_trans (UG _ _) hl1),.bool _,trivial⟩,rfl⟩,(Tryz.strings_CutPrefix (Sep.S s) (Sep.S p) w).mono fun e w' h=> ?_⟩
      obtain⟨he,rfl⟩:=h
      exact⟨he,Go.RowKit.Below.refl _ _⟩
def vW (I:Alg) (args:List D) (hp:List HO):Option CT:=match args,hp with
  |[.v (.one (.p (.str s))),.v (.one (.p (.str p)))],[]=>(fun(s p:Str)=>(some (.one ⟨I.hid (True),(.ret (.tup [(.one (.p (.str (I.hid ((Lib.trimPrefix s p)))))),(.one (.p (.bool (I.hid (Lib.hasPrefix s p)))))])),[]⟩):Option CT)) s p
  |_,_=>none
theorem XK:zo Tryz.prog 82 (vW alg):=by
  intro args hp r h
  unfold vW at h
  split at h
  · cases h;exact fun hn=>zfI _ _
  · cases h
def XJ:Know Tryz.prog:=⟨82,vW,XK⟩
def XI:Know Tryz.prog:=⟨82,fun I=>zu I (vW I),zf XK⟩
def FOk (f:List Fld):Prop:=f.length≤1000∧∀ x ∈ f,x.name.length≤1000000∧x.value.length≤1000000
def cfgT:Cfg:= { sl:=XP.sl++[⟨78,1000003,.byte,none⟩],fz:=[50]}
theorem zl6 (st:Int) (fs:List Fld):Spc Tryz.prog 50 [.v (.one (.p (.int .i64 st))),.v (.one (.p (.list .fld fs)))] [] (.pan (.ifc 73 true [(.int .i64 st),(.list .fld fs),(.list .byte ([]))])) []:=by
  refine spcG zi mixed Tryz.func50 (by kernel_rfl) { keep:=some [0,1]} [] (by kernel_rfl) ?_
  intro I X hI hX
  refine zh (.fin (.pan (.ifc 73 .true [(.int .i64 st),(.list .fld fs),(.list .byte ([]:List UInt8))])) []) (by kernel_rfl) ?_
  simp only [zl]
  try trivial
def XY (I:Alg) (args:List D) (hp:List HO):Option CT:=match args,hp with
  |[.v (.one (.p (.int .i64 st))),.v (.one (.p (.list .fld fs)))],[]=>(fun(st:Int) (fs:List Fld)=>(some (.one ⟨I.hid (True),(.pan (.ifc 73 true [(.int .i64 st),(.list .fld fs),(.list .byte (I.hid ([])))])),[]⟩):Option CT)) st fs
  |_,_=>none
theorem zdg:zo Tryz.prog 50 (XY alg):=by
  intro args hp r h
  unfold XY at h
  split at h
  · cases h;exact fun hn=>zl6 _ _
  · cases h
def zJ:Know Tryz.prog:=⟨50,XY,zdg⟩
def zI:Know Tryz.prog:=⟨50,fun I=>zu I (XY I),zf zdg⟩
theorem zkN (n v:Str):Spc Tryz.prog 28 [.v (.one (.p (.str n))),.v (.one (.p (.str v)))] [] (.ret (.v (.agg [(.p (.str n)),(.p (.str v))]))) []:=by
  refine spcG zi mixed Tryz.func28 (by kernel_rfl) { keep:=some [0,1,4]} [] (by kernel_rfl) ?_
  intro I X hI hX
  refine zh (.fin (.ret (.v (.agg [(.p (.str n)),(.p (.str v))]))) []) (by kernel_rfl) ?_
  simp only [zl]
  try trivial
def ZR (I:Alg) (args:List D) (hp:List HO):Option CT:=match args,hp with
  |[.v (.one (.p (.str n))),.v (.one (.p (.str v)))],[]=>(fun(n v:Str)=>(some (.one ⟨I.hid (True),(.ret (.v (.agg [(.p (.str n)),(.p (.str v))]))),[]⟩):Option CT)) n v
  |_,_=>none
theorem zao:zo Tryz.prog 28 (ZR alg):=by
  intro args hp r h
  unfold ZR at h
  split at h
  · cases h;exact fun hn=>zkN _ _
  · cases h
def zU:Know Tryz.prog:=⟨28,ZR,zao⟩
def zT:Know Tryz.prog:=⟨28,fun I=>zu I (ZR I),zf zao⟩
theorem znB (n:Int) (hneed:0≤n∧n<1000000000):Spc Tryz.prog 51 [.v (.one (.p (.int .i64 n)))] [] (.ret (.v (.one (.p (.str ((decS n))))))) []:=by
  refine spcG zi mixed Tryz.func51 (by kernel_rfl) { keep:=some [0,2]} [zlk,zlj] (by kernel_rfl) ?_
  intro I X hI hX
  refine zh (.need (I.hid (α:=(Prop)) (And (LE.le (0:Int) n) (LT.lt n (1000000000:Int)))) (.fin (.ret (.v (.one (.p (.str (I.hid (α:=(List UInt8)) (decS n))))))) [])) (by kernel_rfl) ?_
  simp only [zl]
  subst hI
  simp only [nrmA,nrmB]
  first|exact hneed|exact⟨hneed,trivial⟩|trace_state
def SQ (I:Alg) (args:List D) (hp:List HO):Option CT:=match args,hp with
  |[.v (.one (.p (.int .i64 n)))],[]=>(fun(n:Int)=>(some (.one ⟨I.hid (0≤n∧n<1000000000),(.ret (.v (.one (.p (.str (I.hid ((decS n)))))))),[]⟩):Option CT)) n
  |_,_=>none
theorem zgj:zo Tryz.prog 51 (SQ alg):=by
  intro args hp r h
  unfold SQ at h
  split at h
  · cases h;exact fun hn=>znB _ hn
  · cases h
def yZ:Know Tryz.prog:=⟨51,SQ,zgj⟩
def yY:Know Tryz.prog:=⟨51,fun I=>zu I (SQ I),zf zgj⟩
theorem zmb (m t:Str) (mi:Int) (f:List Fld) (le:Int) (l:List Upl) (n:Int) (b:Str) (s:Int) (nm:Str) (hneed:(FOk f∧nm.length≤1000000)∧¬ (oneT f nm).2=9):Spc Tryz.prog 52 [.v (.one (.ptr 0 0)),.v (.one (.p (.str nm)))] [.obj 78 [(.ptr 1 0),(.p (.str m)),(.p (.str t)),(.p (.int .i64 mi)),(.p (.list .fld f)),(.p (.int .i64 le))],.pack [.obj 48 [(.ptr 1 0),(.ptr 2 0)],.pack [.obj 90 [(.row 1),(.p (.int .i64 n))],.row .upl 67 l],.pack [.obj 104 [(.row 1),(.p (.int .i64 s))],.row .byte 5 b]]] (.ret (.tup [(.one (.p (.str ((oneT f nm).1)))),(.one (.p (.bool (decide ((oneT f nm).2=0)))))])) [.obj 78 [(.ptr 1 0),(.p (.str m)),(.p (.str t)),(.p (.int .i64 mi)),(.p (.list .fld f)),(.p (.int .i64 le))],.pack [.obj 48 [(.ptr 1 0),(.ptr 2 0)],.pack [.obj 90 [(.row 1),(.p (.int .i64 n))],.row .upl 67 l],.pack [.obj 104 [(.row 1),(.p (.int .i64 s))],.row .byte 5 b]]]:=by
  obtain⟨⟨hf,hn⟩,h9⟩:=hneed
  refine spcG zi mixed Tryz.func52 (by kernel_rfl) { cfgT with keep:=some [0,1,4,5,6,7]} [zh4,zh3,zJ,zI] (by kernel_rfl) ?_
  intro I X hI hX
  refine zh (let y0:=I.hid (α:=Int) (Prod.snd (oneF (valsF f nm)));.need (I.hid (α:=(Prop)) (And (LE.le (List.length f) 1000) (And (LE.le (List.length nm) 1000000) (∀ (f_1:Fld),f_1 ∈ f→List.length f_1.name≤1000000∧List.length f_1.value≤1000000)))) (.br (I.ieq y0 9) (.need (I.hid (α:=(Prop)) True) (.fin (.pan (.ifc 73 .true [(.int .i64 400),(.list .fld ([]:List Go.Ab.Fld)),(.list .byte (I.hid (α:=(List UInt8)) ([]:List UInt8)))])) [(.obj 78 [(.ptr 1 0),(.p (.str m)),(.p (.str t)),(.p (.int .i64 mi)),(.p (.list .fld f)),(.p (.int .i64 le))]),(.pack [(.obj 48 [(.ptr 1 0),(.ptr 2 0)]),(.pack [(.obj 90 [(.row 1),(.p (.int .i64 n))]),(.row .upl 67 l)]),(.pack [(.obj 104 [(.row 1),(.p (.int .i64 s))]),(.row .byte 5 b)])])])) (.fin (.ret (.tup [(.one (.p (.str (I.hid (α:=(List UInt8)) (Prod.fst (oneF (valsF f nm))))))),(.one (.p (.bool (I.ieq y0 0))))])) [(.obj 78 [(.ptr 1 0),(.p (.str m)),(.p (.str t)),(.p (.int .i64 mi)),(.p (.list .fld f)),(.p (.int .i64 le))]),(.pack [(.obj 48 [(.ptr 1 0),(.ptr 2 0)]),(.pack [(.obj 90 [(.row 1),(.p (.int .i64 n))]),(.row .upl 67 l)]),(.pack [(.obj 104 [(.row 1),(.p (.int .i64 s))]),(.row .byte 5 b)])])]))) (by kernel_rfl) ?_
  simp only [zl]
  subst hI
  unfold oneT at *
  simp only [nrmA,nrmB,nrlB,reduceCtorEq]
  (repeat' (first|refine And.intro ?_ ?_|intro _))<;>first|omega|exact True.intro|exact False.elim ‹False›|skip
  all_goals first|exact hf.1|exact hn|exact hf.2|(exact(hf.2 _ ‹_›).1)|(exact(hf.2 _ ‹_›).2)|rfl|(exact⟨hf.1,hn,hf.2⟩)|(exfalso;exact h9 ‹_›)|(simp_all;done)|trace_state
theorem zma (m t:Str) (mi:Int) (f:List Fld) (le:Int) (l:List Upl) (n:Int) (b:Str) (s:Int) (nm:Str) (hneed:(FOk f∧nm.length≤1000000)∧(oneT f nm).2=9):Spc Tryz.prog 52 [.v (.one (.ptr 0 0)),.v (.one (.p (.str nm)))] [.obj 78 [(.ptr 1 0),(.p (.str m)),(.p (.str t)),(.p (.int .i64 mi)),(.p (.list .fld f)),(.p (.int .i64 le))],.pack [.obj 48 [(.ptr 1 0),(.ptr 2 0)],.pack [.obj 90 [(.row 1),(.p (.int .i64 n))],.row .upl 67 l],.pack [.obj 104 [(.row 1),(.p (.int .i64 s))],.row .byte 5 b]]] (.pan (.ifc 73 true [(.int .i64 400),(.list .fld ([])),(.list .byte ([]))])) [.obj 78 [(.ptr 1 0),(.p (.str m)),(.p (.str t)),(.p (.int .i64 mi)),(.p (.list .fld f)),(.p (.int .i64 le))],.pack [.obj 48 [(.ptr 1 0),(.ptr 2 0)],.pack [.obj 90 [(.row 1),(.p (.int .i64 n))],.row .upl 67 l],.pack [.obj 104 [(.row 1),(.p (.int .i64 s))],.row .byte 5 b]]]:=by
  obtain⟨⟨hf,hn⟩,h9⟩:=hneed
  refine spcG zi mixed Tryz.func52 (by kernel_rfl) { cfgT with keep:=some [0,1,4,5,6,7]} [zh4,zh3,zJ,zI] (by kernel_rfl) ?_
  intro I X hI hX
  refine zh (let y0:=I.hid (α:=Int) (Prod.snd (oneF (valsF f nm)));.need (I.hid (α:=(Prop)) (And (LE.le (List.length f) 1000) (And (LE.le (List.length nm) 1000000) (∀ (f_1:Fld),f_1 ∈ f→List.length f_1.name≤1000000∧List.length f_1.value≤1000000)))) (.br (I.ieq y0 9) (.need (I.hid (α:=(Prop)) True) (.fin (.pan (.ifc 73 .true [(.int .i64 400),(.list .fld ([]:List Go.Ab.Fld)),(.list .byte (I.hid (α:=(List UInt8)) ([]:List UInt8)))])) [(.obj 78 [(.ptr 1 0),(.p (.str m)),(.p (.str t)),(.p (.int .i64 mi)),(.p (.list .fld f)),(.p (.int .i64 le))]),(.pack [(.obj 48 [(.ptr 1 0),(.ptr 2 0)]),(.pack [(.obj 90 [(.row 1),(.p (.int .i64 n))]),(.row .upl 67 l)]),(.pack [(.obj 104 [(.row 1),(.p (.int .i64 s))]),(.row .byte 5 b)])])])) (.fin (.ret (.tup [(.one (.p (.str (I.hid (α:=(List UInt8)) (Prod.fst (oneF (valsF f nm))))))),(.one (.p (.bool (I.ieq y0 0))))])) [(.obj 78 [(.ptr 1 0),(.p (.str m)),(.p (.str t)),(.p (.int .i64 mi)),(.p (.list .fld f)),(.p (.int .i64 le))]),(.pack [(.obj 48 [(.ptr 1 0),(.ptr 2 0)]),(.pack [(.obj 90 [(.row 1),(.p (.int .i64 n))]),(.row .upl 67 l)]),(.pack [(.obj 104 [(.row 1),(.p (.int .i64 s))]),(.row .byte 5 b)])])]))) (by kernel_rfl) ?_
  simp only [zl]
  subst hI
  unfold oneT at *
  simp only [nrmA,nrmB,nrlB,reduceCtorEq]
  (repeat' (first|refine And.intro ?_ ?_|intro _))<;>first|omega|exact True.intro|exact False.elim ‹False›|skip
  all_goals first|exact hf.1|exact hn|exact hf.2|(exact(hf.2 _ ‹_›).1)|(exact(hf.2 _ ‹_›).2)|rfl|(exact⟨hf.1,hn,hf.2⟩)|(exfalso;contradiction)|(simp_all;done)|trace_state
def SN (I:Alg) (args:List D) (hp:List HO):Option CT:=match args,hp with
  |[.v (.one (.ptr 0 0)),.v (.one (.p (.str nm)))],[.obj 78 [(.ptr 1 0),(.p (.str m)),(.p (.str t)),(.p (.int .i64 mi)),(.p (.list .fld f)),(.p (.int .i64 le))],.pack [.obj 48 [(.ptr 1 0),(.ptr 2 0)],.pack [.obj 90 [(.row 1),(.p (.int .i64 n))],.row .upl 67 l],.pack [.obj 104 [(.row 1),(.p (.int .i64 s))],.row .byte 5 b]]]=>(fun(m t:Str) (mi:Int) (f:List Fld) (le:Int) (l:List Upl) (n:Int) (b:Str) (s:Int) (nm:Str)=>(some (.br (I.hid (decide ((oneT f nm).2=9))) (.one ⟨I.hid ((FOk f∧nm.length≤1000000)∧(oneT f nm).2=9),(.pan (.ifc 73 true [(.int .i64 400),(.list .fld (I.hid ([]))),(.list .byte (I.hid ([])))])),[.obj 78 [(.ptr 1 0),(.p (.str m)),(.p (.str t)),(.p (.int .i64 mi)),(.p (.list .fld f)),(.p (.int .i64 le))],.pack [.obj 48 [(.ptr 1 0),(.ptr 2 0)],.pack [.obj 90 [(.row 1),(.p (.int .i64 n))],.row .upl 67 l],.pack [.obj 104 [(.row 1),(.p (.int .i64 s))],.row .byte 5 b]]]⟩) (.one ⟨I.hid ((FOk f∧nm.length≤1000000)∧¬ (oneT f nm).2=9),(.ret (.tup [(.one (.p (.str (I.hid ((oneT f nm).1))))),(.one (.p (.bool (I.hid (decide ((oneT f nm).2=0))))))])),[.obj 78 [(.ptr 1 0),(.p (.str m)),(.p (.str t)),(.p (.int .i64 mi)),(.p (.list .fld f)),(.p (.int .i64 le))],.pack [.obj 48 [(.ptr 1 0),(.ptr 2 0)],.pack [.obj 90 [(.row 1),(.p (.int .i64 n))],.row .upl 67 l],.pack [.obj 104 [(.row 1),(.p (.int .i64 s))],.row .byte 5 b]]]⟩)):Option CT)) m t mi f le l n b s nm
  |_,_=>none
theorem zgi:zo Tryz.prog 52 (SN alg):=by
  intro args hp r h
  unfold SN at h
  split at h
  · cases h;exact⟨fun _ hn=>zma _ _ _ _ _ _ _ _ _ _ hn,fun _ hn=>zmb _ _ _ _ _ _ _ _ _ _ hn⟩
  · cases h
def yX:Know Tryz.prog:=⟨52,SN,zgi⟩
def yV:Know Tryz.prog:=⟨52,fun I=>zu I (SN I),zf zgi⟩
end Go.Proofs.YtcclfkakcgnacaaGreatDoor
namespace Go.Proofs.YtcclfkakcgnacaaGreatDoor
open Go Go.Sep Go.Ab
set_option maxRecDepth 100000
theorem uP (f:List Fld) (n:Str):(oneT f n).2=0∨(oneT f n).2=9∨(oneT f n).2=10:=by
  unfold oneT oneF
  repeat' split
  all_goals simp
theorem zaM: ∀ (s:Str) (n:Int),0≤n→(numG 10 n s).1+1≤(n+1) * 10 ^ s.length∧0≤(numG 10 n s).1
  |[],n,h=>by simp [numG];exact h
  | c ::l,n,h=>by
    have h16:(0:Int)<10 ^ l.length:=Int.pow_pos (by decide)
    have e:((n+1) * 10 ^ (c::l).length:Int)=((n+1) * 10) * 10 ^ l.length:=by rw [List.length_cons,Int.pow_succ,Int.mul_assoc,Int.mul_comm (10 ^ l.length) 10]
    rw [e,numG]
    split
    · have h1:(1:Int) * 1≤((n+1) * 10) * 10 ^ l.length:=Int.mul_le_mul (by omega) (by omega) (by decide) (by omega)
      exact⟨by simpa using h1,Int.le_refl _⟩
    · rename_i hc
      have h2:=zaM l (n * 10+hexK c.toNat) (by omega)
      exact⟨Int.le_trans h2.1 (Int.mul_le_mul_of_nonneg_right (by omega) (by omega)),h2.2⟩
theorem sG (x:Str):0≤(numA x 10 9).1∧(numA x 10 9).1<1000000000:=by
  unfold numA
  split
  · exact by decide
  · rename_i h
    have h1:=zaM x 0 (Int.le_refl _)
    have h2:x.length≤9:=by omega
    have h3:(10:Int) ^ x.length≤10 ^ 9:=by
      have:(10 ^ x.length:Nat)≤10 ^ 9:=Nat.pow_le_pow_right (by decide) h2
      exact_mod_cast this
    refine⟨h1.2,?_⟩
    have h4:(10:Int) ^ 9=1000000000:=by decide
    omega
theorem zkK (m t:Str) (mi:Int) (f:List Fld) (le:Int) (l:List Upl) (n:Int) (b:Str) (s:Int) (nm:Str) (hneed:(FOk f∧nm.length≤1000000)∧wL f nm=true):Spc Tryz.prog 79 [.v (.one (.ptr 0 0)),.v (.one (.p (.str nm)))] [.obj 78 [(.ptr 1 0),(.p (.str m)),(.p (.str t)),(.p (.int .i64 mi)),(.p (.list .fld f)),(.p (.int .i64 le))],.pack [.obj 48 [(.ptr 1 0),(.ptr 2 0)],.pack [.obj 90 [(.row 1),(.p (.int .i64 n))],.row .upl 67 l],.pack [.obj 104 [(.row 1),(.p (.int .i64 s))],.row .byte 5 b]]] (.ret (.v (.one (.p (.int .i64 ((zG f nm))))))) [.obj 78 [(.ptr 1 0),(.p (.str m)),(.p (.str t)),(.p (.int .i64 mi)),(.p (.list .fld f)),(.p (.int .i64 le))],.pack [.obj 48 [(.ptr 1 0),(.ptr 2 0)],.pack [.obj 90 [(.row 1),(.p (.int .i64 n))],.row .upl 67 l],.pack [.obj 104 [(.row 1),(.p (.int .i64 s))],.row .byte 5 b]]]:=by
  obtain⟨⟨hf,hn⟩,h9⟩:=hneed
  have hcd:=uP f nm
  refine spcG zi mixed Tryz.func79 (by kernel_rfl) { cfgT with keep:=some [0,1,4,5,6,7]} [Zd,Zc,zJ,zI,yX,yV] (by kernel_rfl) ?_
  intro I X hI hX
  refine zh (let y0:=I.hid (α:=(List UInt8)) (Prod.fst (oneT f nm));let y1:=I.hid (α:=(List UInt8)) ([]:List UInt8);.br (I.hid (α:=Bool) (Decidable.decide (Eq (Prod.snd (oneT f nm)) (9:Int)))) (.need (I.hid (α:=(Prop)) (And (And (FOk f) (LE.le (List.length nm) 1000000)) (Eq (Prod.snd (oneT f nm)) (9:Int)))) (.fin (.pan (.ifc 73 .true [(.int .i64 400),(.list .fld (I.hid (α:=(List Go.Ab.Fld)) ([]:List Go.Ab.Fld))),(.list .byte y1)])) [(.obj 78 [(.ptr 1 0),(.p (.str m)),(.p (.str t)),(.p (.int .i64 mi)),(.p (.list .fld f)),(.p (.int .i64 le))]),(.pack [(.obj 48 [(.ptr 1 0),(.ptr 2 0)]),(.pack [(.obj 90 [(.row 1),(.p (.int .i64 n))]),(.row .upl 67 l)]),(.pack [(.obj 104 [(.row 1),(.p (.int .i64 s))]),(.row .byte 5 b)])])])) (.need (I.hid (α:=(Prop)) (And (And (FOk f) (LE.le (List.length nm) 1000000)) (Not (Eq (Prod.snd (oneT f nm)) (9:Int))))) (.br (I.bnot (I.hid (α:=Bool) (Decidable.decide (Eq (Prod.snd (oneT f nm)) (0:Int))))) (.fin (.ret (.v (.one (.p (.int .i64 (Neg.neg (1:Int))))))) [(.obj 78 [(.ptr 1 0),(.p (.str m)),(.p (.str t)),(.p (.int .i64 mi)),(.p (.list .fld f)),(.p (.int .i64 le))]),(.pack [(.obj 48 [(.ptr 1 0),(.ptr 2 0)]),(.pack [(.obj 90 [(.row 1),(.p (.int .i64 n))]),(.row .upl 67 l)]),(.pack [(.obj 104 [(.row 1),(.p (.int .i64 s))]),(.row .byte 5 b)])])]) (.need (I.hid (α:=(Prop)) True) (.br (I.bnot (I.hid (α:=Bool) (Prod.snd (numA y0 (10:Int) (9:Int))))) (.need (I.hid (α:=(Prop)) True) (.fin (.pan (.ifc 73 .true [(.int .i64 400),(.list .fld ([]:List Go.Ab.Fld)),(.list .byte y1)])) [(.obj 78 [(.ptr 1 0),(.p (.str m)),(.p (.str t)),(.p (.int .i64 mi)),(.p (.list .fld f)),(.p (.int .i64 le))]),(.pack [(.obj 48 [(.ptr 1 0),(.ptr 2 0)]),(.pack [(.obj 90 [(.row 1),(.p (.int .i64 n))]),(.row .upl 67 l)]),(.pack [(.obj 104 [(.row 1),(.p (.int .i64 s))]),(.row .byte 5 b)])])])) (.fin (.ret (.v (.one (.p (.int .i64 (I.hid (α:=Int) (Prod.fst (numA y0 (10:Int) (9:Int))))))))) [(.obj 78 [(.ptr 1 0),(.p (.str m)),(.p (.str t)),(.p (.int .i64 mi)),(.p (.list .fld f)),(.p (.int .i64 le))]),(.pack [(.obj 48 [(.ptr 1 0),(.ptr 2 0)]),(.pack [(.obj 90 [(.row 1),(.p (.int .i64 n))]),(.row .upl 67 l)]),(.pack [(.obj 104 [(.row 1),(.p (.int .i64 s))]),(.row .byte 5 b)])])])))))) (by kernel_rfl) ?_
  simp only [zl]
  subst hI
  unfold wL at h9
  unfold zG
  simp only [nrmA,nrmB,nrlB,reduceCtorEq]
  (repeat' (first|refine And.intro ?_ ?_|intro _))<;>first|omega|exact True.intro|exact False.elim ‹False›|skip
  all_goals first|omega|assumption|(exact hf)|exact hf.1|(exact(hf.2 _ ‹_›).1)|(exact(hf.2 _ ‹_›).2)|(exact⟨hf,by decide⟩)|(exact⟨⟨hf,by decide⟩,‹_›⟩)|(exfalso;simp_all;done)|(simp_all;done)|(simp_all;omega)|(rcases hcd with h|h|h<;>simp_all;done)|trace_state
theorem zkJ (m t:Str) (mi:Int) (f:List Fld) (le:Int) (l:List Upl) (n:Int) (b:Str) (s:Int) (nm:Str) (hneed:(FOk f∧nm.length≤1000000)∧wL f nm=false):Spc Tryz.prog 79 [.v (.one (.ptr 0 0)),.v (.one (.p (.str nm)))] [.obj 78 [(.ptr 1 0),(.p (.str m)),(.p (.str t)),(.p (.int .i64 mi)),(.p (.list .fld f)),(.p (.int .i64 le))],.pack [.obj 48 [(.ptr 1 0),(.ptr 2 0)],.pack [.obj 90 [(.row 1),(.p (.int .i64 n))],.row .upl 67 l],.pack [.obj 104 [(.row 1),(.p (.int .i64 s))],.row .byte 5 b]]] (.pan (.ifc 73 true [(.int .i64 400),(.list .fld ([])),(.list .byte ([]))])) [.obj 78 [(.ptr 1 0),(.p (.str m)),(.p (.str t)),(.p (.int .i64 mi)),(.p (.list .fld f)),(.p (.int .i64 le))],.pack [.obj 48 [(.ptr 1 0),(.ptr 2 0)],.pack [.obj 90 [(.row 1),(.p (.int .i64 n))],.row .upl 67 l],.pack [.obj 104 [(.row 1),(.p (.int .i64 s))],.row .byte 5 b]]]:=by
  obtain⟨⟨hf,hn⟩,h9⟩:=hneed
  have hcd:=uP f nm
  refine spcG zi mixed Tryz.func79 (by kernel_rfl) { cfgT with keep:=some [0,1,4,5,6,7]} [Zd,Zc,zJ,zI,yX,yV] (by kernel_rfl) ?_
  intro I X hI hX
  refine zh (let y0:=I.hid (α:=(List UInt8)) (Prod.fst (oneT f nm));let y1:=I.hid (α:=(List UInt8)) ([]:List UInt8);.br (I.hid (α:=Bool) (Decidable.decide (Eq (Prod.snd (oneT f nm)) (9:Int)))) (.need (I.hid (α:=(Prop)) (And (And (FOk f) (LE.le (List.length nm) 1000000)) (Eq (Prod.snd (oneT f nm)) (9:Int)))) (.fin (.pan (.ifc 73 .true [(.int .i64 400),(.list .fld (I.hid (α:=(List Go.Ab.Fld)) ([]:List Go.Ab.Fld))),(.list .byte y1)])) [(.obj 78 [(.ptr 1 0),(.p (.str m)),(.p (.str t)),(.p (.int .i64 mi)),(.p (.list .fld f)),(.p (.int .i64 le))]),(.pack [(.obj 48 [(.ptr 1 0),(.ptr 2 0)]),(.pack [(.obj 90 [(.row 1),(.p (.int .i64 n))]),(.row .upl 67 l)]),(.pack [(.obj 104 [(.row 1),(.p (.int .i64 s))]),(.row .byte 5 b)])])])) (.need (I.hid (α:=(Prop)) (And (And (FOk f) (LE.le (List.length nm) 1000000)) (Not (Eq (Prod.snd (oneT f nm)) (9:Int))))) (.br (I.bnot (I.hid (α:=Bool) (Decidable.decide (Eq (Prod.snd (oneT f nm)) (0:Int))))) (.fin (.ret (.v (.one (.p (.int .i64 (Neg.neg (1:Int))))))) [(.obj 78 [(.ptr 1 0),(.p (.str m)),(.p (.str t)),(.p (.int .i64 mi)),(.p (.list .fld f)),(.p (.int .i64 le))]),(.pack [(.obj 48 [(.ptr 1 0),(.ptr 2 0)]),(.pack [(.obj 90 [(.row 1),(.p (.int .i64 n))]),(.row .upl 67 l)]),(.pack [(.obj 104 [(.row 1),(.p (.int .i64 s))]),(.row .byte 5 b)])])]) (.need (I.hid (α:=(Prop)) True) (.br (I.bnot (I.hid (α:=Bool) (Prod.snd (numA y0 (10:Int) (9:Int))))) (.need (I.hid (α:=(Prop)) True) (.fin (.pan (.ifc 73 .true [(.int .i64 400),(.list .fld ([]:List Go.Ab.Fld)),(.list .byte y1)])) [(.obj 78 [(.ptr 1 0),(.p (.str m)),(.p (.str t)),(.p (.int .i64 mi)),(.p (.list .fld f)),(.p (.int .i64 le))]),(.pack [(.obj 48 [(.ptr 1 0),(.ptr 2 0)]),(.pack [(.obj 90 [(.row 1),(.p (.int .i64 n))]),(.row .upl 67 l)]),(.pack [(.obj 104 [(.row 1),(.p (.int .i64 s))]),(.row .byte 5 b)])])])) (.fin (.ret (.v (.one (.p (.int .i64 (I.hid (α:=Int) (Prod.fst (numA y0 (10:Int) (9:Int))))))))) [(.obj 78 [(.ptr 1 0),(.p (.str m)),(.p (.str t)),(.p (.int .i64 mi)),(.p (.list .fld f)),(.p (.int .i64 le))]),(.pack [(.obj 48 [(.ptr 1 0),(.ptr 2 0)]),(.pack [(.obj 90 [(.row 1),(.p (.int .i64 n))]),(.row .upl 67 l)]),(.pack [(.obj 104 [(.row 1),(.p (.int .i64 s))]),(.row .byte 5 b)])])])))))) (by kernel_rfl) ?_
  simp only [zl]
  subst hI
  unfold wL at h9
  simp only [nrmA,nrmB,nrlB,reduceCtorEq]
  (repeat' (first|refine And.intro ?_ ?_|intro _))<;>first|omega|exact True.intro|exact False.elim ‹False›|skip
  all_goals first|omega|assumption|(exact hf)|exact hf.1|(exact(hf.2 _ ‹_›).1)|(exact(hf.2 _ ‹_›).2)|(exact⟨hf,by decide⟩)|(exact⟨⟨hf,by decide⟩,‹_›⟩)|(exfalso;simp_all;done)|(simp_all;done)|(simp_all;omega)|(rcases hcd with h|h|h<;>simp_all;done)|trace_state
def X0 (I:Alg) (args:List D) (hp:List HO):Option CT:=match args,hp with
  |[.v (.one (.ptr 0 0)),.v (.one (.p (.str nm)))],[.obj 78 [(.ptr 1 0),(.p (.str m)),(.p (.str t)),(.p (.int .i64 mi)),(.p (.list .fld f)),(.p (.int .i64 le))],.pack [.obj 48 [(.ptr 1 0),(.ptr 2 0)],.pack [.obj 90 [(.row 1),(.p (.int .i64 n))],.row .upl 67 l],.pack [.obj 104 [(.row 1),(.p (.int .i64 s))],.row .byte 5 b]]]=>(fun(m t:Str) (mi:Int) (f:List Fld) (le:Int) (l:List Upl) (n:Int) (b:Str) (s:Int) (nm:Str)=>(some (.br (I.hid (wL f nm)) (.one ⟨I.hid ((FOk f∧nm.length≤1000000)∧wL f nm=true),(.ret (.v (.one (.p (.int .i64 (I.hid ((zG f nm)))))))),[.obj 78 [(.ptr 1 0),(.p (.str m)),(.p (.str t)),(.p (.int .i64 mi)),(.p (.list .fld f)),(.p (.int .i64 le))],.pack [.obj 48 [(.ptr 1 0),(.ptr 2 0)],.pack [.obj 90 [(.row 1),(.p (.int .i64 n))],.row .upl 67 l],.pack [.obj 104 [(.row 1),(.p (.int .i64 s))],.row .byte 5 b]]]⟩) (.one ⟨I.hid ((FOk f∧nm.length≤1000000)∧wL f nm=false),(.pan (.ifc 73 true [(.int .i64 400),(.list .fld (I.hid ([]))),(.list .byte (I.hid ([])))])),[.obj 78 [(.ptr 1 0),(.p (.str m)),(.p (.str t)),(.p (.int .i64 mi)),(.p (.list .fld f)),(.p (.int .i64 le))],.pack [.obj 48 [(.ptr 1 0),(.ptr 2 0)],.pack [.obj 90 [(.row 1),(.p (.int .i64 n))],.row .upl 67 l],.pack [.obj 104 [(.row 1),(.p (.int .i64 s))],.row .byte 5 b]]]⟩)):Option CT)) m t mi f le l n b s nm
  |_,_=>none
theorem zdi:zo Tryz.prog 79 (X0 alg):=by
  intro args hp r h
  unfold X0 at h
  split at h
  · cases h;exact⟨fun _ hn=>zkK _ _ _ _ _ _ _ _ _ _ hn,fun _ hn=>zkJ _ _ _ _ _ _ _ _ _ _ hn⟩
  · cases h
def wR:Know Tryz.prog:=⟨79,X0,zdi⟩
def wQ:Know Tryz.prog:=⟨79,fun I=>zu I (X0 I),zf zdi⟩
theorem zi6 (m t:Str) (mi:Int) (f:List Fld) (le:Int) (l:List Upl) (n:Int) (b:Str) (s:Int) (hneed:FOk f∧rH f=true):Spc Tryz.prog 80 [.v (.one (.ptr 0 0))] [.obj 78 [(.ptr 1 0),(.p (.str m)),(.p (.str t)),(.p (.int .i64 mi)),(.p (.list .fld f)),(.p (.int .i64 le))],.pack [.obj 48 [(.ptr 1 0),(.ptr 2 0)],.pack [.obj 90 [(.row 1),(.p (.int .i64 n))],.row .upl 67 l],.pack [.obj 104 [(.row 1),(.p (.int .i64 s))],.row .byte 5 b]]] (.ret (.v (.one (.p (.bool ((TK f))))))) [.obj 78 [(.ptr 1 0),(.p (.str m)),(.p (.str t)),(.p (.int .i64 mi)),(.p (.list .fld f)),(.p (.int .i64 le))],.pack [.obj 48 [(.ptr 1 0),(.ptr 2 0)],.pack [.obj 90 [(.row 1),(.p (.int .i64 n))],.row .upl 67 l],.pack [.obj 104 [(.row 1),(.p (.int .i64 s))],.row .byte 5 b]]]:=by
  obtain⟨hf,h9⟩:=hneed
  have hcd:=uP f Vo
  unfold Vo at hcd
  refine spcG zi mixed Tryz.func80 (by kernel_rfl) { cfgT with keep:=some [0,2,3,4]} [zJ,zI,yX,yV] (by kernel_rfl) ?_
  intro I X hI hX
  refine zh (let y0:=I.hid (α:=Bool) (Decidable.decide (Eq (Prod.snd (oneT f (Array.toList (List.toArray ([117,112,108,111,97,100,45,100,101,102,101,114,45,108,101,110,103,116,104]:List UInt8))))) (0:Int)));let y1:=I.hid (α:=(List UInt8)) ([]:List UInt8);.br (I.hid (α:=Bool) (Decidable.decide (Eq (Prod.snd (oneT f (Array.toList (List.toArray ([117,112,108,111,97,100,45,100,101,102,101,114,45,108,101,110,103,116,104]:List UInt8))))) (9:Int)))) (.need (I.hid (α:=(Prop)) (And (And (FOk f) (LE.le (List.length (Array.toList (List.toArray ([117,112,108,111,97,100,45,100,101,102,101,114,45,108,101,110,103,116,104]:List UInt8)))) 1000000)) (Eq (Prod.snd (oneT f (Array.toList (List.toArray ([117,112,108,111,97,100,45,100,101,102,101,114,45,108,101,110,103,116,104]:List UInt8))))) (9:Int)))) (.fin (.pan (.ifc 73 .true [(.int .i64 400),(.list .fld (I.hid (α:=(List Go.Ab.Fld)) ([]:List Go.Ab.Fld))),(.list .byte y1)])) [(.obj 78 [(.ptr 1 0),(.p (.str m)),(.p (.str t)),(.p (.int .i64 mi)),(.p (.list .fld f)),(.p (.int .i64 le))]),(.pack [(.obj 48 [(.ptr 1 0),(.ptr 2 0)]),(.pack [(.obj 90 [(.row 1),(.p (.int .i64 n))]),(.row .upl 67 l)]),(.pack [(.obj 104 [(.row 1),(.p (.int .i64 s))]),(.row .byte 5 b)])])])) (.need (I.hid (α:=(Prop)) (And (And (FOk f) (LE.le (List.length (Array.toList (List.toArray ([117,112,108,111,97,100,45,100,101,102,101,114,45,108,101,110,103,116,104]:List UInt8)))) 1000000)) (Not (Eq (Prod.snd (oneT f (Array.toList (List.toArray ([117,112,108,111,97,100,45,100,101,102,101,114,45,108,101,110,103,116,104]:List UInt8))))) (9:Int))))) (.br y0 (.br (I.bnot (I.seq (I.hid (α:=(List UInt8)) (Prod.fst (oneT f (Array.toList (List.toArray ([117,112,108,111,97,100,45,100,101,102,101,114,45,108,101,110,103,116,104]:List UInt8)))))) (Array.toList (List.toArray ([49]:List UInt8))))) (.need (I.hid (α:=(Prop)) True) (.fin (.pan (.ifc 73 .true [(.int .i64 400),(.list .fld ([]:List Go.Ab.Fld)),(.list .byte y1)])) [(.obj 78 [(.ptr 1 0),(.p (.str m)),(.p (.str t)),(.p (.int .i64 mi)),(.p (.list .fld f)),(.p (.int .i64 le))]),(.pack [(.obj 48 [(.ptr 1 0),(.ptr 2 0)]),(.pack [(.obj 90 [(.row 1),(.p (.int .i64 n))]),(.row .upl 67 l)]),(.pack [(.obj 104 [(.row 1),(.p (.int .i64 s))]),(.row .byte 5 b)])])])) (.fin (.ret (.v (.one (.p (.bool y0))))) [(.obj 78 [(.ptr 1 0),(.p (.str m)),(.p (.str t)),(.p (.int .i64 mi)),(.p (.list .fld f)),(.p (.int .i64 le))]),(.pack [(.obj 48 [(.ptr 1 0),(.ptr 2 0)]),(.pack [(.obj 90 [(.row 1),(.p (.int .i64 n))]),(.row .upl 67 l)]),(.pack [(.obj 104 [(.row 1),(.p (.int .i64 s))]),(.row .byte 5 b)])])])) (.fin (.ret (.v (.one (.p (.bool y0))))) [(.obj 78 [(.ptr 1 0),(.p (.str m)),(.p (.str t)),(.p (.int .i64 mi)),(.p (.list .fld f)),(.p (.int .i64 le))]),(.pack [(.obj 48 [(.ptr 1 0),(.ptr 2 0)]),(.pack [(.obj 90 [(.row 1),(.p (.int .i64 n))]),(.row .upl 67 l)]),(.pack [(.obj 104 [(.row 1),(.p (.int .i64 s))]),(.row .byte 5 b)])])])))) (by kernel_rfl) ?_
  simp only [zl]
  subst hI
  unfold rH Vo at h9
  unfold TK Vo
  simp only [nrmA,nrmB,nrlB,reduceCtorEq]
  (repeat' (first|refine And.intro ?_ ?_|intro _))<;>first|omega|exact True.intro|exact False.elim ‹False›|skip
  all_goals first|omega|assumption|(exact hf)|exact hf.1|(exact(hf.2 _ ‹_›).1)|(exact(hf.2 _ ‹_›).2)|(exact⟨hf,by decide⟩)|(exact⟨⟨hf,by decide⟩,‹_›⟩)|(exfalso;simp_all;done)|(simp_all;done)|(simp_all;omega)|(rcases hcd with h|h|h<;>simp_all;done)|trace_state
theorem zi5 (m t:Str) (mi:Int) (f:List Fld) (le:Int) (l:List Upl) (n:Int) (b:Str) (s:Int) (hneed:FOk f∧rH f=false):Spc Tryz.prog 80 [.v (.one (.ptr 0 0))] [.obj 78 [(.ptr 1 0),(.p (.str m)),(.p (.str t)),(.p (.int .i64 mi)),(.p (.list .fld f)),(.p (.int .i64 le))],.pack [.obj 48 [(.ptr 1 0),(.ptr 2 0)],.pack [.obj 90 [(.row 1),(.p (.int .i64 n))],.row .upl 67 l],.pack [.obj 104 [(.row 1),(.p (.int .i64 s))],.row .byte 5 b]]] (.pan (.ifc 73 true [(.int .i64 400),(.list .fld ([])),(.list .byte ([]))])) [.obj 78 [(.ptr 1 0),(.p (.str m)),(.p (.str t)),(.p (.int .i64 mi)),(.p (.list .fld f)),(.p (.int .i64 le))],.pack [.obj 48 [(.ptr 1 0),(.ptr 2 0)],.pack [.obj 90 [(.row 1),(.p (.int .i64 n))],.row .upl 67 l],.pack [.obj 104 [(.row 1),(.p (.int .i64 s))],.row .byte 5 b]]]:=by
  obtain⟨hf,h9⟩:=hneed
  have hcd:=uP f Vo
  unfold Vo at hcd
  refine spcG zi mixed Tryz.func80 (by kernel_rfl) { cfgT with keep:=some [0,2,3,4]} [zJ,zI,yX,yV] (by kernel_rfl) ?_
  intro I X hI hX
  refine zh (let y0:=I.hid (α:=Bool) (Decidable.decide (Eq (Prod.snd (oneT f (Array.toList (List.toArray ([117,112,108,111,97,100,45,100,101,102,101,114,45,108,101,110,103,116,104]:List UInt8))))) (0:Int)));let y1:=I.hid (α:=(List UInt8)) ([]:List UInt8);.br (I.hid (α:=Bool) (Decidable.decide (Eq (Prod.snd (oneT f (Array.toList (List.toArray ([117,112,108,111,97,100,45,100,101,102,101,114,45,108,101,110,103,116,104]:List UInt8))))) (9:Int)))) (.need (I.hid (α:=(Prop)) (And (And (FOk f) (LE.le (List.length (Array.toList (List.toArray ([117,112,108,111,97,100,45,100,101,102,101,114,45,108,101,110,103,116,104]:List UInt8)))) 1000000)) (Eq (Prod.snd (oneT f (Array.toList (List.toArray ([117,112,108,111,97,100,45,100,101,102,101,114,45,108,101,110,103,116,104]:List UInt8))))) (9:Int)))) (.fin (.pan (.ifc 73 .true [(.int .i64 400),(.list .fld (I.hid (α:=(List Go.Ab.Fld)) ([]:List Go.Ab.Fld))),(.list .byte y1)])) [(.obj 78 [(.ptr 1 0),(.p (.str m)),(.p (.str t)),(.p (.int .i64 mi)),(.p (.list .fld f)),(.p (.int .i64 le))]),(.pack [(.obj 48 [(.ptr 1 0),(.ptr 2 0)]),(.pack [(.obj 90 [(.row 1),(.p (.int .i64 n))]),(.row .upl 67 l)]),(.pack [(.obj 104 [(.row 1),(.p (.int .i64 s))]),(.row .byte 5 b)])])])) (.need (I.hid (α:=(Prop)) (And (And (FOk f) (LE.le (List.length (Array.toList (List.toArray ([117,112,108,111,97,100,45,100,101,102,101,114,45,108,101,110,103,116,104]:List UInt8)))) 1000000)) (Not (Eq (Prod.snd (oneT f (Array.toList (List.toArray ([117,112,108,111,97,100,45,100,101,102,101,114,45,108,101,110,103,116,104]:List UInt8))))) (9:Int))))) (.br y0 (.br (I.bnot (I.seq (I.hid (α:=(List UInt8)) (Prod.fst (oneT f (Array.toList (List.toArray ([117,112,108,111,97,100,45,100,101,102,101,114,45,108,101,110,103,116,104]:List UInt8)))))) (Array.toList (List.toArray ([49]:List UInt8))))) (.need (I.hid (α:=(Prop)) True) (.fin (.pan (.ifc 73 .true [(.int .i64 400),(.list .fld ([]:List Go.Ab.Fld)),(.list .byte y1)])) [(.obj 78 [(.ptr 1 0),(.p (.str m)),(.p (.str t)),(.p (.int .i64 mi)),(.p (.list .fld f)),(.p (.int .i64 le))]),(.pack [(.obj 48 [(.ptr 1 0),(.ptr 2 0)]),(.pack [(.obj 90 [(.row 1),(.p (.int .i64 n))]),(.row .upl 67 l)]),(.pack [(.obj 104 [(.row 1),(.p (.int .i64 s))]),(.row .byte 5 b)])])])) (.fin (.ret (.v (.one (.p (.bool y0))))) [(.obj 78 [(.ptr 1 0),(.p (.str m)),(.p (.str t)),(.p (.int .i64 mi)),(.p (.list .fld f)),(.p (.int .i64 le))]),(.pack [(.obj 48 [(.ptr 1 0),(.ptr 2 0)]),(.pack [(.obj 90 [(.row 1),(.p (.int .i64 n))]),(.row .upl 67 l)]),(.pack [(.obj 104 [(.row 1),(.p (.int .i64 s))]),(.row .byte 5 b)])])])) (.fin (.ret (.v (.one (.p (.bool y0))))) [(.obj 78 [(.ptr 1 0),(.p (.str m)),(.p (.str t)),(.p (.int .i64 mi)),(.p (.list .fld f)),(.p (.int .i64 le))]),(.pack [(.obj 48 [(.ptr 1 0),(.ptr 2 0)]),(.pack [(.obj 90 [(.row 1),(.p (.int .i64 n))]),(.row .upl 67 l)]),(.pack [(.obj 104 [(.row 1),(.p (.int .i64 s))]),(.row .byte 5 b)])])])))) (by kernel_rfl) ?_
  simp only [zl]
  subst hI
  unfold rH Vo at h9
  simp only [nrmA,nrmB,nrlB,reduceCtorEq]
  (repeat' (first|refine And.intro ?_ ?_|intro _))<;>first|omega|exact True.intro|exact False.elim ‹False›|skip
  all_goals first|omega|assumption|(exact hf)|exact hf.1|(exact(hf.2 _ ‹_›).1)|(exact(hf.2 _ ‹_›).2)|(exact⟨hf,by decide⟩)|(exact⟨⟨hf,by decide⟩,‹_›⟩)|(exfalso;simp_all;done)|(simp_all;done)|(simp_all;omega)|(rcases hcd with h|h|h<;>simp_all;done)|trace_state
def ZQ (I:Alg) (args:List D) (hp:List HO):Option CT:=match args,hp with
  |[.v (.one (.ptr 0 0))],[.obj 78 [(.ptr 1 0),(.p (.str m)),(.p (.str t)),(.p (.int .i64 mi)),(.p (.list .fld f)),(.p (.int .i64 le))],.pack [.obj 48 [(.ptr 1 0),(.ptr 2 0)],.pack [.obj 90 [(.row 1),(.p (.int .i64 n))],.row .upl 67 l],.pack [.obj 104 [(.row 1),(.p (.int .i64 s))],.row .byte 5 b]]]=>(fun(m t:Str) (mi:Int) (f:List Fld) (le:Int) (l:List Upl) (n:Int) (b:Str) (s:Int)=>(some (.br (I.hid (rH f)) (.one ⟨I.hid (FOk f∧rH f=true),(.ret (.v (.one (.p (.bool (I.hid ((TK f)))))))),[.obj 78 [(.ptr 1 0),(.p (.str m)),(.p (.str t)),(.p (.int .i64 mi)),(.p (.list .fld f)),(.p (.int .i64 le))],.pack [.obj 48 [(.ptr 1 0),(.ptr 2 0)],.pack [.obj 90 [(.row 1),(.p (.int .i64 n))],.row .upl 67 l],.pack [.obj 104 [(.row 1),(.p (.int .i64 s))],.row .byte 5 b]]]⟩) (.one ⟨I.hid (FOk f∧rH f=false),(.pan (.ifc 73 true [(.int .i64 400),(.list .fld (I.hid ([]))),(.list .byte (I.hid ([])))])),[.obj 78 [(.ptr 1 0),(.p (.str m)),(.p (.str t)),(.p (.int .i64 mi)),(.p (.list .fld f)),(.p (.int .i64 le))],.pack [.obj 48 [(.ptr 1 0),(.ptr 2 0)],.pack [.obj 90 [(.row 1),(.p (.int .i64 n))],.row .upl 67 l],.pack [.obj 104 [(.row 1),(.p (.int .i64 s))],.row .byte 5 b]]]⟩)):Option CT)) m t mi f le l n b s
  |_,_=>none
theorem zan:zo Tryz.prog 80 (ZQ alg):=by
  intro args hp r h
  unfold ZQ at h
  split at h
  · cases h;exact⟨fun _ hn=>zi6 _ _ _ _ _ _ _ _ _ hn,fun _ hn=>zi5 _ _ _ _ _ _ _ _ _ hn⟩
  · cases h
def zgm:Know Tryz.prog:=⟨80,ZQ,zan⟩
def zgl:Know Tryz.prog:=⟨80,fun I=>zu I (ZQ I),zf zan⟩
theorem zl8 (c:Int) (hneed:c=0):Spc Tryz.prog 57 [.v (.one (.p (.int .i64 c)))] [] (.ret (.tup [])) []:=by
  refine spcG zi mixed Tryz.func57 (by kernel_rfl) { keep:=some [0,2,9,16]} [zJ,zI] (by kernel_rfl) ?_
  intro I X hI hX
  refine zh (let y0:=I.hid (α:=(List UInt8)) ([]:List UInt8);.br (I.ieq c 0) (.fin (.ret (.tup [])) []) (.br (I.ieq c 10) (.need (I.hid (α:=(Prop)) True) (.fin (.pan (.ifc 73 .true [(.int .i64 404),(.list .fld ([]:List Go.Ab.Fld)),(.list .byte y0)])) [])) (.br (I.ieq c 17) (.need (I.hid (α:=(Prop)) True) (.fin (.pan (.ifc 73 .true [(.int .i64 409),(.list .fld ([]:List Go.Ab.Fld)),(.list .byte y0)])) [])) (.br (I.ieq c 19) (.need (I.hid (α:=(Prop)) True) (.fin (.pan (.ifc 73 .true [(.int .i64 409),(.list .fld ([]:List Go.Ab.Fld)),(.list .byte y0)])) [])) (.br (I.ieq c 4) (.need (I.hid (α:=(Prop)) True) (.fin (.pan (.ifc 73 .true [(.int .i64 413),(.list .fld ([]:List Go.Ab.Fld)),(.list .byte y0)])) [])) (.br (I.ieq c 8) (.need (I.hid (α:=(Prop)) True) (.fin (.pan (.ifc 73 .true [(.int .i64 507),(.list .fld ([]:List Go.Ab.Fld)),(.list .byte y0)])) [])) (.br (I.ieq c 16) (.need (I.hid (α:=(Prop)) True) (.fin (.pan (.ifc 73 .true [(.int .i64 507),(.list .fld ([]:List Go.Ab.Fld)),(.list .byte y0)])) [])) (.need (I.hid (α:=(Prop)) True) (.fin (.pan (.ifc 73 .true [(.int .i64 400),(.list .fld ([]:List Go.Ab.Fld)),(.list .byte y0)])) []))))))))) (by kernel_rfl) ?_
  simp only [zl]
  subst hI
  simp only [nrmA,nrmB,nrlB,reduceCtorEq]
  (repeat' (first|refine And.intro ?_ ?_|intro _))<;>first|omega|exact True.intro|exact False.elim ‹False›|skip
  all_goals first|omega|(simp_all;done)|trace_state
theorem zl7 (c:Int) (hneed: ¬ c=0):Spc Tryz.prog 57 [.v (.one (.p (.int .i64 c)))] [] (.pan (.ifc 73 true [(.int .i64 ((uK c))),(.list .fld ([])),(.list .byte ([]))])) []:=by
  generalize hr:uK c=r
  unfold uK at hr
  refine spcG zi mixed Tryz.func57 (by kernel_rfl) { keep:=some [0,2,9,16]} [zJ,zI] (by kernel_rfl) ?_
  intro I X hI hX
  refine zh (let y0:=I.hid (α:=(List UInt8)) ([]:List UInt8);.br (I.ieq c 0) (.fin (.ret (.tup [])) []) (.br (I.ieq c 10) (.need (I.hid (α:=(Prop)) True) (.fin (.pan (.ifc 73 .true [(.int .i64 404),(.list .fld ([]:List Go.Ab.Fld)),(.list .byte y0)])) [])) (.br (I.ieq c 17) (.need (I.hid (α:=(Prop)) True) (.fin (.pan (.ifc 73 .true [(.int .i64 409),(.list .fld ([]:List Go.Ab.Fld)),(.list .byte y0)])) [])) (.br (I.ieq c 19) (.need (I.hid (α:=(Prop)) True) (.fin (.pan (.ifc 73 .true [(.int .i64 409),(.list .fld ([]:List Go.Ab.Fld)),(.list .byte y0)])) [])) (.br (I.ieq c 4) (.need (I.hid (α:=(Prop)) True) (.fin (.pan (.ifc 73 .true [(.int .i64 413),(.list .fld ([]:List Go.Ab.Fld)),(.list .byte y0)])) [])) (.br (I.ieq c 8) (.need (I.hid (α:=(Prop)) True) (.fin (.pan (.ifc 73 .true [(.int .i64 507),(.list .fld ([]:List Go.Ab.Fld)),(.list .byte y0)])) [])) (.br (I.ieq c 16) (.need (I.hid (α:=(Prop)) True) (.fin (.pan (.ifc 73 .true [(.int .i64 507),(.list .fld ([]:List Go.Ab.Fld)),(.list .byte y0)])) [])) (.need (I.hid (α:=(Prop)) True) (.fin (.pan (.ifc 73 .true [(.int .i64 400),(.list .fld ([]:List Go.Ab.Fld)),(.list .byte y0)])) []))))))))) (by kernel_rfl) ?_
  simp only [zl]
  subst hI
  simp only [nrmA,nrmB,nrlB,reduceCtorEq]
  (repeat' (first|refine And.intro ?_ ?_|intro _))<;>first|omega|exact True.intro|exact False.elim ‹False›|skip
  all_goals first|omega|(((repeat(first|rewrite [if_pos (by first|omega|assumption|(simp only [*,or_self,or_true,true_or,or_false,false_or,not_true_eq_false,not_false_eq_true,Bool.false_eq_true,Bool.true_eq_false,and_self,and_true,true_and];done)|(simp only [*];omega)|(simp [*];done)|(simp [*];omega))] at hr|rewrite [if_neg (by first|omega|assumption|(simp only [*,or_self,or_true,true_or,or_false,false_or,not_true_eq_false,not_false_eq_true,Bool.false_eq_true,Bool.true_eq_false,and_self,and_true,true_and];done)|(simp only [*];omega)|(simp [*];done)|(simp [*];omega))] at hr)));omega)|(simp_all;done)|trace_state
def SL (I:Alg) (args:List D) (hp:List HO):Option CT:=match args,hp with
  |[.v (.one (.p (.int .i64 c)))],[]=>(fun(c:Int)=>(some (.br (I.hid (decide (c=0))) (.one ⟨I.hid (c=0),(.ret (.tup [])),[]⟩) (.one ⟨I.hid (¬ c=0),(.pan (.ifc 73 true [(.int .i64 (I.hid ((uK c)))),(.list .fld (I.hid ([]))),(.list .byte (I.hid ([])))])),[]⟩)):Option CT)) c
  |_,_=>none
theorem zgh:zo Tryz.prog 57 (SL alg):=by
  intro args hp r h
  unfold SL at h
  split at h
  · cases h;exact⟨fun _ hn=>zl8 _ hn,fun _ hn=>zl7 _ hn⟩
  · cases h
def xM:Know Tryz.prog:=⟨57,SL,zgh⟩
def xK:Know Tryz.prog:=⟨57,fun I=>zu I (SL I),zf zgh⟩
theorem znC (id sz:Int) (no bb:Str) (se:Int) (hneed:sz<1000000000):Spc Tryz.prog 84 [.v (.agg [(.p (.int .i64 id)),(.p (.int .i64 sz)),(.p (.str no)),(.p (.list .byte bb)),(.p (.int .i64 se))])] [] (.ret (.v (.agg [(.p (.str ((lenF ⟨id,sz,no,bb,se⟩).name))),(.p (.str ((lenF ⟨id,sz,no,bb,se⟩).value)))]))) []:=by
  generalize hr:lenF ⟨id,sz,no,bb,se⟩=r
  obtain⟨a,v⟩:=r
  unfold lenF at hr
  refine spcG zi mixed Tryz.func84 (by kernel_rfl) { keep:=some [0,1,2]} [zU,zT,yZ,yY] (by kernel_rfl) ?_
  intro I X hI hX
  refine zh (.br (I.ilt sz 0) (.need (I.hid (α:=(Prop)) True) (.fin (.ret (.v (.agg [(.p (.str (Array.toList (List.toArray ([85,112,108,111,97,100,45,68,101,102,101,114,45,76,101,110,103,116,104]:List UInt8))))),(.p (.str (Array.toList (List.toArray ([49]:List UInt8)))))]))) [])) (.need (I.hid (α:=(Prop)) (And (LE.le (0:Int) sz) (LT.lt sz (1000000000:Int)))) (.need (I.hid (α:=(Prop)) True) (.fin (.ret (.v (.agg [(.p (.str (Array.toList (List.toArray ([85,112,108,111,97,100,45,76,101,110,103,116,104]:List UInt8))))),(.p (.str (I.hid (α:=(List UInt8)) (decS sz))))]))) [])))) (by kernel_rfl) ?_
  simp only [zl]
  subst hI
  simp only [nrmA,nrmB,nrlB,reduceCtorEq,V0.agg.injEq]
  simp only at hr
  (repeat' (first|refine And.intro ?_ ?_|intro _))<;>first|omega|exact True.intro|exact False.elim ‹False›|skip
  all_goals first|omega|(((repeat(first|rewrite [if_pos (by first|omega|assumption|(simp only [*,or_self,or_true,true_or,or_false,false_or,not_true_eq_false,not_false_eq_true,Bool.false_eq_true,Bool.true_eq_false,and_self,and_true,true_and];done)|(simp only [*];omega)|(simp [*];done)|(simp [*];omega))] at hr|rewrite [if_neg (by first|omega|assumption|(simp only [*,or_self,or_true,true_or,or_false,false_or,not_true_eq_false,not_false_eq_true,Bool.false_eq_true,Bool.true_eq_false,and_self,and_true,true_and];done)|(simp only [*];omega)|(simp [*];done)|(simp [*];omega))] at hr)));cases hr;rfl)|(((repeat(first|rewrite [if_pos (by first|omega|assumption|(simp only [*,or_self,or_true,true_or,or_false,false_or,not_true_eq_false,not_false_eq_true,Bool.false_eq_true,Bool.true_eq_false,and_self,and_true,true_and];done)|(simp only [*];omega)|(simp [*];done)|(simp [*];omega))] at hr|rewrite [if_neg (by first|omega|assumption|(simp only [*,or_self,or_true,true_or,or_false,false_or,not_true_eq_false,not_false_eq_true,Bool.false_eq_true,Bool.true_eq_false,and_self,and_true,true_and];done)|(simp only [*];omega)|(simp [*];done)|(simp [*];omega))] at hr)));cases hr;simp [zlV,zlW];done)|(simp_all;done)|trace_state
def SS (I:Alg) (args:List D) (hp:List HO):Option CT:=match args,hp with
  |[.v (.agg [(.p (.int .i64 id)),(.p (.int .i64 sz)),(.p (.str no)),(.p (.list .byte bb)),(.p (.int .i64 se))])],[]=>(fun(id sz:Int) (no bb:Str) (se:Int)=>(some (.one ⟨I.hid (sz<1000000000),(.ret (.v (.agg [(.p (.str (I.hid ((lenF ⟨id,sz,no,bb,se⟩).name)))),(.p (.str (I.hid ((lenF ⟨id,sz,no,bb,se⟩).value))))]))),[]⟩):Option CT)) id sz no bb se
  |_,_=>none
theorem zgk:zo Tryz.prog 84 (SS alg):=by
  intro args hp r h
  unfold SS at h
  split at h
  · cases h;exact fun hn=>znC _ _ _ _ _ hn
  · cases h
def zkM:Know Tryz.prog:=⟨84,SS,zgk⟩
def zkL:Know Tryz.prog:=⟨84,fun I=>zu I (SS I),zf zgk⟩
end Go.Proofs.YtcclfkakcgnacaaGreatDoor
namespace Go.Proofs.YtcclfkakcgnacaaGreatDoor
open Go Go.Sep Go.Ab
set_option maxRecDepth 100000
theorem zdS {f:List Fld} (hf:FOk f) (n:Str):(oneT f n).1.length≤1000000:=by
  unfold oneT oneF
  split
  · simp
  · split
    · rename_i h
      rw [List.getD_eq_getElem?_getD]
      cases hq:(valsF f n)[0]? with
      |none=>simp
      | some y=>
        have:=List.mem_of_getElem? hq
        unfold valsF at this
        rw [List.mem_map] at this
        obtain⟨x,hx,rfl⟩:=this
        exact(hf.2 x (List.mem_filter.1 hx).1).2
    · simp
set_option maxHeartbeats 2000000 in
theorem zi7 (m t:Str) (mi:Int) (f:List Fld) (le:Int) (l:List Upl) (n:Int) (b:Str) (s:Int) (hneed:FOk f∧zy l n∧n≤200000∧b.length≤100000):Spc Tryz.prog 53 [.v (.one (.ptr 0 0))] [.obj 78 [(.ptr 1 0),(.p (.str m)),(.p (.str t)),(.p (.int .i64 mi)),(.p (.list .fld f)),(.p (.int .i64 le))],.pack [.obj 48 [(.ptr 1 0),(.ptr 2 0)],.pack [.obj 90 [(.row 1),(.p (.int .i64 n))],.row .upl 67 l],.pack [.obj 104 [(.row 1),(.p (.int .i64 s))],.row .byte 5 b]]] (.pan (.ifc 73 true [(.int .i64 ((zO ⟨l,n,b,s⟩ f).st)),(.list .fld ((zO ⟨l,n,b,s⟩ f).fs)),(.list .byte ([]))])) [.obj 78 [(.ptr 1 0),(.p (.str m)),(.p (.str t)),(.p (.int .i64 mi)),(.p (.list .fld f)),(.p (.int .i64 le))],.pack [.obj 48 [(.ptr 1 0),(.ptr 2 0)],.pack [.obj 90 [(.row 1),(.p (.int .i64 ((zO ⟨l,n,b,s⟩ f).q.n)))],.row .upl 67 ((zO ⟨l,n,b,s⟩ f).q.l)],.pack [.obj 104 [(.row 1),(.p (.int .i64 ((zO ⟨l,n,b,s⟩ f).q.s)))],.row .byte 5 ((zO ⟨l,n,b,s⟩ f).q.b)]]]:=by
  obtain⟨hf,hs,hn,hb⟩:=hneed
  have hn0:=hs.n0
  have hdl:=zeH (n+1)
  have hcm:=uP f zbW
  have hol:=zdS hf zbW
  generalize hr:zO ⟨l,n,b,s⟩ f=r
  obtain⟨st,fs,⟨l',n',b',s'⟩⟩:=r
  unfold zO creE wsC wsS syS at hr
  refine spcG zi mixed Tryz.func53 (by kernel_rfl) { cfgT with keep:=some [0,2,3,4,6,7]} [zav,zau,zY,zX,zJ,zI,zU,zT,yZ,yY,yX,yV,wR,wQ,zgm,zgl,xM,xK] (by kernel_rfl) ?_
  intro I X hI hX
  refine zh (let y0:=I.hid (α:=(List UInt8)) (Prod.fst (oneT f (Array.toList (List.toArray ([117,112,108,111,97,100,45,109,101,116,97,100,97,116,97]:List UInt8)))));let y1:=I.hid (α:=Int) (zG f (Array.toList (List.toArray ([117,112,108,111,97,100,45,108,101,110,103,116,104]:List UInt8))));let y2:=I.hid (α:=Int) (ite (Eq (wrtC l n b (Go.Ab.Ent.mk (1:Int) (HAdd.hAdd n (1:Int)) y1 y0)) (0:Int)) (HAdd.hAdd n (1:Int)) (0:Int));let y3:=I.hid (α:=Int) (wrtC l n b (Go.Ab.Ent.mk (1:Int) (HAdd.hAdd n (1:Int)) y1 y0));let y4:=I.hid (α:=(List UInt8)) ([]:List UInt8);let y5:=I.hid (α:=(List UInt8)) (wrtB l n b (Go.Ab.Ent.mk (1:Int) (HAdd.hAdd n (1:Int)) y1 y0));let y6:=I.hid (α:=(List Go.Ab.Fld)) ([]:List Go.Ab.Fld);let y7:=I.hid (α:=(List Go.Ab.Upl)) (wrtL l n b (Go.Ab.Ent.mk (1:Int) (HAdd.hAdd n (1:Int)) y1 y0));let y8:=I.hid (α:=Int) (wrtN l n b (Go.Ab.Ent.mk (1:Int) (HAdd.hAdd n (1:Int)) y1 y0));let y9:=I.hid (α:=(List UInt8)) (decS y2);.br (I.hid (α:=Bool) (wL f (Array.toList (List.toArray ([117,112,108,111,97,100,45,108,101,110,103,116,104]:List UInt8))))) (.need (I.hid (α:=(Prop)) (And (And (FOk f) (LE.le (List.length (Array.toList (List.toArray ([117,112,108,111,97,100,45,108,101,110,103,116,104]:List UInt8)))) 1000000)) (Eq (wL f (Array.toList (List.toArray ([117,112,108,111,97,100,45,108,101,110,103,116,104]:List UInt8)))) Bool.true))) (.br (I.hid (α:=Bool) (rH f)) (.need (I.hid (α:=(Prop)) (And (FOk f) (Eq (rH f) Bool.true))) (.br (I.beq (I.ile 0 y1) (I.hid (α:=Bool) (TK f))) (.need (I.hid (α:=(Prop)) True) (.fin (.pan (.ifc 73 .true [(.int .i64 400),(.list .fld ([]:List Go.Ab.Fld)),(.list .byte y4)])) [(.obj 78 [(.ptr 1 0),(.p (.str m)),(.p (.str t)),(.p (.int .i64 mi)),(.p (.list .fld f)),(.p (.int .i64 le))]),(.pack [(.obj 48 [(.ptr 1 0),(.ptr 2 0)]),(.pack [(.obj 90 [(.row 1),(.p (.int .i64 n))]),(.row .upl 67 l)]),(.pack [(.obj 104 [(.row 1),(.p (.int .i64 s))]),(.row .byte 5 b)])])])) (.br (I.hid (α:=Bool) (Decidable.decide (Eq (Prod.snd (oneT f (Array.toList (List.toArray ([117,112,108,111,97,100,45,109,101,116,97,100,97,116,97]:List UInt8))))) (9:Int)))) (.need (I.hid (α:=(Prop)) (And (And (FOk f) (LE.le (List.length (Array.toList (List.toArray ([117,112,108,111,97,100,45,109,101,116,97,100,97,116,97]:List UInt8)))) 1000000)) (Eq (Prod.snd (oneT f (Array.toList (List.toArray ([117,112,108,111,97,100,45,109,101,116,97,100,97,116,97]:List UInt8))))) (9:Int)))) (.fin (.pan (.ifc 73 .true [(.int .i64 400),(.list .fld y6),(.list .byte y4)])) [(.obj 78 [(.ptr 1 0),(.p (.str m)),(.p (.str t)),(.p (.int .i64 mi)),(.p (.list .fld f)),(.p (.int .i64 le))]),(.pack [(.obj 48 [(.ptr 1 0),(.ptr 2 0)]),(.pack [(.obj 90 [(.row 1),(.p (.int .i64 n))]),(.row .upl 67 l)]),(.pack [(.obj 104 [(.row 1),(.p (.int .i64 s))]),(.row .byte 5 b)])])])) (.need (I.hid (α:=(Prop)) (And (And (FOk f) (LE.le (List.length (Array.toList (List.toArray ([117,112,108,111,97,100,45,109,101,116,97,100,97,116,97]:List UInt8)))) 1000000)) (Not (Eq (Prod.snd (oneT f (Array.toList (List.toArray ([117,112,108,111,97,100,45,109,101,116,97,100,97,116,97]:List UInt8))))) (9:Int))))) (.need (I.hid (α:=(Prop)) (And (zy l n) (And (LE.le n (200000:Int)) (And (LE.le (List.length y0) 1000000) (LE.le (List.length b) 100000))))) (.br (I.hid (α:=Bool) (Decidable.decide (Eq y3 (0:Int)))) (.need (I.hid (α:=(Prop)) (Eq y3 (0:Int))) (.need (I.hid (α:=(Prop)) True) (.need (I.hid (α:=(Prop)) (And (LE.le (0:Int) y2) (LT.lt y2 (1000000000:Int)))) (.need (I.few (I.add (I.len (α:=UInt8) (Array.toList (List.toArray ([47,102,105,108,101,115,47]:List UInt8)))) (I.len (α:=UInt8) y9)) 1000000000) (.need (I.hid (α:=(Prop)) True) (.need (I.hid (α:=(Prop)) True) (.fin (.pan (.ifc 73 .true [(.int .i64 201),(.list .fld ([(Go.Ab.Fld.mk (Array.toList (List.toArray ([76,111,99,97,116,105,111,110]:List UInt8))) (I.app (α:=UInt8) (Array.toList (List.toArray ([47,102,105,108,101,115,47]:List UInt8))) y9))]:List Go.Ab.Fld)),(.list .byte y4)])) [(.obj 78 [(.ptr 1 0),(.p (.str m)),(.p (.str t)),(.p (.int .i64 mi)),(.p (.list .fld f)),(.p (.int .i64 le))]),(.pack [(.obj 48 [(.ptr 1 0),(.ptr 2 0)]),(.pack [(.obj 90 [(.row 1),(.p (.int .i64 y8))]),(.row .upl 67 y7)]),(.pack [(.obj 104 [(.row 1),(.p (.int .i64 (I.hid (α:=Int) (Nat.cast (List.length y5)))))]),(.row .byte 5 y5)])])]))))))) (.need (I.hid (α:=(Prop)) (Not (Eq y3 (0:Int)))) (.fin (.pan (.ifc 73 .true [(.int .i64 (I.hid (α:=Int) (uK y3))),(.list .fld y6),(.list .byte y4)])) [(.obj 78 [(.ptr 1 0),(.p (.str m)),(.p (.str t)),(.p (.int .i64 mi)),(.p (.list .fld f)),(.p (.int .i64 le))]),(.pack [(.obj 48 [(.ptr 1 0),(.ptr 2 0)]),(.pack [(.obj 90 [(.row 1),(.p (.int .i64 y8))]),(.row .upl 67 y7)]),(.pack [(.obj 104 [(.row 1),(.p (.int .i64 s))]),(.row .byte 5 y5)])])])))))))) (.need (I.hid (α:=(Prop)) (And (FOk f) (Eq (rH f) Bool.false))) (.fin (.pan (.ifc 73 .true [(.int .i64 400),(.list .fld y6),(.list .byte y4)])) [(.obj 78 [(.ptr 1 0),(.p (.str m)),(.p (.str t)),(.p (.int .i64 mi)),(.p (.list .fld f)),(.p (.int .i64 le))]),(.pack [(.obj 48 [(.ptr 1 0),(.ptr 2 0)]),(.pack [(.obj 90 [(.row 1),(.p (.int .i64 n))]),(.row .upl 67 l)]),(.pack [(.obj 104 [(.row 1),(.p (.int .i64 s))]),(.row .byte 5 b)])])])))) (.need (I.hid (α:=(Prop)) (And (And (FOk f) (LE.le (List.length (Array.toList (List.toArray ([117,112,108,111,97,100,45,108,101,110,103,116,104]:List UInt8)))) 1000000)) (Eq (wL f (Array.toList (List.toArray ([117,112,108,111,97,100,45,108,101,110,103,116,104]:List UInt8)))) Bool.false))) (.fin (.pan (.ifc 73 .true [(.int .i64 400),(.list .fld y6),(.list .byte y4)])) [(.obj 78 [(.ptr 1 0),(.p (.str m)),(.p (.str t)),(.p (.int .i64 mi)),(.p (.list .fld f)),(.p (.int .i64 le))]),(.pack [(.obj 48 [(.ptr 1 0),(.ptr 2 0)]),(.pack [(.obj 90 [(.row 1),(.p (.int .i64 n))]),(.row .upl 67 l)]),(.pack [(.obj 104 [(.row 1),(.p (.int .i64 s))]),(.row .byte 5 b)])])]))) (by kernel_rfl) ?_
  simp only [zl]
  subst hI
  unfold yh zbW at *
  unfold locN vC at hr
  simp only at hr
  simp only [nrmA,nrmB,nrlB,reduceCtorEq,HO.pack.injEq,HO.obj.injEq]
  by_cases h1:wL f [117,112,108,111,97,100,45,108,101,110,103,116,104]=false
  · rw [if_pos h1] at hr
    cases hr
    (repeat' (first|refine And.intro ?_ ?_|intro _))<;>first|omega|exact True.intro|exact False.elim ‹False›|skip
    all_goals first
      |omega
      |assumption
      |exact hs
      |exact hf.1
      |(exact(hf.2 _ ‹_›).1)
      |(exact(hf.2 _ ‹_›).2)
      |(simp only [List.length_cons,List.length_nil];omega)
      |(simp_all;done)
      |(exfalso;simp_all;done)
      |(simp only [wrtL,wrtN,wrtB,if_neg h5];done)
      |trace_state
  rw [if_neg h1] at hr
  simp only [Bool.not_eq_false] at h1
  by_cases h2:rH f=false
  · rw [if_pos h2] at hr
    cases hr
    (repeat' (first|refine And.intro ?_ ?_|intro _))<;>first|omega|exact True.intro|exact False.elim ‹False›|skip
    all_goals first
      |omega
      |assumption
      |exact hs
      |exact hf.1
      |(exact(hf.2 _ ‹_›).1)
      |(exact(hf.2 _ ‹_›).2)
      |(simp only [List.length_cons,List.length_nil];omega)
      |(simp_all;done)
      |(exfalso;simp_all;done)
      |(simp only [wrtL,wrtN,wrtB,if_neg h5];done)
      |trace_state
  rw [if_neg h2] at hr
  simp only [Bool.not_eq_false] at h2
  by_cases h3:decide (0≤zG f [117,112,108,111,97,100,45,108,101,110,103,116,104])=TK f
  · rw [if_pos h3] at hr
    cases hr
    (repeat' (first|refine And.intro ?_ ?_|intro _))<;>first|omega|exact True.intro|exact False.elim ‹False›|skip
    all_goals first
      |omega
      |assumption
      |exact hs
      |exact hf.1
      |(exact(hf.2 _ ‹_›).1)
      |(exact(hf.2 _ ‹_›).2)
      |(simp only [List.length_cons,List.length_nil];omega)
      |(simp_all;done)
      |(exfalso;simp_all;done)
      |(simp only [wrtL,wrtN,wrtB,if_neg h5];done)
      |trace_state
  rw [if_neg h3] at hr
  by_cases h4:(oneT f [117,112,108,111,97,100,45,109,101,116,97,100,97,116,97]).2=9
  · rw [if_pos h4] at hr
    cases hr
    (repeat' (first|refine And.intro ?_ ?_|intro _))<;>first|omega|exact True.intro|exact False.elim ‹False›|skip
    all_goals first
      |omega
      |assumption
      |exact hs
      |exact hf.1
      |(exact(hf.2 _ ‹_›).1)
      |(exact(hf.2 _ ‹_›).2)
      |(simp only [List.length_cons,List.length_nil];omega)
      |(simp_all;done)
      |(exfalso;simp_all;done)
      |(simp only [wrtL,wrtN,wrtB,if_neg h5];done)
      |trace_state
  rw [if_neg h4] at hr
  generalize(oneT f [117,112,108,111,97,100,45,109,101,116,97,100,97,116,97]).1=mt at *
  generalize zG f [117,112,108,111,97,100,45,108,101,110,103,116,104]=nv at *
  by_cases h5:wrtC l n b ⟨1,n+1,nv,mt⟩=0
  · rw [if_neg (fun h=>h h5)] at hr
    cases hr
    simp only [h5,if_true] at *
    (repeat' (first|refine And.intro ?_ ?_|intro _))<;>first|omega|exact True.intro|exact False.elim ‹False›|skip
    all_goals first
      |omega
      |assumption
      |exact hs
      |exact hf.1
      |(exact(hf.2 _ ‹_›).1)
      |(exact(hf.2 _ ‹_›).2)
      |(simp only [List.length_cons,List.length_nil];omega)
      |(simp_all;done)
      |(exfalso;simp_all;done)
      |(simp only [wrtL,wrtN,wrtB,if_neg h5];done)
      |trace_state
  · rw [if_pos h5] at hr
    cases hr
    (repeat' (first|refine And.intro ?_ ?_|intro _))<;>first|omega|exact True.intro|exact False.elim ‹False›|skip
    all_goals first
      |omega
      |assumption
      |exact hs
      |exact hf.1
      |(exact(hf.2 _ ‹_›).1)
      |(exact(hf.2 _ ‹_›).2)
      |(simp only [List.length_cons,List.length_nil];omega)
      |(simp_all;done)
      |(exfalso;simp_all;done)
      |(simp only [wrtL,wrtN,wrtB,if_neg h5];done)
      |trace_state
def qB (I:Alg) (args:List D) (hp:List HO):Option CT:=match args,hp with
  |[.v (.one (.ptr 0 0))],[.obj 78 [(.ptr 1 0),(.p (.str m)),(.p (.str t)),(.p (.int .i64 mi)),(.p (.list .fld f)),(.p (.int .i64 le))],.pack [.obj 48 [(.ptr 1 0),(.ptr 2 0)],.pack [.obj 90 [(.row 1),(.p (.int .i64 n))],.row .upl 67 l],.pack [.obj 104 [(.row 1),(.p (.int .i64 s))],.row .byte 5 b]]]=>(fun(m t:Str) (mi:Int) (f:List Fld) (le:Int) (l:List Upl) (n:Int) (b:Str) (s:Int)=>(some (.one ⟨I.hid (FOk f∧zy l n∧n≤200000∧b.length≤100000),(.pan (.ifc 73 true [(.int .i64 (I.hid ((zO ⟨l,n,b,s⟩ f).st))),(.list .fld (I.hid ((zO ⟨l,n,b,s⟩ f).fs))),(.list .byte (I.hid ([])))])),[.obj 78 [(.ptr 1 0),(.p (.str m)),(.p (.str t)),(.p (.int .i64 mi)),(.p (.list .fld f)),(.p (.int .i64 le))],.pack [.obj 48 [(.ptr 1 0),(.ptr 2 0)],.pack [.obj 90 [(.row 1),(.p (.int .i64 (I.hid ((zO ⟨l,n,b,s⟩ f).q.n))))],.row .upl 67 (I.hid ((zO ⟨l,n,b,s⟩ f).q.l))],.pack [.obj 104 [(.row 1),(.p (.int .i64 (I.hid ((zO ⟨l,n,b,s⟩ f).q.s))))],.row .byte 5 (I.hid ((zO ⟨l,n,b,s⟩ f).q.b))]]]⟩):Option CT)) m t mi f le l n b s
  |_,_=>none
theorem U3:zo Tryz.prog 53 (qB alg):=by
  intro args hp r h
  unfold qB at h
  split at h
  · cases h;exact fun hn=>zi7 _ _ _ _ _ _ _ _ _ hn
  · cases h
def uH:Know Tryz.prog:=⟨53,qB,U3⟩
def uG:Know Tryz.prog:=⟨53,fun I=>zu I (qB I),zf U3⟩
theorem zl4 (m t:Str) (mi:Int) (f:List Fld) (le:Int) (l:List Upl) (n:Int) (b:Str) (s:Int) (hneed:zy l n∧uplB ⟨l,n,b,s⟩ t=true):Spc Tryz.prog 54 [.v (.one (.ptr 0 0))] [.obj 78 [(.ptr 1 0),(.p (.str m)),(.p (.str t)),(.p (.int .i64 mi)),(.p (.list .fld f)),(.p (.int .i64 le))],.pack [.obj 48 [(.ptr 1 0),(.ptr 2 0)],.pack [.obj 90 [(.row 1),(.p (.int .i64 n))],.row .upl 67 l],.pack [.obj 104 [(.row 1),(.p (.int .i64 s))],.row .byte 5 b]]] (.ret (.v (.agg [(.p (.int .i64 ((getU l (idV t)).id))),(.p (.int .i64 ((getU l (idV t)).size))),(.p (.str ((getU l (idV t)).note))),(.p (.list .byte ((getU l (idV t)).bytes))),(.p (.int .i64 ((getU l (idV t)).sent)))]))) [.obj 78 [(.ptr 1 0),(.p (.str m)),(.p (.str t)),(.p (.int .i64 mi)),(.p (.list .fld f)),(.p (.int .i64 le))],.pack [.obj 48 [(.ptr 1 0),(.ptr 2 0)],.pack [.obj 90 [(.row 1),(.p (.int .i64 n))],.row .upl 67 l],.pack [.obj 104 [(.row 1),(.p (.int .i64 s))],.row .byte 5 b]]]:=by
  obtain⟨hs,hu⟩:=hneed
  have hnn:=sG (t.drop 7)
  have hnx:=sG (Lib.trimPrefix t vC)
  have htp:Lib.hasPrefix t vC=true→Lib.trimPrefix t vC=t.drop 7:=fun h=>by unfold Lib.trimPrefix;rw [if_pos h];rfl
  unfold uplB idB idV at hu
  try unfold idV
  refine spcG zi mixed Tryz.func54 (by kernel_rfl) { cfgT with keep:=some [0,2,3,4,5,6,7]} [Zd,Zc,qK,qJ,Y2,Y1,XJ,XI,zJ,zI,yZ,yY] (by kernel_rfl) ?_
  intro I X hI hX
  refine zh (let y1:=I.hid (α:=(List UInt8)) (Go.Lib.trimPrefix t (Array.toList (List.toArray ([47,102,105,108,101,115,47]:List UInt8))));let y0:=I.hid (α:=Int) (Prod.fst (numA y1 (10:Int) (9:Int)));let y2:=I.hid (α:=(List UInt8)) ([]:List UInt8);.need (I.hid (α:=(Prop)) True) (.need (I.hid (α:=(Prop)) True) (.br (I.bnot (I.hid (α:=Bool) (Go.Lib.hasPrefix t (Array.toList (List.toArray ([47,102,105,108,101,115,47]:List UInt8)))))) (.need (I.hid (α:=(Prop)) True) (.fin (.pan (.ifc 73 .true [(.int .i64 404),(.list .fld ([]:List Go.Ab.Fld)),(.list .byte y2)])) [(.obj 78 [(.ptr 1 0),(.p (.str m)),(.p (.str t)),(.p (.int .i64 mi)),(.p (.list .fld f)),(.p (.int .i64 le))]),(.pack [(.obj 48 [(.ptr 1 0),(.ptr 2 0)]),(.pack [(.obj 90 [(.row 1),(.p (.int .i64 n))]),(.row .upl 67 l)]),(.pack [(.obj 104 [(.row 1),(.p (.int .i64 s))]),(.row .byte 5 b)])])])) (.br (I.bnot (I.hid (α:=Bool) (Prod.snd (numA y1 (10:Int) (9:Int))))) (.need (I.hid (α:=(Prop)) True) (.fin (.pan (.ifc 73 .true [(.int .i64 404),(.list .fld ([]:List Go.Ab.Fld)),(.list .byte y2)])) [(.obj 78 [(.ptr 1 0),(.p (.str m)),(.p (.str t)),(.p (.int .i64 mi)),(.p (.list .fld f)),(.p (.int .i64 le))]),(.pack [(.obj 48 [(.ptr 1 0),(.ptr 2 0)]),(.pack [(.obj 90 [(.row 1),(.p (.int .i64 n))]),(.row .upl 67 l)]),(.pack [(.obj 104 [(.row 1),(.p (.int .i64 s))]),(.row .byte 5 b)])])])) (.need (I.hid (α:=(Prop)) (And (LE.le (0:Int) y0) (LT.lt y0 (1000000000:Int)))) (.br (I.bnot (I.seq (I.hid (α:=(List UInt8)) (decS y0)) y1)) (.need (I.hid (α:=(Prop)) True) (.fin (.pan (.ifc 73 .true [(.int .i64 404),(.list .fld ([]:List Go.Ab.Fld)),(.list .byte y2)])) [(.obj 78 [(.ptr 1 0),(.p (.str m)),(.p (.str t)),(.p (.int .i64 mi)),(.p (.list .fld f)),(.p (.int .i64 le))]),(.pack [(.obj 48 [(.ptr 1 0),(.ptr 2 0)]),(.pack [(.obj 90 [(.row 1),(.p (.int .i64 n))]),(.row .upl 67 l)]),(.pack [(.obj 104 [(.row 1),(.p (.int .i64 s))]),(.row .byte 5 b)])])])) (.need (I.hid (α:=(Prop)) (zy l n)) (.br (I.bnot (I.hid (α:=Bool) (getB l y0))) (.need (I.hid (α:=(Prop)) True) (.fin (.pan (.ifc 73 .true [(.int .i64 404),(.list .fld ([]:List Go.Ab.Fld)),(.list .byte y2)])) [(.obj 78 [(.ptr 1 0),(.p (.str m)),(.p (.str t)),(.p (.int .i64 mi)),(.p (.list .fld f)),(.p (.int .i64 le))]),(.pack [(.obj 48 [(.ptr 1 0),(.ptr 2 0)]),(.pack [(.obj 90 [(.row 1),(.p (.int .i64 n))]),(.row .upl 67 l)]),(.pack [(.obj 104 [(.row 1),(.p (.int .i64 s))]),(.row .byte 5 b)])])])) (.fin (.ret (.v (.agg [(.p (.int .i64 (I.hid (α:=Int) (Go.Ab.Upl.id (getU l y0))))),(.p (.int .i64 (I.hid (α:=Int) (Go.Ab.Upl.size (getU l y0))))),(.p (.str (I.hid (α:=(List UInt8)) (Go.Ab.Upl.note (getU l y0))))),(.p (.list .byte (I.hid (α:=(List UInt8)) (Go.Ab.Upl.bytes (getU l y0))))),(.p (.int .i64 (I.hid (α:=Int) (Go.Ab.Upl.sent (getU l y0)))))]))) [(.obj 78 [(.ptr 1 0),(.p (.str m)),(.p (.str t)),(.p (.int .i64 mi)),(.p (.list .fld f)),(.p (.int .i64 le))]),(.pack [(.obj 48 [(.ptr 1 0),(.ptr 2 0)]),(.pack [(.obj 90 [(.row 1),(.p (.int .i64 n))]),(.row .upl 67 l)]),(.pack [(.obj 104 [(.row 1),(.p (.int .i64 s))]),(.row .byte 5 b)])])]))))))))) (by kernel_rfl) ?_
  simp only [zl]
  subst hI
  rw [show([47,102,105,108,101,115,47]:Str)=vC from rfl]
  simp only [nrmA,nrmB,nrlB,reduceCtorEq,HO.pack.injEq,HO.obj.injEq]
  generalize Lib.hasPrefix t vC=hb at *
  cases hb with
  | true=>
    rw [htp rfl] at *
    generalize t.drop 7=tt at *
    generalize numA tt 10 9=na at *
    obtain⟨nv,ok⟩:=na
    simp only [Bool.true_and] at *
    (repeat' (first|refine And.intro ?_ ?_|intro _))<;>first|omega|exact True.intro|exact False.elim ‹False›|skip
    all_goals first|omega|assumption|exact hs|(simp_all;done)|trace_state
  | false=>
    simp only [Bool.false_and] at *
    (repeat' (first|refine And.intro ?_ ?_|intro _))<;>first|omega|exact True.intro|exact False.elim ‹False›|skip
    all_goals first|omega|assumption|exact hs|(simp_all;done)|trace_state
theorem zl3 (m t:Str) (mi:Int) (f:List Fld) (le:Int) (l:List Upl) (n:Int) (b:Str) (s:Int) (hneed:zy l n∧uplB ⟨l,n,b,s⟩ t=false):Spc Tryz.prog 54 [.v (.one (.ptr 0 0))] [.obj 78 [(.ptr 1 0),(.p (.str m)),(.p (.str t)),(.p (.int .i64 mi)),(.p (.list .fld f)),(.p (.int .i64 le))],.pack [.obj 48 [(.ptr 1 0),(.ptr 2 0)],.pack [.obj 90 [(.row 1),(.p (.int .i64 n))],.row .upl 67 l],.pack [.obj 104 [(.row 1),(.p (.int .i64 s))],.row .byte 5 b]]] (.pan (.ifc 73 true [(.int .i64 404),(.list .fld ([])),(.list .byte ([]))])) [.obj 78 [(.ptr 1 0),(.p (.str m)),(.p (.str t)),(.p (.int .i64 mi)),(.p (.list .fld f)),(.p (.int .i64 le))],.pack [.obj 48 [(.ptr 1 0),(.ptr 2 0)],.pack [.obj 90 [(.row 1),(.p (.int .i64 n))],.row .upl 67 l],.pack [.obj 104 [(.row 1),(.p (.int .i64 s))],.row .byte 5 b]]]:=by
  obtain⟨hs,hu⟩:=hneed
  have hnn:=sG (t.drop 7)
  have hnx:=sG (Lib.trimPrefix t vC)
  have htp:Lib.hasPrefix t vC=true→Lib.trimPrefix t vC=t.drop 7:=fun h=>by unfold Lib.trimPrefix;rw [if_pos h];rfl
  unfold uplB idB idV at hu
  try unfold idV
  refine spcG zi mixed Tryz.func54 (by kernel_rfl) { cfgT with keep:=some [0,2,3,4,5,6,7]} [Zd,Zc,qK,qJ,Y2,Y1,XJ,XI,zJ,zI,yZ,yY] (by kernel_rfl) ?_
  intro I X hI hX
  refine zh (let y1:=I.hid (α:=(List UInt8)) (Go.Lib.trimPrefix t (Array.toList (List.toArray ([47,102,105,108,101,115,47]:List UInt8))));let y0:=I.hid (α:=Int) (Prod.fst (numA y1 (10:Int) (9:Int)));let y2:=I.hid (α:=(List UInt8)) ([]:List UInt8);.need (I.hid (α:=(Prop)) True) (.need (I.hid (α:=(Prop)) True) (.br (I.bnot (I.hid (α:=Bool) (Go.Lib.hasPrefix t (Array.toList (List.toArray ([47,102,105,108,101,115,47]:List UInt8)))))) (.need (I.hid (α:=(Prop)) True) (.fin (.pan (.ifc 73 .true [(.int .i64 404),(.list .fld ([]:List Go.Ab.Fld)),(.list .byte y2)])) [(.obj 78 [(.ptr 1 0),(.p (.str m)),(.p (.str t)),(.p (.int .i64 mi)),(.p (.list .fld f)),(.p (.int .i64 le))]),(.pack [(.obj 48 [(.ptr 1 0),(.ptr 2 0)]),(.pack [(.obj 90 [(.row 1),(.p (.int .i64 n))]),(.row .upl 67 l)]),(.pack [(.obj 104 [(.row 1),(.p (.int .i64 s))]),(.row .byte 5 b)])])])) (.br (I.bnot (I.hid (α:=Bool) (Prod.snd (numA y1 (10:Int) (9:Int))))) (.need (I.hid (α:=(Prop)) True) (.fin (.pan (.ifc 73 .true [(.int .i64 404),(.list .fld ([]:List Go.Ab.Fld)),(.list .byte y2)])) [(.obj 78 [(.ptr 1 0),(.p (.str m)),(.p (.str t)),(.p (.int .i64 mi)),(.p (.list .fld f)),(.p (.int .i64 le))]),(.pack [(.obj 48 [(.ptr 1 0),(.ptr 2 0)]),(.pack [(.obj 90 [(.row 1),(.p (.int .i64 n))]),(.row .upl 67 l)]),(.pack [(.obj 104 [(.row 1),(.p (.int .i64 s))]),(.row .byte 5 b)])])])) (.need (I.hid (α:=(Prop)) (And (LE.le (0:Int) y0) (LT.lt y0 (1000000000:Int)))) (.br (I.bnot (I.seq (I.hid (α:=(List UInt8)) (decS y0)) y1)) (.need (I.hid (α:=(Prop)) True) (.fin (.pan (.ifc 73 .true [(.int .i64 404),(.list .fld ([]:List Go.Ab.Fld)),(.list .byte y2)])) [(.obj 78 [(.ptr 1 0),(.p (.str m)),(.p (.str t)),(.p (.int .i64 mi)),(.p (.list .fld f)),(.p (.int .i64 le))]),(.pack [(.obj 48 [(.ptr 1 0),(.ptr 2 0)]),(.pack [(.obj 90 [(.row 1),(.p (.int .i64 n))]),(.row .upl 67 l)]),(.pack [(.obj 104 [(.row 1),(.p (.int .i64 s))]),(.row .byte 5 b)])])])) (.need (I.hid (α:=(Prop)) (zy l n)) (.br (I.bnot (I.hid (α:=Bool) (getB l y0))) (.need (I.hid (α:=(Prop)) True) (.fin (.pan (.ifc 73 .true [(.int .i64 404),(.list .fld ([]:List Go.Ab.Fld)),(.list .byte y2)])) [(.obj 78 [(.ptr 1 0),(.p (.str m)),(.p (.str t)),(.p (.int .i64 mi)),(.p (.list .fld f)),(.p (.int .i64 le))]),(.pack [(.obj 48 [(.ptr 1 0),(.ptr 2 0)]),(.pack [(.obj 90 [(.row 1),(.p (.int .i64 n))]),(.row .upl 67 l)]),(.pack [(.obj 104 [(.row 1),(.p (.int .i64 s))]),(.row .byte 5 b)])])])) (.fin (.ret (.v (.agg [(.p (.int .i64 (I.hid (α:=Int) (Go.Ab.Upl.id (getU l y0))))),(.p (.int .i64 (I.hid (α:=Int) (Go.Ab.Upl.size (getU l y0))))),(.p (.str (I.hid (α:=(List UInt8)) (Go.Ab.Upl.note (getU l y0))))),(.p (.list .byte (I.hid (α:=(List UInt8)) (Go.Ab.Upl.bytes (getU l y0))))),(.p (.int .i64 (I.hid (α:=Int) (Go.Ab.Upl.sent (getU l y0)))))]))) [(.obj 78 [(.ptr 1 0),(.p (.str m)),(.p (.str t)),(.p (.int .i64 mi)),(.p (.list .fld f)),(.p (.int .i64 le))]),(.pack [(.obj 48 [(.ptr 1 0),(.ptr 2 0)]),(.pack [(.obj 90 [(.row 1),(.p (.int .i64 n))]),(.row .upl 67 l)]),(.pack [(.obj 104 [(.row 1),(.p (.int .i64 s))]),(.row .byte 5 b)])])]))))))))) (by kernel_rfl) ?_
  simp only [zl]
  subst hI
  rw [show([47,102,105,108,101,115,47]:Str)=vC from rfl]
  simp only [nrmA,nrmB,nrlB,reduceCtorEq,HO.pack.injEq,HO.obj.injEq]
  generalize Lib.hasPrefix t vC=hb at *
  cases hb with
  | true=>
    rw [htp rfl] at *
    generalize t.drop 7=tt at *
    generalize numA tt 10 9=na at *
    obtain⟨nv,ok⟩:=na
    simp only [Bool.true_and] at *
    (repeat' (first|refine And.intro ?_ ?_|intro _))<;>first|omega|exact True.intro|exact False.elim ‹False›|skip
    all_goals first|omega|assumption|exact hs|(simp_all;done)|trace_state
  | false=>
    simp only [Bool.false_and] at *
    (repeat' (first|refine And.intro ?_ ?_|intro _))<;>first|omega|exact True.intro|exact False.elim ‹False›|skip
    all_goals first|omega|assumption|exact hs|(simp_all;done)|trace_state
def SK (I:Alg) (args:List D) (hp:List HO):Option CT:=match args,hp with
  |[.v (.one (.ptr 0 0))],[.obj 78 [(.ptr 1 0),(.p (.str m)),(.p (.str t)),(.p (.int .i64 mi)),(.p (.list .fld f)),(.p (.int .i64 le))],.pack [.obj 48 [(.ptr 1 0),(.ptr 2 0)],.pack [.obj 90 [(.row 1),(.p (.int .i64 n))],.row .upl 67 l],.pack [.obj 104 [(.row 1),(.p (.int .i64 s))],.row .byte 5 b]]]=>(fun(m t:Str) (mi:Int) (f:List Fld) (le:Int) (l:List Upl) (n:Int) (b:Str) (s:Int)=>(some (.br (I.hid (uplB ⟨l,n,b,s⟩ t)) (.one ⟨I.hid (zy l n∧uplB ⟨l,n,b,s⟩ t=true),(.ret (.v (.agg [(.p (.int .i64 (I.hid ((getU l (idV t)).id)))),(.p (.int .i64 (I.hid ((getU l (idV t)).size)))),(.p (.str (I.hid ((getU l (idV t)).note)))),(.p (.list .byte (I.hid ((getU l (idV t)).bytes)))),(.p (.int .i64 (I.hid ((getU l (idV t)).sent))))]))),[.obj 78 [(.ptr 1 0),(.p (.str m)),(.p (.str t)),(.p (.int .i64 mi)),(.p (.list .fld f)),(.p (.int .i64 le))],.pack [.obj 48 [(.ptr 1 0),(.ptr 2 0)],.pack [.obj 90 [(.row 1),(.p (.int .i64 n))],.row .upl 67 l],.pack [.obj 104 [(.row 1),(.p (.int .i64 s))],.row .byte 5 b]]]⟩) (.one ⟨I.hid (zy l n∧uplB ⟨l,n,b,s⟩ t=false),(.pan (.ifc 73 true [(.int .i64 404),(.list .fld (I.hid ([]))),(.list .byte (I.hid ([])))])),[.obj 78 [(.ptr 1 0),(.p (.str m)),(.p (.str t)),(.p (.int .i64 mi)),(.p (.list .fld f)),(.p (.int .i64 le))],.pack [.obj 48 [(.ptr 1 0),(.ptr 2 0)],.pack [.obj 90 [(.row 1),(.p (.int .i64 n))],.row .upl 67 l],.pack [.obj 104 [(.row 1),(.p (.int .i64 s))],.row .byte 5 b]]]⟩)):Option CT)) m t mi f le l n b s
  |_,_=>none
theorem zge:zo Tryz.prog 54 (SK alg):=by
  intro args hp r h
  unfold SK at h
  split at h
  · cases h;exact⟨fun _ hn=>zl4 _ _ _ _ _ _ _ _ _ hn,fun _ hn=>zl3 _ _ _ _ _ _ _ _ _ hn⟩
  · cases h
def Vu:Know Tryz.prog:=⟨54,SK,zge⟩
def Vt:Know Tryz.prog:=⟨54,fun I=>zu I (SK I),zf zge⟩
theorem zl5 (m t:Str) (mi:Int) (f:List Fld) (le:Int) (l:List Upl) (n:Int) (b:Str) (s:Int) (ui uz:Int) (uo ub:Str) (us:Int) (hneed:uz<1000000000∧ub.length<1000000):Spc Tryz.prog 55 [.v (.one (.ptr 0 0)),.v (.agg [(.p (.int .i64 ui)),(.p (.int .i64 uz)),(.p (.str uo)),(.p (.list .byte ub)),(.p (.int .i64 us))])] [.obj 78 [(.ptr 1 0),(.p (.str m)),(.p (.str t)),(.p (.int .i64 mi)),(.p (.list .fld f)),(.p (.int .i64 le))],.pack [.obj 48 [(.ptr 1 0),(.ptr 2 0)],.pack [.obj 90 [(.row 1),(.p (.int .i64 n))],.row .upl 67 l],.pack [.obj 104 [(.row 1),(.p (.int .i64 s))],.row .byte 5 b]]] (.pan (.ifc 73 true [(.int .i64 200),(.list .fld ((UH ⟨ui,uz,uo,ub,us⟩))),(.list .byte ([]))])) [.obj 78 [(.ptr 1 0),(.p (.str m)),(.p (.str t)),(.p (.int .i64 mi)),(.p (.list .fld f)),(.p (.int .i64 le))],.pack [.obj 48 [(.ptr 1 0),(.ptr 2 0)],.pack [.obj 90 [(.row 1),(.p (.int .i64 n))],.row .upl 67 l],.pack [.obj 104 [(.row 1),(.p (.int .i64 s))],.row .byte 5 b]]]:=by
  obtain⟨h1,h2⟩:=hneed
  generalize hr:UH ⟨ui,uz,uo,ub,us⟩=r
  unfold UH at hr
  generalize hl:lenF ⟨ui,uz,uo,ub,us⟩=lf at hr
  obtain⟨ln,lv⟩:=lf
  refine spcG zi mixed Tryz.func55 (by kernel_rfl) { cfgT with keep:=some [0,1,3,4]} [zJ,zI,zU,zT,yZ,yY,zkM,zkL] (by kernel_rfl) ?_
  intro I X hI hX
  refine zh (let y0:=I.hid (α:=(List UInt8)) (Go.Ab.Fld.value (lenF (Go.Ab.Upl.mk ui uz uo ub us)));let y1:=I.hid (α:=(List UInt8)) (Go.Ab.Fld.name (lenF (Go.Ab.Upl.mk ui uz uo ub us)));let y2:=I.hid (α:=(List UInt8)) (decS (I.len (α:=UInt8) ub));let y3:=I.hid (α:=(List UInt8)) ([]:List UInt8);.need (I.hid (α:=(Prop)) (And (LE.le (0:Int) (I.len (α:=UInt8) ub)) (LT.lt (I.len (α:=UInt8) ub) (1000000000:Int)))) (.need (I.hid (α:=(Prop)) True) (.need (I.hid (α:=(Prop)) (LT.lt uz (1000000000:Int))) (.need (I.hid (α:=(Prop)) True) (.br (I.bnot (I.seq uo (Array.toList (List.toArray ([]:List UInt8))))) (.need (I.hid (α:=(Prop)) True) (.need (I.few (I.add (I.len (α:=Go.Ab.Fld) ([(Go.Ab.Fld.mk (Array.toList (List.toArray ([85,112,108,111,97,100,45,79,102,102,115,101,116]:List UInt8))) y2),(Go.Ab.Fld.mk y1 y0),(Go.Ab.Fld.mk (Array.toList (List.toArray ([67,97,99,104,101,45,67,111,110,116,114,111,108]:List UInt8))) (Array.toList (List.toArray ([110,111,45,115,116,111,114,101]:List UInt8))))]:List Go.Ab.Fld)) (I.len (α:=Go.Ab.Fld) ([(Go.Ab.Fld.mk (Array.toList (List.toArray ([85,112,108,111,97,100,45,77,101,116,97,100,97,116,97]:List UInt8))) uo)]:List Go.Ab.Fld))) 100000000) (.need (I.hid (α:=(Prop)) True) (.fin (.pan (.ifc 73 .true [(.int .i64 200),(.list .fld (I.app (α:=Go.Ab.Fld) ([(Go.Ab.Fld.mk (Array.toList (List.toArray ([85,112,108,111,97,100,45,79,102,102,115,101,116]:List UInt8))) y2),(Go.Ab.Fld.mk y1 y0),(Go.Ab.Fld.mk (Array.toList (List.toArray ([67,97,99,104,101,45,67,111,110,116,114,111,108]:List UInt8))) (Array.toList (List.toArray ([110,111,45,115,116,111,114,101]:List UInt8))))]:List Go.Ab.Fld) ([(Go.Ab.Fld.mk (Array.toList (List.toArray ([85,112,108,111,97,100,45,77,101,116,97,100,97,116,97]:List UInt8))) uo)]:List Go.Ab.Fld))),(.list .byte y3)])) [(.obj 78 [(.ptr 1 0),(.p (.str m)),(.p (.str t)),(.p (.int .i64 mi)),(.p (.list .fld f)),(.p (.int .i64 le))]),(.pack [(.obj 48 [(.ptr 1 0),(.ptr 2 0)]),(.pack [(.obj 90 [(.row 1),(.p (.int .i64 n))]),(.row .upl 67 l)]),(.pack [(.obj 104 [(.row 1),(.p (.int .i64 s))]),(.row .byte 5 b)])])])))) (.need (I.hid (α:=(Prop)) True) (.fin (.pan (.ifc 73 .true [(.int .i64 200),(.list .fld ([(Go.Ab.Fld.mk (Array.toList (List.toArray ([85,112,108,111,97,100,45,79,102,102,115,101,116]:List UInt8))) y2),(Go.Ab.Fld.mk y1 y0),(Go.Ab.Fld.mk (Array.toList (List.toArray ([67,97,99,104,101,45,67,111,110,116,114,111,108]:List UInt8))) (Array.toList (List.toArray ([110,111,45,115,116,111,114,101]:List UInt8))))]:List Go.Ab.Fld)),(.list .byte y3)])) [(.obj 78 [(.ptr 1 0),(.p (.str m)),(.p (.str t)),(.p (.int .i64 mi)),(.p (.list .fld f)),(.p (.int .i64 le))]),(.pack [(.obj 48 [(.ptr 1 0),(.ptr 2 0)]),(.pack [(.obj 90 [(.row 1),(.p (.int .i64 n))]),(.row .upl 67 l)]),(.pack [(.obj 104 [(.row 1),(.p (.int .i64 s))]),(.row .byte 5 b)])])]))))))) (by kernel_rfl) ?_
  simp only [zl]
  subst hI
  simp only at hr
  simp only [nrmA,nrmB,nrlB,reduceCtorEq,HO.pack.injEq,HO.obj.injEq]
  rw [hl]
  (repeat' (first|refine And.intro ?_ ?_|intro _))<;>first|omega|exact True.intro|exact False.elim ‹False›|skip
  all_goals first|omega|with_reducible assumption|(subst hr;simp_all;done)|(subst hr;(simp_all [Vl,znp,zmO,zlU]);done)|trace_state
def XW (I:Alg) (args:List D) (hp:List HO):Option CT:=match args,hp with
  |[.v (.one (.ptr 0 0)),.v (.agg [(.p (.int .i64 ui)),(.p (.int .i64 uz)),(.p (.str uo)),(.p (.list .byte ub)),(.p (.int .i64 us))])],[.obj 78 [(.ptr 1 0),(.p (.str m)),(.p (.str t)),(.p (.int .i64 mi)),(.p (.list .fld f)),(.p (.int .i64 le))],.pack [.obj 48 [(.ptr 1 0),(.ptr 2 0)],.pack [.obj 90 [(.row 1),(.p (.int .i64 n))],.row .upl 67 l],.pack [.obj 104 [(.row 1),(.p (.int .i64 s))],.row .byte 5 b]]]=>(fun(m t:Str) (mi:Int) (f:List Fld) (le:Int) (l:List Upl) (n:Int) (b:Str) (s:Int) (ui uz:Int) (uo ub:Str) (us:Int)=>(some (.one ⟨I.hid (uz<1000000000∧ub.length<1000000),(.pan (.ifc 73 true [(.int .i64 200),(.list .fld (I.hid ((UH ⟨ui,uz,uo,ub,us⟩)))),(.list .byte (I.hid ([])))])),[.obj 78 [(.ptr 1 0),(.p (.str m)),(.p (.str t)),(.p (.int .i64 mi)),(.p (.list .fld f)),(.p (.int .i64 le))],.pack [.obj 48 [(.ptr 1 0),(.ptr 2 0)],.pack [.obj 90 [(.row 1),(.p (.int .i64 n))],.row .upl 67 l],.pack [.obj 104 [(.row 1),(.p (.int .i64 s))],.row .byte 5 b]]]⟩):Option CT)) m t mi f le l n b s ui uz uo ub us
  |_,_=>none
theorem zdf:zo Tryz.prog 55 (XW alg):=by
  intro args hp r h
  unfold XW at h
  split at h
  · cases h;exact fun hn=>zl5 _ _ _ _ _ _ _ _ _ _ _ _ _ _ hn
  · cases h
def ZN:Know Tryz.prog:=⟨55,XW,zdf⟩
def ZM:Know Tryz.prog:=⟨55,fun I=>zu I (XW I),zf zdf⟩
end Go.Proofs.YtcclfkakcgnacaaGreatDoor
namespace Go.Proofs.YtcclfkakcgnacaaGreatDoor
open Go Go.Sep Go.Ab
set_option maxRecDepth 100000
theorem zad {l:List Upl} {n:Int} {b:Str} {e:Ent} (h:e.kind≠1):wrtN l n b e=n:=by
  unfold wrtN qc
  rw [if_neg h]
  split<;>rfl
set_option maxHeartbeats 8000000 in
theorem zkI (m t:Str) (mi:Int) (f:List Fld) (le:Int) (l:List Upl) (n:Int) (b:Str) (s:Int) (ui uz:Int) (uo ub:Str) (us:Int) (body:Str) (hneed:FOk f∧zy l n∧n≤200000∧b.length≤100000∧body.length≤100000∧ub.length≤1000000∧uz≤1000000):Spc Tryz.prog 56 [.v (.one (.ptr 0 0)),.v (.agg [(.p (.int .i64 ui)),(.p (.int .i64 uz)),(.p (.str uo)),(.p (.list .byte ub)),(.p (.int .i64 us))]),.v (.one (.p (.list .byte body)))] [.obj 78 [(.ptr 1 0),(.p (.str m)),(.p (.str t)),(.p (.int .i64 mi)),(.p (.list .fld f)),(.p (.int .i64 le))],.pack [.obj 48 [(.ptr 1 0),(.ptr 2 0)],.pack [.obj 90 [(.row 1),(.p (.int .i64 n))],.row .upl 67 l],.pack [.obj 104 [(.row 1),(.p (.int .i64 s))],.row .byte 5 b]]] (.pan (.ifc 73 true [(.int .i64 ((yG ⟨l,n,b,s⟩ ⟨ui,uz,uo,ub,us⟩ f body).st)),(.list .fld ((yG ⟨l,n,b,s⟩ ⟨ui,uz,uo,ub,us⟩ f body).fs)),(.list .byte ([]))])) [.obj 78 [(.ptr 1 0),(.p (.str m)),(.p (.str t)),(.p (.int .i64 mi)),(.p (.list .fld f)),(.p (.int .i64 le))],.pack [.obj 48 [(.ptr 1 0),(.ptr 2 0)],.pack [.obj 90 [(.row 1),(.p (.int .i64 ((yG ⟨l,n,b,s⟩ ⟨ui,uz,uo,ub,us⟩ f body).q.n)))],.row .upl 67 ((yG ⟨l,n,b,s⟩ ⟨ui,uz,uo,ub,us⟩ f body).q.l)],.pack [.obj 104 [(.row 1),(.p (.int .i64 ((yG ⟨l,n,b,s⟩ ⟨ui,uz,uo,ub,us⟩ f body).q.s)))],.row .byte 5 ((yG ⟨l,n,b,s⟩ ⟨ui,uz,uo,ub,us⟩ f body).q.b)]]]:=by
  obtain⟨hf,hs,hn,hb,hbl,hub,huz⟩:=hneed
  have hn0:=hs.n0
  have hcm:=uP f zbE
  have hol:=zdS hf zbE
  have hs2:=zfX hs b (apE ui body)
  have hnn:wrtN l n b (apE ui body)=n:=zad (by simp [apE])
  have hbb:=SB (l:=l) (n:=n) (b:=b) (apE ui body) hb
  generalize hr:yG ⟨l,n,b,s⟩ ⟨ui,uz,uo,ub,us⟩ f body=r
  obtain⟨st,fs,⟨l',n',b',s'⟩⟩:=r
  unfold yG wsC wsS syS at hr
  simp only at hr
  refine spcG zi mixed Tryz.func56 (by kernel_rfl) { cfgT with seam:=[5,10,17],keep:=some [0,1,2,4,6,8,9,10,11]} [wF,wE,yM,yL,yE,yD,zY,zX,xG,xE,zJ,zI,zU,zT,yZ,yY,yX,yV,wR,wQ,xM,xK] (by kernel_rfl) ?_
  intro I X hI hX
  refine zh (let y0:=I.hid (α:=(List UInt8)) (Prod.fst (oneT f (Array.toList (List.toArray ([99,111,110,116,101,110,116,45,116,121,112,101]:List UInt8)))));let y1:=I.hid (α:=(List UInt8)) ([]:List UInt8);let y2:=I.hid (α:=(List UInt8)) (Go.Ab.Med.word (Prod.fst (vO y0)));let y3:=I.hid (α:=Int) (Prod.snd (vO y0));.br (I.hid (α:=Bool) (Decidable.decide (Eq (Prod.snd (oneT f (Array.toList (List.toArray ([99,111,110,116,101,110,116,45,116,121,112,101]:List UInt8))))) (9:Int)))) (.need (I.hid (α:=(Prop)) (And (And (FOk f) (LE.le (List.length (Array.toList (List.toArray ([99,111,110,116,101,110,116,45,116,121,112,101]:List UInt8)))) 1000000)) (Eq (Prod.snd (oneT f (Array.toList (List.toArray ([99,111,110,116,101,110,116,45,116,121,112,101]:List UInt8))))) (9:Int)))) (.fin (.pan (.ifc 73 .true [(.int .i64 400),(.list .fld (I.hid (α:=(List Go.Ab.Fld)) ([]:List Go.Ab.Fld))),(.list .byte y1)])) [(.obj 78 [(.ptr 1 0),(.p (.str m)),(.p (.str t)),(.p (.int .i64 mi)),(.p (.list .fld f)),(.p (.int .i64 le))]),(.pack [(.obj 48 [(.ptr 1 0),(.ptr 2 0)]),(.pack [(.obj 90 [(.row 1),(.p (.int .i64 n))]),(.row .upl 67 l)]),(.pack [(.obj 104 [(.row 1),(.p (.int .i64 s))]),(.row .byte 5 b)])])])) (.need (I.hid (α:=(Prop)) (And (And (FOk f) (LE.le (List.length (Array.toList (List.toArray ([99,111,110,116,101,110,116,45,116,121,112,101]:List UInt8)))) 1000000)) (Not (Eq (Prod.snd (oneT f (Array.toList (List.toArray ([99,111,110,116,101,110,116,45,116,121,112,101]:List UInt8))))) (9:Int))))) (.need (I.hid (α:=(Prop)) (LE.le (List.length y0) 1000000)) (.br (I.bnot (I.ieq y3 0)) (.need (I.hid (α:=(Prop)) True) (.fin (.pan (.ifc 73 .true [(.int .i64 415),(.list .fld ([]:List Go.Ab.Fld)),(.list .byte y1)])) [(.obj 78 [(.ptr 1 0),(.p (.str m)),(.p (.str t)),(.p (.int .i64 mi)),(.p (.list .fld f)),(.p (.int .i64 le))]),(.pack [(.obj 48 [(.ptr 1 0),(.ptr 2 0)]),(.pack [(.obj 90 [(.row 1),(.p (.int .i64 n))]),(.row .upl 67 l)]),(.pack [(.obj 104 [(.row 1),(.p (.int .i64 s))]),(.row .byte 5 b)])])])) (.br (I.bnot (I.seq y2 (Array.toList (List.toArray ([97,112,112,108,105,99,97,116,105,111,110,47,111,102,102,115,101,116,43,111,99,116,101,116,45,115,116,114,101,97,109]:List UInt8))))) (.need (I.hid (α:=(Prop)) True) (.fin (.pan (.ifc 73 .true [(.int .i64 415),(.list .fld ([]:List Go.Ab.Fld)),(.list .byte y1)])) [(.obj 78 [(.ptr 1 0),(.p (.str m)),(.p (.str t)),(.p (.int .i64 mi)),(.p (.list .fld f)),(.p (.int .i64 le))]),(.pack [(.obj 48 [(.ptr 1 0),(.ptr 2 0)]),(.pack [(.obj 90 [(.row 1),(.p (.int .i64 n))]),(.row .upl 67 l)]),(.pack [(.obj 104 [(.row 1),(.p (.int .i64 s))]),(.row .byte 5 b)])])])) (.code 0 [1,1,1,1,0] ⟨[(9,(.v (.one (.p (.int .i64 y3))))),(8,(.v (.one (.ptr 3 0)))),(6,(.v (.one (.p (.str y0))))),(4,(.v (.one (.ptr 2 0)))),(0,(.v (.one (.ptr 0 0)))),(1,(.v (.agg [(.p (.int .i64 ui)),(.p (.int .i64 uz)),(.p (.str uo)),(.p (.list .byte ub)),(.p (.int .i64 us))]))),(2,(.v (.one (.p (.list .byte body)))))],[(.obj 78 [(.ptr 1 0),(.p (.str m)),(.p (.str t)),(.p (.int .i64 mi)),(.p (.list .fld f)),(.p (.int .i64 le))]),(.pack [(.obj 48 [(.ptr 1 0),(.ptr 2 0)]),(.pack [(.obj 90 [(.row 1),(.p (.int .i64 n))]),(.row .upl 67 l)]),(.pack [(.obj 104 [(.row 1),(.p (.int .i64 s))]),(.row .byte 5 b)])]),(.obj 67 [(.p (.int .i64 ui)),(.p (.int .i64 uz)),(.p (.str uo)),(.p (.list .byte ub)),(.p (.int .i64 us))]),(.obj 115 [(.p (.str y2)),(.p (.list .fld (I.hid (α:=(List Go.Ab.Fld)) (Go.Ab.Med.params (Prod.fst (vO y0))))))])],131,none⟩)))))) (by kernel_rfl) ?_
  simp only [zl]
  have hh: ∀ {α:Type} (x:α),I.hid x=x:=by subst hI;intros;rfl
  have key17: ∀ (nv sz:Int),nv=(ub.length:Int)→(if(if apG l ui nv then 17 else wrtC l n b (apE ui body))≠0 then(⟨uK (if apG l ui nv then 17 else wrtC l n b (apE ui body)),[],⟨l,n,b,s⟩⟩:TA)
    else if 0≤sz∧uz<0 then
      if wrtC (wrtL l n b (apE ui body)) (wrtN l n b (apE ui body)) (wrtB l n b (apE ui body)) ⟨3,ui,sz,[]⟩≠0 then(⟨uK (wrtC (wrtL l n b (apE ui body)) (wrtN l n b (apE ui body)) (wrtB l n b (apE ui body)) ⟨3,ui,sz,[]⟩),[],⟨wrtL l n b (apE ui body),wrtN l n b (apE ui body),wrtB l n b (apE ui body),s⟩⟩:TA)
      else(⟨204,[⟨Vl,decS (nv+(body.length:Int))⟩],⟨wrtL (wrtL l n b (apE ui body)) (wrtN l n b (apE ui body)) (wrtB l n b (apE ui body)) ⟨3,ui,sz,[]⟩,wrtN (wrtL l n b (apE ui body)) (wrtN l n b (apE ui body)) (wrtB l n b (apE ui body)) ⟨3,ui,sz,[]⟩,wrtB (wrtL l n b (apE ui body)) (wrtN l n b (apE ui body)) (wrtB l n b (apE ui body)) ⟨3,ui,sz,[]⟩,((wrtB (wrtL l n b (apE ui body)) (wrtN l n b (apE ui body)) (wrtB l n b (apE ui body)) ⟨3,ui,sz,[]⟩).length:Int)⟩⟩:TA)
    else(⟨204,[⟨Vl,decS (nv+(body.length:Int))⟩],⟨wrtL l n b (apE ui body),wrtN l n b (apE ui body),wrtB l n b (apE ui body),((wrtB l n b (apE ui body)).length:Int)⟩⟩:TA))=⟨st,fs,⟨l',n',b',s'⟩⟩→Ok Tryz.prog X (fun o h=>o=AOut.pan (C.ifc 73 true [P.int IntKind.i64 st,P.list U.fld fs,P.list U.byte []])∧h=[HO.obj 78 [C.ptr 1 0,C.p (P.str m),C.p (P.str t),C.p (P.int IntKind.i64 mi),C.p (P.list U.fld f),C.p (P.int IntKind.i64 le)],HO.pack [HO.obj 48 [C.ptr 1 0,C.ptr 2 0],HO.pack [HO.obj 90 [C.row 1,C.p (P.int IntKind.i64 n')],HO.row U.upl 67 l'],HO.pack [HO.obj 104 [C.row 1,C.p (P.int IntKind.i64 s')],HO.row U.byte 5 b']]]) (go I tab { cfgT with seam:=[5,10,17],keep:=some [0,1,2,4,6,8,9,10,11]} [wF,wE,yM,yL,yE,yD,zY,zX,xG,xE,zJ,zI,zU,zT,yZ,yY,yX,yV,wR,wQ,xM,xK] [⟨xP Tryz.f56,finK I tab { cfgT with seam:=[5,10,17],keep:=some [0,1,2,4,6,8,9,10,11]} 2 Tryz.f56⟩] 0 [1,1,1,1,1,1,1,1,0] ⟨[(0,.v (.one (.ptr 0 0))),(1,.v (.agg [(.p (.int .i64 ui)),(.p (.int .i64 uz)),(.p (.str uo)),(.p (.list .byte ub)),(.p (.int .i64 us))])),(2,.v (.one (.p (.list .byte body)))),(4,.v (.one (.ptr 2 0))),(10,.v (.one (.p (.int .i64 nv)))),(11,.v (.one (.p (.int .i64 sz))))],[.obj 78 [(.ptr 1 0),(.p (.str m)),(.p (.str t)),(.p (.int .i64 mi)),(.p (.list .fld f)),(.p (.int .i64 le))],.pack [.obj 48 [(.ptr 1 0),(.ptr 2 0)],.pack [.obj 90 [(.row 1),(.p (.int .i64 n))],.row .upl 67 l],.pack [.obj 104 [(.row 1),(.p (.int .i64 s))],.row .byte 5 b]],.pack [.obj 67 [(.p (.int .i64 ui)),(.p (.int .i64 uz)),(.p (.str uo)),(.p (.list .byte ub)),(.p (.int .i64 us))]]],131,none⟩):=by
    intro nv sz hnv hr
    refine zh (let y0:=I.hid (α:=(List UInt8)) (ite (Eq (apG l ui nv) Bool.true) b (wrtB l n b (Go.Ab.Ent.mk (2:Int) ui (0:Int) body)));let y1:=I.hid (α:=(List Go.Ab.Upl)) (ite (Eq (apG l ui nv) Bool.true) l (wrtL l n b (Go.Ab.Ent.mk (2:Int) ui (0:Int) body)));let y2:=I.hid (α:=Int) (ite (Eq (apG l ui nv) Bool.true) n (wrtN l n b (Go.Ab.Ent.mk (2:Int) ui (0:Int) body)));let y3:=I.add nv (I.len (α:=UInt8) body);let y4:=I.hid (α:=Int) (ite (Eq (apG l ui nv) Bool.true) (17:Int) (wrtC l n b (Go.Ab.Ent.mk (2:Int) ui (0:Int) body)));let y5:=I.hid (α:=Int) (wrtC y1 y2 y0 (Go.Ab.Ent.mk (3:Int) ui sz ([]:List UInt8)));let y6:=I.hid (α:=(List UInt8)) (wrtB y1 y2 y0 (Go.Ab.Ent.mk (3:Int) ui sz ([]:List UInt8)));let y7:=I.hid (α:=(List UInt8)) ([]:List UInt8);let y8:=I.hid (α:=(Prop)) (And (LE.le (0:Int) y3) (LT.lt y3 (1000000000:Int)));let y9:=I.hid (α:=(List Go.Ab.Upl)) (wrtL y1 y2 y0 (Go.Ab.Ent.mk (3:Int) ui sz ([]:List UInt8)));let y10:=I.hid (α:=Int) (wrtN y1 y2 y0 (Go.Ab.Ent.mk (3:Int) ui sz ([]:List UInt8)));let y11:=I.hid (α:=(List UInt8)) (decS y3);let y12:=I.hid (α:=(List Go.Ab.Fld)) ([]:List Go.Ab.Fld);let y13:=I.hid (α:=Int) (Nat.cast (List.length y0));.need (I.hid (α:=(Prop)) (And (zy l n) (And (LE.le n (200000:Int)) (And (LE.le (List.length body) 1000000) (LE.le (List.length b) 100000))))) (.br (I.hid (α:=Bool) (Decidable.decide (Eq y4 (0:Int)))) (.need (I.hid (α:=(Prop)) (Eq y4 (0:Int))) (.br (I.ile 0 sz) (.br (I.ilt uz 0) (.need (I.hid (α:=(Prop)) (And (zy y1 y2) (And (LE.le y2 (200000:Int)) (LE.le (List.length y0) 100000)))) (.br (I.hid (α:=Bool) (Decidable.decide (Eq y5 (0:Int)))) (.need (I.hid (α:=(Prop)) (Eq y5 (0:Int))) (.need (I.hid (α:=(Prop)) True) (.need (I.inr Go.IntKind.i64 y3) (.need y8 (.need (I.hid (α:=(Prop)) True) (.need (I.hid (α:=(Prop)) True) (.fin (.pan (.ifc 73 .true [(.int .i64 204),(.list .fld ([(Go.Ab.Fld.mk (Array.toList (List.toArray ([85,112,108,111,97,100,45,79,102,102,115,101,116]:List UInt8))) y11)]:List Go.Ab.Fld)),(.list .byte y7)])) [(.obj 78 [(.ptr 1 0),(.p (.str m)),(.p (.str t)),(.p (.int .i64 mi)),(.p (.list .fld f)),(.p (.int .i64 le))]),(.pack [(.obj 48 [(.ptr 1 0),(.ptr 2 0)]),(.pack [(.obj 90 [(.row 1),(.p (.int .i64 y10))]),(.row .upl 67 y9)]),(.pack [(.obj 104 [(.row 1),(.p (.int .i64 (I.hid (α:=Int) (Nat.cast (List.length y6)))))]),(.row .byte 5 y6)])])]))))))) (.need (I.hid (α:=(Prop)) (Not (Eq y5 (0:Int)))) (.fin (.pan (.ifc 73 .true [(.int .i64 (I.hid (α:=Int) (uK y5))),(.list .fld y12),(.list .byte y7)])) [(.obj 78 [(.ptr 1 0),(.p (.str m)),(.p (.str t)),(.p (.int .i64 mi)),(.p (.list .fld f)),(.p (.int .i64 le))]),(.pack [(.obj 48 [(.ptr 1 0),(.ptr 2 0)]),(.pack [(.obj 90 [(.row 1),(.p (.int .i64 y10))]),(.row .upl 67 y9)]),(.pack [(.obj 104 [(.row 1),(.p (.int .i64 s))]),(.row .byte 5 y6)])])])))) (.need (I.hid (α:=(Prop)) True) (.need (I.inr Go.IntKind.i64 y3) (.need y8 (.need (I.hid (α:=(Prop)) True) (.need (I.hid (α:=(Prop)) True) (.fin (.pan (.ifc 73 .true [(.int .i64 204),(.list .fld ([(Go.Ab.Fld.mk (Array.toList (List.toArray ([85,112,108,111,97,100,45,79,102,102,115,101,116]:List UInt8))) y11)]:List Go.Ab.Fld)),(.list .byte y7)])) [(.obj 78 [(.ptr 1 0),(.p (.str m)),(.p (.str t)),(.p (.int .i64 mi)),(.p (.list .fld f)),(.p (.int .i64 le))]),(.pack [(.obj 48 [(.ptr 1 0),(.ptr 2 0)]),(.pack [(.obj 90 [(.row 1),(.p (.int .i64 y2))]),(.row .upl 67 y1)]),(.pack [(.obj 104 [(.row 1),(.p (.int .i64 y13))]),(.row .byte 5 y0)])])]))))))) (.need (I.hid (α:=(Prop)) True) (.need (I.inr Go.IntKind.i64 y3) (.need y8 (.need (I.hid (α:=(Prop)) True) (.need (I.hid (α:=(Prop)) True) (.fin (.pan (.ifc 73 .true [(.int .i64 204),(.list .fld ([(Go.Ab.Fld.mk (Array.toList (List.toArray ([85,112,108,111,97,100,45,79,102,102,115,101,116]:List UInt8))) y11)]:List Go.Ab.Fld)),(.list .byte y7)])) [(.obj 78 [(.ptr 1 0),(.p (.str m)),(.p (.str t)),(.p (.int .i64 mi)),(.p (.list .fld f)),(.p (.int .i64 le))]),(.pack [(.obj 48 [(.ptr 1 0),(.ptr 2 0)]),(.pack [(.obj 90 [(.row 1),(.p (.int .i64 y2))]),(.row .upl 67 y1)]),(.pack [(.obj 104 [(.row 1),(.p (.int .i64 y13))]),(.row .byte 5 y0)])])])))))))) (.need (I.hid (α:=(Prop)) (Not (Eq y4 (0:Int)))) (.fin (.pan (.ifc 73 .true [(.int .i64 (I.hid (α:=Int) (uK y4))),(.list .fld y12),(.list .byte y7)])) [(.obj 78 [(.ptr 1 0),(.p (.str m)),(.p (.str t)),(.p (.int .i64 mi)),(.p (.list .fld f)),(.p (.int .i64 le))]),(.pack [(.obj 48 [(.ptr 1 0),(.ptr 2 0)]),(.pack [(.obj 90 [(.row 1),(.p (.int .i64 y2))]),(.row .upl 67 y1)]),(.pack [(.obj 104 [(.row 1),(.p (.int .i64 s))]),(.row .byte 5 y0)])])])))) (by kernel_rfl) ?_
    simp only [zl]
    clear hX hcm hol
    unfold Vl at hr
    unfold apE at *
    subst hI
    simp only [nrmA,nrmB,nrlB,reduceCtorEq,HO.pack.injEq,HO.obj.injEq]
    by_cases hg:apG l ui nv=true
    · simp only [hg,if_true] at hr ⊢
      rw [if_pos (by decide)] at hr
      clear hs2 hnn hbb
      simp only [TA.mk.injEq,Sto.mk.injEq] at hr
      obtain⟨q1,q2,q3,q4,q5,q6⟩:=hr
      subst q1 q2 q3 q4 q5 q6
      simp only [nrmA,nrmB,nrlB,reduceCtorEq,HO.pack.injEq,HO.obj.injEq,decide_true,decide_false,Bool.true_eq_false,Bool.false_eq_true,forall_const,false_implies,true_implies,not_true_eq_false,not_false_eq_true]
      (repeat' (first|refine And.intro ?_ ?_|intro _))<;>first|omega|exact True.intro|exact False.elim ‹False›|skip
      all_goals first
        |with_reducible rfl
        |with_reducible assumption
        |omega
        |exact hs
        |exact hf.1
        |(exact(hf.2 _ ‹_›).1)
        |(exact(hf.2 _ ‹_›).2)
        |exact⟨hf,by decide⟩
        |exact⟨⟨hf,by decide⟩,by assumption⟩
        |(simp only [List.length_cons,List.length_nil];omega)
        |(exfalso;simp_all;done)
    simp only [hg,Bool.false_eq_true,if_false] at hr ⊢
    clear hg
    by_cases h1:wrtC l n b ⟨2,ui,0,body⟩=0
    · rw [if_neg (fun h=>h h1)] at hr
      simp only [h1] at ⊢
      clear h1
      generalize wrtL l n b ⟨2,ui,0,body⟩=l2 at *
      generalize wrtN l n b ⟨2,ui,0,body⟩=n2 at *
      generalize wrtB l n b ⟨2,ui,0,body⟩=b2 at *
      by_cases h2:0≤sz∧uz<0
      · rw [if_pos h2] at hr
        by_cases h3:wrtC l2 n2 b2 ⟨3,ui,sz,[]⟩=0
        · rw [if_neg (fun h=>h h3)] at hr
          simp only [TA.mk.injEq,Sto.mk.injEq] at hr
          obtain⟨q1,q2,q3,q4,q5,q6⟩:=hr
          subst q1 q2 q3 q4 q5 q6
          simp only [h3] at ⊢
          clear h3
          simp only [nrmA,nrmB,nrlB,reduceCtorEq,HO.pack.injEq,HO.obj.injEq,decide_true,decide_false,Bool.true_eq_false,Bool.false_eq_true,forall_const,false_implies,true_implies,not_true_eq_false,not_false_eq_true]
          (repeat' (first|refine And.intro ?_ ?_|intro _))<;>first|omega|exact True.intro|exact False.elim ‹False›|skip
          all_goals first
            |with_reducible rfl
            |with_reducible assumption
            |omega
            |exact hs
            |exact hf.1
            |(exact(hf.2 _ ‹_›).1)
            |(exact(hf.2 _ ‹_›).2)
            |exact⟨hf,by decide⟩
            |exact⟨⟨hf,by decide⟩,by assumption⟩
            |(simp only [List.length_cons,List.length_nil];omega)
            |(exfalso;simp_all;done)
        · rw [if_pos h3] at hr
          simp only [TA.mk.injEq,Sto.mk.injEq] at hr
          obtain⟨q1,q2,q3,q4,q5,q6⟩:=hr
          subst q1 q2 q3 q4 q5 q6
          have e1:wrtL l2 n2 b2 ⟨3,ui,sz,[]⟩=l2:=by simp only [wrtL,if_neg h3]
          have e2:wrtN l2 n2 b2 ⟨3,ui,sz,[]⟩=n2:=by simp only [wrtN,if_neg h3]
          have e3:wrtB l2 n2 b2 ⟨3,ui,sz,[]⟩=b2:=by simp only [wrtB,if_neg h3]
          rw [e1,e2,e3]
          clear e1 e2 e3
          generalize wrtC l2 n2 b2 ⟨3,ui,sz,[]⟩=c3 at *
          simp only [nrmA,nrmB,nrlB,reduceCtorEq,HO.pack.injEq,HO.obj.injEq,decide_true,decide_false,Bool.true_eq_false,Bool.false_eq_true,forall_const,false_implies,true_implies,not_true_eq_false,not_false_eq_true,h3]
          (repeat' (first|refine And.intro ?_ ?_|intro _))<;>first|omega|exact True.intro|exact False.elim ‹False›|skip
          all_goals first
            |with_reducible rfl
            |with_reducible assumption
            |omega
            |exact hs
            |exact hf.1
            |(exact(hf.2 _ ‹_›).1)
            |(exact(hf.2 _ ‹_›).2)
            |exact⟨hf,by decide⟩
            |exact⟨⟨hf,by decide⟩,by assumption⟩
            |(simp only [List.length_cons,List.length_nil];omega)
            |(exfalso;simp_all;done)
      · rw [if_neg h2] at hr
        simp only [TA.mk.injEq,Sto.mk.injEq] at hr
        obtain⟨q1,q2,q3,q4,q5,q6⟩:=hr
        subst q1 q2 q3 q4 q5 q6
        simp only [nrmA,nrmB,nrlB,reduceCtorEq,HO.pack.injEq,HO.obj.injEq,decide_true,decide_false,Bool.true_eq_false,Bool.false_eq_true,forall_const,false_implies,true_implies,not_true_eq_false,not_false_eq_true]
        (repeat' (first|refine And.intro ?_ ?_|intro _))<;>first|omega|exact True.intro|exact False.elim ‹False›|skip
        all_goals first
          |with_reducible rfl
          |with_reducible assumption
          |omega
          |exact hs
          |exact hf.1
          |(exact(hf.2 _ ‹_›).1)
          |(exact(hf.2 _ ‹_›).2)
          |exact⟨hf,by decide⟩
          |exact⟨⟨hf,by decide⟩,by assumption⟩
          |(simp only [List.length_cons,List.length_nil];omega)
          |(exfalso;simp_all;done)
    · rw [if_pos h1] at hr
      simp only [TA.mk.injEq,Sto.mk.injEq] at hr
      obtain⟨q1,q2,q3,q4,q5,q6⟩:=hr
      subst q1 q2 q3 q4 q5 q6
      have e1:wrtL l n b ⟨2,ui,0,body⟩=l:=by simp only [wrtL,if_neg h1]
      have e2:wrtN l n b ⟨2,ui,0,body⟩=n:=by simp only [wrtN,if_neg h1]
      have e3:wrtB l n b ⟨2,ui,0,body⟩=b:=by simp only [wrtB,if_neg h1]
      rw [e1,e2,e3]
      clear e1 e2 e3 hs2 hnn hbb
      generalize wrtC l n b ⟨2,ui,0,body⟩=c2 at *
      simp only [nrmA,nrmB,nrlB,reduceCtorEq,HO.pack.injEq,HO.obj.injEq,decide_true,decide_false,Bool.true_eq_false,Bool.false_eq_true,forall_const,false_implies,true_implies,not_true_eq_false,not_false_eq_true,h1]
      (repeat' (first|refine And.intro ?_ ?_|intro _))<;>first|omega|exact True.intro|exact False.elim ‹False›|skip
      all_goals first
        |with_reducible rfl
        |with_reducible assumption
        |omega
        |exact hs
        |exact hf.1
        |(exact(hf.2 _ ‹_›).1)
        |(exact(hf.2 _ ‹_›).2)
        |exact⟨hf,by decide⟩
        |exact⟨⟨hf,by decide⟩,by assumption⟩
        |(simp only [List.length_cons,List.length_nil];omega)
        |(exfalso;simp_all;done)
  have key10: ∀ (nv:Int),nv=(ub.length:Int)→(if wL f yh=false then(⟨400,[],⟨l,n,b,s⟩⟩:TA)
    else if 0≤zG f yh∧0≤uz∧zG f yh≠uz then(⟨400,[],⟨l,n,b,s⟩⟩:TA)
    else if 0≤zG f yh∧uz<0∧(2000<zG f yh∨zG f yh<nv+(body.length:Int)) then(⟨413,[],⟨l,n,b,s⟩⟩:TA)
    else if Zj b ((body.length:Int)+60)=false then(⟨507,[],⟨l,n,b,s⟩⟩:TA)
    else(if(if apG l ui nv then 17 else wrtC l n b (apE ui body))≠0 then(⟨uK (if apG l ui nv then 17 else wrtC l n b (apE ui body)),[],⟨l,n,b,s⟩⟩:TA)
    else if 0≤(zG f yh)∧uz<0 then
      if wrtC (wrtL l n b (apE ui body)) (wrtN l n b (apE ui body)) (wrtB l n b (apE ui body)) ⟨3,ui,(zG f yh),[]⟩≠0 then(⟨uK (wrtC (wrtL l n b (apE ui body)) (wrtN l n b (apE ui body)) (wrtB l n b (apE ui body)) ⟨3,ui,(zG f yh),[]⟩),[],⟨wrtL l n b (apE ui body),wrtN l n b (apE ui body),wrtB l n b (apE ui body),s⟩⟩:TA)
      else(⟨204,[⟨Vl,decS (nv+(body.length:Int))⟩],⟨wrtL (wrtL l n b (apE ui body)) (wrtN l n b (apE ui body)) (wrtB l n b (apE ui body)) ⟨3,ui,(zG f yh),[]⟩,wrtN (wrtL l n b (apE ui body)) (wrtN l n b (apE ui body)) (wrtB l n b (apE ui body)) ⟨3,ui,(zG f yh),[]⟩,wrtB (wrtL l n b (apE ui body)) (wrtN l n b (apE ui body)) (wrtB l n b (apE ui body)) ⟨3,ui,(zG f yh),[]⟩,((wrtB (wrtL l n b (apE ui body)) (wrtN l n b (apE ui body)) (wrtB l n b (apE ui body)) ⟨3,ui,(zG f yh),[]⟩).length:Int)⟩⟩:TA)
    else(⟨204,[⟨Vl,decS (nv+(body.length:Int))⟩],⟨wrtL l n b (apE ui body),wrtN l n b (apE ui body),wrtB l n b (apE ui body),((wrtB l n b (apE ui body)).length:Int)⟩⟩:TA)))=⟨st,fs,⟨l',n',b',s'⟩⟩→Ok Tryz.prog X (fun o h=>o=AOut.pan (C.ifc 73 true [P.int IntKind.i64 st,P.list U.fld fs,P.list U.byte []])∧h=[HO.obj 78 [C.ptr 1 0,C.p (P.str m),C.p (P.str t),C.p (P.int IntKind.i64 mi),C.p (P.list U.fld f),C.p (P.int IntKind.i64 le)],HO.pack [HO.obj 48 [C.ptr 1 0,C.ptr 2 0],HO.pack [HO.obj 90 [C.row 1,C.p (P.int IntKind.i64 n')],HO.row U.upl 67 l'],HO.pack [HO.obj 104 [C.row 1,C.p (P.int IntKind.i64 s')],HO.row U.byte 5 b']]]) (go I tab { cfgT with seam:=[5,10,17],keep:=some [0,1,2,4,6,8,9,10,11]} [wF,wE,yM,yL,yE,yD,zY,zX,xG,xE,zJ,zI,zU,zT,yZ,yY,yX,yV,wR,wQ,xM,xK] [⟨xP Tryz.f56,finK I tab { cfgT with seam:=[5,10,17],keep:=some [0,1,2,4,6,8,9,10,11]} 2 Tryz.f56⟩] 0 [1,1,1,1,1,1,0] ⟨[(0,.v (.one (.ptr 0 0))),(1,.v (.agg [(.p (.int .i64 ui)),(.p (.int .i64 uz)),(.p (.str uo)),(.p (.list .byte ub)),(.p (.int .i64 us))])),(2,.v (.one (.p (.list .byte body)))),(4,.v (.one (.ptr 2 0))),(10,.v (.one (.p (.int .i64 nv))))],[.obj 78 [(.ptr 1 0),(.p (.str m)),(.p (.str t)),(.p (.int .i64 mi)),(.p (.list .fld f)),(.p (.int .i64 le))],.pack [.obj 48 [(.ptr 1 0),(.ptr 2 0)],.pack [.obj 90 [(.row 1),(.p (.int .i64 n))],.row .upl 67 l],.pack [.obj 104 [(.row 1),(.p (.int .i64 s))],.row .byte 5 b]],.pack [.obj 67 [(.p (.int .i64 ui)),(.p (.int .i64 uz)),(.p (.str uo)),(.p (.list .byte ub)),(.p (.int .i64 us))]]],131,none⟩):=by
    intro nv hnv hr
    refine zh (let y0:=I.hid (α:=Int) (zG f (Array.toList (List.toArray ([117,112,108,111,97,100,45,108,101,110,103,116,104]:List UInt8))));let y1:=I.hid (α:=(List UInt8)) ([]:List UInt8);let y2:=I.bnot (I.hid (α:=Bool) (Zj b (I.add (I.len (α:=UInt8) body) 60)));let y3:=I.inr Go.IntKind.i64 (I.add (I.len (α:=UInt8) body) 60);let y4:=I.hid (α:=(Prop)) (LE.le (List.length b) 100000);let y5:=I.add nv (I.len (α:=UInt8) body);.br (I.hid (α:=Bool) (wL f (Array.toList (List.toArray ([117,112,108,111,97,100,45,108,101,110,103,116,104]:List UInt8))))) (.need (I.hid (α:=(Prop)) (And (And (FOk f) (LE.le (List.length (Array.toList (List.toArray ([117,112,108,111,97,100,45,108,101,110,103,116,104]:List UInt8)))) 1000000)) (Eq (wL f (Array.toList (List.toArray ([117,112,108,111,97,100,45,108,101,110,103,116,104]:List UInt8)))) Bool.true))) (.br (I.ile 0 y0) (.br (I.ile 0 uz) (.br (I.bnot (I.ieq y0 uz)) (.need (I.hid (α:=(Prop)) True) (.fin (.pan (.ifc 73 .true [(.int .i64 400),(.list .fld ([]:List Go.Ab.Fld)),(.list .byte y1)])) [(.obj 78 [(.ptr 1 0),(.p (.str m)),(.p (.str t)),(.p (.int .i64 mi)),(.p (.list .fld f)),(.p (.int .i64 le))]),(.pack [(.obj 48 [(.ptr 1 0),(.ptr 2 0)]),(.pack [(.obj 90 [(.row 1),(.p (.int .i64 n))]),(.row .upl 67 l)]),(.pack [(.obj 104 [(.row 1),(.p (.int .i64 s))]),(.row .byte 5 b)])])])) (.br (I.ile 0 y0) (.br (I.ilt uz 0) (.br (I.ilt 2000 y0) (.need (I.hid (α:=(Prop)) True) (.fin (.pan (.ifc 73 .true [(.int .i64 413),(.list .fld ([]:List Go.Ab.Fld)),(.list .byte y1)])) [(.obj 78 [(.ptr 1 0),(.p (.str m)),(.p (.str t)),(.p (.int .i64 mi)),(.p (.list .fld f)),(.p (.int .i64 le))]),(.pack [(.obj 48 [(.ptr 1 0),(.ptr 2 0)]),(.pack [(.obj 90 [(.row 1),(.p (.int .i64 n))]),(.row .upl 67 l)]),(.pack [(.obj 104 [(.row 1),(.p (.int .i64 s))]),(.row .byte 5 b)])])])) (.need (I.inr Go.IntKind.i64 y5) (.br (I.ilt y0 y5) (.need (I.hid (α:=(Prop)) True) (.fin (.pan (.ifc 73 .true [(.int .i64 413),(.list .fld ([]:List Go.Ab.Fld)),(.list .byte y1)])) [(.obj 78 [(.ptr 1 0),(.p (.str m)),(.p (.str t)),(.p (.int .i64 mi)),(.p (.list .fld f)),(.p (.int .i64 le))]),(.pack [(.obj 48 [(.ptr 1 0),(.ptr 2 0)]),(.pack [(.obj 90 [(.row 1),(.p (.int .i64 n))]),(.row .upl 67 l)]),(.pack [(.obj 104 [(.row 1),(.p (.int .i64 s))]),(.row .byte 5 b)])])])) (.need y3 (.need y4 (.br y2 (.need (I.hid (α:=(Prop)) True) (.fin (.pan (.ifc 73 .true [(.int .i64 507),(.list .fld ([]:List Go.Ab.Fld)),(.list .byte y1)])) [(.obj 78 [(.ptr 1 0),(.p (.str m)),(.p (.str t)),(.p (.int .i64 mi)),(.p (.list .fld f)),(.p (.int .i64 le))]),(.pack [(.obj 48 [(.ptr 1 0),(.ptr 2 0)]),(.pack [(.obj 90 [(.row 1),(.p (.int .i64 n))]),(.row .upl 67 l)]),(.pack [(.obj 104 [(.row 1),(.p (.int .i64 s))]),(.row .byte 5 b)])])])) (.code 0 [1,1,1,1,1,1,1,1,0] ⟨[(11,(.v (.one (.p (.int .i64 y0))))),(0,(.v (.one (.ptr 0 0)))),(1,(.v (.agg [(.p (.int .i64 ui)),(.p (.int .i64 uz)),(.p (.str uo)),(.p (.list .byte ub)),(.p (.int .i64 us))]))),(2,(.v (.one (.p (.list .byte body))))),(4,(.v (.one (.ptr 2 0)))),(10,(.v (.one (.p (.int .i64 nv)))))],[(.obj 78 [(.ptr 1 0),(.p (.str m)),(.p (.str t)),(.p (.int .i64 mi)),(.p (.list .fld f)),(.p (.int .i64 le))]),(.pack [(.obj 48 [(.ptr 1 0),(.ptr 2 0)]),(.pack [(.obj 90 [(.row 1),(.p (.int .i64 n))]),(.row .upl 67 l)]),(.pack [(.obj 104 [(.row 1),(.p (.int .i64 s))]),(.row .byte 5 b)])]),(.obj 67 [(.p (.int .i64 ui)),(.p (.int .i64 uz)),(.p (.str uo)),(.p (.list .byte ub)),(.p (.int .i64 us))])],131,none⟩))))))) (.need y3 (.need y4 (.br y2 (.need (I.hid (α:=(Prop)) True) (.fin (.pan (.ifc 73 .true [(.int .i64 507),(.list .fld ([]:List Go.Ab.Fld)),(.list .byte y1)])) [(.obj 78 [(.ptr 1 0),(.p (.str m)),(.p (.str t)),(.p (.int .i64 mi)),(.p (.list .fld f)),(.p (.int .i64 le))]),(.pack [(.obj 48 [(.ptr 1 0),(.ptr 2 0)]),(.pack [(.obj 90 [(.row 1),(.p (.int .i64 n))]),(.row .upl 67 l)]),(.pack [(.obj 104 [(.row 1),(.p (.int .i64 s))]),(.row .byte 5 b)])])])) (.code 0 [1,1,1,1,1,1,1,1,0] ⟨[(11,(.v (.one (.p (.int .i64 y0))))),(0,(.v (.one (.ptr 0 0)))),(1,(.v (.agg [(.p (.int .i64 ui)),(.p (.int .i64 uz)),(.p (.str uo)),(.p (.list .byte ub)),(.p (.int .i64 us))]))),(2,(.v (.one (.p (.list .byte body))))),(4,(.v (.one (.ptr 2 0)))),(10,(.v (.one (.p (.int .i64 nv)))))],[(.obj 78 [(.ptr 1 0),(.p (.str m)),(.p (.str t)),(.p (.int .i64 mi)),(.p (.list .fld f)),(.p (.int .i64 le))]),(.pack [(.obj 48 [(.ptr 1 0),(.ptr 2 0)]),(.pack [(.obj 90 [(.row 1),(.p (.int .i64 n))]),(.row .upl 67 l)]),(.pack [(.obj 104 [(.row 1),(.p (.int .i64 s))]),(.row .byte 5 b)])]),(.obj 67 [(.p (.int .i64 ui)),(.p (.int .i64 uz)),(.p (.str uo)),(.p (.list .byte ub)),(.p (.int .i64 us))])],131,none⟩))))) (.need y3 (.need y4 (.br y2 (.need (I.hid (α:=(Prop)) True) (.fin (.pan (.ifc 73 .true [(.int .i64 507),(.list .fld ([]:List Go.Ab.Fld)),(.list .byte y1)])) [(.obj 78 [(.ptr 1 0),(.p (.str m)),(.p (.str t)),(.p (.int .i64 mi)),(.p (.list .fld f)),(.p (.int .i64 le))]),(.pack [(.obj 48 [(.ptr 1 0),(.ptr 2 0)]),(.pack [(.obj 90 [(.row 1),(.p (.int .i64 n))]),(.row .upl 67 l)]),(.pack [(.obj 104 [(.row 1),(.p (.int .i64 s))]),(.row .byte 5 b)])])])) (.code 0 [1,1,1,1,1,1,1,1,0] ⟨[(11,(.v (.one (.p (.int .i64 y0))))),(0,(.v (.one (.ptr 0 0)))),(1,(.v (.agg [(.p (.int .i64 ui)),(.p (.int .i64 uz)),(.p (.str uo)),(.p (.list .byte ub)),(.p (.int .i64 us))]))),(2,(.v (.one (.p (.list .byte body))))),(4,(.v (.one (.ptr 2 0)))),(10,(.v (.one (.p (.int .i64 nv)))))],[(.obj 78 [(.ptr 1 0),(.p (.str m)),(.p (.str t)),(.p (.int .i64 mi)),(.p (.list .fld f)),(.p (.int .i64 le))]),(.pack [(.obj 48 [(.ptr 1 0),(.ptr 2 0)]),(.pack [(.obj 90 [(.row 1),(.p (.int .i64 n))]),(.row .upl 67 l)]),(.pack [(.obj 104 [(.row 1),(.p (.int .i64 s))]),(.row .byte 5 b)])]),(.obj 67 [(.p (.int .i64 ui)),(.p (.int .i64 uz)),(.p (.str uo)),(.p (.list .byte ub)),(.p (.int .i64 us))])],131,none⟩)))))) (.br (I.ile 0 y0) (.br (I.ilt uz 0) (.br (I.ilt 2000 y0) (.need (I.hid (α:=(Prop)) True) (.fin (.pan (.ifc 73 .true [(.int .i64 413),(.list .fld ([]:List Go.Ab.Fld)),(.list .byte y1)])) [(.obj 78 [(.ptr 1 0),(.p (.str m)),(.p (.str t)),(.p (.int .i64 mi)),(.p (.list .fld f)),(.p (.int .i64 le))]),(.pack [(.obj 48 [(.ptr 1 0),(.ptr 2 0)]),(.pack [(.obj 90 [(.row 1),(.p (.int .i64 n))]),(.row .upl 67 l)]),(.pack [(.obj 104 [(.row 1),(.p (.int .i64 s))]),(.row .byte 5 b)])])])) (.need (I.inr Go.IntKind.i64 y5) (.br (I.ilt y0 y5) (.need (I.hid (α:=(Prop)) True) (.fin (.pan (.ifc 73 .true [(.int .i64 413),(.list .fld ([]:List Go.Ab.Fld)),(.list .byte y1)])) [(.obj 78 [(.ptr 1 0),(.p (.str m)),(.p (.str t)),(.p (.int .i64 mi)),(.p (.list .fld f)),(.p (.int .i64 le))]),(.pack [(.obj 48 [(.ptr 1 0),(.ptr 2 0)]),(.pack [(.obj 90 [(.row 1),(.p (.int .i64 n))]),(.row .upl 67 l)]),(.pack [(.obj 104 [(.row 1),(.p (.int .i64 s))]),(.row .byte 5 b)])])])) (.need y3 (.need y4 (.br y2 (.need (I.hid (α:=(Prop)) True) (.fin (.pan (.ifc 73 .true [(.int .i64 507),(.list .fld ([]:List Go.Ab.Fld)),(.list .byte y1)])) [(.obj 78 [(.ptr 1 0),(.p (.str m)),(.p (.str t)),(.p (.int .i64 mi)),(.p (.list .fld f)),(.p (.int .i64 le))]),(.pack [(.obj 48 [(.ptr 1 0),(.ptr 2 0)]),(.pack [(.obj 90 [(.row 1),(.p (.int .i64 n))]),(.row .upl 67 l)]),(.pack [(.obj 104 [(.row 1),(.p (.int .i64 s))]),(.row .byte 5 b)])])])) (.code 0 [1,1,1,1,1,1,1,1,0] ⟨[(11,(.v (.one (.p (.int .i64 y0))))),(0,(.v (.one (.ptr 0 0)))),(1,(.v (.agg [(.p (.int .i64 ui)),(.p (.int .i64 uz)),(.p (.str uo)),(.p (.list .byte ub)),(.p (.int .i64 us))]))),(2,(.v (.one (.p (.list .byte body))))),(4,(.v (.one (.ptr 2 0)))),(10,(.v (.one (.p (.int .i64 nv)))))],[(.obj 78 [(.ptr 1 0),(.p (.str m)),(.p (.str t)),(.p (.int .i64 mi)),(.p (.list .fld f)),(.p (.int .i64 le))]),(.pack [(.obj 48 [(.ptr 1 0),(.ptr 2 0)]),(.pack [(.obj 90 [(.row 1),(.p (.int .i64 n))]),(.row .upl 67 l)]),(.pack [(.obj 104 [(.row 1),(.p (.int .i64 s))]),(.row .byte 5 b)])]),(.obj 67 [(.p (.int .i64 ui)),(.p (.int .i64 uz)),(.p (.str uo)),(.p (.list .byte ub)),(.p (.int .i64 us))])],131,none⟩))))))) (.need y3 (.need y4 (.br y2 (.need (I.hid (α:=(Prop)) True) (.fin (.pan (.ifc 73 .true [(.int .i64 507),(.list .fld ([]:List Go.Ab.Fld)),(.list .byte y1)])) [(.obj 78 [(.ptr 1 0),(.p (.str m)),(.p (.str t)),(.p (.int .i64 mi)),(.p (.list .fld f)),(.p (.int .i64 le))]),(.pack [(.obj 48 [(.ptr 1 0),(.ptr 2 0)]),(.pack [(.obj 90 [(.row 1),(.p (.int .i64 n))]),(.row .upl 67 l)]),(.pack [(.obj 104 [(.row 1),(.p (.int .i64 s))]),(.row .byte 5 b)])])])) (.code 0 [1,1,1,1,1,1,1,1,0] ⟨[(11,(.v (.one (.p (.int .i64 y0))))),(0,(.v (.one (.ptr 0 0)))),(1,(.v (.agg [(.p (.int .i64 ui)),(.p (.int .i64 uz)),(.p (.str uo)),(.p (.list .byte ub)),(.p (.int .i64 us))]))),(2,(.v (.one (.p (.list .byte body))))),(4,(.v (.one (.ptr 2 0)))),(10,(.v (.one (.p (.int .i64 nv)))))],[(.obj 78 [(.ptr 1 0),(.p (.str m)),(.p (.str t)),(.p (.int .i64 mi)),(.p (.list .fld f)),(.p (.int .i64 le))]),(.pack [(.obj 48 [(.ptr 1 0),(.ptr 2 0)]),(.pack [(.obj 90 [(.row 1),(.p (.int .i64 n))]),(.row .upl 67 l)]),(.pack [(.obj 104 [(.row 1),(.p (.int .i64 s))]),(.row .byte 5 b)])]),(.obj 67 [(.p (.int .i64 ui)),(.p (.int .i64 uz)),(.p (.str uo)),(.p (.list .byte ub)),(.p (.int .i64 us))])],131,none⟩))))) (.need y3 (.need y4 (.br y2 (.need (I.hid (α:=(Prop)) True) (.fin (.pan (.ifc 73 .true [(.int .i64 507),(.list .fld ([]:List Go.Ab.Fld)),(.list .byte y1)])) [(.obj 78 [(.ptr 1 0),(.p (.str m)),(.p (.str t)),(.p (.int .i64 mi)),(.p (.list .fld f)),(.p (.int .i64 le))]),(.pack [(.obj 48 [(.ptr 1 0),(.ptr 2 0)]),(.pack [(.obj 90 [(.row 1),(.p (.int .i64 n))]),(.row .upl 67 l)]),(.pack [(.obj 104 [(.row 1),(.p (.int .i64 s))]),(.row .byte 5 b)])])])) (.code 0 [1,1,1,1,1,1,1,1,0] ⟨[(11,(.v (.one (.p (.int .i64 y0))))),(0,(.v (.one (.ptr 0 0)))),(1,(.v (.agg [(.p (.int .i64 ui)),(.p (.int .i64 uz)),(.p (.str uo)),(.p (.list .byte ub)),(.p (.int .i64 us))]))),(2,(.v (.one (.p (.list .byte body))))),(4,(.v (.one (.ptr 2 0)))),(10,(.v (.one (.p (.int .i64 nv)))))],[(.obj 78 [(.ptr 1 0),(.p (.str m)),(.p (.str t)),(.p (.int .i64 mi)),(.p (.list .fld f)),(.p (.int .i64 le))]),(.pack [(.obj 48 [(.ptr 1 0),(.ptr 2 0)]),(.pack [(.obj 90 [(.row 1),(.p (.int .i64 n))]),(.row .upl 67 l)]),(.pack [(.obj 104 [(.row 1),(.p (.int .i64 s))]),(.row .byte 5 b)])]),(.obj 67 [(.p (.int .i64 ui)),(.p (.int .i64 uz)),(.p (.str uo)),(.p (.list .byte ub)),(.p (.int .i64 us))])],131,none⟩)))))) (.br (I.ile 0 y0) (.br (I.ilt uz 0) (.br (I.ilt 2000 y0) (.need (I.hid (α:=(Prop)) True) (.fin (.pan (.ifc 73 .true [(.int .i64 413),(.list .fld ([]:List Go.Ab.Fld)),(.list .byte y1)])) [(.obj 78 [(.ptr 1 0),(.p (.str m)),(.p (.str t)),(.p (.int .i64 mi)),(.p (.list .fld f)),(.p (.int .i64 le))]),(.pack [(.obj 48 [(.ptr 1 0),(.ptr 2 0)]),(.pack [(.obj 90 [(.row 1),(.p (.int .i64 n))]),(.row .upl 67 l)]),(.pack [(.obj 104 [(.row 1),(.p (.int .i64 s))]),(.row .byte 5 b)])])])) (.need (I.inr Go.IntKind.i64 y5) (.br (I.ilt y0 y5) (.need (I.hid (α:=(Prop)) True) (.fin (.pan (.ifc 73 .true [(.int .i64 413),(.list .fld ([]:List Go.Ab.Fld)),(.list .byte y1)])) [(.obj 78 [(.ptr 1 0),(.p (.str m)),(.p (.str t)),(.p (.int .i64 mi)),(.p (.list .fld f)),(.p (.int .i64 le))]),(.pack [(.obj 48 [(.ptr 1 0),(.ptr 2 0)]),(.pack [(.obj 90 [(.row 1),(.p (.int .i64 n))]),(.row .upl 67 l)]),(.pack [(.obj 104 [(.row 1),(.p (.int .i64 s))]),(.row .byte 5 b)])])])) (.need y3 (.need y4 (.br y2 (.need (I.hid (α:=(Prop)) True) (.fin (.pan (.ifc 73 .true [(.int .i64 507),(.list .fld ([]:List Go.Ab.Fld)),(.list .byte y1)])) [(.obj 78 [(.ptr 1 0),(.p (.str m)),(.p (.str t)),(.p (.int .i64 mi)),(.p (.list .fld f)),(.p (.int .i64 le))]),(.pack [(.obj 48 [(.ptr 1 0),(.ptr 2 0)]),(.pack [(.obj 90 [(.row 1),(.p (.int .i64 n))]),(.row .upl 67 l)]),(.pack [(.obj 104 [(.row 1),(.p (.int .i64 s))]),(.row .byte 5 b)])])])) (.code 0 [1,1,1,1,1,1,1,1,0] ⟨[(11,(.v (.one (.p (.int .i64 y0))))),(0,(.v (.one (.ptr 0 0)))),(1,(.v (.agg [(.p (.int .i64 ui)),(.p (.int .i64 uz)),(.p (.str uo)),(.p (.list .byte ub)),(.p (.int .i64 us))]))),(2,(.v (.one (.p (.list .byte body))))),(4,(.v (.one (.ptr 2 0)))),(10,(.v (.one (.p (.int .i64 nv)))))],[(.obj 78 [(.ptr 1 0),(.p (.str m)),(.p (.str t)),(.p (.int .i64 mi)),(.p (.list .fld f)),(.p (.int .i64 le))]),(.pack [(.obj 48 [(.ptr 1 0),(.ptr 2 0)]),(.pack [(.obj 90 [(.row 1),(.p (.int .i64 n))]),(.row .upl 67 l)]),(.pack [(.obj 104 [(.row 1),(.p (.int .i64 s))]),(.row .byte 5 b)])]),(.obj 67 [(.p (.int .i64 ui)),(.p (.int .i64 uz)),(.p (.str uo)),(.p (.list .byte ub)),(.p (.int .i64 us))])],131,none⟩))))))) (.need y3 (.need y4 (.br y2 (.need (I.hid (α:=(Prop)) True) (.fin (.pan (.ifc 73 .true [(.int .i64 507),(.list .fld ([]:List Go.Ab.Fld)),(.list .byte y1)])) [(.obj 78 [(.ptr 1 0),(.p (.str m)),(.p (.str t)),(.p (.int .i64 mi)),(.p (.list .fld f)),(.p (.int .i64 le))]),(.pack [(.obj 48 [(.ptr 1 0),(.ptr 2 0)]),(.pack [(.obj 90 [(.row 1),(.p (.int .i64 n))]),(.row .upl 67 l)]),(.pack [(.obj 104 [(.row 1),(.p (.int .i64 s))]),(.row .byte 5 b)])])])) (.code 0 [1,1,1,1,1,1,1,1,0] ⟨[(11,(.v (.one (.p (.int .i64 y0))))),(0,(.v (.one (.ptr 0 0)))),(1,(.v (.agg [(.p (.int .i64 ui)),(.p (.int .i64 uz)),(.p (.str uo)),(.p (.list .byte ub)),(.p (.int .i64 us))]))),(2,(.v (.one (.p (.list .byte body))))),(4,(.v (.one (.ptr 2 0)))),(10,(.v (.one (.p (.int .i64 nv)))))],[(.obj 78 [(.ptr 1 0),(.p (.str m)),(.p (.str t)),(.p (.int .i64 mi)),(.p (.list .fld f)),(.p (.int .i64 le))]),(.pack [(.obj 48 [(.ptr 1 0),(.ptr 2 0)]),(.pack [(.obj 90 [(.row 1),(.p (.int .i64 n))]),(.row .upl 67 l)]),(.pack [(.obj 104 [(.row 1),(.p (.int .i64 s))]),(.row .byte 5 b)])]),(.obj 67 [(.p (.int .i64 ui)),(.p (.int .i64 uz)),(.p (.str uo)),(.p (.list .byte ub)),(.p (.int .i64 us))])],131,none⟩))))) (.need y3 (.need y4 (.br y2 (.need (I.hid (α:=(Prop)) True) (.fin (.pan (.ifc 73 .true [(.int .i64 507),(.list .fld ([]:List Go.Ab.Fld)),(.list .byte y1)])) [(.obj 78 [(.ptr 1 0),(.p (.str m)),(.p (.str t)),(.p (.int .i64 mi)),(.p (.list .fld f)),(.p (.int .i64 le))]),(.pack [(.obj 48 [(.ptr 1 0),(.ptr 2 0)]),(.pack [(.obj 90 [(.row 1),(.p (.int .i64 n))]),(.row .upl 67 l)]),(.pack [(.obj 104 [(.row 1),(.p (.int .i64 s))]),(.row .byte 5 b)])])])) (.code 0 [1,1,1,1,1,1,1,1,0] ⟨[(11,(.v (.one (.p (.int .i64 y0))))),(0,(.v (.one (.ptr 0 0)))),(1,(.v (.agg [(.p (.int .i64 ui)),(.p (.int .i64 uz)),(.p (.str uo)),(.p (.list .byte ub)),(.p (.int .i64 us))]))),(2,(.v (.one (.p (.list .byte body))))),(4,(.v (.one (.ptr 2 0)))),(10,(.v (.one (.p (.int .i64 nv)))))],[(.obj 78 [(.ptr 1 0),(.p (.str m)),(.p (.str t)),(.p (.int .i64 mi)),(.p (.list .fld f)),(.p (.int .i64 le))]),(.pack [(.obj 48 [(.ptr 1 0),(.ptr 2 0)]),(.pack [(.obj 90 [(.row 1),(.p (.int .i64 n))]),(.row .upl 67 l)]),(.pack [(.obj 104 [(.row 1),(.p (.int .i64 s))]),(.row .byte 5 b)])]),(.pack [(.obj 67 [(.p (.int .i64 ui)),(.p (.int .i64 uz)),(.p (.str uo)),(.p (.list .byte ub)),(.p (.int .i64 us))])])],131,none⟩))))))) (.need (I.hid (α:=(Prop)) (And (And (FOk f) (LE.le (List.length (Array.toList (List.toArray ([117,112,108,111,97,100,45,108,101,110,103,116,104]:List UInt8)))) 1000000)) (Eq (wL f (Array.toList (List.toArray ([117,112,108,111,97,100,45,108,101,110,103,116,104]:List UInt8)))) Bool.false))) (.fin (.pan (.ifc 73 .true [(.int .i64 400),(.list .fld (I.hid (α:=(List Go.Ab.Fld)) ([]:List Go.Ab.Fld))),(.list .byte y1)])) [(.obj 78 [(.ptr 1 0),(.p (.str m)),(.p (.str t)),(.p (.int .i64 mi)),(.p (.list .fld f)),(.p (.int .i64 le))]),(.pack [(.obj 48 [(.ptr 1 0),(.ptr 2 0)]),(.pack [(.obj 90 [(.row 1),(.p (.int .i64 n))]),(.row .upl 67 l)]),(.pack [(.obj 104 [(.row 1),(.p (.int .i64 s))]),(.row .byte 5 b)])])]))) (by kernel_rfl) ?_
    simp only [zl]
    clear hcm hol hs2 hnn hbb
    subst hI
    unfold yh at *
    simp only [nrmA,nrmB,nrlB,reduceCtorEq,HO.pack.injEq,HO.obj.injEq]
    generalize zG f [117,112,108,111,97,100,45,108,101,110,103,116,104]=sz at *
    by_cases hd1:wL f [117,112,108,111,97,100,45,108,101,110,103,116,104]=false
    · rw [if_pos hd1] at hr
      simp only [TA.mk.injEq,Sto.mk.injEq] at hr
      obtain⟨q1,q2,q3,q4,q5,q6⟩:=hr
      subst q1 q2 q3 q4 q5 q6
      simp only [nrmA,nrmB,nrlB,reduceCtorEq,HO.pack.injEq,HO.obj.injEq,decide_true,decide_false,Bool.true_eq_false,Bool.false_eq_true,forall_const,false_implies,true_implies,not_true_eq_false,not_false_eq_true,hd1]
      (repeat' (first|refine And.intro ?_ ?_|intro _))<;>first|omega|exact True.intro|exact False.elim ‹False›|skip
      all_goals first
        |with_reducible rfl
        |with_reducible assumption
        |omega
        |exact hs
        |exact hf.1
        |(exact(hf.2 _ ‹_›).1)
        |(exact(hf.2 _ ‹_›).2)
        |exact⟨hf,by decide⟩
        |exact⟨⟨hf,by decide⟩,by assumption⟩
        |(simp only [List.length_cons,List.length_nil];omega)
        |(exfalso;simp_all;done)
    rw [if_neg hd1] at hr
    try simp only [Bool.not_eq_false] at hd1
    simp only [nrmA,nrmB,nrlB,reduceCtorEq,HO.pack.injEq,HO.obj.injEq,decide_true,decide_false,Bool.true_eq_false,Bool.false_eq_true,forall_const,false_implies,true_implies,not_true_eq_false,not_false_eq_true,hd1]
    by_cases hd2:0≤sz∧0≤uz∧sz≠uz
    · rw [if_pos hd2] at hr
      simp only [TA.mk.injEq,Sto.mk.injEq] at hr
      obtain⟨q1,q2,q3,q4,q5,q6⟩:=hr
      subst q1 q2 q3 q4 q5 q6
      (repeat' (first|refine And.intro ?_ ?_|intro _))<;>first|omega|exact True.intro|exact False.elim ‹False›|skip
      all_goals first
        |with_reducible rfl
        |with_reducible assumption
        |omega
        |exact hs
        |exact hf.1
        |(exact(hf.2 _ ‹_›).1)
        |(exact(hf.2 _ ‹_›).2)
        |exact⟨hf,by decide⟩
        |exact⟨⟨hf,by decide⟩,by assumption⟩
        |(simp only [List.length_cons,List.length_nil];omega)
        |(exfalso;simp_all;done)
    rw [if_neg hd2] at hr
    by_cases hd3:0≤sz∧uz<0∧(2000<sz∨sz<nv+(body.length:Int))
    · rw [if_pos hd3] at hr
      simp only [TA.mk.injEq,Sto.mk.injEq] at hr
      obtain⟨q1,q2,q3,q4,q5,q6⟩:=hr
      subst q1 q2 q3 q4 q5 q6
      (repeat' (first|refine And.intro ?_ ?_|intro _))<;>first|omega|exact True.intro|exact False.elim ‹False›|skip
      all_goals first
        |with_reducible rfl
        |with_reducible assumption
        |omega
        |exact hs
        |exact hf.1
        |(exact(hf.2 _ ‹_›).1)
        |(exact(hf.2 _ ‹_›).2)
        |exact⟨hf,by decide⟩
        |exact⟨⟨hf,by decide⟩,by assumption⟩
        |(simp only [List.length_cons,List.length_nil];omega)
        |(exfalso;simp_all;done)
    rw [if_neg hd3] at hr
    by_cases hd4:Zj b ((body.length:Int)+60)=false
    · rw [if_pos hd4] at hr
      simp only [TA.mk.injEq,Sto.mk.injEq] at hr
      obtain⟨q1,q2,q3,q4,q5,q6⟩:=hr
      subst q1 q2 q3 q4 q5 q6
      simp only [nrmA,nrmB,nrlB,reduceCtorEq,HO.pack.injEq,HO.obj.injEq,decide_true,decide_false,Bool.true_eq_false,Bool.false_eq_true,forall_const,false_implies,true_implies,not_true_eq_false,not_false_eq_true,hd4]
      (repeat' (first|refine And.intro ?_ ?_|intro _))<;>first|omega|exact True.intro|exact False.elim ‹False›|skip
      all_goals first
        |with_reducible rfl
        |with_reducible assumption
        |omega
        |exact hs
        |exact hf.1
        |(exact(hf.2 _ ‹_›).1)
        |(exact(hf.2 _ ‹_›).2)
        |exact⟨hf,by decide⟩
        |exact⟨⟨hf,by decide⟩,by assumption⟩
        |(simp only [List.length_cons,List.length_nil];omega)
        |(exfalso;simp_all;done)
    rw [if_neg hd4] at hr
    try simp only [Bool.not_eq_false] at hd4
    simp only [nrmA,nrmB,nrlB,reduceCtorEq,HO.pack.injEq,HO.obj.injEq,decide_true,decide_false,Bool.true_eq_false,Bool.false_eq_true,forall_const,false_implies,true_implies,not_true_eq_false,not_false_eq_true,hd4]
    (repeat' (first|refine And.intro ?_ ?_|intro _))<;>first|omega|exact True.intro|exact False.elim ‹False›|skip
    all_goals first
      |(with_reducible show Ok _ _ _ _;(try(exfalso;omega));exact seam rfl zi mixed [wF,wE,yM,yL,yE,yD,zY,zX,xG,xE,zJ,zI,zU,zT,yZ,yY,yX,yV,wR,wQ,xM,xK] hX [0,1,2,4,10,11] ⟨[(0,.v (.one (.ptr 0 0))),(1,.v (.agg [(.p (.int .i64 ui)),(.p (.int .i64 uz)),(.p (.str uo)),(.p (.list .byte ub)),(.p (.int .i64 us))])),(2,.v (.one (.p (.list .byte body)))),(4,.v (.one (.ptr 2 0))),(10,.v (.one (.p (.int .i64 nv)))),(11,.v (.one (.p (.int .i64 sz))))],[.obj 78 [(.ptr 1 0),(.p (.str m)),(.p (.str t)),(.p (.int .i64 mi)),(.p (.list .fld f)),(.p (.int .i64 le))],.pack [.obj 48 [(.ptr 1 0),(.ptr 2 0)],.pack [.obj 90 [(.row 1),(.p (.int .i64 n))],.row .upl 67 l],.pack [.obj 104 [(.row 1),(.p (.int .i64 s))],.row .byte 5 b]],.pack [.obj 67 [(.p (.int .i64 ui)),(.p (.int .i64 uz)),(.p (.str uo)),(.p (.list .byte ub)),(.p (.int .i64 us))]]],131,none⟩ (by kernel_rfl) (key17 nv sz hnv hr))
      |with_reducible rfl
      |with_reducible assumption
      |omega
      |exact hs
      |exact hf.1
      |(exact(hf.2 _ ‹_›).1)
      |(exact(hf.2 _ ‹_›).2)
      |exact⟨hf,by decide⟩
      |exact⟨⟨hf,by decide⟩,by assumption⟩
      |(simp only [List.length_cons,List.length_nil];omega)
      |(exfalso;simp_all;done)
  have key5: ∀ (_u:Unit),(if wL f vZ=false then(⟨400,[],⟨l,n,b,s⟩⟩:TA)
    else if zG f vZ<0 then(⟨400,[],⟨l,n,b,s⟩⟩:TA)
    else if zG f vZ≠(ub.length:Int) then(⟨409,[],⟨l,n,b,s⟩⟩:TA)
    else(if wL f yh=false then(⟨400,[],⟨l,n,b,s⟩⟩:TA)
    else if 0≤zG f yh∧0≤uz∧zG f yh≠uz then(⟨400,[],⟨l,n,b,s⟩⟩:TA)
    else if 0≤zG f yh∧uz<0∧(2000<zG f yh∨zG f yh<(zG f vZ)+(body.length:Int)) then(⟨413,[],⟨l,n,b,s⟩⟩:TA)
    else if Zj b ((body.length:Int)+60)=false then(⟨507,[],⟨l,n,b,s⟩⟩:TA)
    else(if(if apG l ui (zG f vZ) then 17 else wrtC l n b (apE ui body))≠0 then(⟨uK (if apG l ui (zG f vZ) then 17 else wrtC l n b (apE ui body)),[],⟨l,n,b,s⟩⟩:TA)
    else if 0≤(zG f yh)∧uz<0 then
      if wrtC (wrtL l n b (apE ui body)) (wrtN l n b (apE ui body)) (wrtB l n b (apE ui body)) ⟨3,ui,(zG f yh),[]⟩≠0 then(⟨uK (wrtC (wrtL l n b (apE ui body)) (wrtN l n b (apE ui body)) (wrtB l n b (apE ui body)) ⟨3,ui,(zG f yh),[]⟩),[],⟨wrtL l n b (apE ui body),wrtN l n b (apE ui body),wrtB l n b (apE ui body),s⟩⟩:TA)
      else(⟨204,[⟨Vl,decS ((zG f vZ)+(body.length:Int))⟩],⟨wrtL (wrtL l n b (apE ui body)) (wrtN l n b (apE ui body)) (wrtB l n b (apE ui body)) ⟨3,ui,(zG f yh),[]⟩,wrtN (wrtL l n b (apE ui body)) (wrtN l n b (apE ui body)) (wrtB l n b (apE ui body)) ⟨3,ui,(zG f yh),[]⟩,wrtB (wrtL l n b (apE ui body)) (wrtN l n b (apE ui body)) (wrtB l n b (apE ui body)) ⟨3,ui,(zG f yh),[]⟩,((wrtB (wrtL l n b (apE ui body)) (wrtN l n b (apE ui body)) (wrtB l n b (apE ui body)) ⟨3,ui,(zG f yh),[]⟩).length:Int)⟩⟩:TA)
    else(⟨204,[⟨Vl,decS ((zG f vZ)+(body.length:Int))⟩],⟨wrtL l n b (apE ui body),wrtN l n b (apE ui body),wrtB l n b (apE ui body),((wrtB l n b (apE ui body)).length:Int)⟩⟩:TA))))=⟨st,fs,⟨l',n',b',s'⟩⟩→Ok Tryz.prog X (fun o h=>o=AOut.pan (C.ifc 73 true [P.int IntKind.i64 st,P.list U.fld fs,P.list U.byte []])∧h=[HO.obj 78 [C.ptr 1 0,C.p (P.str m),C.p (P.str t),C.p (P.int IntKind.i64 mi),C.p (P.list U.fld f),C.p (P.int IntKind.i64 le)],HO.pack [HO.obj 48 [C.ptr 1 0,C.ptr 2 0],HO.pack [HO.obj 90 [C.row 1,C.p (P.int IntKind.i64 n')],HO.row U.upl 67 l'],HO.pack [HO.obj 104 [C.row 1,C.p (P.int IntKind.i64 s')],HO.row U.byte 5 b']]]) (go I tab { cfgT with seam:=[5,10,17],keep:=some [0,1,2,4,6,8,9,10,11]} [wF,wE,yM,yL,yE,yD,zY,zX,xG,xE,zJ,zI,zU,zT,yZ,yY,yX,yV,wR,wQ,xM,xK] [⟨xP Tryz.f56,finK I tab { cfgT with seam:=[5,10,17],keep:=some [0,1,2,4,6,8,9,10,11]} 2 Tryz.f56⟩] 0 [1,1,1,1,0] ⟨[(0,.v (.one (.ptr 0 0))),(1,.v (.agg [(.p (.int .i64 ui)),(.p (.int .i64 uz)),(.p (.str uo)),(.p (.list .byte ub)),(.p (.int .i64 us))])),(2,.v (.one (.p (.list .byte body)))),(4,.v (.one (.ptr 2 0)))],[.obj 78 [(.ptr 1 0),(.p (.str m)),(.p (.str t)),(.p (.int .i64 mi)),(.p (.list .fld f)),(.p (.int .i64 le))],.pack [.obj 48 [(.ptr 1 0),(.ptr 2 0)],.pack [.obj 90 [(.row 1),(.p (.int .i64 n))],.row .upl 67 l],.pack [.obj 104 [(.row 1),(.p (.int .i64 s))],.row .byte 5 b]],.pack [.obj 67 [(.p (.int .i64 ui)),(.p (.int .i64 uz)),(.p (.str uo)),(.p (.list .byte ub)),(.p (.int .i64 us))]]],131,none⟩):=by
    intro _ hr
    refine zh (let y0:=I.hid (α:=Int) (zG f (Array.toList (List.toArray ([117,112,108,111,97,100,45,111,102,102,115,101,116]:List UInt8))));let y1:=I.hid (α:=(List UInt8)) ([]:List UInt8);.br (I.hid (α:=Bool) (wL f (Array.toList (List.toArray ([117,112,108,111,97,100,45,111,102,102,115,101,116]:List UInt8))))) (.need (I.hid (α:=(Prop)) (And (And (FOk f) (LE.le (List.length (Array.toList (List.toArray ([117,112,108,111,97,100,45,111,102,102,115,101,116]:List UInt8)))) 1000000)) (Eq (wL f (Array.toList (List.toArray ([117,112,108,111,97,100,45,111,102,102,115,101,116]:List UInt8)))) Bool.true))) (.br (I.ilt y0 0) (.need (I.hid (α:=(Prop)) True) (.fin (.pan (.ifc 73 .true [(.int .i64 400),(.list .fld ([]:List Go.Ab.Fld)),(.list .byte y1)])) [(.obj 78 [(.ptr 1 0),(.p (.str m)),(.p (.str t)),(.p (.int .i64 mi)),(.p (.list .fld f)),(.p (.int .i64 le))]),(.pack [(.obj 48 [(.ptr 1 0),(.ptr 2 0)]),(.pack [(.obj 90 [(.row 1),(.p (.int .i64 n))]),(.row .upl 67 l)]),(.pack [(.obj 104 [(.row 1),(.p (.int .i64 s))]),(.row .byte 5 b)])])])) (.br (I.bnot (I.ieq y0 (I.len (α:=UInt8) ub))) (.need (I.hid (α:=(Prop)) True) (.fin (.pan (.ifc 73 .true [(.int .i64 409),(.list .fld ([]:List Go.Ab.Fld)),(.list .byte y1)])) [(.obj 78 [(.ptr 1 0),(.p (.str m)),(.p (.str t)),(.p (.int .i64 mi)),(.p (.list .fld f)),(.p (.int .i64 le))]),(.pack [(.obj 48 [(.ptr 1 0),(.ptr 2 0)]),(.pack [(.obj 90 [(.row 1),(.p (.int .i64 n))]),(.row .upl 67 l)]),(.pack [(.obj 104 [(.row 1),(.p (.int .i64 s))]),(.row .byte 5 b)])])])) (.code 0 [1,1,1,1,1,1,0] ⟨[(10,(.v (.one (.p (.int .i64 y0))))),(0,(.v (.one (.ptr 0 0)))),(1,(.v (.agg [(.p (.int .i64 ui)),(.p (.int .i64 uz)),(.p (.str uo)),(.p (.list .byte ub)),(.p (.int .i64 us))]))),(2,(.v (.one (.p (.list .byte body))))),(4,(.v (.one (.ptr 2 0))))],[(.obj 78 [(.ptr 1 0),(.p (.str m)),(.p (.str t)),(.p (.int .i64 mi)),(.p (.list .fld f)),(.p (.int .i64 le))]),(.pack [(.obj 48 [(.ptr 1 0),(.ptr 2 0)]),(.pack [(.obj 90 [(.row 1),(.p (.int .i64 n))]),(.row .upl 67 l)]),(.pack [(.obj 104 [(.row 1),(.p (.int .i64 s))]),(.row .byte 5 b)])]),(.obj 67 [(.p (.int .i64 ui)),(.p (.int .i64 uz)),(.p (.str uo)),(.p (.list .byte ub)),(.p (.int .i64 us))])],131,none⟩)))) (.need (I.hid (α:=(Prop)) (And (And (FOk f) (LE.le (List.length (Array.toList (List.toArray ([117,112,108,111,97,100,45,111,102,102,115,101,116]:List UInt8)))) 1000000)) (Eq (wL f (Array.toList (List.toArray ([117,112,108,111,97,100,45,111,102,102,115,101,116]:List UInt8)))) Bool.false))) (.fin (.pan (.ifc 73 .true [(.int .i64 400),(.list .fld (I.hid (α:=(List Go.Ab.Fld)) ([]:List Go.Ab.Fld))),(.list .byte y1)])) [(.obj 78 [(.ptr 1 0),(.p (.str m)),(.p (.str t)),(.p (.int .i64 mi)),(.p (.list .fld f)),(.p (.int .i64 le))]),(.pack [(.obj 48 [(.ptr 1 0),(.ptr 2 0)]),(.pack [(.obj 90 [(.row 1),(.p (.int .i64 n))]),(.row .upl 67 l)]),(.pack [(.obj 104 [(.row 1),(.p (.int .i64 s))]),(.row .byte 5 b)])])]))) (by kernel_rfl) ?_
    simp only [zl]
    clear hcm hol hs2 hnn hbb key17
    subst hI
    unfold vZ at *
    simp only [nrmA,nrmB,nrlB,reduceCtorEq,HO.pack.injEq,HO.obj.injEq]
    generalize zG f [117,112,108,111,97,100,45,111,102,102,115,101,116]=nv at *
    by_cases hd5:wL f [117,112,108,111,97,100,45,111,102,102,115,101,116]=false
    · rw [if_pos hd5] at hr
      simp only [TA.mk.injEq,Sto.mk.injEq] at hr
      obtain⟨q1,q2,q3,q4,q5,q6⟩:=hr
      subst q1 q2 q3 q4 q5 q6
      simp only [nrmA,nrmB,nrlB,reduceCtorEq,HO.pack.injEq,HO.obj.injEq,decide_true,decide_false,Bool.true_eq_false,Bool.false_eq_true,forall_const,false_implies,true_implies,not_true_eq_false,not_false_eq_true,hd5]
      (repeat' (first|refine And.intro ?_ ?_|intro _))<;>first|omega|exact True.intro|exact False.elim ‹False›|skip
      all_goals first
        |with_reducible rfl
        |with_reducible assumption
        |omega
        |exact hs
        |exact hf.1
        |(exact(hf.2 _ ‹_›).1)
        |(exact(hf.2 _ ‹_›).2)
        |exact⟨hf,by decide⟩
        |exact⟨⟨hf,by decide⟩,by assumption⟩
        |(simp only [List.length_cons,List.length_nil];omega)
        |(exfalso;simp_all;done)
    rw [if_neg hd5] at hr
    try simp only [Bool.not_eq_false] at hd5
    simp only [nrmA,nrmB,nrlB,reduceCtorEq,HO.pack.injEq,HO.obj.injEq,decide_true,decide_false,Bool.true_eq_false,Bool.false_eq_true,forall_const,false_implies,true_implies,not_true_eq_false,not_false_eq_true,hd5]
    by_cases hd6:nv<0
    · rw [if_pos hd6] at hr
      simp only [TA.mk.injEq,Sto.mk.injEq] at hr
      obtain⟨q1,q2,q3,q4,q5,q6⟩:=hr
      subst q1 q2 q3 q4 q5 q6
      (repeat' (first|refine And.intro ?_ ?_|intro _))<;>first|omega|exact True.intro|exact False.elim ‹False›|skip
      all_goals first
        |with_reducible rfl
        |with_reducible assumption
        |omega
        |exact hs
        |exact hf.1
        |(exact(hf.2 _ ‹_›).1)
        |(exact(hf.2 _ ‹_›).2)
        |exact⟨hf,by decide⟩
        |exact⟨⟨hf,by decide⟩,by assumption⟩
        |(simp only [List.length_cons,List.length_nil];omega)
        |(exfalso;simp_all;done)
    rw [if_neg hd6] at hr
    by_cases hd7:nv≠(ub.length:Int)
    · rw [if_pos hd7] at hr
      simp only [TA.mk.injEq,Sto.mk.injEq] at hr
      obtain⟨q1,q2,q3,q4,q5,q6⟩:=hr
      subst q1 q2 q3 q4 q5 q6
      (repeat' (first|refine And.intro ?_ ?_|intro _))<;>first|omega|exact True.intro|exact False.elim ‹False›|skip
      all_goals first
        |with_reducible rfl
        |with_reducible assumption
        |omega
        |exact hs
        |exact hf.1
        |(exact(hf.2 _ ‹_›).1)
        |(exact(hf.2 _ ‹_›).2)
        |exact⟨hf,by decide⟩
        |exact⟨⟨hf,by decide⟩,by assumption⟩
        |(simp only [List.length_cons,List.length_nil];omega)
        |(exfalso;simp_all;done)
    rw [if_neg hd7] at hr
    (repeat' (first|refine And.intro ?_ ?_|intro _))<;>first|omega|exact True.intro|exact False.elim ‹False›|skip
    all_goals first
      |(with_reducible show Ok _ _ _ _;(try(exfalso;omega));exact seam rfl zi mixed [wF,wE,yM,yL,yE,yD,zY,zX,xG,xE,zJ,zI,zU,zT,yZ,yY,yX,yV,wR,wQ,xM,xK] hX [0,1,2,4,10] ⟨[(0,.v (.one (.ptr 0 0))),(1,.v (.agg [(.p (.int .i64 ui)),(.p (.int .i64 uz)),(.p (.str uo)),(.p (.list .byte ub)),(.p (.int .i64 us))])),(2,.v (.one (.p (.list .byte body)))),(4,.v (.one (.ptr 2 0))),(10,.v (.one (.p (.int .i64 nv))))],[.obj 78 [(.ptr 1 0),(.p (.str m)),(.p (.str t)),(.p (.int .i64 mi)),(.p (.list .fld f)),(.p (.int .i64 le))],.pack [.obj 48 [(.ptr 1 0),(.ptr 2 0)],.pack [.obj 90 [(.row 1),(.p (.int .i64 n))],.row .upl 67 l],.pack [.obj 104 [(.row 1),(.p (.int .i64 s))],.row .byte 5 b]],.pack [.obj 67 [(.p (.int .i64 ui)),(.p (.int .i64 uz)),(.p (.str uo)),(.p (.list .byte ub)),(.p (.int .i64 us))]]],131,none⟩ (by kernel_rfl) (key10 nv (by omega) hr))
      |with_reducible rfl
      |with_reducible assumption
      |omega
      |exact hs
      |exact hf.1
      |(exact(hf.2 _ ‹_›).1)
      |(exact(hf.2 _ ‹_›).2)
      |exact⟨hf,by decide⟩
      |exact⟨⟨hf,by decide⟩,by assumption⟩
      |(simp only [List.length_cons,List.length_nil];omega)
      |(exfalso;simp_all;done)
  clear hs2 hnn hbb key17 key10
  subst hI
  rw [show([99,111,110,116,101,110,116,45,116,121,112,101]:Str)=zbE from rfl]
  rw [show([97,112,112,108,105,99,97,116,105,111,110,47,111,102,102,115,101,116,43,111,99,116,101,116,45,115,116,114,101,97,109]:Str)=octS from rfl]
  simp only [nrmA,nrmB,nrlB,reduceCtorEq,HO.pack.injEq,HO.obj.injEq]
  have hcl:zbE.length≤1000000:=by decide
  generalize oneT f zbE=oc at *
  obtain⟨ov,oc⟩:=oc
  try simp only at *
  generalize vO ov=pm at *
  obtain⟨⟨pw,pp⟩,pc⟩:=pm
  try simp only at *
  by_cases hd8:oc=9
  · rw [if_pos hd8] at hr
    simp only [TA.mk.injEq,Sto.mk.injEq] at hr
    obtain⟨q1,q2,q3,q4,q5,q6⟩:=hr
    subst q1 q2 q3 q4 q5 q6
    simp only [nrmA,nrmB,nrlB,reduceCtorEq,HO.pack.injEq,HO.obj.injEq,decide_true,decide_false,Bool.true_eq_false,Bool.false_eq_true,forall_const,false_implies,true_implies,not_true_eq_false,not_false_eq_true,hd8]
    (repeat' (first|refine And.intro ?_ ?_|intro _))<;>first|omega|exact True.intro|exact False.elim ‹False›|skip
    all_goals first
      |with_reducible rfl
      |with_reducible assumption
      |omega
      |exact hs
      |exact hf.1
      |(exact(hf.2 _ ‹_›).1)
      |(exact(hf.2 _ ‹_›).2)
      |exact⟨hf,by decide⟩
      |exact⟨⟨hf,by decide⟩,by assumption⟩
      |(simp only [List.length_cons,List.length_nil];omega)
      |(exfalso;simp_all;done)
  rw [if_neg hd8] at hr
  try simp only [Bool.not_eq_false] at hd8
  simp only [nrmA,nrmB,nrlB,reduceCtorEq,HO.pack.injEq,HO.obj.injEq,decide_true,decide_false,Bool.true_eq_false,Bool.false_eq_true,forall_const,false_implies,true_implies,not_true_eq_false,not_false_eq_true,hd8]
  by_cases hd9:pc≠0∨pw≠octS
  · rw [if_pos hd9] at hr
    simp only [TA.mk.injEq,Sto.mk.injEq] at hr
    obtain⟨q1,q2,q3,q4,q5,q6⟩:=hr
    subst q1 q2 q3 q4 q5 q6
    (repeat' (first|refine And.intro ?_ ?_|intro _))<;>first|omega|exact True.intro|exact False.elim ‹False›|skip
    all_goals first
      |with_reducible rfl
      |with_reducible assumption
      |omega
      |exact hs
      |exact hf.1
      |(exact(hf.2 _ ‹_›).1)
      |(exact(hf.2 _ ‹_›).2)
      |exact⟨hf,by decide⟩
      |exact⟨⟨hf,by decide⟩,by assumption⟩
      |(simp only [List.length_cons,List.length_nil];omega)
      |(exfalso;simp_all;done)
  rw [if_neg hd9] at hr
  simp only [not_or,ne_eq,Decidable.not_not] at hd9
  obtain⟨g1,g2⟩:=hd9
  clear hcm
  subst g1 g2
  simp only [nrmA,nrmB,nrlB,reduceCtorEq,HO.pack.injEq,HO.obj.injEq,not_true_eq_false,false_implies,true_and,and_true]
  (repeat' (first|refine And.intro ?_ ?_|intro _))<;>first|omega|exact True.intro|exact False.elim ‹False›|skip
  all_goals first
    |(with_reducible show Ok _ _ _ _;(try(exfalso;omega));exact seam rfl zi mixed [wF,wE,yM,yL,yE,yD,zY,zX,xG,xE,zJ,zI,zU,zT,yZ,yY,yX,yV,wR,wQ,xM,xK] hX [0,1,2,4] ⟨[(0,.v (.one (.ptr 0 0))),(1,.v (.agg [(.p (.int .i64 ui)),(.p (.int .i64 uz)),(.p (.str uo)),(.p (.list .byte ub)),(.p (.int .i64 us))])),(2,.v (.one (.p (.list .byte body)))),(4,.v (.one (.ptr 2 0)))],[.obj 78 [(.ptr 1 0),(.p (.str m)),(.p (.str t)),(.p (.int .i64 mi)),(.p (.list .fld f)),(.p (.int .i64 le))],.pack [.obj 48 [(.ptr 1 0),(.ptr 2 0)],.pack [.obj 90 [(.row 1),(.p (.int .i64 n))],.row .upl 67 l],.pack [.obj 104 [(.row 1),(.p (.int .i64 s))],.row .byte 5 b]],.pack [.obj 67 [(.p (.int .i64 ui)),(.p (.int .i64 uz)),(.p (.str uo)),(.p (.list .byte ub)),(.p (.int .i64 us))]]],131,none⟩ (by kernel_rfl) (key5 () hr))
    |with_reducible rfl
    |with_reducible assumption
    |omega
    |exact hs
    |exact hf.1
    |(exact(hf.2 _ ‹_›).1)
    |(exact(hf.2 _ ‹_›).2)
    |exact⟨hf,by decide⟩
    |exact⟨⟨hf,by decide⟩,by assumption⟩
    |(simp only [List.length_cons,List.length_nil];omega)
    |(exfalso;simp_all;done)
    |skip
  exact seam rfl zi mixed [wF,wE,yM,yL,yE,yD,zY,zX,xG,xE,zJ,zI,zU,zT,yZ,yY,yX,yV,wR,wQ,xM,xK] hX [0,1,2,4] ⟨[(0,.v (.one (.ptr 0 0))),(1,.v (.agg [(.p (.int .i64 ui)),(.p (.int .i64 uz)),(.p (.str uo)),(.p (.list .byte ub)),(.p (.int .i64 us))])),(2,.v (.one (.p (.list .byte body)))),(4,.v (.one (.ptr 2 0)))],[.obj 78 [(.ptr 1 0),(.p (.str m)),(.p (.str t)),(.p (.int .i64 mi)),(.p (.list .fld f)),(.p (.int .i64 le))],.pack [.obj 48 [(.ptr 1 0),(.ptr 2 0)],.pack [.obj 90 [(.row 1),(.p (.int .i64 n))],.row .upl 67 l],.pack [.obj 104 [(.row 1),(.p (.int .i64 s))],.row .byte 5 b]],.pack [.obj 67 [(.p (.int .i64 ui)),(.p (.int .i64 uz)),(.p (.str uo)),(.p (.list .byte ub)),(.p (.int .i64 us))]]],131,none⟩ (by kernel_rfl) (key5 () hr)
def ZP (I:Alg) (args:List D) (hp:List HO):Option CT:=match args,hp with
  |[.v (.one (.ptr 0 0)),.v (.agg [(.p (.int .i64 ui)),(.p (.int .i64 uz)),(.p (.str uo)),(.p (.list .byte ub)),(.p (.int .i64 us))]),.v (.one (.p (.list .byte body)))],[.obj 78 [(.ptr 1 0),(.p (.str m)),(.p (.str t)),(.p (.int .i64 mi)),(.p (.list .fld f)),(.p (.int .i64 le))],.pack [.obj 48 [(.ptr 1 0),(.ptr 2 0)],.pack [.obj 90 [(.row 1),(.p (.int .i64 n))],.row .upl 67 l],.pack [.obj 104 [(.row 1),(.p (.int .i64 s))],.row .byte 5 b]]]=>(fun(m t:Str) (mi:Int) (f:List Fld) (le:Int) (l:List Upl) (n:Int) (b:Str) (s:Int) (ui uz:Int) (uo ub:Str) (us:Int) (body:Str)=>(some (.one ⟨I.hid (FOk f∧zy l n∧n≤200000∧b.length≤100000∧body.length≤100000∧ub.length≤1000000∧uz≤1000000),(.pan (.ifc 73 true [(.int .i64 (I.hid ((yG ⟨l,n,b,s⟩ ⟨ui,uz,uo,ub,us⟩ f body).st))),(.list .fld (I.hid ((yG ⟨l,n,b,s⟩ ⟨ui,uz,uo,ub,us⟩ f body).fs))),(.list .byte (I.hid ([])))])),[.obj 78 [(.ptr 1 0),(.p (.str m)),(.p (.str t)),(.p (.int .i64 mi)),(.p (.list .fld f)),(.p (.int .i64 le))],.pack [.obj 48 [(.ptr 1 0),(.ptr 2 0)],.pack [.obj 90 [(.row 1),(.p (.int .i64 (I.hid ((yG ⟨l,n,b,s⟩ ⟨ui,uz,uo,ub,us⟩ f body).q.n))))],.row .upl 67 (I.hid ((yG ⟨l,n,b,s⟩ ⟨ui,uz,uo,ub,us⟩ f body).q.l))],.pack [.obj 104 [(.row 1),(.p (.int .i64 (I.hid ((yG ⟨l,n,b,s⟩ ⟨ui,uz,uo,ub,us⟩ f body).q.s))))],.row .byte 5 (I.hid ((yG ⟨l,n,b,s⟩ ⟨ui,uz,uo,ub,us⟩ f body).q.b))]]]⟩):Option CT)) m t mi f le l n b s ui uz uo ub us body
  |_,_=>none
theorem zam:zo Tryz.prog 56 (ZP alg):=by
  intro args hp r h
  unfold ZP at h
  split at h
  · cases h;exact fun hn=>zkI _ _ _ _ _ _ _ _ _ _ _ _ _ _ _ hn
  · cases h
def rQ:Know Tryz.prog:=⟨56,ZP,zam⟩
def rP:Know Tryz.prog:=⟨56,fun I=>zu I (ZP I),zf zam⟩
end Go.Proofs.YtcclfkakcgnacaaGreatDoor
