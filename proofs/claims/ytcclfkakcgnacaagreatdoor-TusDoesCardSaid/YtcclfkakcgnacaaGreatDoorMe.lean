/- Texts of this proof, one behind the other: TusB TusC TusD TusE TusF TusG TusH TusI TusJ TusK ParB StoD TusN. -/
import Derived.Test.YtcclfkakcgnacaaGreatDoorMd
set_option linter.all false
namespace Go.Proofs.YtcclfkakcgnacaaGreatDoor
open Go Go.Sep Go.Ab
set_option maxRecDepth 100000
theorem vk (f:List Fld) (n:Str):(oneT f n).2=0∨(oneT f n).2=9∨(oneT f n).2=10:=by
  unfold oneT oneF
  repeat' split
  all_goals simp
theorem zbk: ∀ (s:Str) (n:Int),0≤n→(numG 10 n s).1+1≤(n+1) * 10 ^ s.length∧0≤(numG 10 n s).1
  |[],n,h=>by simp [numG];exact h
  | c ::l,n,h=>by
    have h16:(0:Int)<10 ^ l.length:=Int.pow_pos (by decide)
    have e:((n+1) * 10 ^ (c::l).length:Int)=((n+1) * 10) * 10 ^ l.length:=by rw [List.length_cons,Int.pow_succ,Int.mul_assoc,Int.mul_comm (10 ^ l.length) 10]
    rw [e,numG]
    split
    · have h1:(1:Int) * 1≤((n+1) * 10) * 10 ^ l.length:=Int.mul_le_mul (by omega) (by omega) (by decide) (by omega)
      exact⟨by simpa using h1,Int.le_refl _⟩
    · rename_i hc
      have h2:=zbk l (n * 10+hexK c.toNat) (by omega)
      exact⟨Int.le_trans h2.1 (Int.mul_le_mul_of_nonneg_right (by omega) (by omega)),h2.2⟩
theorem sG (x:Str):0≤(numA x 10 9).1∧(numA x 10 9).1<1000000000:=by
  unfold numA
  split
  · exact by decide
  · rename_i h
    have h1:=zbk x 0 (Int.le_refl _)
    have h2:x.length≤9:=by omega
    have h3:(10:Int) ^ x.length≤10 ^ 9:=by
      have:(10 ^ x.length:Nat)≤10 ^ 9:=Nat.pow_le_pow_right (by decide) h2
      exact_mod_cast this
    refine⟨h1.2,?_⟩
    have h4:(10:Int) ^ 9=1000000000:=by decide
    omega
theorem zkM (m t:Str) (mi:Int) (f:List Fld) (le:Int) (l:List Upl) (n:Int) (b:Str) (s:Int) (nm:Str) (hneed:(FOk f∧nm.length≤1000000)∧xq f nm=true):Spc Tryz.prog 79 [.v (.one (.ptr 0 0)),.v (.one (.p (.str nm)))] [.obj 78 [(.ptr 1 0),(.p (.str m)),(.p (.str t)),(.p (.int .i64 mi)),(.p (.list .fld f)),(.p (.int .i64 le))],.pack [.obj 48 [(.ptr 1 0),(.ptr 2 0)],.pack [.obj 90 [(.row 1),(.p (.int .i64 n))],.row .upl 67 l],.pack [.obj 104 [(.row 1),(.p (.int .i64 s))],.row .byte 5 b]]] (.ret (.v (.one (.p (.int .i64 ((zA f nm))))))) [.obj 78 [(.ptr 1 0),(.p (.str m)),(.p (.str t)),(.p (.int .i64 mi)),(.p (.list .fld f)),(.p (.int .i64 le))],.pack [.obj 48 [(.ptr 1 0),(.ptr 2 0)],.pack [.obj 90 [(.row 1),(.p (.int .i64 n))],.row .upl 67 l],.pack [.obj 104 [(.row 1),(.p (.int .i64 s))],.row .byte 5 b]]]:=by
  obtain⟨⟨hf,hn⟩,h9⟩:=hneed
  have hcd:=vk f nm
  refine spcG zi mixed Tryz.func79 (by kernel_rfl) { cfgT with keep:=some [0,1,4,5,6,7]} [Ym,Yl,yC,yB,wK,wJ] (by kernel_rfl) ?_
  intro I X hI hX
  refine zh (let y0:HO:=.pack [(.obj 48 [(.ptr 1 0),(.ptr 2 0)]),(.pack [(.obj 90 [(.row 1),(.p (.int .i64 n))]),(.row .upl 67 l)]),(.pack [(.obj 104 [(.row 1),(.p (.int .i64 s))]),(.row .byte 5 b)])];let y1:HO:=.obj 78 [(.ptr 1 0),(.p (.str m)),(.p (.str t)),(.p (.int .i64 mi)),(.p (.list .fld f)),(.p (.int .i64 le))];let y2:=I.hid (α:=Str) (Prod.fst (oneT f nm));.br (I.hid (α:=Bool) (Decidable.decide (Eq (Prod.snd (oneT f nm)) (9:Int)))) (.need (I.hid (α:=(Prop)) (And (And (FOk f) (LE.le (List.length nm) 1000000)) (Eq (Prod.snd (oneT f nm)) (9:Int)))) (.fin (.pan (.ifc 73 .true [(.int .i64 400),(.list .fld (I.hid (α:=(List Fld)) ([]:List Fld))),(.list .byte (I.hid (α:=Str) ([]:Str)))])) [y1,y0])) (.need (I.hid (α:=(Prop)) (And (And (FOk f) (LE.le (List.length nm) 1000000)) (Not (Eq (Prod.snd (oneT f nm)) (9:Int))))) (.br (I.bnot (I.hid (α:=Bool) (Decidable.decide (Eq (Prod.snd (oneT f nm)) (0:Int))))) (.fin (.ret (.v (.one (.p (.int .i64 (Neg.neg (1:Int))))))) [y1,y0]) (.need (I.hid (α:=(Prop)) True) (.br (I.bnot (I.hid (α:=Bool) (Prod.snd (numA y2 (10:Int) (9:Int))))) (.need (I.hid (α:=(Prop)) True) (.fin (.pan (.ifc 73 .true [(.int .i64 400),(.list .fld ([]:List Fld)),(.list .byte (I.hid (α:=Str) ([]:Str)))])) [y1,y0])) (.fin (.ret (.v (.one (.p (.int .i64 (I.hid (α:=Int) (Prod.fst (numA y2 (10:Int) (9:Int))))))))) [y1,y0])))))) (by kernel_rfl) ?_
  simp only [zk]
  subst hI
  unfold xq at h9
  unfold zA
  simp only [nrmA,nrmB,nrlB,reduceCtorEq]
  (repeat' (first|refine And.intro ?_ ?_|intro _))<;>first|omega|exact True.intro|exact False.elim ‹False›|skip
  all_goals first|omega|assumption|(exact hf)|exact hf.1|(exact(hf.2 _ ‹_›).1)|(exact(hf.2 _ ‹_›).2)|(exact⟨hf,by decide⟩)|(exact⟨⟨hf,by decide⟩,‹_›⟩)|(exfalso;simp_all;done)|(simp_all;done)|(simp_all;omega)|(rcases hcd with h|h|h<;>simp_all;done)|trace_state
theorem zkL (m t:Str) (mi:Int) (f:List Fld) (le:Int) (l:List Upl) (n:Int) (b:Str) (s:Int) (nm:Str) (hneed:(FOk f∧nm.length≤1000000)∧xq f nm=false):Spc Tryz.prog 79 [.v (.one (.ptr 0 0)),.v (.one (.p (.str nm)))] [.obj 78 [(.ptr 1 0),(.p (.str m)),(.p (.str t)),(.p (.int .i64 mi)),(.p (.list .fld f)),(.p (.int .i64 le))],.pack [.obj 48 [(.ptr 1 0),(.ptr 2 0)],.pack [.obj 90 [(.row 1),(.p (.int .i64 n))],.row .upl 67 l],.pack [.obj 104 [(.row 1),(.p (.int .i64 s))],.row .byte 5 b]]] (.pan (.ifc 73 true [(.int .i64 400),(.list .fld ([])),(.list .byte ([]))])) [.obj 78 [(.ptr 1 0),(.p (.str m)),(.p (.str t)),(.p (.int .i64 mi)),(.p (.list .fld f)),(.p (.int .i64 le))],.pack [.obj 48 [(.ptr 1 0),(.ptr 2 0)],.pack [.obj 90 [(.row 1),(.p (.int .i64 n))],.row .upl 67 l],.pack [.obj 104 [(.row 1),(.p (.int .i64 s))],.row .byte 5 b]]]:=by
  obtain⟨⟨hf,hn⟩,h9⟩:=hneed
  have hcd:=vk f nm
  refine spcG zi mixed Tryz.func79 (by kernel_rfl) { cfgT with keep:=some [0,1,4,5,6,7]} [Ym,Yl,yC,yB,wK,wJ] (by kernel_rfl) ?_
  intro I X hI hX
  refine zh (let y0:HO:=.pack [(.obj 48 [(.ptr 1 0),(.ptr 2 0)]),(.pack [(.obj 90 [(.row 1),(.p (.int .i64 n))]),(.row .upl 67 l)]),(.pack [(.obj 104 [(.row 1),(.p (.int .i64 s))]),(.row .byte 5 b)])];let y1:HO:=.obj 78 [(.ptr 1 0),(.p (.str m)),(.p (.str t)),(.p (.int .i64 mi)),(.p (.list .fld f)),(.p (.int .i64 le))];let y2:=I.hid (α:=Str) (Prod.fst (oneT f nm));.br (I.hid (α:=Bool) (Decidable.decide (Eq (Prod.snd (oneT f nm)) (9:Int)))) (.need (I.hid (α:=(Prop)) (And (And (FOk f) (LE.le (List.length nm) 1000000)) (Eq (Prod.snd (oneT f nm)) (9:Int)))) (.fin (.pan (.ifc 73 .true [(.int .i64 400),(.list .fld (I.hid (α:=(List Fld)) ([]:List Fld))),(.list .byte (I.hid (α:=Str) ([]:Str)))])) [y1,y0])) (.need (I.hid (α:=(Prop)) (And (And (FOk f) (LE.le (List.length nm) 1000000)) (Not (Eq (Prod.snd (oneT f nm)) (9:Int))))) (.br (I.bnot (I.hid (α:=Bool) (Decidable.decide (Eq (Prod.snd (oneT f nm)) (0:Int))))) (.fin (.ret (.v (.one (.p (.int .i64 (Neg.neg (1:Int))))))) [y1,y0]) (.need (I.hid (α:=(Prop)) True) (.br (I.bnot (I.hid (α:=Bool) (Prod.snd (numA y2 (10:Int) (9:Int))))) (.need (I.hid (α:=(Prop)) True) (.fin (.pan (.ifc 73 .true [(.int .i64 400),(.list .fld ([]:List Fld)),(.list .byte (I.hid (α:=Str) ([]:Str)))])) [y1,y0])) (.fin (.ret (.v (.one (.p (.int .i64 (I.hid (α:=Int) (Prod.fst (numA y2 (10:Int) (9:Int))))))))) [y1,y0])))))) (by kernel_rfl) ?_
  simp only [zk]
  subst hI
  unfold xq at h9
  simp only [nrmA,nrmB,nrlB,reduceCtorEq]
  (repeat' (first|refine And.intro ?_ ?_|intro _))<;>first|omega|exact True.intro|exact False.elim ‹False›|skip
  all_goals first|omega|assumption|(exact hf)|exact hf.1|(exact(hf.2 _ ‹_›).1)|(exact(hf.2 _ ‹_›).2)|(exact⟨hf,by decide⟩)|(exact⟨⟨hf,by decide⟩,‹_›⟩)|(exfalso;simp_all;done)|(simp_all;done)|(simp_all;omega)|(rcases hcd with h|h|h<;>simp_all;done)|trace_state
def Vu (I:Alg) (args:List D) (hp:List HO):Option CT:=match args,hp with
  |[.v (.one (.ptr 0 0)),.v (.one (.p (.str nm)))],[.obj 78 [(.ptr 1 0),(.p (.str m)),(.p (.str t)),(.p (.int .i64 mi)),(.p (.list .fld f)),(.p (.int .i64 le))],.pack [.obj 48 [(.ptr 1 0),(.ptr 2 0)],.pack [.obj 90 [(.row 1),(.p (.int .i64 n))],.row .upl 67 l],.pack [.obj 104 [(.row 1),(.p (.int .i64 s))],.row .byte 5 b]]]=>(fun(m t:Str) (mi:Int) (f:List Fld) (le:Int) (l:List Upl) (n:Int) (b:Str) (s:Int) (nm:Str)=>(some (.br (I.hid (xq f nm)) (.one ⟨I.hid ((FOk f∧nm.length≤1000000)∧xq f nm=true),(.ret (.v (.one (.p (.int .i64 (I.hid ((zA f nm)))))))),[.obj 78 [(.ptr 1 0),(.p (.str m)),(.p (.str t)),(.p (.int .i64 mi)),(.p (.list .fld f)),(.p (.int .i64 le))],.pack [.obj 48 [(.ptr 1 0),(.ptr 2 0)],.pack [.obj 90 [(.row 1),(.p (.int .i64 n))],.row .upl 67 l],.pack [.obj 104 [(.row 1),(.p (.int .i64 s))],.row .byte 5 b]]]⟩) (.one ⟨I.hid ((FOk f∧nm.length≤1000000)∧xq f nm=false),(.pan (.ifc 73 true [(.int .i64 400),(.list .fld (I.hid ([]))),(.list .byte (I.hid ([])))])),[.obj 78 [(.ptr 1 0),(.p (.str m)),(.p (.str t)),(.p (.int .i64 mi)),(.p (.list .fld f)),(.p (.int .i64 le))],.pack [.obj 48 [(.ptr 1 0),(.ptr 2 0)],.pack [.obj 90 [(.row 1),(.p (.int .i64 n))],.row .upl 67 l],.pack [.obj 104 [(.row 1),(.p (.int .i64 s))],.row .byte 5 b]]]⟩)):Option CT)) m t mi f le l n b s nm
  |_,_=>none
theorem zdw:zo Tryz.prog 79 (Vu alg):=by
  intro args hp r h
  unfold Vu at h
  split at h
  · cases h;exact⟨fun _ hn=>zkM _ _ _ _ _ _ _ _ _ _ hn,fun _ hn=>zkL _ _ _ _ _ _ _ _ _ _ hn⟩
  · cases h
def uZ:Know Tryz.prog:=⟨79,Vu,zdw⟩
def uY:Know Tryz.prog:=⟨79,fun I=>zq I (Vu I),zf zdw⟩
theorem ziP (m t:Str) (mi:Int) (f:List Fld) (le:Int) (l:List Upl) (n:Int) (b:Str) (s:Int) (hneed:FOk f∧uT f=true):Spc Tryz.prog 80 [.v (.one (.ptr 0 0))] [.obj 78 [(.ptr 1 0),(.p (.str m)),(.p (.str t)),(.p (.int .i64 mi)),(.p (.list .fld f)),(.p (.int .i64 le))],.pack [.obj 48 [(.ptr 1 0),(.ptr 2 0)],.pack [.obj 90 [(.row 1),(.p (.int .i64 n))],.row .upl 67 l],.pack [.obj 104 [(.row 1),(.p (.int .i64 s))],.row .byte 5 b]]] (.ret (.v (.one (.p (.bool ((Yy f))))))) [.obj 78 [(.ptr 1 0),(.p (.str m)),(.p (.str t)),(.p (.int .i64 mi)),(.p (.list .fld f)),(.p (.int .i64 le))],.pack [.obj 48 [(.ptr 1 0),(.ptr 2 0)],.pack [.obj 90 [(.row 1),(.p (.int .i64 n))],.row .upl 67 l],.pack [.obj 104 [(.row 1),(.p (.int .i64 s))],.row .byte 5 b]]]:=by
  obtain⟨hf,h9⟩:=hneed
  have hcd:=vk f YE
  unfold YE at hcd
  refine spcG zi mixed Tryz.func80 (by kernel_rfl) { cfgT with keep:=some [0,2,3,4]} [yC,yB,wK,wJ] (by kernel_rfl) ?_
  intro I X hI hX
  refine zh (let y0:=([117,112,108,111,97,100,45,100,101,102,101,114,45,108,101,110,103,116,104]:Str);let y1:HO:=.pack [(.obj 48 [(.ptr 1 0),(.ptr 2 0)]),(.pack [(.obj 90 [(.row 1),(.p (.int .i64 n))]),(.row .upl 67 l)]),(.pack [(.obj 104 [(.row 1),(.p (.int .i64 s))]),(.row .byte 5 b)])];let y2:HO:=.obj 78 [(.ptr 1 0),(.p (.str m)),(.p (.str t)),(.p (.int .i64 mi)),(.p (.list .fld f)),(.p (.int .i64 le))];let y3:=I.hid (α:=Bool) (Decidable.decide (Eq (Prod.snd (oneT f y0)) (0:Int)));.br (I.hid (α:=Bool) (Decidable.decide (Eq (Prod.snd (oneT f y0)) (9:Int)))) (.need (I.hid (α:=(Prop)) (And (And (FOk f) (LE.le (List.length y0) 1000000)) (Eq (Prod.snd (oneT f y0)) (9:Int)))) (.fin (.pan (.ifc 73 .true [(.int .i64 400),(.list .fld (I.hid (α:=(List Fld)) ([]:List Fld))),(.list .byte (I.hid (α:=Str) ([]:Str)))])) [y2,y1])) (.need (I.hid (α:=(Prop)) (And (And (FOk f) (LE.le (List.length y0) 1000000)) (Not (Eq (Prod.snd (oneT f y0)) (9:Int))))) (.br y3 (.br (I.bnot (I.seq (I.hid (α:=Str) (Prod.fst (oneT f y0))) ([49]:Str))) (.need (I.hid (α:=(Prop)) True) (.fin (.pan (.ifc 73 .true [(.int .i64 400),(.list .fld ([]:List Fld)),(.list .byte (I.hid (α:=Str) ([]:Str)))])) [y2,y1])) (.fin (.ret (.v (.one (.p (.bool y3))))) [y2,y1])) (.fin (.ret (.v (.one (.p (.bool y3))))) [y2,y1])))) (by kernel_rfl) ?_
  simp only [zk]
  subst hI
  unfold uT YE at h9
  unfold Yy YE
  simp only [nrmA,nrmB,nrlB,reduceCtorEq]
  (repeat' (first|refine And.intro ?_ ?_|intro _))<;>first|omega|exact True.intro|exact False.elim ‹False›|skip
  all_goals first|omega|assumption|(exact hf)|exact hf.1|(exact(hf.2 _ ‹_›).1)|(exact(hf.2 _ ‹_›).2)|(exact⟨hf,by decide⟩)|(exact⟨⟨hf,by decide⟩,‹_›⟩)|(exfalso;simp_all;done)|(simp_all;done)|(simp_all;omega)|(rcases hcd with h|h|h<;>simp_all;done)|trace_state
theorem ziO (m t:Str) (mi:Int) (f:List Fld) (le:Int) (l:List Upl) (n:Int) (b:Str) (s:Int) (hneed:FOk f∧uT f=false):Spc Tryz.prog 80 [.v (.one (.ptr 0 0))] [.obj 78 [(.ptr 1 0),(.p (.str m)),(.p (.str t)),(.p (.int .i64 mi)),(.p (.list .fld f)),(.p (.int .i64 le))],.pack [.obj 48 [(.ptr 1 0),(.ptr 2 0)],.pack [.obj 90 [(.row 1),(.p (.int .i64 n))],.row .upl 67 l],.pack [.obj 104 [(.row 1),(.p (.int .i64 s))],.row .byte 5 b]]] (.pan (.ifc 73 true [(.int .i64 400),(.list .fld ([])),(.list .byte ([]))])) [.obj 78 [(.ptr 1 0),(.p (.str m)),(.p (.str t)),(.p (.int .i64 mi)),(.p (.list .fld f)),(.p (.int .i64 le))],.pack [.obj 48 [(.ptr 1 0),(.ptr 2 0)],.pack [.obj 90 [(.row 1),(.p (.int .i64 n))],.row .upl 67 l],.pack [.obj 104 [(.row 1),(.p (.int .i64 s))],.row .byte 5 b]]]:=by
  obtain⟨hf,h9⟩:=hneed
  have hcd:=vk f YE
  unfold YE at hcd
  refine spcG zi mixed Tryz.func80 (by kernel_rfl) { cfgT with keep:=some [0,2,3,4]} [yC,yB,wK,wJ] (by kernel_rfl) ?_
  intro I X hI hX
  refine zh (let y0:=([117,112,108,111,97,100,45,100,101,102,101,114,45,108,101,110,103,116,104]:Str);let y1:HO:=.pack [(.obj 48 [(.ptr 1 0),(.ptr 2 0)]),(.pack [(.obj 90 [(.row 1),(.p (.int .i64 n))]),(.row .upl 67 l)]),(.pack [(.obj 104 [(.row 1),(.p (.int .i64 s))]),(.row .byte 5 b)])];let y2:HO:=.obj 78 [(.ptr 1 0),(.p (.str m)),(.p (.str t)),(.p (.int .i64 mi)),(.p (.list .fld f)),(.p (.int .i64 le))];let y3:=I.hid (α:=Bool) (Decidable.decide (Eq (Prod.snd (oneT f y0)) (0:Int)));.br (I.hid (α:=Bool) (Decidable.decide (Eq (Prod.snd (oneT f y0)) (9:Int)))) (.need (I.hid (α:=(Prop)) (And (And (FOk f) (LE.le (List.length y0) 1000000)) (Eq (Prod.snd (oneT f y0)) (9:Int)))) (.fin (.pan (.ifc 73 .true [(.int .i64 400),(.list .fld (I.hid (α:=(List Fld)) ([]:List Fld))),(.list .byte (I.hid (α:=Str) ([]:Str)))])) [y2,y1])) (.need (I.hid (α:=(Prop)) (And (And (FOk f) (LE.le (List.length y0) 1000000)) (Not (Eq (Prod.snd (oneT f y0)) (9:Int))))) (.br y3 (.br (I.bnot (I.seq (I.hid (α:=Str) (Prod.fst (oneT f y0))) ([49]:Str))) (.need (I.hid (α:=(Prop)) True) (.fin (.pan (.ifc 73 .true [(.int .i64 400),(.list .fld ([]:List Fld)),(.list .byte (I.hid (α:=Str) ([]:Str)))])) [y2,y1])) (.fin (.ret (.v (.one (.p (.bool y3))))) [y2,y1])) (.fin (.ret (.v (.one (.p (.bool y3))))) [y2,y1])))) (by kernel_rfl) ?_
  simp only [zk]
  subst hI
  unfold uT YE at h9
  simp only [nrmA,nrmB,nrlB,reduceCtorEq]
  (repeat' (first|refine And.intro ?_ ?_|intro _))<;>first|omega|exact True.intro|exact False.elim ‹False›|skip
  all_goals first|omega|assumption|(exact hf)|exact hf.1|(exact(hf.2 _ ‹_›).1)|(exact(hf.2 _ ‹_›).2)|(exact⟨hf,by decide⟩)|(exact⟨⟨hf,by decide⟩,‹_›⟩)|(exfalso;simp_all;done)|(simp_all;done)|(simp_all;omega)|(rcases hcd with h|h|h<;>simp_all;done)|trace_state
def Y1 (I:Alg) (args:List D) (hp:List HO):Option CT:=match args,hp with
  |[.v (.one (.ptr 0 0))],[.obj 78 [(.ptr 1 0),(.p (.str m)),(.p (.str t)),(.p (.int .i64 mi)),(.p (.list .fld f)),(.p (.int .i64 le))],.pack [.obj 48 [(.ptr 1 0),(.ptr 2 0)],.pack [.obj 90 [(.row 1),(.p (.int .i64 n))],.row .upl 67 l],.pack [.obj 104 [(.row 1),(.p (.int .i64 s))],.row .byte 5 b]]]=>(fun(m t:Str) (mi:Int) (f:List Fld) (le:Int) (l:List Upl) (n:Int) (b:Str) (s:Int)=>(some (.br (I.hid (uT f)) (.one ⟨I.hid (FOk f∧uT f=true),(.ret (.v (.one (.p (.bool (I.hid ((Yy f)))))))),[.obj 78 [(.ptr 1 0),(.p (.str m)),(.p (.str t)),(.p (.int .i64 mi)),(.p (.list .fld f)),(.p (.int .i64 le))],.pack [.obj 48 [(.ptr 1 0),(.ptr 2 0)],.pack [.obj 90 [(.row 1),(.p (.int .i64 n))],.row .upl 67 l],.pack [.obj 104 [(.row 1),(.p (.int .i64 s))],.row .byte 5 b]]]⟩) (.one ⟨I.hid (FOk f∧uT f=false),(.pan (.ifc 73 true [(.int .i64 400),(.list .fld (I.hid ([]))),(.list .byte (I.hid ([])))])),[.obj 78 [(.ptr 1 0),(.p (.str m)),(.p (.str t)),(.p (.int .i64 mi)),(.p (.list .fld f)),(.p (.int .i64 le))],.pack [.obj 48 [(.ptr 1 0),(.ptr 2 0)],.pack [.obj 90 [(.row 1),(.p (.int .i64 n))],.row .upl 67 l],.pack [.obj 104 [(.row 1),(.p (.int .i64 s))],.row .byte 5 b]]]⟩)):Option CT)) m t mi f le l n b s
  |_,_=>none
theorem zaV:zo Tryz.prog 80 (Y1 alg):=by
  intro args hp r h
  unfold Y1 at h
  split at h
  · cases h;exact⟨fun _ hn=>ziP _ _ _ _ _ _ _ _ _ hn,fun _ hn=>ziO _ _ _ _ _ _ _ _ _ hn⟩
  · cases h
def zgm:Know Tryz.prog:=⟨80,Y1,zaV⟩
def zgl:Know Tryz.prog:=⟨80,fun I=>zq I (Y1 I),zf zaV⟩
theorem zmn (c:Int) (hneed:c=0):Spc Tryz.prog 57 [.v (.one (.p (.int .i64 c)))] [] (.ret (.tup [])) []:=by
  refine spcG zi mixed Tryz.func57 (by kernel_rfl) { keep:=some [0,2,9,16]} [yC,yB] (by kernel_rfl) ?_
  intro I X hI hX
  refine zh (.br (I.ieq c 0) (.fin (.ret (.tup [])) []) (.br (I.ieq c 10) (.need (I.hid (α:=(Prop)) True) (.fin (.pan (.ifc 73 .true [(.int .i64 404),(.list .fld ([]:List Fld)),(.list .byte (I.hid (α:=Str) ([]:Str)))])) [])) (.br (I.ieq c 17) (.need (I.hid (α:=(Prop)) True) (.fin (.pan (.ifc 73 .true [(.int .i64 409),(.list .fld ([]:List Fld)),(.list .byte (I.hid (α:=Str) ([]:Str)))])) [])) (.br (I.ieq c 19) (.need (I.hid (α:=(Prop)) True) (.fin (.pan (.ifc 73 .true [(.int .i64 409),(.list .fld ([]:List Fld)),(.list .byte (I.hid (α:=Str) ([]:Str)))])) [])) (.br (I.ieq c 4) (.need (I.hid (α:=(Prop)) True) (.fin (.pan (.ifc 73 .true [(.int .i64 413),(.list .fld ([]:List Fld)),(.list .byte (I.hid (α:=Str) ([]:Str)))])) [])) (.br (I.ieq c 8) (.need (I.hid (α:=(Prop)) True) (.fin (.pan (.ifc 73 .true [(.int .i64 507),(.list .fld ([]:List Fld)),(.list .byte (I.hid (α:=Str) ([]:Str)))])) [])) (.br (I.ieq c 16) (.need (I.hid (α:=(Prop)) True) (.fin (.pan (.ifc 73 .true [(.int .i64 507),(.list .fld ([]:List Fld)),(.list .byte (I.hid (α:=Str) ([]:Str)))])) [])) (.need (I.hid (α:=(Prop)) True) (.fin (.pan (.ifc 73 .true [(.int .i64 400),(.list .fld ([]:List Fld)),(.list .byte (I.hid (α:=Str) ([]:Str)))])) []))))))))) (by kernel_rfl) ?_
  simp only [zk]
  subst hI
  simp only [nrmA,nrmB,nrlB,reduceCtorEq]
  (repeat' (first|refine And.intro ?_ ?_|intro _))<;>first|omega|exact True.intro|exact False.elim ‹False›|skip
  all_goals first|omega|(simp_all;done)|trace_state
theorem zmm (c:Int) (hneed: ¬ c=0):Spc Tryz.prog 57 [.v (.one (.p (.int .i64 c)))] [] (.pan (.ifc 73 true [(.int .i64 ((wE c))),(.list .fld ([])),(.list .byte ([]))])) []:=by
  generalize hr:wE c=r
  unfold wE at hr
  refine spcG zi mixed Tryz.func57 (by kernel_rfl) { keep:=some [0,2,9,16]} [yC,yB] (by kernel_rfl) ?_
  intro I X hI hX
  refine zh (.br (I.ieq c 0) (.fin (.ret (.tup [])) []) (.br (I.ieq c 10) (.need (I.hid (α:=(Prop)) True) (.fin (.pan (.ifc 73 .true [(.int .i64 404),(.list .fld ([]:List Fld)),(.list .byte (I.hid (α:=Str) ([]:Str)))])) [])) (.br (I.ieq c 17) (.need (I.hid (α:=(Prop)) True) (.fin (.pan (.ifc 73 .true [(.int .i64 409),(.list .fld ([]:List Fld)),(.list .byte (I.hid (α:=Str) ([]:Str)))])) [])) (.br (I.ieq c 19) (.need (I.hid (α:=(Prop)) True) (.fin (.pan (.ifc 73 .true [(.int .i64 409),(.list .fld ([]:List Fld)),(.list .byte (I.hid (α:=Str) ([]:Str)))])) [])) (.br (I.ieq c 4) (.need (I.hid (α:=(Prop)) True) (.fin (.pan (.ifc 73 .true [(.int .i64 413),(.list .fld ([]:List Fld)),(.list .byte (I.hid (α:=Str) ([]:Str)))])) [])) (.br (I.ieq c 8) (.need (I.hid (α:=(Prop)) True) (.fin (.pan (.ifc 73 .true [(.int .i64 507),(.list .fld ([]:List Fld)),(.list .byte (I.hid (α:=Str) ([]:Str)))])) [])) (.br (I.ieq c 16) (.need (I.hid (α:=(Prop)) True) (.fin (.pan (.ifc 73 .true [(.int .i64 507),(.list .fld ([]:List Fld)),(.list .byte (I.hid (α:=Str) ([]:Str)))])) [])) (.need (I.hid (α:=(Prop)) True) (.fin (.pan (.ifc 73 .true [(.int .i64 400),(.list .fld ([]:List Fld)),(.list .byte (I.hid (α:=Str) ([]:Str)))])) []))))))))) (by kernel_rfl) ?_
  simp only [zk]
  subst hI
  simp only [nrmA,nrmB,nrlB,reduceCtorEq]
  (repeat' (first|refine And.intro ?_ ?_|intro _))<;>first|omega|exact True.intro|exact False.elim ‹False›|skip
  all_goals first|omega|(((repeat(first|rewrite [if_pos (by first|omega|assumption|(simp only [*,or_self,or_true,true_or,or_false,false_or,not_true_eq_false,not_false_eq_true,Bool.false_eq_true,Bool.true_eq_false,and_self,and_true,true_and];done)|(simp only [*];omega)|(simp [*];done)|(simp [*];omega))] at hr|rewrite [if_neg (by first|omega|assumption|(simp only [*,or_self,or_true,true_or,or_false,false_or,not_true_eq_false,not_false_eq_true,Bool.false_eq_true,Bool.true_eq_false,and_self,and_true,true_and];done)|(simp only [*];omega)|(simp [*];done)|(simp [*];omega))] at hr)));omega)|(simp_all;done)|trace_state
def Qg (I:Alg) (args:List D) (hp:List HO):Option CT:=match args,hp with
  |[.v (.one (.p (.int .i64 c)))],[]=>(fun(c:Int)=>(some (.br (I.hid (decide (c=0))) (.one ⟨I.hid (c=0),(.ret (.tup [])),[]⟩) (.one ⟨I.hid (¬ c=0),(.pan (.ifc 73 true [(.int .i64 (I.hid ((wE c)))),(.list .fld (I.hid ([]))),(.list .byte (I.hid ([])))])),[]⟩)):Option CT)) c
  |_,_=>none
theorem zgh:zo Tryz.prog 57 (Qg alg):=by
  intro args hp r h
  unfold Qg at h
  split at h
  · cases h;exact⟨fun _ hn=>zmn _ hn,fun _ hn=>zmm _ hn⟩
  · cases h
def vJ:Know Tryz.prog:=⟨57,Qg,zgh⟩
def vI:Know Tryz.prog:=⟨57,fun I=>zq I (Qg I),zf zgh⟩
theorem znQ (id sz:Int) (no bb:Str) (se:Int) (hneed:sz<1000000000):Spc Tryz.prog 84 [.v (.agg [(.p (.int .i64 id)),(.p (.int .i64 sz)),(.p (.str no)),(.p (.list .byte bb)),(.p (.int .i64 se))])] [] (.ret (.v (.agg [(.p (.str ((lenF ⟨id,sz,no,bb,se⟩).name))),(.p (.str ((lenF ⟨id,sz,no,bb,se⟩).value)))]))) []:=by
  generalize hr:lenF ⟨id,sz,no,bb,se⟩=r
  obtain⟨a,v⟩:=r
  unfold lenF at hr
  refine spcG zi mixed Tryz.func84 (by kernel_rfl) { keep:=some [0,1,2]} [yO,yN,wM,wL] (by kernel_rfl) ?_
  intro I X hI hX
  refine zh (.br (I.ilt sz 0) (.need (I.hid (α:=(Prop)) True) (.fin (.ret (.v (.agg [(.p (.str ([85,112,108,111,97,100,45,68,101,102,101,114,45,76,101,110,103,116,104]:Str))),(.p (.str ([49]:Str)))]))) [])) (.need (I.hid (α:=(Prop)) (And (LE.le (0:Int) sz) (LT.lt sz (1000000000:Int)))) (.need (I.hid (α:=(Prop)) True) (.fin (.ret (.v (.agg [(.p (.str ([85,112,108,111,97,100,45,76,101,110,103,116,104]:Str))),(.p (.str (I.hid (α:=Str) (decS sz))))]))) [])))) (by kernel_rfl) ?_
  simp only [zk]
  subst hI
  simp only [nrmA,nrmB,nrlB,reduceCtorEq,V0.agg.injEq]
  simp only at hr
  (repeat' (first|refine And.intro ?_ ?_|intro _))<;>first|omega|exact True.intro|exact False.elim ‹False›|skip
  all_goals first|omega|(((repeat(first|rewrite [if_pos (by first|omega|assumption|(simp only [*,or_self,or_true,true_or,or_false,false_or,not_true_eq_false,not_false_eq_true,Bool.false_eq_true,Bool.true_eq_false,and_self,and_true,true_and];done)|(simp only [*];omega)|(simp [*];done)|(simp [*];omega))] at hr|rewrite [if_neg (by first|omega|assumption|(simp only [*,or_self,or_true,true_or,or_false,false_or,not_true_eq_false,not_false_eq_true,Bool.false_eq_true,Bool.true_eq_false,and_self,and_true,true_and];done)|(simp only [*];omega)|(simp [*];done)|(simp [*];omega))] at hr)));cases hr;rfl)|(((repeat(first|rewrite [if_pos (by first|omega|assumption|(simp only [*,or_self,or_true,true_or,or_false,false_or,not_true_eq_false,not_false_eq_true,Bool.false_eq_true,Bool.true_eq_false,and_self,and_true,true_and];done)|(simp only [*];omega)|(simp [*];done)|(simp [*];omega))] at hr|rewrite [if_neg (by first|omega|assumption|(simp only [*,or_self,or_true,true_or,or_false,false_or,not_true_eq_false,not_false_eq_true,Bool.false_eq_true,Bool.true_eq_false,and_self,and_true,true_and];done)|(simp only [*];omega)|(simp [*];done)|(simp [*];omega))] at hr)));cases hr;simp [zmd,zme];done)|(simp_all;done)|trace_state
def Qj (I:Alg) (args:List D) (hp:List HO):Option CT:=match args,hp with
  |[.v (.agg [(.p (.int .i64 id)),(.p (.int .i64 sz)),(.p (.str no)),(.p (.list .byte bb)),(.p (.int .i64 se))])],[]=>(fun(id sz:Int) (no bb:Str) (se:Int)=>(some (.one ⟨I.hid (sz<1000000000),(.ret (.v (.agg [(.p (.str (I.hid ((lenF ⟨id,sz,no,bb,se⟩).name)))),(.p (.str (I.hid ((lenF ⟨id,sz,no,bb,se⟩).value))))]))),[]⟩):Option CT)) id sz no bb se
  |_,_=>none
theorem zgk:zo Tryz.prog 84 (Qj alg):=by
  intro args hp r h
  unfold Qj at h
  split at h
  · cases h;exact fun hn=>znQ _ _ _ _ _ hn
  · cases h
def zkO:Know Tryz.prog:=⟨84,Qj,zgk⟩
def zkN:Know Tryz.prog:=⟨84,fun I=>zq I (Qj I),zf zgk⟩
end Go.Proofs.YtcclfkakcgnacaaGreatDoor
namespace Go.Proofs.YtcclfkakcgnacaaGreatDoor
open Go Go.Sep Go.Ab
set_option maxRecDepth 100000
theorem V3 {f:List Fld} (hf:FOk f) (n:Str):(oneT f n).1.length≤1000000:=by
  unfold oneT oneF
  split
  · simp
  · split
    · rename_i h
      rw [List.getD_eq_getElem?_getD]
      cases hq:(valsF f n)[0]? with
      |none=>simp
      | some y=>
        have:=List.mem_of_getElem? hq
        unfold valsF at this
        rw [List.mem_map] at this
        obtain⟨x,hx,rfl⟩:=this
        exact(hf.2 x (List.mem_filter.1 hx).1).2
    · simp
set_option maxHeartbeats 2000000 in
theorem ziQ (m t:Str) (mi:Int) (f:List Fld) (le:Int) (l:List Upl) (n:Int) (b:Str) (s:Int) (hneed:FOk f∧zu l n∧n≤200000∧b.length≤100000):Spc Tryz.prog 53 [.v (.one (.ptr 0 0))] [.obj 78 [(.ptr 1 0),(.p (.str m)),(.p (.str t)),(.p (.int .i64 mi)),(.p (.list .fld f)),(.p (.int .i64 le))],.pack [.obj 48 [(.ptr 1 0),(.ptr 2 0)],.pack [.obj 90 [(.row 1),(.p (.int .i64 n))],.row .upl 67 l],.pack [.obj 104 [(.row 1),(.p (.int .i64 s))],.row .byte 5 b]]] (.pan (.ifc 73 true [(.int .i64 ((yM ⟨l,n,b,s⟩ f).st)),(.list .fld ((yM ⟨l,n,b,s⟩ f).fs)),(.list .byte ([]))])) [.obj 78 [(.ptr 1 0),(.p (.str m)),(.p (.str t)),(.p (.int .i64 mi)),(.p (.list .fld f)),(.p (.int .i64 le))],.pack [.obj 48 [(.ptr 1 0),(.ptr 2 0)],.pack [.obj 90 [(.row 1),(.p (.int .i64 ((yM ⟨l,n,b,s⟩ f).q.n)))],.row .upl 67 ((yM ⟨l,n,b,s⟩ f).q.l)],.pack [.obj 104 [(.row 1),(.p (.int .i64 ((yM ⟨l,n,b,s⟩ f).q.s)))],.row .byte 5 ((yM ⟨l,n,b,s⟩ f).q.b)]]]:=by
  obtain⟨hf,hs,hn,hb⟩:=hneed
  have hn0:=hs.n0
  have hdl:=zW (n+1)
  have hcm:=vk f xU
  have hol:=V3 hf xU
  generalize hr:yM ⟨l,n,b,s⟩ f=r
  obtain⟨st,fs,⟨l',n',b',s'⟩⟩:=r
  unfold yM creE wsC wsS syS at hr
  refine spcG zi mixed Tryz.func53 (by kernel_rfl) { cfgT with keep:=some [0,2,3,4,6,7]} [za0,zaZ,yS,yR,yC,yB,yO,yN,wM,wL,wK,wJ,uZ,uY,zgm,zgl,vJ,vI] (by kernel_rfl) ?_
  intro I X hI hX
  refine zh (let y5:=([117,112,108,111,97,100,45,109,101,116,97,100,97,116,97]:Str);let y0:=I.hid (α:=Str) (Prod.fst (oneT f y5));let y6:=([117,112,108,111,97,100,45,108,101,110,103,116,104]:Str);let y1:=I.hid (α:=Int) (zA f y6);let y2:HO:=.obj 78 [(.ptr 1 0),(.p (.str m)),(.p (.str t)),(.p (.int .i64 mi)),(.p (.list .fld f)),(.p (.int .i64 le))];let y12:HO:=.obj 48 [(.ptr 1 0),(.ptr 2 0)];let y3:HO:=.pack [y12,(.pack [(.obj 90 [(.row 1),(.p (.int .i64 n))]),(.row .upl 67 l)]),(.pack [(.obj 104 [(.row 1),(.p (.int .i64 s))]),(.row .byte 5 b)])];let y4:=I.hid (α:=Int) (ite (Eq (wrtC l n b (Ent.mk (1:Int) (HAdd.hAdd n (1:Int)) y1 y0)) (0:Int)) (HAdd.hAdd n (1:Int)) (0:Int));let y7:=I.hid (α:=Int) (wrtC l n b (Ent.mk (1:Int) (HAdd.hAdd n (1:Int)) y1 y0));let y8:HO:=.pack [(.obj 90 [(.row 1),(.p (.int .i64 (I.hid (α:=Int) (wrtN l n b (Ent.mk (1:Int) (HAdd.hAdd n (1:Int)) y1 y0)))))]),(.row .upl 67 (I.hid (α:=(List Upl)) (wrtL l n b (Ent.mk (1:Int) (HAdd.hAdd n (1:Int)) y1 y0))))];let y9:=I.hid (α:=Str) (wrtB l n b (Ent.mk (1:Int) (HAdd.hAdd n (1:Int)) y1 y0));let y10:=I.hid (α:=(List Fld)) ([]:List Fld);let y11:=([47,102,105,108,101,115,47]:Str);.br (I.hid (α:=Bool) (xq f y6)) (.need (I.hid (α:=(Prop)) (And (And (FOk f) (LE.le (List.length y6) 1000000)) (Eq (xq f y6) Bool.true))) (.br (I.hid (α:=Bool) (uT f)) (.need (I.hid (α:=(Prop)) (And (FOk f) (Eq (uT f) Bool.true))) (.br (I.beq (I.ile 0 y1) (I.hid (α:=Bool) (Yy f))) (.need (I.hid (α:=(Prop)) True) (.fin (.pan (.ifc 73 .true [(.int .i64 400),(.list .fld ([]:List Fld)),(.list .byte (I.hid (α:=Str) ([]:Str)))])) [y2,y3])) (.br (I.hid (α:=Bool) (Decidable.decide (Eq (Prod.snd (oneT f y5)) (9:Int)))) (.need (I.hid (α:=(Prop)) (And (And (FOk f) (LE.le (List.length y5) 1000000)) (Eq (Prod.snd (oneT f y5)) (9:Int)))) (.fin (.pan (.ifc 73 .true [(.int .i64 400),(.list .fld y10),(.list .byte (I.hid (α:=Str) ([]:Str)))])) [y2,y3])) (.need (I.hid (α:=(Prop)) (And (And (FOk f) (LE.le (List.length y5) 1000000)) (Not (Eq (Prod.snd (oneT f y5)) (9:Int))))) (.need (I.hid (α:=(Prop)) (And (zu l n) (And (LE.le n (200000:Int)) (And (LE.le (List.length y0) 1000000) (LE.le (List.length b) 100000))))) (.br (I.hid (α:=Bool) (Decidable.decide (Eq y7 (0:Int)))) (.need (I.hid (α:=(Prop)) (Eq y7 (0:Int))) (.need (I.hid (α:=(Prop)) True) (.need (I.hid (α:=(Prop)) (And (LE.le (0:Int) y4) (LT.lt y4 (1000000000:Int)))) (.need (I.few (I.add (I.len (α:=UInt8) y11) (I.len (α:=UInt8) (I.hid (α:=Str) (decS y4)))) 1000000000) (.need (I.hid (α:=(Prop)) True) (.need (I.hid (α:=(Prop)) True) (.fin (.pan (.ifc 73 .true [(.int .i64 201),(.list .fld ([(Fld.mk ([76,111,99,97,116,105,111,110]:Str) (I.app (α:=UInt8) y11 (I.hid (α:=Str) (decS y4))))]:List Fld)),(.list .byte (I.hid (α:=Str) ([]:Str)))])) [y2,(.pack [y12,y8,(.pack [(.obj 104 [(.row 1),(.p (.int .i64 (I.hid (α:=Int) (Nat.cast (List.length y9)))))]),(.row .byte 5 y9)])])]))))))) (.need (I.hid (α:=(Prop)) (Not (Eq y7 (0:Int)))) (.fin (.pan (.ifc 73 .true [(.int .i64 (I.hid (α:=Int) (wE y7))),(.list .fld y10),(.list .byte (I.hid (α:=Str) ([]:Str)))])) [y2,(.pack [y12,y8,(.pack [(.obj 104 [(.row 1),(.p (.int .i64 s))]),(.row .byte 5 y9)])])])))))))) (.need (I.hid (α:=(Prop)) (And (FOk f) (Eq (uT f) Bool.false))) (.fin (.pan (.ifc 73 .true [(.int .i64 400),(.list .fld y10),(.list .byte (I.hid (α:=Str) ([]:Str)))])) [y2,y3])))) (.need (I.hid (α:=(Prop)) (And (And (FOk f) (LE.le (List.length y6) 1000000)) (Eq (xq f y6) Bool.false))) (.fin (.pan (.ifc 73 .true [(.int .i64 400),(.list .fld y10),(.list .byte (I.hid (α:=Str) ([]:Str)))])) [y2,y3]))) (by kernel_rfl) ?_
  simp only [zk]
  subst hI
  unfold zI xU at *
  unfold locN yT at hr
  simp only at hr
  simp only [nrmA,nrmB,nrlB,reduceCtorEq,HO.pack.injEq,HO.obj.injEq]
  by_cases h1:xq f [117,112,108,111,97,100,45,108,101,110,103,116,104]=false
  · rw [if_pos h1] at hr
    cases hr
    (repeat' (first|refine And.intro ?_ ?_|intro _))<;>first|omega|exact True.intro|exact False.elim ‹False›|skip
    all_goals first
      |omega
      |assumption
      |exact hs
      |exact hf.1
      |(exact(hf.2 _ ‹_›).1)
      |(exact(hf.2 _ ‹_›).2)
      |(simp only [List.length_cons,List.length_nil];omega)
      |(simp_all;done)
      |(exfalso;simp_all;done)
      |(simp only [wrtL,wrtN,wrtB,if_neg h5];done)
  rw [if_neg h1] at hr
  simp only [Bool.not_eq_false] at h1
  by_cases h2:uT f=false
  · rw [if_pos h2] at hr
    cases hr
    (repeat' (first|refine And.intro ?_ ?_|intro _))<;>first|omega|exact True.intro|exact False.elim ‹False›|skip
    all_goals first
      |omega
      |assumption
      |exact hs
      |exact hf.1
      |(exact(hf.2 _ ‹_›).1)
      |(exact(hf.2 _ ‹_›).2)
      |(simp only [List.length_cons,List.length_nil];omega)
      |(simp_all;done)
      |(exfalso;simp_all;done)
      |(simp only [wrtL,wrtN,wrtB,if_neg h5];done)
  rw [if_neg h2] at hr
  simp only [Bool.not_eq_false] at h2
  by_cases h3:decide (0≤zA f [117,112,108,111,97,100,45,108,101,110,103,116,104])=Yy f
  · rw [if_pos h3] at hr
    cases hr
    (repeat' (first|refine And.intro ?_ ?_|intro _))<;>first|omega|exact True.intro|exact False.elim ‹False›|skip
    all_goals first
      |omega
      |assumption
      |exact hs
      |exact hf.1
      |(exact(hf.2 _ ‹_›).1)
      |(exact(hf.2 _ ‹_›).2)
      |(simp only [List.length_cons,List.length_nil];omega)
      |(simp_all;done)
      |(exfalso;simp_all;done)
      |(simp only [wrtL,wrtN,wrtB,if_neg h5];done)
  rw [if_neg h3] at hr
  by_cases h4:(oneT f [117,112,108,111,97,100,45,109,101,116,97,100,97,116,97]).2=9
  · rw [if_pos h4] at hr
    cases hr
    (repeat' (first|refine And.intro ?_ ?_|intro _))<;>first|omega|exact True.intro|exact False.elim ‹False›|skip
    all_goals first
      |omega
      |assumption
      |exact hs
      |exact hf.1
      |(exact(hf.2 _ ‹_›).1)
      |(exact(hf.2 _ ‹_›).2)
      |(simp only [List.length_cons,List.length_nil];omega)
      |(simp_all;done)
      |(exfalso;simp_all;done)
      |(simp only [wrtL,wrtN,wrtB,if_neg h5];done)
  rw [if_neg h4] at hr
  generalize(oneT f [117,112,108,111,97,100,45,109,101,116,97,100,97,116,97]).1=mt at *
  generalize zA f [117,112,108,111,97,100,45,108,101,110,103,116,104]=nv at *
  by_cases h5:wrtC l n b ⟨1,n+1,nv,mt⟩=0
  · rw [if_neg (fun h=>h h5)] at hr
    cases hr
    simp only [h5,if_true] at *
    (repeat' (first|refine And.intro ?_ ?_|intro _))<;>first|omega|exact True.intro|exact False.elim ‹False›|skip
    all_goals first
      |omega
      |assumption
      |exact hs
      |exact hf.1
      |(exact(hf.2 _ ‹_›).1)
      |(exact(hf.2 _ ‹_›).2)
      |(simp only [List.length_cons,List.length_nil];omega)
      |(simp_all;done)
      |(exfalso;simp_all;done)
      |(simp only [wrtL,wrtN,wrtB,if_neg h5];done)
  · rw [if_pos h5] at hr
    cases hr
    (repeat' (first|refine And.intro ?_ ?_|intro _))<;>first|omega|exact True.intro|exact False.elim ‹False›|skip
    all_goals first
      |omega
      |assumption
      |exact hs
      |exact hf.1
      |(exact(hf.2 _ ‹_›).1)
      |(exact(hf.2 _ ‹_›).2)
      |(simp only [List.length_cons,List.length_nil];omega)
      |(simp_all;done)
      |(exfalso;simp_all;done)
      |(simp only [wrtL,wrtN,wrtB,if_neg h5];done)
def ZN (I:Alg) (args:List D) (hp:List HO):Option CT:=match args,hp with
  |[.v (.one (.ptr 0 0))],[.obj 78 [(.ptr 1 0),(.p (.str m)),(.p (.str t)),(.p (.int .i64 mi)),(.p (.list .fld f)),(.p (.int .i64 le))],.pack [.obj 48 [(.ptr 1 0),(.ptr 2 0)],.pack [.obj 90 [(.row 1),(.p (.int .i64 n))],.row .upl 67 l],.pack [.obj 104 [(.row 1),(.p (.int .i64 s))],.row .byte 5 b]]]=>(fun(m t:Str) (mi:Int) (f:List Fld) (le:Int) (l:List Upl) (n:Int) (b:Str) (s:Int)=>(some (.one ⟨I.hid (FOk f∧zu l n∧n≤200000∧b.length≤100000),(.pan (.ifc 73 true [(.int .i64 (I.hid ((yM ⟨l,n,b,s⟩ f).st))),(.list .fld (I.hid ((yM ⟨l,n,b,s⟩ f).fs))),(.list .byte (I.hid ([])))])),[.obj 78 [(.ptr 1 0),(.p (.str m)),(.p (.str t)),(.p (.int .i64 mi)),(.p (.list .fld f)),(.p (.int .i64 le))],.pack [.obj 48 [(.ptr 1 0),(.ptr 2 0)],.pack [.obj 90 [(.row 1),(.p (.int .i64 (I.hid ((yM ⟨l,n,b,s⟩ f).q.n))))],.row .upl 67 (I.hid ((yM ⟨l,n,b,s⟩ f).q.l))],.pack [.obj 104 [(.row 1),(.p (.int .i64 (I.hid ((yM ⟨l,n,b,s⟩ f).q.s))))],.row .byte 5 (I.hid ((yM ⟨l,n,b,s⟩ f).q.b))]]]⟩):Option CT)) m t mi f le l n b s
  |_,_=>none
theorem SB:zo Tryz.prog 53 (ZN alg):=by
  intro args hp r h
  unfold ZN at h
  split at h
  · cases h;exact fun hn=>ziQ _ _ _ _ _ _ _ _ _ hn
  · cases h
def qj:Know Tryz.prog:=⟨53,ZN,SB⟩
def qi:Know Tryz.prog:=⟨53,fun I=>zq I (ZN I),zf SB⟩
theorem zmj (m t:Str) (mi:Int) (f:List Fld) (le:Int) (l:List Upl) (n:Int) (b:Str) (s:Int) (hneed:zu l n∧uplB ⟨l,n,b,s⟩ t=true):Spc Tryz.prog 54 [.v (.one (.ptr 0 0))] [.obj 78 [(.ptr 1 0),(.p (.str m)),(.p (.str t)),(.p (.int .i64 mi)),(.p (.list .fld f)),(.p (.int .i64 le))],.pack [.obj 48 [(.ptr 1 0),(.ptr 2 0)],.pack [.obj 90 [(.row 1),(.p (.int .i64 n))],.row .upl 67 l],.pack [.obj 104 [(.row 1),(.p (.int .i64 s))],.row .byte 5 b]]] (.ret (.v (.agg [(.p (.int .i64 ((getU l (idV t)).id))),(.p (.int .i64 ((getU l (idV t)).size))),(.p (.str ((getU l (idV t)).note))),(.p (.list .byte ((getU l (idV t)).bytes))),(.p (.int .i64 ((getU l (idV t)).sent)))]))) [.obj 78 [(.ptr 1 0),(.p (.str m)),(.p (.str t)),(.p (.int .i64 mi)),(.p (.list .fld f)),(.p (.int .i64 le))],.pack [.obj 48 [(.ptr 1 0),(.ptr 2 0)],.pack [.obj 90 [(.row 1),(.p (.int .i64 n))],.row .upl 67 l],.pack [.obj 104 [(.row 1),(.p (.int .i64 s))],.row .byte 5 b]]]:=by
  obtain⟨hs,hu⟩:=hneed
  have hnn:=sG (t.drop 7)
  have hnx:=sG (Lib.trimPrefix t yT)
  have htp:Lib.hasPrefix t yT=true→Lib.trimPrefix t yT=t.drop 7:=fun h=>by unfold Lib.trimPrefix;rw [if_pos h];rfl
  unfold uplB idB idV at hu
  try unfold idV
  refine spcG zi mixed Tryz.func54 (by kernel_rfl) { cfgT with keep:=some [0,2,3,4,5,6,7]} [Ym,Yl,ZX,ZW,X3,X0,Ve,Vd,yC,yB,wM,wL] (by kernel_rfl) ?_
  intro I X hI hX
  refine zh (let y3:=I.hid (α:=Str) (Go.Lib.trimPrefix t ([47,102,105,108,101,115,47]:Str));let y0:=I.hid (α:=Int) (Prod.fst (numA y3 (10:Int) (9:Int)));let y1:HO:=.pack [(.obj 48 [(.ptr 1 0),(.ptr 2 0)]),(.pack [(.obj 90 [(.row 1),(.p (.int .i64 n))]),(.row .upl 67 l)]),(.pack [(.obj 104 [(.row 1),(.p (.int .i64 s))]),(.row .byte 5 b)])];let y2:HO:=.obj 78 [(.ptr 1 0),(.p (.str m)),(.p (.str t)),(.p (.int .i64 mi)),(.p (.list .fld f)),(.p (.int .i64 le))];.need (I.hid (α:=(Prop)) True) (.need (I.hid (α:=(Prop)) True) (.br (I.bnot (I.hid (α:=Bool) (Go.Lib.hasPrefix t ([47,102,105,108,101,115,47]:Str)))) (.need (I.hid (α:=(Prop)) True) (.fin (.pan (.ifc 73 .true [(.int .i64 404),(.list .fld ([]:List Fld)),(.list .byte (I.hid (α:=Str) ([]:Str)))])) [y2,y1])) (.br (I.bnot (I.hid (α:=Bool) (Prod.snd (numA y3 (10:Int) (9:Int))))) (.need (I.hid (α:=(Prop)) True) (.fin (.pan (.ifc 73 .true [(.int .i64 404),(.list .fld ([]:List Fld)),(.list .byte (I.hid (α:=Str) ([]:Str)))])) [y2,y1])) (.need (I.hid (α:=(Prop)) (And (LE.le (0:Int) y0) (LT.lt y0 (1000000000:Int)))) (.br (I.bnot (I.seq (I.hid (α:=Str) (decS y0)) y3)) (.need (I.hid (α:=(Prop)) True) (.fin (.pan (.ifc 73 .true [(.int .i64 404),(.list .fld ([]:List Fld)),(.list .byte (I.hid (α:=Str) ([]:Str)))])) [y2,y1])) (.need (I.hid (α:=(Prop)) (zu l n)) (.br (I.bnot (I.hid (α:=Bool) (getB l y0))) (.need (I.hid (α:=(Prop)) True) (.fin (.pan (.ifc 73 .true [(.int .i64 404),(.list .fld ([]:List Fld)),(.list .byte (I.hid (α:=Str) ([]:Str)))])) [y2,y1])) (.fin (.ret (.v (.agg [(.p (.int .i64 (I.hid (α:=Int) (Upl.id (getU l y0))))),(.p (.int .i64 (I.hid (α:=Int) (Upl.size (getU l y0))))),(.p (.str (I.hid (α:=Str) (Upl.note (getU l y0))))),(.p (.list .byte (I.hid (α:=Str) (Upl.bytes (getU l y0))))),(.p (.int .i64 (I.hid (α:=Int) (Upl.sent (getU l y0)))))]))) [y2,y1]))))))))) (by kernel_rfl) ?_
  simp only [zk]
  subst hI
  rw [show([47,102,105,108,101,115,47]:Str)=yT from rfl]
  simp only [nrmA,nrmB,nrlB,reduceCtorEq,HO.pack.injEq,HO.obj.injEq]
  generalize Lib.hasPrefix t yT=hb at *
  cases hb with
  | true=>
    rw [htp rfl] at *
    generalize t.drop 7=tt at *
    generalize numA tt 10 9=na at *
    obtain⟨nv,ok⟩:=na
    simp only [Bool.true_and] at *
    (repeat' (first|refine And.intro ?_ ?_|intro _))<;>first|omega|exact True.intro|exact False.elim ‹False›|skip
    all_goals first|omega|assumption|exact hs|(simp_all;done)|trace_state
  | false=>
    simp only [Bool.false_and] at *
    (repeat' (first|refine And.intro ?_ ?_|intro _))<;>first|omega|exact True.intro|exact False.elim ‹False›|skip
    all_goals first|omega|assumption|exact hs|(simp_all;done)|trace_state
theorem zmi (m t:Str) (mi:Int) (f:List Fld) (le:Int) (l:List Upl) (n:Int) (b:Str) (s:Int) (hneed:zu l n∧uplB ⟨l,n,b,s⟩ t=false):Spc Tryz.prog 54 [.v (.one (.ptr 0 0))] [.obj 78 [(.ptr 1 0),(.p (.str m)),(.p (.str t)),(.p (.int .i64 mi)),(.p (.list .fld f)),(.p (.int .i64 le))],.pack [.obj 48 [(.ptr 1 0),(.ptr 2 0)],.pack [.obj 90 [(.row 1),(.p (.int .i64 n))],.row .upl 67 l],.pack [.obj 104 [(.row 1),(.p (.int .i64 s))],.row .byte 5 b]]] (.pan (.ifc 73 true [(.int .i64 404),(.list .fld ([])),(.list .byte ([]))])) [.obj 78 [(.ptr 1 0),(.p (.str m)),(.p (.str t)),(.p (.int .i64 mi)),(.p (.list .fld f)),(.p (.int .i64 le))],.pack [.obj 48 [(.ptr 1 0),(.ptr 2 0)],.pack [.obj 90 [(.row 1),(.p (.int .i64 n))],.row .upl 67 l],.pack [.obj 104 [(.row 1),(.p (.int .i64 s))],.row .byte 5 b]]]:=by
  obtain⟨hs,hu⟩:=hneed
  have hnn:=sG (t.drop 7)
  have hnx:=sG (Lib.trimPrefix t yT)
  have htp:Lib.hasPrefix t yT=true→Lib.trimPrefix t yT=t.drop 7:=fun h=>by unfold Lib.trimPrefix;rw [if_pos h];rfl
  unfold uplB idB idV at hu
  try unfold idV
  refine spcG zi mixed Tryz.func54 (by kernel_rfl) { cfgT with keep:=some [0,2,3,4,5,6,7]} [Ym,Yl,ZX,ZW,X3,X0,Ve,Vd,yC,yB,wM,wL] (by kernel_rfl) ?_
  intro I X hI hX
  refine zh (let y3:=I.hid (α:=Str) (Go.Lib.trimPrefix t ([47,102,105,108,101,115,47]:Str));let y0:=I.hid (α:=Int) (Prod.fst (numA y3 (10:Int) (9:Int)));let y1:HO:=.pack [(.obj 48 [(.ptr 1 0),(.ptr 2 0)]),(.pack [(.obj 90 [(.row 1),(.p (.int .i64 n))]),(.row .upl 67 l)]),(.pack [(.obj 104 [(.row 1),(.p (.int .i64 s))]),(.row .byte 5 b)])];let y2:HO:=.obj 78 [(.ptr 1 0),(.p (.str m)),(.p (.str t)),(.p (.int .i64 mi)),(.p (.list .fld f)),(.p (.int .i64 le))];.need (I.hid (α:=(Prop)) True) (.need (I.hid (α:=(Prop)) True) (.br (I.bnot (I.hid (α:=Bool) (Go.Lib.hasPrefix t ([47,102,105,108,101,115,47]:Str)))) (.need (I.hid (α:=(Prop)) True) (.fin (.pan (.ifc 73 .true [(.int .i64 404),(.list .fld ([]:List Fld)),(.list .byte (I.hid (α:=Str) ([]:Str)))])) [y2,y1])) (.br (I.bnot (I.hid (α:=Bool) (Prod.snd (numA y3 (10:Int) (9:Int))))) (.need (I.hid (α:=(Prop)) True) (.fin (.pan (.ifc 73 .true [(.int .i64 404),(.list .fld ([]:List Fld)),(.list .byte (I.hid (α:=Str) ([]:Str)))])) [y2,y1])) (.need (I.hid (α:=(Prop)) (And (LE.le (0:Int) y0) (LT.lt y0 (1000000000:Int)))) (.br (I.bnot (I.seq (I.hid (α:=Str) (decS y0)) y3)) (.need (I.hid (α:=(Prop)) True) (.fin (.pan (.ifc 73 .true [(.int .i64 404),(.list .fld ([]:List Fld)),(.list .byte (I.hid (α:=Str) ([]:Str)))])) [y2,y1])) (.need (I.hid (α:=(Prop)) (zu l n)) (.br (I.bnot (I.hid (α:=Bool) (getB l y0))) (.need (I.hid (α:=(Prop)) True) (.fin (.pan (.ifc 73 .true [(.int .i64 404),(.list .fld ([]:List Fld)),(.list .byte (I.hid (α:=Str) ([]:Str)))])) [y2,y1])) (.fin (.ret (.v (.agg [(.p (.int .i64 (I.hid (α:=Int) (Upl.id (getU l y0))))),(.p (.int .i64 (I.hid (α:=Int) (Upl.size (getU l y0))))),(.p (.str (I.hid (α:=Str) (Upl.note (getU l y0))))),(.p (.list .byte (I.hid (α:=Str) (Upl.bytes (getU l y0))))),(.p (.int .i64 (I.hid (α:=Int) (Upl.sent (getU l y0)))))]))) [y2,y1]))))))))) (by kernel_rfl) ?_
  simp only [zk]
  subst hI
  rw [show([47,102,105,108,101,115,47]:Str)=yT from rfl]
  simp only [nrmA,nrmB,nrlB,reduceCtorEq,HO.pack.injEq,HO.obj.injEq]
  generalize Lib.hasPrefix t yT=hb at *
  cases hb with
  | true=>
    rw [htp rfl] at *
    generalize t.drop 7=tt at *
    generalize numA tt 10 9=na at *
    obtain⟨nv,ok⟩:=na
    simp only [Bool.true_and] at *
    (repeat' (first|refine And.intro ?_ ?_|intro _))<;>first|omega|exact True.intro|exact False.elim ‹False›|skip
    all_goals first|omega|assumption|exact hs|(simp_all;done)|trace_state
  | false=>
    simp only [Bool.false_and] at *
    (repeat' (first|refine And.intro ?_ ?_|intro _))<;>first|omega|exact True.intro|exact False.elim ‹False›|skip
    all_goals first|omega|assumption|exact hs|(simp_all;done)|trace_state
def Qe (I:Alg) (args:List D) (hp:List HO):Option CT:=match args,hp with
  |[.v (.one (.ptr 0 0))],[.obj 78 [(.ptr 1 0),(.p (.str m)),(.p (.str t)),(.p (.int .i64 mi)),(.p (.list .fld f)),(.p (.int .i64 le))],.pack [.obj 48 [(.ptr 1 0),(.ptr 2 0)],.pack [.obj 90 [(.row 1),(.p (.int .i64 n))],.row .upl 67 l],.pack [.obj 104 [(.row 1),(.p (.int .i64 s))],.row .byte 5 b]]]=>(fun(m t:Str) (mi:Int) (f:List Fld) (le:Int) (l:List Upl) (n:Int) (b:Str) (s:Int)=>(some (.br (I.hid (uplB ⟨l,n,b,s⟩ t)) (.one ⟨I.hid (zu l n∧uplB ⟨l,n,b,s⟩ t=true),(.ret (.v (.agg [(.p (.int .i64 (I.hid ((getU l (idV t)).id)))),(.p (.int .i64 (I.hid ((getU l (idV t)).size)))),(.p (.str (I.hid ((getU l (idV t)).note)))),(.p (.list .byte (I.hid ((getU l (idV t)).bytes)))),(.p (.int .i64 (I.hid ((getU l (idV t)).sent))))]))),[.obj 78 [(.ptr 1 0),(.p (.str m)),(.p (.str t)),(.p (.int .i64 mi)),(.p (.list .fld f)),(.p (.int .i64 le))],.pack [.obj 48 [(.ptr 1 0),(.ptr 2 0)],.pack [.obj 90 [(.row 1),(.p (.int .i64 n))],.row .upl 67 l],.pack [.obj 104 [(.row 1),(.p (.int .i64 s))],.row .byte 5 b]]]⟩) (.one ⟨I.hid (zu l n∧uplB ⟨l,n,b,s⟩ t=false),(.pan (.ifc 73 true [(.int .i64 404),(.list .fld (I.hid ([]))),(.list .byte (I.hid ([])))])),[.obj 78 [(.ptr 1 0),(.p (.str m)),(.p (.str t)),(.p (.int .i64 mi)),(.p (.list .fld f)),(.p (.int .i64 le))],.pack [.obj 48 [(.ptr 1 0),(.ptr 2 0)],.pack [.obj 90 [(.row 1),(.p (.int .i64 n))],.row .upl 67 l],.pack [.obj 104 [(.row 1),(.p (.int .i64 s))],.row .byte 5 b]]]⟩)):Option CT)) m t mi f le l n b s
  |_,_=>none
theorem zge:zo Tryz.prog 54 (Qe alg):=by
  intro args hp r h
  unfold Qe at h
  split at h
  · cases h;exact⟨fun _ hn=>zmj _ _ _ _ _ _ _ _ _ hn,fun _ hn=>zmi _ _ _ _ _ _ _ _ _ hn⟩
  · cases h
def Uw:Know Tryz.prog:=⟨54,Qe,zge⟩
def Uu:Know Tryz.prog:=⟨54,fun I=>zq I (Qe I),zf zge⟩
theorem zmk (m t:Str) (mi:Int) (f:List Fld) (le:Int) (l:List Upl) (n:Int) (b:Str) (s:Int) (ui uz:Int) (uo ub:Str) (us:Int) (hneed:uz<1000000000∧ub.length<1000000):Spc Tryz.prog 55 [.v (.one (.ptr 0 0)),.v (.agg [(.p (.int .i64 ui)),(.p (.int .i64 uz)),(.p (.str uo)),(.p (.list .byte ub)),(.p (.int .i64 us))])] [.obj 78 [(.ptr 1 0),(.p (.str m)),(.p (.str t)),(.p (.int .i64 mi)),(.p (.list .fld f)),(.p (.int .i64 le))],.pack [.obj 48 [(.ptr 1 0),(.ptr 2 0)],.pack [.obj 90 [(.row 1),(.p (.int .i64 n))],.row .upl 67 l],.pack [.obj 104 [(.row 1),(.p (.int .i64 s))],.row .byte 5 b]]] (.pan (.ifc 73 true [(.int .i64 200),(.list .fld ((Yr ⟨ui,uz,uo,ub,us⟩))),(.list .byte ([]))])) [.obj 78 [(.ptr 1 0),(.p (.str m)),(.p (.str t)),(.p (.int .i64 mi)),(.p (.list .fld f)),(.p (.int .i64 le))],.pack [.obj 48 [(.ptr 1 0),(.ptr 2 0)],.pack [.obj 90 [(.row 1),(.p (.int .i64 n))],.row .upl 67 l],.pack [.obj 104 [(.row 1),(.p (.int .i64 s))],.row .byte 5 b]]]:=by
  obtain⟨h1,h2⟩:=hneed
  generalize hr:Yr ⟨ui,uz,uo,ub,us⟩=r
  unfold Yr at hr
  generalize hl:lenF ⟨ui,uz,uo,ub,us⟩=lf at hr
  obtain⟨ln,lv⟩:=lf
  refine spcG zi mixed Tryz.func55 (by kernel_rfl) { cfgT with keep:=some [0,1,3,4]} [yC,yB,yO,yN,wM,wL,zkO,zkN] (by kernel_rfl) ?_
  intro I X hI hX
  refine zh (let y0:HO:=.pack [(.obj 48 [(.ptr 1 0),(.ptr 2 0)]),(.pack [(.obj 90 [(.row 1),(.p (.int .i64 n))]),(.row .upl 67 l)]),(.pack [(.obj 104 [(.row 1),(.p (.int .i64 s))]),(.row .byte 5 b)])];let y1:=([85,112,108,111,97,100,45,79,102,102,115,101,116]:Str);let y2:=([67,97,99,104,101,45,67,111,110,116,114,111,108]:Str);let y3:=I.hid (α:=Str) (Fld.value (lenF (Upl.mk ui uz uo ub us)));let y4:=I.hid (α:=Str) (Fld.name (lenF (Upl.mk ui uz uo ub us)));let y5:HO:=.obj 78 [(.ptr 1 0),(.p (.str m)),(.p (.str t)),(.p (.int .i64 mi)),(.p (.list .fld f)),(.p (.int .i64 le))];let y6:=I.hid (α:=Str) (decS (I.len (α:=UInt8) ub));let y7:=([110,111,45,115,116,111,114,101]:Str);let y8:=([85,112,108,111,97,100,45,77,101,116,97,100,97,116,97]:Str);.need (I.hid (α:=(Prop)) (And (LE.le (0:Int) (I.len (α:=UInt8) ub)) (LT.lt (I.len (α:=UInt8) ub) (1000000000:Int)))) (.need (I.hid (α:=(Prop)) True) (.need (I.hid (α:=(Prop)) (LT.lt uz (1000000000:Int))) (.need (I.hid (α:=(Prop)) True) (.br (I.bnot (I.seq uo ([]:Str))) (.need (I.hid (α:=(Prop)) True) (.need (I.few (I.add (I.len (α:=Fld) ([(Fld.mk y1 y6),(Fld.mk y4 y3),(Fld.mk y2 y7)]:List Fld)) (I.len (α:=Fld) ([(Fld.mk y8 uo)]:List Fld))) 100000000) (.need (I.hid (α:=(Prop)) True) (.fin (.pan (.ifc 73 .true [(.int .i64 200),(.list .fld (I.app (α:=Fld) ([(Fld.mk y1 y6),(Fld.mk y4 y3),(Fld.mk y2 y7)]:List Fld) ([(Fld.mk y8 uo)]:List Fld))),(.list .byte (I.hid (α:=Str) ([]:Str)))])) [y5,y0])))) (.need (I.hid (α:=(Prop)) True) (.fin (.pan (.ifc 73 .true [(.int .i64 200),(.list .fld ([(Fld.mk y1 y6),(Fld.mk y4 y3),(Fld.mk y2 y7)]:List Fld)),(.list .byte (I.hid (α:=Str) ([]:Str)))])) [y5,y0]))))))) (by kernel_rfl) ?_
  simp only [zk]
  subst hI
  simp only at hr
  simp only [nrmA,nrmB,nrlB,reduceCtorEq,HO.pack.injEq,HO.obj.injEq]
  rw [hl]
  (repeat' (first|refine And.intro ?_ ?_|intro _))<;>first|omega|exact True.intro|exact False.elim ‹False›|skip
  all_goals first|omega|with_reducible assumption|(subst hr;simp_all;done)|(subst hr;(simp_all [qh,znG,zm8,zmc]);done)|trace_state
def Vr (I:Alg) (args:List D) (hp:List HO):Option CT:=match args,hp with
  |[.v (.one (.ptr 0 0)),.v (.agg [(.p (.int .i64 ui)),(.p (.int .i64 uz)),(.p (.str uo)),(.p (.list .byte ub)),(.p (.int .i64 us))])],[.obj 78 [(.ptr 1 0),(.p (.str m)),(.p (.str t)),(.p (.int .i64 mi)),(.p (.list .fld f)),(.p (.int .i64 le))],.pack [.obj 48 [(.ptr 1 0),(.ptr 2 0)],.pack [.obj 90 [(.row 1),(.p (.int .i64 n))],.row .upl 67 l],.pack [.obj 104 [(.row 1),(.p (.int .i64 s))],.row .byte 5 b]]]=>(fun(m t:Str) (mi:Int) (f:List Fld) (le:Int) (l:List Upl) (n:Int) (b:Str) (s:Int) (ui uz:Int) (uo ub:Str) (us:Int)=>(some (.one ⟨I.hid (uz<1000000000∧ub.length<1000000),(.pan (.ifc 73 true [(.int .i64 200),(.list .fld (I.hid ((Yr ⟨ui,uz,uo,ub,us⟩)))),(.list .byte (I.hid ([])))])),[.obj 78 [(.ptr 1 0),(.p (.str m)),(.p (.str t)),(.p (.int .i64 mi)),(.p (.list .fld f)),(.p (.int .i64 le))],.pack [.obj 48 [(.ptr 1 0),(.ptr 2 0)],.pack [.obj 90 [(.row 1),(.p (.int .i64 n))],.row .upl 67 l],.pack [.obj 104 [(.row 1),(.p (.int .i64 s))],.row .byte 5 b]]]⟩):Option CT)) m t mi f le l n b s ui uz uo ub us
  |_,_=>none
theorem zds:zo Tryz.prog 55 (Vr alg):=by
  intro args hp r h
  unfold Vr at h
  split at h
  · cases h;exact fun hn=>zmk _ _ _ _ _ _ _ _ _ _ _ _ _ _ hn
  · cases h
def YX:Know Tryz.prog:=⟨55,Vr,zds⟩
def YW:Know Tryz.prog:=⟨55,fun I=>zq I (Vr I),zf zds⟩
end Go.Proofs.YtcclfkakcgnacaaGreatDoor
namespace Go.Proofs.YtcclfkakcgnacaaGreatDoor
open Go Go.Sep Go.Ab
set_option maxRecDepth 100000
theorem Uk {l:List Upl} {n:Int} {b:Str} {e:Ent} (h:e.kind≠1):wrtN l n b e=n:=by
  unfold wrtN Zw
  rw [if_neg h]
  split<;>rfl
set_option maxHeartbeats 8000000 in
theorem zkK (m t:Str) (mi:Int) (f:List Fld) (le:Int) (l:List Upl) (n:Int) (b:Str) (s:Int) (ui uz:Int) (uo ub:Str) (us:Int) (body:Str) (hneed:FOk f∧zu l n∧n≤200000∧b.length≤100000∧body.length≤100000∧ub.length≤1000000∧uz≤1000000):Spc Tryz.prog 56 [.v (.one (.ptr 0 0)),.v (.agg [(.p (.int .i64 ui)),(.p (.int .i64 uz)),(.p (.str uo)),(.p (.list .byte ub)),(.p (.int .i64 us))]),.v (.one (.p (.list .byte body)))] [.obj 78 [(.ptr 1 0),(.p (.str m)),(.p (.str t)),(.p (.int .i64 mi)),(.p (.list .fld f)),(.p (.int .i64 le))],.pack [.obj 48 [(.ptr 1 0),(.ptr 2 0)],.pack [.obj 90 [(.row 1),(.p (.int .i64 n))],.row .upl 67 l],.pack [.obj 104 [(.row 1),(.p (.int .i64 s))],.row .byte 5 b]]] (.pan (.ifc 73 true [(.int .i64 ((zX ⟨l,n,b,s⟩ ⟨ui,uz,uo,ub,us⟩ f body).st)),(.list .fld ((zX ⟨l,n,b,s⟩ ⟨ui,uz,uo,ub,us⟩ f body).fs)),(.list .byte ([]))])) [.obj 78 [(.ptr 1 0),(.p (.str m)),(.p (.str t)),(.p (.int .i64 mi)),(.p (.list .fld f)),(.p (.int .i64 le))],.pack [.obj 48 [(.ptr 1 0),(.ptr 2 0)],.pack [.obj 90 [(.row 1),(.p (.int .i64 ((zX ⟨l,n,b,s⟩ ⟨ui,uz,uo,ub,us⟩ f body).q.n)))],.row .upl 67 ((zX ⟨l,n,b,s⟩ ⟨ui,uz,uo,ub,us⟩ f body).q.l)],.pack [.obj 104 [(.row 1),(.p (.int .i64 ((zX ⟨l,n,b,s⟩ ⟨ui,uz,uo,ub,us⟩ f body).q.s)))],.row .byte 5 ((zX ⟨l,n,b,s⟩ ⟨ui,uz,uo,ub,us⟩ f body).q.b)]]]:=by
  obtain⟨hf,hs,hn,hb,hbl,hub,huz⟩:=hneed
  have hn0:=hs.n0
  have hcm:=vk f Wv
  have hol:=V3 hf Wv
  have hs2:=zdh hs b (apE ui body)
  have hnn:wrtN l n b (apE ui body)=n:=Uk (by simp [apE])
  have hbb:=Vl (l:=l) (n:=n) (b:=b) (apE ui body) hb
  generalize hr:zX ⟨l,n,b,s⟩ ⟨ui,uz,uo,ub,us⟩ f body=r
  obtain⟨st,fs,⟨l',n',b',s'⟩⟩:=r
  unfold zX wsC wsS syS at hr
  simp only at hr
  refine spcG zi mixed Tryz.func56 (by kernel_rfl) { cfgT with seam:=[5,10,17],keep:=some [0,1,2,4,6,8,9,10,11]} [uI,uH,xX,xW,xB,xA,yS,yR,vC,vz,yC,yB,yO,yN,wM,wL,wK,wJ,uZ,uY,vJ,vI] (by kernel_rfl) ?_
  intro I X hI hX
  refine zh (let y0:=([99,111,110,116,101,110,116,45,116,121,112,101]:Str);let y1:HO:=.pack [(.obj 48 [(.ptr 1 0),(.ptr 2 0)]),(.pack [(.obj 90 [(.row 1),(.p (.int .i64 n))]),(.row .upl 67 l)]),(.pack [(.obj 104 [(.row 1),(.p (.int .i64 s))]),(.row .byte 5 b)])];let y2:HO:=.obj 78 [(.ptr 1 0),(.p (.str m)),(.p (.str t)),(.p (.int .i64 mi)),(.p (.list .fld f)),(.p (.int .i64 le))];let y3:=I.hid (α:=Str) (Prod.fst (oneT f y0));let y4:=I.hid (α:=Str) (Go.Ab.Med.word (Prod.fst (xY y3)));let y5:=I.hid (α:=Int) (Prod.snd (xY y3));.br (I.hid (α:=Bool) (Decidable.decide (Eq (Prod.snd (oneT f y0)) (9:Int)))) (.need (I.hid (α:=(Prop)) (And (And (FOk f) (LE.le (List.length y0) 1000000)) (Eq (Prod.snd (oneT f y0)) (9:Int)))) (.fin (.pan (.ifc 73 .true [(.int .i64 400),(.list .fld (I.hid (α:=(List Fld)) ([]:List Fld))),(.list .byte (I.hid (α:=Str) ([]:Str)))])) [y2,y1])) (.need (I.hid (α:=(Prop)) (And (And (FOk f) (LE.le (List.length y0) 1000000)) (Not (Eq (Prod.snd (oneT f y0)) (9:Int))))) (.need (I.hid (α:=(Prop)) (LE.le (List.length y3) 1000000)) (.br (I.bnot (I.ieq y5 0)) (.need (I.hid (α:=(Prop)) True) (.fin (.pan (.ifc 73 .true [(.int .i64 415),(.list .fld ([]:List Fld)),(.list .byte (I.hid (α:=Str) ([]:Str)))])) [y2,y1])) (.br (I.bnot (I.seq y4 ([97,112,112,108,105,99,97,116,105,111,110,47,111,102,102,115,101,116,43,111,99,116,101,116,45,115,116,114,101,97,109]:Str))) (.need (I.hid (α:=(Prop)) True) (.fin (.pan (.ifc 73 .true [(.int .i64 415),(.list .fld ([]:List Fld)),(.list .byte (I.hid (α:=Str) ([]:Str)))])) [y2,y1])) (.code 0 [1,1,1,1,0] ⟨[(9,(.v (.one (.p (.int .i64 y5))))),(8,(.v (.one (.ptr 3 0)))),(6,(.v (.one (.p (.str y3))))),(4,(.v (.one (.ptr 2 0)))),(0,(.v (.one (.ptr 0 0)))),(1,(.v (.agg [(.p (.int .i64 ui)),(.p (.int .i64 uz)),(.p (.str uo)),(.p (.list .byte ub)),(.p (.int .i64 us))]))),(2,(.v (.one (.p (.list .byte body)))))],[y2,y1,(.obj 67 [(.p (.int .i64 ui)),(.p (.int .i64 uz)),(.p (.str uo)),(.p (.list .byte ub)),(.p (.int .i64 us))]),(.obj 115 [(.p (.str y4)),(.p (.list .fld (I.hid (α:=(List Fld)) (Go.Ab.Med.params (Prod.fst (xY y3))))))])],131,none⟩)))))) (by kernel_rfl) ?_
  simp only [zk]
  have hh: ∀ {α:Type} (x:α),I.hid x=x:=by subst hI;intros;rfl
  have key17: ∀ (nv sz:Int),nv=(ub.length:Int)→(if(if apG l ui nv then 17 else wrtC l n b (apE ui body))≠0 then(⟨wE (if apG l ui nv then 17 else wrtC l n b (apE ui body)),[],⟨l,n,b,s⟩⟩:TA)
    else if 0≤sz∧uz<0 then
      if wrtC (wrtL l n b (apE ui body)) (wrtN l n b (apE ui body)) (wrtB l n b (apE ui body)) ⟨3,ui,sz,[]⟩≠0 then(⟨wE (wrtC (wrtL l n b (apE ui body)) (wrtN l n b (apE ui body)) (wrtB l n b (apE ui body)) ⟨3,ui,sz,[]⟩),[],⟨wrtL l n b (apE ui body),wrtN l n b (apE ui body),wrtB l n b (apE ui body),s⟩⟩:TA)
      else(⟨204,[⟨qh,decS (nv+(body.length:Int))⟩],⟨wrtL (wrtL l n b (apE ui body)) (wrtN l n b (apE ui body)) (wrtB l n b (apE ui body)) ⟨3,ui,sz,[]⟩,wrtN (wrtL l n b (apE ui body)) (wrtN l n b (apE ui body)) (wrtB l n b (apE ui body)) ⟨3,ui,sz,[]⟩,wrtB (wrtL l n b (apE ui body)) (wrtN l n b (apE ui body)) (wrtB l n b (apE ui body)) ⟨3,ui,sz,[]⟩,((wrtB (wrtL l n b (apE ui body)) (wrtN l n b (apE ui body)) (wrtB l n b (apE ui body)) ⟨3,ui,sz,[]⟩).length:Int)⟩⟩:TA)
    else(⟨204,[⟨qh,decS (nv+(body.length:Int))⟩],⟨wrtL l n b (apE ui body),wrtN l n b (apE ui body),wrtB l n b (apE ui body),((wrtB l n b (apE ui body)).length:Int)⟩⟩:TA))=⟨st,fs,⟨l',n',b',s'⟩⟩→Ok Tryz.prog X (fun o h=>o=AOut.pan (C.ifc 73 true [P.int IntKind.i64 st,P.list U.fld fs,P.list U.byte []])∧h=[HO.obj 78 [C.ptr 1 0,C.p (P.str m),C.p (P.str t),C.p (P.int IntKind.i64 mi),C.p (P.list U.fld f),C.p (P.int IntKind.i64 le)],HO.pack [HO.obj 48 [C.ptr 1 0,C.ptr 2 0],HO.pack [HO.obj 90 [C.row 1,C.p (P.int IntKind.i64 n')],HO.row U.upl 67 l'],HO.pack [HO.obj 104 [C.row 1,C.p (P.int IntKind.i64 s')],HO.row U.byte 5 b']]]) (go I tab { cfgT with seam:=[5,10,17],keep:=some [0,1,2,4,6,8,9,10,11]} [uI,uH,xX,xW,xB,xA,yS,yR,vC,vz,yC,yB,yO,yN,wM,wL,wK,wJ,uZ,uY,vJ,vI] [⟨yH Tryz.f56,finK I tab { cfgT with seam:=[5,10,17],keep:=some [0,1,2,4,6,8,9,10,11]} 2 Tryz.f56⟩] 0 [1,1,1,1,1,1,1,1,0] ⟨[(0,.v (.one (.ptr 0 0))),(1,.v (.agg [(.p (.int .i64 ui)),(.p (.int .i64 uz)),(.p (.str uo)),(.p (.list .byte ub)),(.p (.int .i64 us))])),(2,.v (.one (.p (.list .byte body)))),(4,.v (.one (.ptr 2 0))),(10,.v (.one (.p (.int .i64 nv)))),(11,.v (.one (.p (.int .i64 sz))))],[.obj 78 [(.ptr 1 0),(.p (.str m)),(.p (.str t)),(.p (.int .i64 mi)),(.p (.list .fld f)),(.p (.int .i64 le))],.pack [.obj 48 [(.ptr 1 0),(.ptr 2 0)],.pack [.obj 90 [(.row 1),(.p (.int .i64 n))],.row .upl 67 l],.pack [.obj 104 [(.row 1),(.p (.int .i64 s))],.row .byte 5 b]],.pack [.obj 67 [(.p (.int .i64 ui)),(.p (.int .i64 uz)),(.p (.str uo)),(.p (.list .byte ub)),(.p (.int .i64 us))]]],131,none⟩):=by
    intro nv sz hnv hr
    refine zh (let y0:=I.hid (α:=Str) (ite (Eq (apG l ui nv) Bool.true) b (wrtB l n b (Ent.mk (2:Int) ui (0:Int) body)));let y1:=I.hid (α:=Int) (ite (Eq (apG l ui nv) Bool.true) n (wrtN l n b (Ent.mk (2:Int) ui (0:Int) body)));let y2:=I.hid (α:=(List Upl)) (ite (Eq (apG l ui nv) Bool.true) l (wrtL l n b (Ent.mk (2:Int) ui (0:Int) body)));let y3:HO:=.obj 78 [(.ptr 1 0),(.p (.str m)),(.p (.str t)),(.p (.int .i64 mi)),(.p (.list .fld f)),(.p (.int .i64 le))];let y4:=I.add nv (I.len (α:=UInt8) body);let y5:=I.hid (α:=Int) (ite (Eq (apG l ui nv) Bool.true) (17:Int) (wrtC l n b (Ent.mk (2:Int) ui (0:Int) body)));let y12:HO:=.obj 48 [(.ptr 1 0),(.ptr 2 0)];let y6:HO:=.pack [y12,(.pack [(.obj 90 [(.row 1),(.p (.int .i64 y1))]),(.row .upl 67 y2)]),(.pack [(.obj 104 [(.row 1),(.p (.int .i64 (I.hid (α:=Int) (Nat.cast (List.length y0)))))]),(.row .byte 5 y0)])];let y7:HO:=.pack [(.obj 90 [(.row 1),(.p (.int .i64 (I.hid (α:=Int) (wrtN y2 y1 y0 (Ent.mk (3:Int) ui sz ([]:Str))))))]),(.row .upl 67 (I.hid (α:=(List Upl)) (wrtL y2 y1 y0 (Ent.mk (3:Int) ui sz ([]:Str)))))];let y8:=I.hid (α:=Int) (wrtC y2 y1 y0 (Ent.mk (3:Int) ui sz ([]:Str)));let y9:=I.hid (α:=(Prop)) (And (LE.le (0:Int) y4) (LT.lt y4 (1000000000:Int)));let y10:=I.hid (α:=Str) (wrtB y2 y1 y0 (Ent.mk (3:Int) ui sz ([]:Str)));let y11:=([85,112,108,111,97,100,45,79,102,102,115,101,116]:Str);let y13:=I.hid (α:=(List Fld)) ([]:List Fld);let y14:HO:=.obj 104 [(.row 1),(.p (.int .i64 s))];.need (I.hid (α:=(Prop)) (And (zu l n) (And (LE.le n (200000:Int)) (And (LE.le (List.length body) 1000000) (LE.le (List.length b) 100000))))) (.br (I.hid (α:=Bool) (Decidable.decide (Eq y5 (0:Int)))) (.need (I.hid (α:=(Prop)) (Eq y5 (0:Int))) (.br (I.ile 0 sz) (.br (I.ilt uz 0) (.need (I.hid (α:=(Prop)) (And (zu y2 y1) (And (LE.le y1 (200000:Int)) (LE.le (List.length y0) 100000)))) (.br (I.hid (α:=Bool) (Decidable.decide (Eq y8 (0:Int)))) (.need (I.hid (α:=(Prop)) (Eq y8 (0:Int))) (.need (I.hid (α:=(Prop)) True) (.need (I.inr Go.IntKind.i64 y4) (.need y9 (.need (I.hid (α:=(Prop)) True) (.need (I.hid (α:=(Prop)) True) (.fin (.pan (.ifc 73 .true [(.int .i64 204),(.list .fld ([(Fld.mk y11 (I.hid (α:=Str) (decS y4)))]:List Fld)),(.list .byte (I.hid (α:=Str) ([]:Str)))])) [y3,(.pack [y12,y7,(.pack [(.obj 104 [(.row 1),(.p (.int .i64 (I.hid (α:=Int) (Nat.cast (List.length y10)))))]),(.row .byte 5 y10)])])]))))))) (.need (I.hid (α:=(Prop)) (Not (Eq y8 (0:Int)))) (.fin (.pan (.ifc 73 .true [(.int .i64 (I.hid (α:=Int) (wE y8))),(.list .fld y13),(.list .byte (I.hid (α:=Str) ([]:Str)))])) [y3,(.pack [y12,y7,(.pack [y14,(.row .byte 5 y10)])])])))) (.need (I.hid (α:=(Prop)) True) (.need (I.inr Go.IntKind.i64 y4) (.need y9 (.need (I.hid (α:=(Prop)) True) (.need (I.hid (α:=(Prop)) True) (.fin (.pan (.ifc 73 .true [(.int .i64 204),(.list .fld ([(Fld.mk y11 (I.hid (α:=Str) (decS y4)))]:List Fld)),(.list .byte (I.hid (α:=Str) ([]:Str)))])) [y3,y6]))))))) (.need (I.hid (α:=(Prop)) True) (.need (I.inr Go.IntKind.i64 y4) (.need y9 (.need (I.hid (α:=(Prop)) True) (.need (I.hid (α:=(Prop)) True) (.fin (.pan (.ifc 73 .true [(.int .i64 204),(.list .fld ([(Fld.mk y11 (I.hid (α:=Str) (decS y4)))]:List Fld)),(.list .byte (I.hid (α:=Str) ([]:Str)))])) [y3,y6])))))))) (.need (I.hid (α:=(Prop)) (Not (Eq y5 (0:Int)))) (.fin (.pan (.ifc 73 .true [(.int .i64 (I.hid (α:=Int) (wE y5))),(.list .fld y13),(.list .byte (I.hid (α:=Str) ([]:Str)))])) [y3,(.pack [y12,(.pack [(.obj 90 [(.row 1),(.p (.int .i64 y1))]),(.row .upl 67 y2)]),(.pack [y14,(.row .byte 5 y0)])])])))) (by kernel_rfl) ?_
    simp only [zk]
    clear hX hcm hol
    unfold qh at hr
    unfold apE at *
    subst hI
    simp only [nrmA,nrmB,nrlB,reduceCtorEq,HO.pack.injEq,HO.obj.injEq]
    by_cases hg:apG l ui nv=true
    · simp only [hg,if_true] at hr ⊢
      rw [if_pos (by decide)] at hr
      clear hs2 hnn hbb
      simp only [TA.mk.injEq,Sto.mk.injEq] at hr
      obtain⟨q1,q2,q3,q4,q5,q6⟩:=hr
      subst q1 q2 q3 q4 q5 q6
      simp only [nrmA,nrmB,nrlB,reduceCtorEq,HO.pack.injEq,HO.obj.injEq,decide_true,decide_false,Bool.true_eq_false,Bool.false_eq_true,forall_const,false_implies,true_implies,not_true_eq_false,not_false_eq_true]
      (repeat' (first|refine And.intro ?_ ?_|intro _))<;>first|omega|exact True.intro|exact False.elim ‹False›|skip
      all_goals first
        |with_reducible rfl
        |with_reducible assumption
        |omega
        |exact hs
        |exact hf.1
        |(exact(hf.2 _ ‹_›).1)
        |(exact(hf.2 _ ‹_›).2)
        |exact⟨hf,by decide⟩
        |exact⟨⟨hf,by decide⟩,by assumption⟩
        |(simp only [List.length_cons,List.length_nil];omega)
        |(exfalso;simp_all;done)
    simp only [hg,Bool.false_eq_true,if_false] at hr ⊢
    clear hg
    by_cases h1:wrtC l n b ⟨2,ui,0,body⟩=0
    · rw [if_neg (fun h=>h h1)] at hr
      simp only [h1] at ⊢
      clear h1
      generalize wrtL l n b ⟨2,ui,0,body⟩=l2 at *
      generalize wrtN l n b ⟨2,ui,0,body⟩=n2 at *
      generalize wrtB l n b ⟨2,ui,0,body⟩=b2 at *
      by_cases h2:0≤sz∧uz<0
      · rw [if_pos h2] at hr
        by_cases h3:wrtC l2 n2 b2 ⟨3,ui,sz,[]⟩=0
        · rw [if_neg (fun h=>h h3)] at hr
          simp only [TA.mk.injEq,Sto.mk.injEq] at hr
          obtain⟨q1,q2,q3,q4,q5,q6⟩:=hr
          subst q1 q2 q3 q4 q5 q6
          simp only [h3] at ⊢
          clear h3
          simp only [nrmA,nrmB,nrlB,reduceCtorEq,HO.pack.injEq,HO.obj.injEq,decide_true,decide_false,Bool.true_eq_false,Bool.false_eq_true,forall_const,false_implies,true_implies,not_true_eq_false,not_false_eq_true]
          (repeat' (first|refine And.intro ?_ ?_|intro _))<;>first|omega|exact True.intro|exact False.elim ‹False›|skip
          all_goals first
            |with_reducible rfl
            |with_reducible assumption
            |omega
            |exact hs
            |exact hf.1
            |(exact(hf.2 _ ‹_›).1)
            |(exact(hf.2 _ ‹_›).2)
            |exact⟨hf,by decide⟩
            |exact⟨⟨hf,by decide⟩,by assumption⟩
            |(simp only [List.length_cons,List.length_nil];omega)
            |(exfalso;simp_all;done)
        · rw [if_pos h3] at hr
          simp only [TA.mk.injEq,Sto.mk.injEq] at hr
          obtain⟨q1,q2,q3,q4,q5,q6⟩:=hr
          subst q1 q2 q3 q4 q5 q6
          have e1:wrtL l2 n2 b2 ⟨3,ui,sz,[]⟩=l2:=by simp only [wrtL,if_neg h3]
          have e2:wrtN l2 n2 b2 ⟨3,ui,sz,[]⟩=n2:=by simp only [wrtN,if_neg h3]
          have e3:wrtB l2 n2 b2 ⟨3,ui,sz,[]⟩=b2:=by simp only [wrtB,if_neg h3]
          rw [e1,e2,e3]
          clear e1 e2 e3
          generalize wrtC l2 n2 b2 ⟨3,ui,sz,[]⟩=c3 at *
          simp only [nrmA,nrmB,nrlB,reduceCtorEq,HO.pack.injEq,HO.obj.injEq,decide_true,decide_false,Bool.true_eq_false,Bool.false_eq_true,forall_const,false_implies,true_implies,not_true_eq_false,not_false_eq_true,h3]
          (repeat' (first|refine And.intro ?_ ?_|intro _))<;>first|omega|exact True.intro|exact False.elim ‹False›|skip
          all_goals first
            |with_reducible rfl
            |with_reducible assumption
            |omega
            |exact hs
            |exact hf.1
            |(exact(hf.2 _ ‹_›).1)
            |(exact(hf.2 _ ‹_›).2)
            |exact⟨hf,by decide⟩
            |exact⟨⟨hf,by decide⟩,by assumption⟩
            |(simp only [List.length_cons,List.length_nil];omega)
            |(exfalso;simp_all;done)
      · rw [if_neg h2] at hr
        simp only [TA.mk.injEq,Sto.mk.injEq] at hr
        obtain⟨q1,q2,q3,q4,q5,q6⟩:=hr
        subst q1 q2 q3 q4 q5 q6
        simp only [nrmA,nrmB,nrlB,reduceCtorEq,HO.pack.injEq,HO.obj.injEq,decide_true,decide_false,Bool.true_eq_false,Bool.false_eq_true,forall_const,false_implies,true_implies,not_true_eq_false,not_false_eq_true]
        (repeat' (first|refine And.intro ?_ ?_|intro _))<;>first|omega|exact True.intro|exact False.elim ‹False›|skip
        all_goals first
          |with_reducible rfl
          |with_reducible assumption
          |omega
          |exact hs
          |exact hf.1
          |(exact(hf.2 _ ‹_›).1)
          |(exact(hf.2 _ ‹_›).2)
          |exact⟨hf,by decide⟩
          |exact⟨⟨hf,by decide⟩,by assumption⟩
          |(simp only [List.length_cons,List.length_nil];omega)
          |(exfalso;simp_all;done)
    · rw [if_pos h1] at hr
      simp only [TA.mk.injEq,Sto.mk.injEq] at hr
      obtain⟨q1,q2,q3,q4,q5,q6⟩:=hr
      subst q1 q2 q3 q4 q5 q6
      have e1:wrtL l n b ⟨2,ui,0,body⟩=l:=by simp only [wrtL,if_neg h1]
      have e2:wrtN l n b ⟨2,ui,0,body⟩=n:=by simp only [wrtN,if_neg h1]
      have e3:wrtB l n b ⟨2,ui,0,body⟩=b:=by simp only [wrtB,if_neg h1]
      rw [e1,e2,e3]
      clear e1 e2 e3 hs2 hnn hbb
      generalize wrtC l n b ⟨2,ui,0,body⟩=c2 at *
      simp only [nrmA,nrmB,nrlB,reduceCtorEq,HO.pack.injEq,HO.obj.injEq,decide_true,decide_false,Bool.true_eq_false,Bool.false_eq_true,forall_const,false_implies,true_implies,not_true_eq_false,not_false_eq_true,h1]
      (repeat' (first|refine And.intro ?_ ?_|intro _))<;>first|omega|exact True.intro|exact False.elim ‹False›|skip
      all_goals first
        |with_reducible rfl
        |with_reducible assumption
        |omega
        |exact hs
        |exact hf.1
        |(exact(hf.2 _ ‹_›).1)
        |(exact(hf.2 _ ‹_›).2)
        |exact⟨hf,by decide⟩
        |exact⟨⟨hf,by decide⟩,by assumption⟩
        |(simp only [List.length_cons,List.length_nil];omega)
        |(exfalso;simp_all;done)
  have key10: ∀ (nv:Int),nv=(ub.length:Int)→(if xq f zI=false then(⟨400,[],⟨l,n,b,s⟩⟩:TA)
    else if 0≤zA f zI∧0≤uz∧zA f zI≠uz then(⟨400,[],⟨l,n,b,s⟩⟩:TA)
    else if 0≤zA f zI∧uz<0∧(2000<zA f zI∨zA f zI<nv+(body.length:Int)) then(⟨413,[],⟨l,n,b,s⟩⟩:TA)
    else if tJ b ((body.length:Int)+60)=false then(⟨507,[],⟨l,n,b,s⟩⟩:TA)
    else(if(if apG l ui nv then 17 else wrtC l n b (apE ui body))≠0 then(⟨wE (if apG l ui nv then 17 else wrtC l n b (apE ui body)),[],⟨l,n,b,s⟩⟩:TA)
    else if 0≤(zA f zI)∧uz<0 then
      if wrtC (wrtL l n b (apE ui body)) (wrtN l n b (apE ui body)) (wrtB l n b (apE ui body)) ⟨3,ui,(zA f zI),[]⟩≠0 then(⟨wE (wrtC (wrtL l n b (apE ui body)) (wrtN l n b (apE ui body)) (wrtB l n b (apE ui body)) ⟨3,ui,(zA f zI),[]⟩),[],⟨wrtL l n b (apE ui body),wrtN l n b (apE ui body),wrtB l n b (apE ui body),s⟩⟩:TA)
      else(⟨204,[⟨qh,decS (nv+(body.length:Int))⟩],⟨wrtL (wrtL l n b (apE ui body)) (wrtN l n b (apE ui body)) (wrtB l n b (apE ui body)) ⟨3,ui,(zA f zI),[]⟩,wrtN (wrtL l n b (apE ui body)) (wrtN l n b (apE ui body)) (wrtB l n b (apE ui body)) ⟨3,ui,(zA f zI),[]⟩,wrtB (wrtL l n b (apE ui body)) (wrtN l n b (apE ui body)) (wrtB l n b (apE ui body)) ⟨3,ui,(zA f zI),[]⟩,((wrtB (wrtL l n b (apE ui body)) (wrtN l n b (apE ui body)) (wrtB l n b (apE ui body)) ⟨3,ui,(zA f zI),[]⟩).length:Int)⟩⟩:TA)
    else(⟨204,[⟨qh,decS (nv+(body.length:Int))⟩],⟨wrtL l n b (apE ui body),wrtN l n b (apE ui body),wrtB l n b (apE ui body),((wrtB l n b (apE ui body)).length:Int)⟩⟩:TA)))=⟨st,fs,⟨l',n',b',s'⟩⟩→Ok Tryz.prog X (fun o h=>o=AOut.pan (C.ifc 73 true [P.int IntKind.i64 st,P.list U.fld fs,P.list U.byte []])∧h=[HO.obj 78 [C.ptr 1 0,C.p (P.str m),C.p (P.str t),C.p (P.int IntKind.i64 mi),C.p (P.list U.fld f),C.p (P.int IntKind.i64 le)],HO.pack [HO.obj 48 [C.ptr 1 0,C.ptr 2 0],HO.pack [HO.obj 90 [C.row 1,C.p (P.int IntKind.i64 n')],HO.row U.upl 67 l'],HO.pack [HO.obj 104 [C.row 1,C.p (P.int IntKind.i64 s')],HO.row U.byte 5 b']]]) (go I tab { cfgT with seam:=[5,10,17],keep:=some [0,1,2,4,6,8,9,10,11]} [uI,uH,xX,xW,xB,xA,yS,yR,vC,vz,yC,yB,yO,yN,wM,wL,wK,wJ,uZ,uY,vJ,vI] [⟨yH Tryz.f56,finK I tab { cfgT with seam:=[5,10,17],keep:=some [0,1,2,4,6,8,9,10,11]} 2 Tryz.f56⟩] 0 [1,1,1,1,1,1,0] ⟨[(0,.v (.one (.ptr 0 0))),(1,.v (.agg [(.p (.int .i64 ui)),(.p (.int .i64 uz)),(.p (.str uo)),(.p (.list .byte ub)),(.p (.int .i64 us))])),(2,.v (.one (.p (.list .byte body)))),(4,.v (.one (.ptr 2 0))),(10,.v (.one (.p (.int .i64 nv))))],[.obj 78 [(.ptr 1 0),(.p (.str m)),(.p (.str t)),(.p (.int .i64 mi)),(.p (.list .fld f)),(.p (.int .i64 le))],.pack [.obj 48 [(.ptr 1 0),(.ptr 2 0)],.pack [.obj 90 [(.row 1),(.p (.int .i64 n))],.row .upl 67 l],.pack [.obj 104 [(.row 1),(.p (.int .i64 s))],.row .byte 5 b]],.pack [.obj 67 [(.p (.int .i64 ui)),(.p (.int .i64 uz)),(.p (.str uo)),(.p (.list .byte ub)),(.p (.int .i64 us))]]],131,none⟩):=by
    intro nv hnv hr
    refine zh (let y0:HO:=.pack [(.obj 48 [(.ptr 1 0),(.ptr 2 0)]),(.pack [(.obj 90 [(.row 1),(.p (.int .i64 n))]),(.row .upl 67 l)]),(.pack [(.obj 104 [(.row 1),(.p (.int .i64 s))]),(.row .byte 5 b)])];let y1:HO:=.obj 78 [(.ptr 1 0),(.p (.str m)),(.p (.str t)),(.p (.int .i64 mi)),(.p (.list .fld f)),(.p (.int .i64 le))];let y7:=([117,112,108,111,97,100,45,108,101,110,103,116,104]:Str);let y2:=I.hid (α:=Int) (zA f y7);let y3:HO:=.obj 67 [(.p (.int .i64 ui)),(.p (.int .i64 uz)),(.p (.str uo)),(.p (.list .byte ub)),(.p (.int .i64 us))];let y4:=I.bnot (I.hid (α:=Bool) (tJ b (I.add (I.len (α:=UInt8) body) 60)));let y5:=I.inr Go.IntKind.i64 (I.add (I.len (α:=UInt8) body) 60);let y6:=I.hid (α:=(Prop)) (LE.le (List.length b) 100000);let y8:=I.add nv (I.len (α:=UInt8) body);.br (I.hid (α:=Bool) (xq f y7)) (.need (I.hid (α:=(Prop)) (And (And (FOk f) (LE.le (List.length y7) 1000000)) (Eq (xq f y7) Bool.true))) (.br (I.ile 0 y2) (.br (I.ile 0 uz) (.br (I.bnot (I.ieq y2 uz)) (.need (I.hid (α:=(Prop)) True) (.fin (.pan (.ifc 73 .true [(.int .i64 400),(.list .fld ([]:List Fld)),(.list .byte (I.hid (α:=Str) ([]:Str)))])) [y1,y0])) (.br (I.ile 0 y2) (.br (I.ilt uz 0) (.br (I.ilt 2000 y2) (.need (I.hid (α:=(Prop)) True) (.fin (.pan (.ifc 73 .true [(.int .i64 413),(.list .fld ([]:List Fld)),(.list .byte (I.hid (α:=Str) ([]:Str)))])) [y1,y0])) (.need (I.inr Go.IntKind.i64 y8) (.br (I.ilt y2 y8) (.need (I.hid (α:=(Prop)) True) (.fin (.pan (.ifc 73 .true [(.int .i64 413),(.list .fld ([]:List Fld)),(.list .byte (I.hid (α:=Str) ([]:Str)))])) [y1,y0])) (.need y5 (.need y6 (.br y4 (.need (I.hid (α:=(Prop)) True) (.fin (.pan (.ifc 73 .true [(.int .i64 507),(.list .fld ([]:List Fld)),(.list .byte (I.hid (α:=Str) ([]:Str)))])) [y1,y0])) (.code 0 [1,1,1,1,1,1,1,1,0] ⟨[(11,(.v (.one (.p (.int .i64 y2))))),(0,(.v (.one (.ptr 0 0)))),(1,(.v (.agg [(.p (.int .i64 ui)),(.p (.int .i64 uz)),(.p (.str uo)),(.p (.list .byte ub)),(.p (.int .i64 us))]))),(2,(.v (.one (.p (.list .byte body))))),(4,(.v (.one (.ptr 2 0)))),(10,(.v (.one (.p (.int .i64 nv)))))],[y1,y0,y3],131,none⟩))))))) (.need y5 (.need y6 (.br y4 (.need (I.hid (α:=(Prop)) True) (.fin (.pan (.ifc 73 .true [(.int .i64 507),(.list .fld ([]:List Fld)),(.list .byte (I.hid (α:=Str) ([]:Str)))])) [y1,y0])) (.code 0 [1,1,1,1,1,1,1,1,0] ⟨[(11,(.v (.one (.p (.int .i64 y2))))),(0,(.v (.one (.ptr 0 0)))),(1,(.v (.agg [(.p (.int .i64 ui)),(.p (.int .i64 uz)),(.p (.str uo)),(.p (.list .byte ub)),(.p (.int .i64 us))]))),(2,(.v (.one (.p (.list .byte body))))),(4,(.v (.one (.ptr 2 0)))),(10,(.v (.one (.p (.int .i64 nv)))))],[y1,y0,y3],131,none⟩))))) (.need y5 (.need y6 (.br y4 (.need (I.hid (α:=(Prop)) True) (.fin (.pan (.ifc 73 .true [(.int .i64 507),(.list .fld ([]:List Fld)),(.list .byte (I.hid (α:=Str) ([]:Str)))])) [y1,y0])) (.code 0 [1,1,1,1,1,1,1,1,0] ⟨[(11,(.v (.one (.p (.int .i64 y2))))),(0,(.v (.one (.ptr 0 0)))),(1,(.v (.agg [(.p (.int .i64 ui)),(.p (.int .i64 uz)),(.p (.str uo)),(.p (.list .byte ub)),(.p (.int .i64 us))]))),(2,(.v (.one (.p (.list .byte body))))),(4,(.v (.one (.ptr 2 0)))),(10,(.v (.one (.p (.int .i64 nv)))))],[y1,y0,y3],131,none⟩)))))) (.br (I.ile 0 y2) (.br (I.ilt uz 0) (.br (I.ilt 2000 y2) (.need (I.hid (α:=(Prop)) True) (.fin (.pan (.ifc 73 .true [(.int .i64 413),(.list .fld ([]:List Fld)),(.list .byte (I.hid (α:=Str) ([]:Str)))])) [y1,y0])) (.need (I.inr Go.IntKind.i64 y8) (.br (I.ilt y2 y8) (.need (I.hid (α:=(Prop)) True) (.fin (.pan (.ifc 73 .true [(.int .i64 413),(.list .fld ([]:List Fld)),(.list .byte (I.hid (α:=Str) ([]:Str)))])) [y1,y0])) (.need y5 (.need y6 (.br y4 (.need (I.hid (α:=(Prop)) True) (.fin (.pan (.ifc 73 .true [(.int .i64 507),(.list .fld ([]:List Fld)),(.list .byte (I.hid (α:=Str) ([]:Str)))])) [y1,y0])) (.code 0 [1,1,1,1,1,1,1,1,0] ⟨[(11,(.v (.one (.p (.int .i64 y2))))),(0,(.v (.one (.ptr 0 0)))),(1,(.v (.agg [(.p (.int .i64 ui)),(.p (.int .i64 uz)),(.p (.str uo)),(.p (.list .byte ub)),(.p (.int .i64 us))]))),(2,(.v (.one (.p (.list .byte body))))),(4,(.v (.one (.ptr 2 0)))),(10,(.v (.one (.p (.int .i64 nv)))))],[y1,y0,y3],131,none⟩))))))) (.need y5 (.need y6 (.br y4 (.need (I.hid (α:=(Prop)) True) (.fin (.pan (.ifc 73 .true [(.int .i64 507),(.list .fld ([]:List Fld)),(.list .byte (I.hid (α:=Str) ([]:Str)))])) [y1,y0])) (.code 0 [1,1,1,1,1,1,1,1,0] ⟨[(11,(.v (.one (.p (.int .i64 y2))))),(0,(.v (.one (.ptr 0 0)))),(1,(.v (.agg [(.p (.int .i64 ui)),(.p (.int .i64 uz)),(.p (.str uo)),(.p (.list .byte ub)),(.p (.int .i64 us))]))),(2,(.v (.one (.p (.list .byte body))))),(4,(.v (.one (.ptr 2 0)))),(10,(.v (.one (.p (.int .i64 nv)))))],[y1,y0,y3],131,none⟩))))) (.need y5 (.need y6 (.br y4 (.need (I.hid (α:=(Prop)) True) (.fin (.pan (.ifc 73 .true [(.int .i64 507),(.list .fld ([]:List Fld)),(.list .byte (I.hid (α:=Str) ([]:Str)))])) [y1,y0])) (.code 0 [1,1,1,1,1,1,1,1,0] ⟨[(11,(.v (.one (.p (.int .i64 y2))))),(0,(.v (.one (.ptr 0 0)))),(1,(.v (.agg [(.p (.int .i64 ui)),(.p (.int .i64 uz)),(.p (.str uo)),(.p (.list .byte ub)),(.p (.int .i64 us))]))),(2,(.v (.one (.p (.list .byte body))))),(4,(.v (.one (.ptr 2 0)))),(10,(.v (.one (.p (.int .i64 nv)))))],[y1,y0,y3],131,none⟩)))))) (.br (I.ile 0 y2) (.br (I.ilt uz 0) (.br (I.ilt 2000 y2) (.need (I.hid (α:=(Prop)) True) (.fin (.pan (.ifc 73 .true [(.int .i64 413),(.list .fld ([]:List Fld)),(.list .byte (I.hid (α:=Str) ([]:Str)))])) [y1,y0])) (.need (I.inr Go.IntKind.i64 y8) (.br (I.ilt y2 y8) (.need (I.hid (α:=(Prop)) True) (.fin (.pan (.ifc 73 .true [(.int .i64 413),(.list .fld ([]:List Fld)),(.list .byte (I.hid (α:=Str) ([]:Str)))])) [y1,y0])) (.need y5 (.need y6 (.br y4 (.need (I.hid (α:=(Prop)) True) (.fin (.pan (.ifc 73 .true [(.int .i64 507),(.list .fld ([]:List Fld)),(.list .byte (I.hid (α:=Str) ([]:Str)))])) [y1,y0])) (.code 0 [1,1,1,1,1,1,1,1,0] ⟨[(11,(.v (.one (.p (.int .i64 y2))))),(0,(.v (.one (.ptr 0 0)))),(1,(.v (.agg [(.p (.int .i64 ui)),(.p (.int .i64 uz)),(.p (.str uo)),(.p (.list .byte ub)),(.p (.int .i64 us))]))),(2,(.v (.one (.p (.list .byte body))))),(4,(.v (.one (.ptr 2 0)))),(10,(.v (.one (.p (.int .i64 nv)))))],[y1,y0,y3],131,none⟩))))))) (.need y5 (.need y6 (.br y4 (.need (I.hid (α:=(Prop)) True) (.fin (.pan (.ifc 73 .true [(.int .i64 507),(.list .fld ([]:List Fld)),(.list .byte (I.hid (α:=Str) ([]:Str)))])) [y1,y0])) (.code 0 [1,1,1,1,1,1,1,1,0] ⟨[(11,(.v (.one (.p (.int .i64 y2))))),(0,(.v (.one (.ptr 0 0)))),(1,(.v (.agg [(.p (.int .i64 ui)),(.p (.int .i64 uz)),(.p (.str uo)),(.p (.list .byte ub)),(.p (.int .i64 us))]))),(2,(.v (.one (.p (.list .byte body))))),(4,(.v (.one (.ptr 2 0)))),(10,(.v (.one (.p (.int .i64 nv)))))],[y1,y0,y3],131,none⟩))))) (.need y5 (.need y6 (.br y4 (.need (I.hid (α:=(Prop)) True) (.fin (.pan (.ifc 73 .true [(.int .i64 507),(.list .fld ([]:List Fld)),(.list .byte (I.hid (α:=Str) ([]:Str)))])) [y1,y0])) (.code 0 [1,1,1,1,1,1,1,1,0] ⟨[(11,(.v (.one (.p (.int .i64 y2))))),(0,(.v (.one (.ptr 0 0)))),(1,(.v (.agg [(.p (.int .i64 ui)),(.p (.int .i64 uz)),(.p (.str uo)),(.p (.list .byte ub)),(.p (.int .i64 us))]))),(2,(.v (.one (.p (.list .byte body))))),(4,(.v (.one (.ptr 2 0)))),(10,(.v (.one (.p (.int .i64 nv)))))],[y1,y0,(.pack [y3])],131,none⟩))))))) (.need (I.hid (α:=(Prop)) (And (And (FOk f) (LE.le (List.length y7) 1000000)) (Eq (xq f y7) Bool.false))) (.fin (.pan (.ifc 73 .true [(.int .i64 400),(.list .fld (I.hid (α:=(List Fld)) ([]:List Fld))),(.list .byte (I.hid (α:=Str) ([]:Str)))])) [y1,y0]))) (by kernel_rfl) ?_
    simp only [zk]
    clear hcm hol hs2 hnn hbb
    subst hI
    unfold zI at *
    simp only [nrmA,nrmB,nrlB,reduceCtorEq,HO.pack.injEq,HO.obj.injEq]
    generalize zA f [117,112,108,111,97,100,45,108,101,110,103,116,104]=sz at *
    by_cases hd1:xq f [117,112,108,111,97,100,45,108,101,110,103,116,104]=false
    · rw [if_pos hd1] at hr
      simp only [TA.mk.injEq,Sto.mk.injEq] at hr
      obtain⟨q1,q2,q3,q4,q5,q6⟩:=hr
      subst q1 q2 q3 q4 q5 q6
      simp only [nrmA,nrmB,nrlB,reduceCtorEq,HO.pack.injEq,HO.obj.injEq,decide_true,decide_false,Bool.true_eq_false,Bool.false_eq_true,forall_const,false_implies,true_implies,not_true_eq_false,not_false_eq_true,hd1]
      (repeat' (first|refine And.intro ?_ ?_|intro _))<;>first|omega|exact True.intro|exact False.elim ‹False›|skip
      all_goals first
        |with_reducible rfl
        |with_reducible assumption
        |omega
        |exact hs
        |exact hf.1
        |(exact(hf.2 _ ‹_›).1)
        |(exact(hf.2 _ ‹_›).2)
        |exact⟨hf,by decide⟩
        |exact⟨⟨hf,by decide⟩,by assumption⟩
        |(simp only [List.length_cons,List.length_nil];omega)
        |(exfalso;simp_all;done)
    rw [if_neg hd1] at hr
    try simp only [Bool.not_eq_false] at hd1
    simp only [nrmA,nrmB,nrlB,reduceCtorEq,HO.pack.injEq,HO.obj.injEq,decide_true,decide_false,Bool.true_eq_false,Bool.false_eq_true,forall_const,false_implies,true_implies,not_true_eq_false,not_false_eq_true,hd1]
    by_cases hd2:0≤sz∧0≤uz∧sz≠uz
    · rw [if_pos hd2] at hr
      simp only [TA.mk.injEq,Sto.mk.injEq] at hr
      obtain⟨q1,q2,q3,q4,q5,q6⟩:=hr
      subst q1 q2 q3 q4 q5 q6
      (repeat' (first|refine And.intro ?_ ?_|intro _))<;>first|omega|exact True.intro|exact False.elim ‹False›|skip
      all_goals first
        |with_reducible rfl
        |with_reducible assumption
        |omega
        |exact hs
        |exact hf.1
        |(exact(hf.2 _ ‹_›).1)
        |(exact(hf.2 _ ‹_›).2)
        |exact⟨hf,by decide⟩
        |exact⟨⟨hf,by decide⟩,by assumption⟩
        |(simp only [List.length_cons,List.length_nil];omega)
        |(exfalso;simp_all;done)
    rw [if_neg hd2] at hr
    by_cases hd3:0≤sz∧uz<0∧(2000<sz∨sz<nv+(body.length:Int))
    · rw [if_pos hd3] at hr
      simp only [TA.mk.injEq,Sto.mk.injEq] at hr
      obtain⟨q1,q2,q3,q4,q5,q6⟩:=hr
      subst q1 q2 q3 q4 q5 q6
      (repeat' (first|refine And.intro ?_ ?_|intro _))<;>first|omega|exact True.intro|exact False.elim ‹False›|skip
      all_goals first
        |with_reducible rfl
        |with_reducible assumption
        |omega
        |exact hs
        |exact hf.1
        |(exact(hf.2 _ ‹_›).1)
        |(exact(hf.2 _ ‹_›).2)
        |exact⟨hf,by decide⟩
        |exact⟨⟨hf,by decide⟩,by assumption⟩
        |(simp only [List.length_cons,List.length_nil];omega)
        |(exfalso;simp_all;done)
    rw [if_neg hd3] at hr
    by_cases hd4:tJ b ((body.length:Int)+60)=false
    · rw [if_pos hd4] at hr
      simp only [TA.mk.injEq,Sto.mk.injEq] at hr
      obtain⟨q1,q2,q3,q4,q5,q6⟩:=hr
      subst q1 q2 q3 q4 q5 q6
      simp only [nrmA,nrmB,nrlB,reduceCtorEq,HO.pack.injEq,HO.obj.injEq,decide_true,decide_false,Bool.true_eq_false,Bool.false_eq_true,forall_const,false_implies,true_implies,not_true_eq_false,not_false_eq_true,hd4]
      (repeat' (first|refine And.intro ?_ ?_|intro _))<;>first|omega|exact True.intro|exact False.elim ‹False›|skip
      all_goals first
        |with_reducible rfl
        |with_reducible assumption
        |omega
        |exact hs
        |exact hf.1
        |(exact(hf.2 _ ‹_›).1)
        |(exact(hf.2 _ ‹_›).2)
        |exact⟨hf,by decide⟩
        |exact⟨⟨hf,by decide⟩,by assumption⟩
        |(simp only [List.length_cons,List.length_nil];omega)
        |(exfalso;simp_all;done)
    rw [if_neg hd4] at hr
    try simp only [Bool.not_eq_false] at hd4
    simp only [nrmA,nrmB,nrlB,reduceCtorEq,HO.pack.injEq,HO.obj.injEq,decide_true,decide_false,Bool.true_eq_false,Bool.false_eq_true,forall_const,false_implies,true_implies,not_true_eq_false,not_false_eq_true,hd4]
    (repeat' (first|refine And.intro ?_ ?_|intro _))<;>first|omega|exact True.intro|exact False.elim ‹False›|skip
    all_goals first
      |(with_reducible show Ok _ _ _ _;(try(exfalso;omega));exact seam rfl zi mixed [uI,uH,xX,xW,xB,xA,yS,yR,vC,vz,yC,yB,yO,yN,wM,wL,wK,wJ,uZ,uY,vJ,vI] hX [0,1,2,4,10,11] ⟨[(0,.v (.one (.ptr 0 0))),(1,.v (.agg [(.p (.int .i64 ui)),(.p (.int .i64 uz)),(.p (.str uo)),(.p (.list .byte ub)),(.p (.int .i64 us))])),(2,.v (.one (.p (.list .byte body)))),(4,.v (.one (.ptr 2 0))),(10,.v (.one (.p (.int .i64 nv)))),(11,.v (.one (.p (.int .i64 sz))))],[.obj 78 [(.ptr 1 0),(.p (.str m)),(.p (.str t)),(.p (.int .i64 mi)),(.p (.list .fld f)),(.p (.int .i64 le))],.pack [.obj 48 [(.ptr 1 0),(.ptr 2 0)],.pack [.obj 90 [(.row 1),(.p (.int .i64 n))],.row .upl 67 l],.pack [.obj 104 [(.row 1),(.p (.int .i64 s))],.row .byte 5 b]],.pack [.obj 67 [(.p (.int .i64 ui)),(.p (.int .i64 uz)),(.p (.str uo)),(.p (.list .byte ub)),(.p (.int .i64 us))]]],131,none⟩ (by kernel_rfl) (key17 nv sz hnv hr))
      |with_reducible rfl
      |with_reducible assumption
      |omega
      |exact hs
      |exact hf.1
      |(exact(hf.2 _ ‹_›).1)
      |(exact(hf.2 _ ‹_›).2)
      |exact⟨hf,by decide⟩
      |exact⟨⟨hf,by decide⟩,by assumption⟩
      |(simp only [List.length_cons,List.length_nil];omega)
      |(exfalso;simp_all;done)
  have key5: ∀ (_u:Unit),(if xq f uw=false then(⟨400,[],⟨l,n,b,s⟩⟩:TA)
    else if zA f uw<0 then(⟨400,[],⟨l,n,b,s⟩⟩:TA)
    else if zA f uw≠(ub.length:Int) then(⟨409,[],⟨l,n,b,s⟩⟩:TA)
    else(if xq f zI=false then(⟨400,[],⟨l,n,b,s⟩⟩:TA)
    else if 0≤zA f zI∧0≤uz∧zA f zI≠uz then(⟨400,[],⟨l,n,b,s⟩⟩:TA)
    else if 0≤zA f zI∧uz<0∧(2000<zA f zI∨zA f zI<(zA f uw)+(body.length:Int)) then(⟨413,[],⟨l,n,b,s⟩⟩:TA)
    else if tJ b ((body.length:Int)+60)=false then(⟨507,[],⟨l,n,b,s⟩⟩:TA)
    else(if(if apG l ui (zA f uw) then 17 else wrtC l n b (apE ui body))≠0 then(⟨wE (if apG l ui (zA f uw) then 17 else wrtC l n b (apE ui body)),[],⟨l,n,b,s⟩⟩:TA)
    else if 0≤(zA f zI)∧uz<0 then
      if wrtC (wrtL l n b (apE ui body)) (wrtN l n b (apE ui body)) (wrtB l n b (apE ui body)) ⟨3,ui,(zA f zI),[]⟩≠0 then(⟨wE (wrtC (wrtL l n b (apE ui body)) (wrtN l n b (apE ui body)) (wrtB l n b (apE ui body)) ⟨3,ui,(zA f zI),[]⟩),[],⟨wrtL l n b (apE ui body),wrtN l n b (apE ui body),wrtB l n b (apE ui body),s⟩⟩:TA)
      else(⟨204,[⟨qh,decS ((zA f uw)+(body.length:Int))⟩],⟨wrtL (wrtL l n b (apE ui body)) (wrtN l n b (apE ui body)) (wrtB l n b (apE ui body)) ⟨3,ui,(zA f zI),[]⟩,wrtN (wrtL l n b (apE ui body)) (wrtN l n b (apE ui body)) (wrtB l n b (apE ui body)) ⟨3,ui,(zA f zI),[]⟩,wrtB (wrtL l n b (apE ui body)) (wrtN l n b (apE ui body)) (wrtB l n b (apE ui body)) ⟨3,ui,(zA f zI),[]⟩,((wrtB (wrtL l n b (apE ui body)) (wrtN l n b (apE ui body)) (wrtB l n b (apE ui body)) ⟨3,ui,(zA f zI),[]⟩).length:Int)⟩⟩:TA)
    else(⟨204,[⟨qh,decS ((zA f uw)+(body.length:Int))⟩],⟨wrtL l n b (apE ui body),wrtN l n b (apE ui body),wrtB l n b (apE ui body),((wrtB l n b (apE ui body)).length:Int)⟩⟩:TA))))=⟨st,fs,⟨l',n',b',s'⟩⟩→Ok Tryz.prog X (fun o h=>o=AOut.pan (C.ifc 73 true [P.int IntKind.i64 st,P.list U.fld fs,P.list U.byte []])∧h=[HO.obj 78 [C.ptr 1 0,C.p (P.str m),C.p (P.str t),C.p (P.int IntKind.i64 mi),C.p (P.list U.fld f),C.p (P.int IntKind.i64 le)],HO.pack [HO.obj 48 [C.ptr 1 0,C.ptr 2 0],HO.pack [HO.obj 90 [C.row 1,C.p (P.int IntKind.i64 n')],HO.row U.upl 67 l'],HO.pack [HO.obj 104 [C.row 1,C.p (P.int IntKind.i64 s')],HO.row U.byte 5 b']]]) (go I tab { cfgT with seam:=[5,10,17],keep:=some [0,1,2,4,6,8,9,10,11]} [uI,uH,xX,xW,xB,xA,yS,yR,vC,vz,yC,yB,yO,yN,wM,wL,wK,wJ,uZ,uY,vJ,vI] [⟨yH Tryz.f56,finK I tab { cfgT with seam:=[5,10,17],keep:=some [0,1,2,4,6,8,9,10,11]} 2 Tryz.f56⟩] 0 [1,1,1,1,0] ⟨[(0,.v (.one (.ptr 0 0))),(1,.v (.agg [(.p (.int .i64 ui)),(.p (.int .i64 uz)),(.p (.str uo)),(.p (.list .byte ub)),(.p (.int .i64 us))])),(2,.v (.one (.p (.list .byte body)))),(4,.v (.one (.ptr 2 0)))],[.obj 78 [(.ptr 1 0),(.p (.str m)),(.p (.str t)),(.p (.int .i64 mi)),(.p (.list .fld f)),(.p (.int .i64 le))],.pack [.obj 48 [(.ptr 1 0),(.ptr 2 0)],.pack [.obj 90 [(.row 1),(.p (.int .i64 n))],.row .upl 67 l],.pack [.obj 104 [(.row 1),(.p (.int .i64 s))],.row .byte 5 b]],.pack [.obj 67 [(.p (.int .i64 ui)),(.p (.int .i64 uz)),(.p (.str uo)),(.p (.list .byte ub)),(.p (.int .i64 us))]]],131,none⟩):=by
    intro _ hr
    refine zh (let y0:HO:=.pack [(.obj 48 [(.ptr 1 0),(.ptr 2 0)]),(.pack [(.obj 90 [(.row 1),(.p (.int .i64 n))]),(.row .upl 67 l)]),(.pack [(.obj 104 [(.row 1),(.p (.int .i64 s))]),(.row .byte 5 b)])];let y1:=([117,112,108,111,97,100,45,111,102,102,115,101,116]:Str);let y2:HO:=.obj 78 [(.ptr 1 0),(.p (.str m)),(.p (.str t)),(.p (.int .i64 mi)),(.p (.list .fld f)),(.p (.int .i64 le))];.br (I.hid (α:=Bool) (xq f y1)) (.need (I.hid (α:=(Prop)) (And (And (FOk f) (LE.le (List.length y1) 1000000)) (Eq (xq f y1) Bool.true))) (.br (I.ilt (I.hid (α:=Int) (zA f y1)) 0) (.need (I.hid (α:=(Prop)) True) (.fin (.pan (.ifc 73 .true [(.int .i64 400),(.list .fld ([]:List Fld)),(.list .byte (I.hid (α:=Str) ([]:Str)))])) [y2,y0])) (.br (I.bnot (I.ieq (I.hid (α:=Int) (zA f y1)) (I.len (α:=UInt8) ub))) (.need (I.hid (α:=(Prop)) True) (.fin (.pan (.ifc 73 .true [(.int .i64 409),(.list .fld ([]:List Fld)),(.list .byte (I.hid (α:=Str) ([]:Str)))])) [y2,y0])) (.code 0 [1,1,1,1,1,1,0] ⟨[(10,(.v (.one (.p (.int .i64 (I.hid (α:=Int) (zA f y1))))))),(0,(.v (.one (.ptr 0 0)))),(1,(.v (.agg [(.p (.int .i64 ui)),(.p (.int .i64 uz)),(.p (.str uo)),(.p (.list .byte ub)),(.p (.int .i64 us))]))),(2,(.v (.one (.p (.list .byte body))))),(4,(.v (.one (.ptr 2 0))))],[y2,y0,(.obj 67 [(.p (.int .i64 ui)),(.p (.int .i64 uz)),(.p (.str uo)),(.p (.list .byte ub)),(.p (.int .i64 us))])],131,none⟩)))) (.need (I.hid (α:=(Prop)) (And (And (FOk f) (LE.le (List.length y1) 1000000)) (Eq (xq f y1) Bool.false))) (.fin (.pan (.ifc 73 .true [(.int .i64 400),(.list .fld (I.hid (α:=(List Fld)) ([]:List Fld))),(.list .byte (I.hid (α:=Str) ([]:Str)))])) [y2,y0]))) (by kernel_rfl) ?_
    simp only [zk]
    clear hcm hol hs2 hnn hbb key17
    subst hI
    unfold uw at *
    simp only [nrmA,nrmB,nrlB,reduceCtorEq,HO.pack.injEq,HO.obj.injEq]
    generalize zA f [117,112,108,111,97,100,45,111,102,102,115,101,116]=nv at *
    by_cases hd5:xq f [117,112,108,111,97,100,45,111,102,102,115,101,116]=false
    · rw [if_pos hd5] at hr
      simp only [TA.mk.injEq,Sto.mk.injEq] at hr
      obtain⟨q1,q2,q3,q4,q5,q6⟩:=hr
      subst q1 q2 q3 q4 q5 q6
      simp only [nrmA,nrmB,nrlB,reduceCtorEq,HO.pack.injEq,HO.obj.injEq,decide_true,decide_false,Bool.true_eq_false,Bool.false_eq_true,forall_const,false_implies,true_implies,not_true_eq_false,not_false_eq_true,hd5]
      (repeat' (first|refine And.intro ?_ ?_|intro _))<;>first|omega|exact True.intro|exact False.elim ‹False›|skip
      all_goals first
        |with_reducible rfl
        |with_reducible assumption
        |omega
        |exact hs
        |exact hf.1
        |(exact(hf.2 _ ‹_›).1)
        |(exact(hf.2 _ ‹_›).2)
        |exact⟨hf,by decide⟩
        |exact⟨⟨hf,by decide⟩,by assumption⟩
        |(simp only [List.length_cons,List.length_nil];omega)
        |(exfalso;simp_all;done)
    rw [if_neg hd5] at hr
    try simp only [Bool.not_eq_false] at hd5
    simp only [nrmA,nrmB,nrlB,reduceCtorEq,HO.pack.injEq,HO.obj.injEq,decide_true,decide_false,Bool.true_eq_false,Bool.false_eq_true,forall_const,false_implies,true_implies,not_true_eq_false,not_false_eq_true,hd5]
    by_cases hd6:nv<0
    · rw [if_pos hd6] at hr
      simp only [TA.mk.injEq,Sto.mk.injEq] at hr
      obtain⟨q1,q2,q3,q4,q5,q6⟩:=hr
      subst q1 q2 q3 q4 q5 q6
      (repeat' (first|refine And.intro ?_ ?_|intro _))<;>first|omega|exact True.intro|exact False.elim ‹False›|skip
      all_goals first
        |with_reducible rfl
        |with_reducible assumption
        |omega
        |exact hs
        |exact hf.1
        |(exact(hf.2 _ ‹_›).1)
        |(exact(hf.2 _ ‹_›).2)
        |exact⟨hf,by decide⟩
        |exact⟨⟨hf,by decide⟩,by assumption⟩
        |(simp only [List.length_cons,List.length_nil];omega)
        |(exfalso;simp_all;done)
    rw [if_neg hd6] at hr
    by_cases hd7:nv≠(ub.length:Int)
    · rw [if_pos hd7] at hr
      simp only [TA.mk.injEq,Sto.mk.injEq] at hr
      obtain⟨q1,q2,q3,q4,q5,q6⟩:=hr
      subst q1 q2 q3 q4 q5 q6
      (repeat' (first|refine And.intro ?_ ?_|intro _))<;>first|omega|exact True.intro|exact False.elim ‹False›|skip
      all_goals first
        |with_reducible rfl
        |with_reducible assumption
        |omega
        |exact hs
        |exact hf.1
        |(exact(hf.2 _ ‹_›).1)
        |(exact(hf.2 _ ‹_›).2)
        |exact⟨hf,by decide⟩
        |exact⟨⟨hf,by decide⟩,by assumption⟩
        |(simp only [List.length_cons,List.length_nil];omega)
        |(exfalso;simp_all;done)
    rw [if_neg hd7] at hr
    (repeat' (first|refine And.intro ?_ ?_|intro _))<;>first|omega|exact True.intro|exact False.elim ‹False›|skip
    all_goals first
      |(with_reducible show Ok _ _ _ _;(try(exfalso;omega));exact seam rfl zi mixed [uI,uH,xX,xW,xB,xA,yS,yR,vC,vz,yC,yB,yO,yN,wM,wL,wK,wJ,uZ,uY,vJ,vI] hX [0,1,2,4,10] ⟨[(0,.v (.one (.ptr 0 0))),(1,.v (.agg [(.p (.int .i64 ui)),(.p (.int .i64 uz)),(.p (.str uo)),(.p (.list .byte ub)),(.p (.int .i64 us))])),(2,.v (.one (.p (.list .byte body)))),(4,.v (.one (.ptr 2 0))),(10,.v (.one (.p (.int .i64 nv))))],[.obj 78 [(.ptr 1 0),(.p (.str m)),(.p (.str t)),(.p (.int .i64 mi)),(.p (.list .fld f)),(.p (.int .i64 le))],.pack [.obj 48 [(.ptr 1 0),(.ptr 2 0)],.pack [.obj 90 [(.row 1),(.p (.int .i64 n))],.row .upl 67 l],.pack [.obj 104 [(.row 1),(.p (.int .i64 s))],.row .byte 5 b]],.pack [.obj 67 [(.p (.int .i64 ui)),(.p (.int .i64 uz)),(.p (.str uo)),(.p (.list .byte ub)),(.p (.int .i64 us))]]],131,none⟩ (by kernel_rfl) (key10 nv (by omega) hr))
      |with_reducible rfl
      |with_reducible assumption
      |omega
      |exact hs
      |exact hf.1
      |(exact(hf.2 _ ‹_›).1)
      |(exact(hf.2 _ ‹_›).2)
      |exact⟨hf,by decide⟩
      |exact⟨⟨hf,by decide⟩,by assumption⟩
      |(simp only [List.length_cons,List.length_nil];omega)
      |(exfalso;simp_all;done)
  clear hs2 hnn hbb key17 key10
  subst hI
  rw [show([99,111,110,116,101,110,116,45,116,121,112,101]:Str)=Wv from rfl]
  rw [show([97,112,112,108,105,99,97,116,105,111,110,47,111,102,102,115,101,116,43,111,99,116,101,116,45,115,116,114,101,97,109]:Str)=octS from rfl]
  simp only [nrmA,nrmB,nrlB,reduceCtorEq,HO.pack.injEq,HO.obj.injEq]
  have hcl:Wv.length≤1000000:=by decide
  generalize oneT f Wv=oc at *
  obtain⟨ov,oc⟩:=oc
  try simp only at *
  generalize xY ov=pm at *
  obtain⟨⟨pw,pp⟩,pc⟩:=pm
  try simp only at *
  by_cases hd8:oc=9
  · rw [if_pos hd8] at hr
    simp only [TA.mk.injEq,Sto.mk.injEq] at hr
    obtain⟨q1,q2,q3,q4,q5,q6⟩:=hr
    subst q1 q2 q3 q4 q5 q6
    simp only [nrmA,nrmB,nrlB,reduceCtorEq,HO.pack.injEq,HO.obj.injEq,decide_true,decide_false,Bool.true_eq_false,Bool.false_eq_true,forall_const,false_implies,true_implies,not_true_eq_false,not_false_eq_true,hd8]
    (repeat' (first|refine And.intro ?_ ?_|intro _))<;>first|omega|exact True.intro|exact False.elim ‹False›|skip
    all_goals first
      |with_reducible rfl
      |with_reducible assumption
      |omega
      |exact hs
      |exact hf.1
      |(exact(hf.2 _ ‹_›).1)
      |(exact(hf.2 _ ‹_›).2)
      |exact⟨hf,by decide⟩
      |exact⟨⟨hf,by decide⟩,by assumption⟩
      |(simp only [List.length_cons,List.length_nil];omega)
      |(exfalso;simp_all;done)
  rw [if_neg hd8] at hr
  try simp only [Bool.not_eq_false] at hd8
  simp only [nrmA,nrmB,nrlB,reduceCtorEq,HO.pack.injEq,HO.obj.injEq,decide_true,decide_false,Bool.true_eq_false,Bool.false_eq_true,forall_const,false_implies,true_implies,not_true_eq_false,not_false_eq_true,hd8]
  by_cases hd9:pc≠0∨pw≠octS
  · rw [if_pos hd9] at hr
    simp only [TA.mk.injEq,Sto.mk.injEq] at hr
    obtain⟨q1,q2,q3,q4,q5,q6⟩:=hr
    subst q1 q2 q3 q4 q5 q6
    (repeat' (first|refine And.intro ?_ ?_|intro _))<;>first|omega|exact True.intro|exact False.elim ‹False›|skip
    all_goals first
      |with_reducible rfl
      |with_reducible assumption
      |omega
      |exact hs
      |exact hf.1
      |(exact(hf.2 _ ‹_›).1)
      |(exact(hf.2 _ ‹_›).2)
      |exact⟨hf,by decide⟩
      |exact⟨⟨hf,by decide⟩,by assumption⟩
      |(simp only [List.length_cons,List.length_nil];omega)
      |(exfalso;simp_all;done)
  rw [if_neg hd9] at hr
  simp only [not_or,ne_eq,Decidable.not_not] at hd9
  obtain⟨g1,g2⟩:=hd9
  clear hcm
  subst g1 g2
  simp only [nrmA,nrmB,nrlB,reduceCtorEq,HO.pack.injEq,HO.obj.injEq,not_true_eq_false,false_implies,true_and,and_true]
  (repeat' (first|refine And.intro ?_ ?_|intro _))<;>first|omega|exact True.intro|exact False.elim ‹False›|skip
  all_goals first
    |(with_reducible show Ok _ _ _ _;(try(exfalso;omega));exact seam rfl zi mixed [uI,uH,xX,xW,xB,xA,yS,yR,vC,vz,yC,yB,yO,yN,wM,wL,wK,wJ,uZ,uY,vJ,vI] hX [0,1,2,4] ⟨[(0,.v (.one (.ptr 0 0))),(1,.v (.agg [(.p (.int .i64 ui)),(.p (.int .i64 uz)),(.p (.str uo)),(.p (.list .byte ub)),(.p (.int .i64 us))])),(2,.v (.one (.p (.list .byte body)))),(4,.v (.one (.ptr 2 0)))],[.obj 78 [(.ptr 1 0),(.p (.str m)),(.p (.str t)),(.p (.int .i64 mi)),(.p (.list .fld f)),(.p (.int .i64 le))],.pack [.obj 48 [(.ptr 1 0),(.ptr 2 0)],.pack [.obj 90 [(.row 1),(.p (.int .i64 n))],.row .upl 67 l],.pack [.obj 104 [(.row 1),(.p (.int .i64 s))],.row .byte 5 b]],.pack [.obj 67 [(.p (.int .i64 ui)),(.p (.int .i64 uz)),(.p (.str uo)),(.p (.list .byte ub)),(.p (.int .i64 us))]]],131,none⟩ (by kernel_rfl) (key5 () hr))
    |with_reducible rfl
    |with_reducible assumption
    |omega
    |exact hs
    |exact hf.1
    |(exact(hf.2 _ ‹_›).1)
    |(exact(hf.2 _ ‹_›).2)
    |exact⟨hf,by decide⟩
    |exact⟨⟨hf,by decide⟩,by assumption⟩
    |(simp only [List.length_cons,List.length_nil];omega)
    |(exfalso;simp_all;done)
    |skip
  exact seam rfl zi mixed [uI,uH,xX,xW,xB,xA,yS,yR,vC,vz,yC,yB,yO,yN,wM,wL,wK,wJ,uZ,uY,vJ,vI] hX [0,1,2,4] ⟨[(0,.v (.one (.ptr 0 0))),(1,.v (.agg [(.p (.int .i64 ui)),(.p (.int .i64 uz)),(.p (.str uo)),(.p (.list .byte ub)),(.p (.int .i64 us))])),(2,.v (.one (.p (.list .byte body)))),(4,.v (.one (.ptr 2 0)))],[.obj 78 [(.ptr 1 0),(.p (.str m)),(.p (.str t)),(.p (.int .i64 mi)),(.p (.list .fld f)),(.p (.int .i64 le))],.pack [.obj 48 [(.ptr 1 0),(.ptr 2 0)],.pack [.obj 90 [(.row 1),(.p (.int .i64 n))],.row .upl 67 l],.pack [.obj 104 [(.row 1),(.p (.int .i64 s))],.row .byte 5 b]],.pack [.obj 67 [(.p (.int .i64 ui)),(.p (.int .i64 uz)),(.p (.str uo)),(.p (.list .byte ub)),(.p (.int .i64 us))]]],131,none⟩ (by kernel_rfl) (key5 () hr)
def Y0 (I:Alg) (args:List D) (hp:List HO):Option CT:=match args,hp with
  |[.v (.one (.ptr 0 0)),.v (.agg [(.p (.int .i64 ui)),(.p (.int .i64 uz)),(.p (.str uo)),(.p (.list .byte ub)),(.p (.int .i64 us))]),.v (.one (.p (.list .byte body)))],[.obj 78 [(.ptr 1 0),(.p (.str m)),(.p (.str t)),(.p (.int .i64 mi)),(.p (.list .fld f)),(.p (.int .i64 le))],.pack [.obj 48 [(.ptr 1 0),(.ptr 2 0)],.pack [.obj 90 [(.row 1),(.p (.int .i64 n))],.row .upl 67 l],.pack [.obj 104 [(.row 1),(.p (.int .i64 s))],.row .byte 5 b]]]=>(fun(m t:Str) (mi:Int) (f:List Fld) (le:Int) (l:List Upl) (n:Int) (b:Str) (s:Int) (ui uz:Int) (uo ub:Str) (us:Int) (body:Str)=>(some (.one ⟨I.hid (FOk f∧zu l n∧n≤200000∧b.length≤100000∧body.length≤100000∧ub.length≤1000000∧uz≤1000000),(.pan (.ifc 73 true [(.int .i64 (I.hid ((zX ⟨l,n,b,s⟩ ⟨ui,uz,uo,ub,us⟩ f body).st))),(.list .fld (I.hid ((zX ⟨l,n,b,s⟩ ⟨ui,uz,uo,ub,us⟩ f body).fs))),(.list .byte (I.hid ([])))])),[.obj 78 [(.ptr 1 0),(.p (.str m)),(.p (.str t)),(.p (.int .i64 mi)),(.p (.list .fld f)),(.p (.int .i64 le))],.pack [.obj 48 [(.ptr 1 0),(.ptr 2 0)],.pack [.obj 90 [(.row 1),(.p (.int .i64 (I.hid ((zX ⟨l,n,b,s⟩ ⟨ui,uz,uo,ub,us⟩ f body).q.n))))],.row .upl 67 (I.hid ((zX ⟨l,n,b,s⟩ ⟨ui,uz,uo,ub,us⟩ f body).q.l))],.pack [.obj 104 [(.row 1),(.p (.int .i64 (I.hid ((zX ⟨l,n,b,s⟩ ⟨ui,uz,uo,ub,us⟩ f body).q.s))))],.row .byte 5 (I.hid ((zX ⟨l,n,b,s⟩ ⟨ui,uz,uo,ub,us⟩ f body).q.b))]]]⟩):Option CT)) m t mi f le l n b s ui uz uo ub us body
  |_,_=>none
theorem zaU:zo Tryz.prog 56 (Y0 alg):=by
  intro args hp r h
  unfold Y0 at h
  split at h
  · cases h;exact fun hn=>zkK _ _ _ _ _ _ _ _ _ _ _ _ _ _ _ hn
  · cases h
def Zr:Know Tryz.prog:=⟨56,Y0,zaU⟩
def Zq:Know Tryz.prog:=⟨56,fun I=>zq I (Y0 I),zf zaU⟩
end Go.Proofs.YtcclfkakcgnacaaGreatDoor
namespace Go.Proofs.YtcclfkakcgnacaaGreatDoor
open Go Go.Sep Go.Ab
set_option maxRecDepth 100000
theorem Wl {l:List Upl} {n:Int} (h:zu l n) (id:Int):(getU l id).bytes.length≤2000∧(getU l id).size≤2000:=by
  unfold getU
  split
  · rename_i hi
    rw [wV hi]
    have:=h.each _ (List.getElem_mem hi)
    exact⟨this.bl,this.s2⟩
  · decide
set_option maxHeartbeats 8000000 in
theorem zkJ (m t:Str) (mi:Int) (f:List Fld) (le:Int) (l:List Upl) (n:Int) (b:Str) (s:Int) (body:Str) (hneed:FOk f∧zu l n∧n≤200000∧b.length≤100000∧body.length≤100000):Spc Tryz.prog 29 [.v (.one (.ptr 0 0)),.v (.one (.p (.list .byte body)))] [.obj 78 [(.ptr 1 0),(.p (.str m)),(.p (.str t)),(.p (.int .i64 mi)),(.p (.list .fld f)),(.p (.int .i64 le))],.pack [.obj 48 [(.ptr 1 0),(.ptr 2 0)],.pack [.obj 90 [(.row 1),(.p (.int .i64 n))],.row .upl 67 l],.pack [.obj 104 [(.row 1),(.p (.int .i64 s))],.row .byte 5 b]]] (.pan (.ifc 73 true [(.int .i64 ((zH ⟨l,n,b,s⟩ m t f body).st)),(.list .fld ((zH ⟨l,n,b,s⟩ m t f body).fs)),(.list .byte ([]))])) [.obj 78 [(.ptr 1 0),(.p (.str m)),(.p (.str t)),(.p (.int .i64 mi)),(.p (.list .fld f)),(.p (.int .i64 le))],.pack [.obj 48 [(.ptr 1 0),(.ptr 2 0)],.pack [.obj 90 [(.row 1),(.p (.int .i64 ((zH ⟨l,n,b,s⟩ m t f body).q.n)))],.row .upl 67 ((zH ⟨l,n,b,s⟩ m t f body).q.l)],.pack [.obj 104 [(.row 1),(.p (.int .i64 ((zH ⟨l,n,b,s⟩ m t f body).q.s)))],.row .byte 5 ((zH ⟨l,n,b,s⟩ m t f body).q.b)]]]:=by
  obtain⟨hf,hs,hn,hb,hbl⟩:=hneed
  have hn0:=hs.n0
  have hus:=Wl hs (idV t)
  generalize hr:zH ⟨l,n,b,s⟩ m t f body=r
  obtain⟨st,fs,⟨l',n',b',s'⟩⟩:=r
  unfold zH at hr
  try simp only at hr
  refine spcG zi mixed Tryz.func29 (by kernel_rfl) { cfgT with seam:=[3,10],keep:=some [0,1,4,5,7,55]} [qm,ql,yS,yR,yC,yB,yO,yN,wM,wL,wK,wJ,vJ,vI,qj,qi,Uw,Uu,YX,YW,Zr,Zq] (by kernel_rfl) ?_
  intro I X hI hX
  refine zh (let y0:HO:=.pack [(.obj 48 [(.ptr 1 0),(.ptr 2 0)]),(.pack [(.obj 90 [(.row 1),(.p (.int .i64 n))]),(.row .upl 67 l)]),(.pack [(.obj 104 [(.row 1),(.p (.int .i64 s))]),(.row .byte 5 b)])];let y1:HO:=.obj 78 [(.ptr 1 0),(.p (.str m)),(.p (.str t)),(.p (.int .i64 mi)),(.p (.list .fld f)),(.p (.int .i64 le))];let y2:=I.seq t ([47,102,105,108,101,115]:Str);.br y2 (.br (I.seq m ([79,80,84,73,79,78,83]:Str)) (.need (I.hid (α:=(Prop)) True) (.need (I.hid (α:=(Prop)) (And (LE.le (0:Int) (2000:Int)) (LT.lt (2000:Int) (1000000000:Int)))) (.need (I.hid (α:=(Prop)) True) (.need (I.hid (α:=(Prop)) True) (.need (I.hid (α:=(Prop)) True) (.fin (.pan (.ifc 73 .true [(.int .i64 204),(.list .fld ([(Fld.mk ([84,117,115,45,86,101,114,115,105,111,110]:Str) ([49,46,48,46,48]:Str)),(Fld.mk ([84,117,115,45,77,97,120,45,83,105,122,101]:Str) (I.hid (α:=Str) (decS (2000:Int)))),(Fld.mk ([84,117,115,45,69,120,116,101,110,115,105,111,110]:Str) ([99,114,101,97,116,105,111,110,44,99,114,101,97,116,105,111,110,45,100,101,102,101,114,45,108,101,110,103,116,104,44,116,101,114,109,105,110,97,116,105,111,110]:Str))]:List Fld)),(.list .byte (I.hid (α:=Str) ([]:Str)))])) [y1,y0])))))) (.code 0 [1,1,0,0] ⟨[(4,(.v (.one (.p (.bool y2))))),(0,(.v (.one (.ptr 0 0)))),(1,(.v (.one (.p (.list .byte body)))))],[y1,y0],84,none⟩)) (.code 0 [1,1,0,0] ⟨[(4,(.v (.one (.p (.bool y2))))),(0,(.v (.one (.ptr 0 0)))),(1,(.v (.one (.p (.list .byte body)))))],[y1,y0],84,none⟩)) (by kernel_rfl) ?_
  simp only [zk]
  have key10: ∀ (_u:Unit),(if uplB ⟨l,n,b,s⟩ t=false then(⟨404,[],⟨l,n,b,s⟩⟩:TA)
    else if m=Si then(⟨200,Yr (getU l (idV t)),⟨l,n,b,s⟩⟩:TA)
    else if m=Yx then zX ⟨l,n,b,s⟩ (getU l (idV t)) f body
    else if m=Sl then XF ⟨l,n,b,s⟩ (getU l (idV t))
    else(⟨405,[],⟨l,n,b,s⟩⟩:TA))=⟨st,fs,⟨l',n',b',s'⟩⟩→Ok Tryz.prog X (fun o h=>o=AOut.pan (C.ifc 73 true [P.int IntKind.i64 st,P.list U.fld fs,P.list U.byte []])∧h=[HO.obj 78 [C.ptr 1 0,C.p (P.str m),C.p (P.str t),C.p (P.int IntKind.i64 mi),C.p (P.list U.fld f),C.p (P.int IntKind.i64 le)],HO.pack [HO.obj 48 [C.ptr 1 0,C.ptr 2 0],HO.pack [HO.obj 90 [C.row 1,C.p (P.int IntKind.i64 n')],HO.row U.upl 67 l'],HO.pack [HO.obj 104 [C.row 1,C.p (P.int IntKind.i64 s')],HO.row U.byte 5 b']]]) (go I tab { cfgT with seam:=[3,10],keep:=some [0,1,4,5,7,55]} [qm,ql,yS,yR,yC,yB,yO,yN,wM,wL,wK,wJ,vJ,vI,qj,qi,Uw,Uu,YX,YW,Zr,Zq] [⟨yH Tryz.f29,finK I tab { cfgT with seam:=[3,10],keep:=some [0,1,4,5,7,55]} 2 Tryz.f29⟩] 0 [1,1,1,1,0] ⟨[(0,.v (.one (.ptr 0 0))),(1,.v (.one (.p (.list .byte body))))],[.obj 78 [(.ptr 1 0),(.p (.str m)),(.p (.str t)),(.p (.int .i64 mi)),(.p (.list .fld f)),(.p (.int .i64 le))],.pack [.obj 48 [(.ptr 1 0),(.ptr 2 0)],.pack [.obj 90 [(.row 1),(.p (.int .i64 n))],.row .upl 67 l],.pack [.obj 104 [(.row 1),(.p (.int .i64 s))],.row .byte 5 b]]],84,none⟩):=by
    intro _ hr
    refine zh (let y0:=I.hid (α:=Int) (Upl.id (getU l (idV t)));let y1:HO:=.obj 78 [(.ptr 1 0),(.p (.str m)),(.p (.str t)),(.p (.int .i64 mi)),(.p (.list .fld f)),(.p (.int .i64 le))];let y10:HO:=.obj 48 [(.ptr 1 0),(.ptr 2 0)];let y2:HO:=.pack [y10,(.pack [(.obj 90 [(.row 1),(.p (.int .i64 n))]),(.row .upl 67 l)]),(.pack [(.obj 104 [(.row 1),(.p (.int .i64 s))]),(.row .byte 5 b)])];let y3:=I.hid (α:=Str) (Upl.bytes (getU l (idV t)));let y4:=I.hid (α:=Int) (Upl.size (getU l (idV t)));let y5:=I.hid (α:=Str) (Upl.note (getU l (idV t)));let y6:=I.hid (α:=Int) (Upl.sent (getU l (idV t)));let y7:HO:=.pack [(.obj 90 [(.row 1),(.p (.int .i64 (I.hid (α:=Int) (wrtN l n b (Ent.mk (4:Int) y0 (0:Int) ([]:Str))))))]),(.row .upl 67 (I.hid (α:=(List Upl)) (wrtL l n b (Ent.mk (4:Int) y0 (0:Int) ([]:Str)))))];let y8:=I.hid (α:=Int) (wrtC l n b (Ent.mk (4:Int) y0 (0:Int) ([]:Str)));let y9:=I.hid (α:=Str) (wrtB l n b (Ent.mk (4:Int) y0 (0:Int) ([]:Str)));let y11:=I.hid (α:=(List Fld)) ([]:List Fld);.br (I.hid (α:=Bool) (uplB (Sto.mk l n b s) t)) (.need (I.hid (α:=(Prop)) (And (zu l n) (Eq (uplB (Sto.mk l n b s) t) Bool.true))) (.br (I.seq m ([72,69,65,68]:Str)) (.need (I.hid (α:=(Prop)) (And (LT.lt y4 (1000000000:Int)) (LT.lt (List.length y3) 1000000))) (.fin (.pan (.ifc 73 .true [(.int .i64 200),(.list .fld (I.hid (α:=(List Fld)) (Yr (Upl.mk y0 y4 y5 y3 y6)))),(.list .byte (I.hid (α:=Str) ([]:Str)))])) [y1,y2])) (.br (I.seq m ([80,65,84,67,72]:Str)) (.need (I.hid (α:=(Prop)) (And (FOk f) (And (zu l n) (And (LE.le n (200000:Int)) (And (LE.le (List.length b) 100000) (And (LE.le (List.length body) 100000) (And (LE.le (List.length y3) 1000000) (LE.le y4 (1000000:Int))))))))) (.fin (.pan (.ifc 73 .true [(.int .i64 (I.hid (α:=Int) (TA.st (zX (Sto.mk l n b s) (Upl.mk y0 y4 y5 y3 y6) f body)))),(.list .fld (I.hid (α:=(List Fld)) (TA.fs (zX (Sto.mk l n b s) (Upl.mk y0 y4 y5 y3 y6) f body)))),(.list .byte (I.hid (α:=Str) ([]:Str)))])) [y1,(.pack [y10,(.pack [(.obj 90 [(.row 1),(.p (.int .i64 (I.hid (α:=Int) (Sto.n (TA.q (zX (Sto.mk l n b s) (Upl.mk y0 y4 y5 y3 y6) f body))))))]),(.row .upl 67 (I.hid (α:=(List Upl)) (Sto.l (TA.q (zX (Sto.mk l n b s) (Upl.mk y0 y4 y5 y3 y6) f body)))))]),(.pack [(.obj 104 [(.row 1),(.p (.int .i64 (I.hid (α:=Int) (Sto.s (TA.q (zX (Sto.mk l n b s) (Upl.mk y0 y4 y5 y3 y6) f body))))))]),(.row .byte 5 (I.hid (α:=Str) (Sto.b (TA.q (zX (Sto.mk l n b s) (Upl.mk y0 y4 y5 y3 y6) f body)))))])])])) (.br (I.seq m ([68,69,76,69,84,69]:Str)) (.need (I.hid (α:=(Prop)) (And (zu l n) (And (LE.le n (200000:Int)) (LE.le (List.length b) 100000)))) (.br (I.hid (α:=Bool) (Decidable.decide (Eq y8 (0:Int)))) (.need (I.hid (α:=(Prop)) (Eq y8 (0:Int))) (.need (I.hid (α:=(Prop)) True) (.need (I.hid (α:=(Prop)) True) (.fin (.pan (.ifc 73 .true [(.int .i64 204),(.list .fld ([]:List Fld)),(.list .byte (I.hid (α:=Str) ([]:Str)))])) [y1,(.pack [y10,y7,(.pack [(.obj 104 [(.row 1),(.p (.int .i64 (I.hid (α:=Int) (Nat.cast (List.length y9)))))]),(.row .byte 5 y9)])])])))) (.need (I.hid (α:=(Prop)) (Not (Eq y8 (0:Int)))) (.fin (.pan (.ifc 73 .true [(.int .i64 (I.hid (α:=Int) (wE y8))),(.list .fld y11),(.list .byte (I.hid (α:=Str) ([]:Str)))])) [y1,(.pack [y10,y7,(.pack [(.obj 104 [(.row 1),(.p (.int .i64 s))]),(.row .byte 5 y9)])])])))) (.need (I.hid (α:=(Prop)) True) (.fin (.pan (.ifc 73 .true [(.int .i64 405),(.list .fld ([]:List Fld)),(.list .byte (I.hid (α:=Str) ([]:Str)))])) [y1,y2])))))) (.need (I.hid (α:=(Prop)) (And (zu l n) (Eq (uplB (Sto.mk l n b s) t) Bool.false))) (.fin (.pan (.ifc 73 .true [(.int .i64 404),(.list .fld y11),(.list .byte (I.hid (α:=Str) ([]:Str)))])) [y1,y2]))) (by kernel_rfl) ?_
    simp only [zk]
    subst hI
    unfold Si Yx Sl at hr
    unfold XF wsC wsS syS at hr
    try simp only at hr
    simp only [nrmA,nrmB,nrlB,reduceCtorEq,HO.pack.injEq,HO.obj.injEq]
    generalize getU l (idV t)=u at *
    obtain⟨ui,uz,uo,ub,us⟩:=u
    try simp only at *
    by_cases hd1:uplB ⟨l,n,b,s⟩ t=false
    · rw [if_pos hd1] at hr
      simp only [TA.mk.injEq,Sto.mk.injEq] at hr
      obtain⟨q1,q2,q3,q4,q5,q6⟩:=hr
      subst q1 q2 q3 q4 q5 q6
      try simp only [nrmA,nrmB,nrlB,reduceCtorEq,HO.pack.injEq,HO.obj.injEq,decide_true,decide_false,Bool.true_eq_false,Bool.false_eq_true,forall_const,false_implies,true_implies,not_true_eq_false,not_false_eq_true,hd1]
      (repeat' (first|refine And.intro ?_ ?_|intro _))<;>first|omega|exact True.intro|exact False.elim ‹False›|skip
      all_goals first
        |with_reducible rfl
        |with_reducible assumption
        |omega
        |exact hs
        |exact hf.1
        |(exact(hf.2 _ ‹_›).1)
        |(exact(hf.2 _ ‹_›).2)
        |exact⟨hf,by decide⟩
        |exact⟨⟨hf,by decide⟩,by assumption⟩
        |(simp only [List.length_cons,List.length_nil];omega)
        |(exfalso;simp_all;done)
    rw [if_neg hd1] at hr
    try simp only [Bool.not_eq_false,ne_eq,Decidable.not_not] at hd1
    try simp only [nrmA,nrmB,nrlB,reduceCtorEq,HO.pack.injEq,HO.obj.injEq,decide_true,decide_false,Bool.true_eq_false,Bool.false_eq_true,forall_const,false_implies,true_implies,not_true_eq_false,not_false_eq_true,hd1]
    by_cases hd2:m=[72,69,65,68]
    · rw [if_pos hd2] at hr
      simp only [TA.mk.injEq,Sto.mk.injEq] at hr
      obtain⟨q1,q2,q3,q4,q5,q6⟩:=hr
      subst q1 q2 q3 q4 q5 q6
      try simp only [nrmA,nrmB,nrlB,reduceCtorEq,HO.pack.injEq,HO.obj.injEq,decide_true,decide_false,Bool.true_eq_false,Bool.false_eq_true,forall_const,false_implies,true_implies,not_true_eq_false,not_false_eq_true,hd2]
      (repeat' (first|refine And.intro ?_ ?_|intro _))<;>first|omega|exact True.intro|exact False.elim ‹False›|skip
      all_goals first
        |with_reducible rfl
        |with_reducible assumption
        |omega
        |exact hs
        |exact hf.1
        |(exact(hf.2 _ ‹_›).1)
        |(exact(hf.2 _ ‹_›).2)
        |exact⟨hf,by decide⟩
        |exact⟨⟨hf,by decide⟩,by assumption⟩
        |(simp only [List.length_cons,List.length_nil];omega)
        |(exfalso;simp_all;done)
    rw [if_neg hd2] at hr
    try simp only [Bool.not_eq_false,ne_eq,Decidable.not_not] at hd2
    try simp only [nrmA,nrmB,nrlB,reduceCtorEq,HO.pack.injEq,HO.obj.injEq,decide_true,decide_false,Bool.true_eq_false,Bool.false_eq_true,forall_const,false_implies,true_implies,not_true_eq_false,not_false_eq_true,hd2]
    by_cases hd3:m=[80,65,84,67,72]
    · rw [if_pos hd3] at hr
      simp only [nrmA,nrmB,nrlB,reduceCtorEq,HO.pack.injEq,HO.obj.injEq,decide_true,decide_false,Bool.true_eq_false,Bool.false_eq_true,forall_const,false_implies,true_implies,not_true_eq_false,not_false_eq_true,hd3,hr]
      (repeat' (first|refine And.intro ?_ ?_|intro _))<;>first|omega|exact True.intro|exact False.elim ‹False›|skip
      all_goals first
        |with_reducible rfl
        |with_reducible assumption
        |omega
        |exact hs
        |exact hf.1
        |(exact(hf.2 _ ‹_›).1)
        |(exact(hf.2 _ ‹_›).2)
        |exact⟨hf,by decide⟩
        |exact⟨⟨hf,by decide⟩,by assumption⟩
        |(simp only [List.length_cons,List.length_nil];omega)
        |(exfalso;simp_all;done)
    rw [if_neg hd3] at hr
    try simp only [Bool.not_eq_false,ne_eq,Decidable.not_not] at hd3
    try simp only [nrmA,nrmB,nrlB,reduceCtorEq,HO.pack.injEq,HO.obj.injEq,decide_true,decide_false,Bool.true_eq_false,Bool.false_eq_true,forall_const,false_implies,true_implies,not_true_eq_false,not_false_eq_true,hd3]
    by_cases hd:m=[68,69,76,69,84,69]
    · rw [if_pos hd] at hr
      by_cases h1:wrtC l n b ⟨4,ui,0,[]⟩=0
      · rw [if_neg (fun h=>h h1)] at hr
        simp only [TA.mk.injEq,Sto.mk.injEq] at hr
        obtain⟨q1,q2,q3,q4,q5,q6⟩:=hr
        subst q1 q2 q3 q4 q5 q6
        simp only [nrmA,nrmB,nrlB,reduceCtorEq,HO.pack.injEq,HO.obj.injEq,decide_true,decide_false,Bool.true_eq_false,Bool.false_eq_true,forall_const,false_implies,true_implies,not_true_eq_false,not_false_eq_true,hd,h1]
        (repeat' (first|refine And.intro ?_ ?_|intro _))<;>first|omega|exact True.intro|exact False.elim ‹False›|skip
        all_goals first
          |with_reducible rfl
          |with_reducible assumption
          |omega
          |exact hs
          |exact hf.1
          |(exact(hf.2 _ ‹_›).1)
          |(exact(hf.2 _ ‹_›).2)
          |exact⟨hf,by decide⟩
          |exact⟨⟨hf,by decide⟩,by assumption⟩
          |(simp only [List.length_cons,List.length_nil];omega)
          |(exfalso;simp_all;done)
      · rw [if_pos h1] at hr
        simp only [TA.mk.injEq,Sto.mk.injEq] at hr
        obtain⟨q1,q2,q3,q4,q5,q6⟩:=hr
        subst q1 q2 q3 q4 q5 q6
        have e1:wrtL l n b ⟨4,ui,0,[]⟩=l:=by simp only [wrtL,if_neg h1]
        have e2:wrtN l n b ⟨4,ui,0,[]⟩=n:=by simp only [wrtN,if_neg h1]
        have e3:wrtB l n b ⟨4,ui,0,[]⟩=b:=by simp only [wrtB,if_neg h1]
        try rw [e1,e2,e3]
        simp only [nrmA,nrmB,nrlB,reduceCtorEq,HO.pack.injEq,HO.obj.injEq,decide_true,decide_false,Bool.true_eq_false,Bool.false_eq_true,forall_const,false_implies,true_implies,not_true_eq_false,not_false_eq_true,hd,h1]
        (repeat' (first|refine And.intro ?_ ?_|intro _))<;>first|omega|exact True.intro|exact False.elim ‹False›|skip
        all_goals first
          |with_reducible rfl
          |with_reducible assumption
          |omega
          |exact hs
          |exact hf.1
          |(exact(hf.2 _ ‹_›).1)
          |(exact(hf.2 _ ‹_›).2)
          |exact⟨hf,by decide⟩
          |exact⟨⟨hf,by decide⟩,by assumption⟩
          |(simp only [List.length_cons,List.length_nil];omega)
          |(exfalso;simp_all;done)
    · rw [if_neg hd] at hr
      simp only [TA.mk.injEq,Sto.mk.injEq] at hr
      obtain⟨q1,q2,q3,q4,q5,q6⟩:=hr
      subst q1 q2 q3 q4 q5 q6
      simp only [nrmA,nrmB,nrlB,reduceCtorEq,HO.pack.injEq,HO.obj.injEq,decide_true,decide_false,Bool.true_eq_false,Bool.false_eq_true,forall_const,false_implies,true_implies,not_true_eq_false,not_false_eq_true,hd]
      (repeat' (first|refine And.intro ?_ ?_|intro _))<;>first|omega|exact True.intro|exact False.elim ‹False›|skip
      all_goals first
        |with_reducible rfl
        |with_reducible assumption
        |omega
        |exact hs
        |exact hf.1
        |(exact(hf.2 _ ‹_›).1)
        |(exact(hf.2 _ ‹_›).2)
        |exact⟨hf,by decide⟩
        |exact⟨⟨hf,by decide⟩,by assumption⟩
        |(simp only [List.length_cons,List.length_nil];omega)
        |(exfalso;simp_all;done)
  have key3: ∀ (q:Bool),q=decide (t=xQ)→(if(oneT f XT).2=9 then(⟨400,[],⟨l,n,b,s⟩⟩:TA)
    else if(oneT f XT).1≠verS then(⟨412,[⟨zaR,verS⟩],⟨l,n,b,s⟩⟩:TA)
    else if t=xQ then(if m≠zft then(⟨405,[],⟨l,n,b,s⟩⟩:TA) else yM ⟨l,n,b,s⟩ f)
    else(if uplB ⟨l,n,b,s⟩ t=false then(⟨404,[],⟨l,n,b,s⟩⟩:TA)
    else if m=Si then(⟨200,Yr (getU l (idV t)),⟨l,n,b,s⟩⟩:TA)
    else if m=Yx then zX ⟨l,n,b,s⟩ (getU l (idV t)) f body
    else if m=Sl then XF ⟨l,n,b,s⟩ (getU l (idV t))
    else(⟨405,[],⟨l,n,b,s⟩⟩:TA)))=⟨st,fs,⟨l',n',b',s'⟩⟩→Ok Tryz.prog X (fun o h=>o=AOut.pan (C.ifc 73 true [P.int IntKind.i64 st,P.list U.fld fs,P.list U.byte []])∧h=[HO.obj 78 [C.ptr 1 0,C.p (P.str m),C.p (P.str t),C.p (P.int IntKind.i64 mi),C.p (P.list U.fld f),C.p (P.int IntKind.i64 le)],HO.pack [HO.obj 48 [C.ptr 1 0,C.ptr 2 0],HO.pack [HO.obj 90 [C.row 1,C.p (P.int IntKind.i64 n')],HO.row U.upl 67 l'],HO.pack [HO.obj 104 [C.row 1,C.p (P.int IntKind.i64 s')],HO.row U.byte 5 b']]]) (go I tab { cfgT with seam:=[3,10],keep:=some [0,1,4,5,7,55]} [qm,ql,yS,yR,yC,yB,yO,yN,wM,wL,wK,wJ,vJ,vI,qj,qi,Uw,Uu,YX,YW,Zr,Zq] [⟨yH Tryz.f29,finK I tab { cfgT with seam:=[3,10],keep:=some [0,1,4,5,7,55]} 2 Tryz.f29⟩] 0 [1,1,0,0] ⟨[(0,.v (.one (.ptr 0 0))),(1,.v (.one (.p (.list .byte body)))),(4,.v (.one (.p (.bool q))))],[.obj 78 [(.ptr 1 0),(.p (.str m)),(.p (.str t)),(.p (.int .i64 mi)),(.p (.list .fld f)),(.p (.int .i64 le))],.pack [.obj 48 [(.ptr 1 0),(.ptr 2 0)],.pack [.obj 90 [(.row 1),(.p (.int .i64 n))],.row .upl 67 l],.pack [.obj 104 [(.row 1),(.p (.int .i64 s))],.row .byte 5 b]]],84,none⟩):=by
    intro q hq hr
    refine zh (let y0:HO:=.pack [(.obj 48 [(.ptr 1 0),(.ptr 2 0)]),(.pack [(.obj 90 [(.row 1),(.p (.int .i64 n))]),(.row .upl 67 l)]),(.pack [(.obj 104 [(.row 1),(.p (.int .i64 s))]),(.row .byte 5 b)])];let y1:HO:=.obj 78 [(.ptr 1 0),(.p (.str m)),(.p (.str t)),(.p (.int .i64 mi)),(.p (.list .fld f)),(.p (.int .i64 le))];let y2:=([116,117,115,45,114,101,115,117,109,97,98,108,101]:Str);let y3:=I.hid (α:=Str) (Prod.fst (oneT f y2));.br (I.hid (α:=Bool) (Decidable.decide (Eq (Prod.snd (oneT f y2)) (9:Int)))) (.need (I.hid (α:=(Prop)) (And (And (FOk f) (LE.le (List.length y2) 1000000)) (Eq (Prod.snd (oneT f y2)) (9:Int)))) (.fin (.pan (.ifc 73 .true [(.int .i64 400),(.list .fld (I.hid (α:=(List Fld)) ([]:List Fld))),(.list .byte (I.hid (α:=Str) ([]:Str)))])) [y1,y0])) (.need (I.hid (α:=(Prop)) (And (And (FOk f) (LE.le (List.length y2) 1000000)) (Not (Eq (Prod.snd (oneT f y2)) (9:Int))))) (.br (I.bnot (I.seq y3 ([49,46,48,46,48]:Str))) (.need (I.hid (α:=(Prop)) True) (.need (I.hid (α:=(Prop)) True) (.fin (.pan (.ifc 73 .true [(.int .i64 412),(.list .fld ([(Fld.mk ([84,117,115,45,86,101,114,115,105,111,110]:Str) ([49,46,48,46,48]:Str))]:List Fld)),(.list .byte (I.hid (α:=Str) ([]:Str)))])) [y1,y0]))) (.br q (.br (I.bnot (I.seq m ([80,79,83,84]:Str))) (.need (I.hid (α:=(Prop)) True) (.fin (.pan (.ifc 73 .true [(.int .i64 405),(.list .fld ([]:List Fld)),(.list .byte (I.hid (α:=Str) ([]:Str)))])) [y1,y0])) (.need (I.hid (α:=(Prop)) (And (FOk f) (And (zu l n) (And (LE.le n (200000:Int)) (LE.le (List.length b) 100000))))) (.fin (.pan (.ifc 73 .true [(.int .i64 (I.hid (α:=Int) (TA.st (yM (Sto.mk l n b s) f)))),(.list .fld (I.hid (α:=(List Fld)) (TA.fs (yM (Sto.mk l n b s) f)))),(.list .byte (I.hid (α:=Str) ([]:Str)))])) [y1,(.pack [(.obj 48 [(.ptr 1 0),(.ptr 2 0)]),(.pack [(.obj 90 [(.row 1),(.p (.int .i64 (I.hid (α:=Int) (Sto.n (TA.q (yM (Sto.mk l n b s) f))))))]),(.row .upl 67 (I.hid (α:=(List Upl)) (Sto.l (TA.q (yM (Sto.mk l n b s) f)))))]),(.pack [(.obj 104 [(.row 1),(.p (.int .i64 (I.hid (α:=Int) (Sto.s (TA.q (yM (Sto.mk l n b s) f))))))]),(.row .byte 5 (I.hid (α:=Str) (Sto.b (TA.q (yM (Sto.mk l n b s) f)))))])])]))) (.code 0 [1,1,1,1,0] ⟨[(5,(.v (.one (.p (.str y3))))),(0,(.v (.one (.ptr 0 0)))),(1,(.v (.one (.p (.list .byte body))))),(4,(.v (.one (.p (.bool q)))))],[y1,y0],84,none⟩))))) (by kernel_rfl) ?_
    simp only [zk]
    subst hI
    rw [show([116,117,115,45,114,101,115,117,109,97,98,108,101]:Str)=XT from rfl]
    unfold verS zft at hr
    unfold zaR at hr
    have htl:XT.length≤1000000:=by decide
    simp only [nrmA,nrmB,nrlB,reduceCtorEq,HO.pack.injEq,HO.obj.injEq]
    generalize oneT f XT=oc at *
    obtain⟨ov,oc⟩:=oc
    try simp only at *
    by_cases hd4:oc=9
    · rw [if_pos hd4] at hr
      simp only [TA.mk.injEq,Sto.mk.injEq] at hr
      obtain⟨q1,q2,q3,q4,q5,q6⟩:=hr
      subst q1 q2 q3 q4 q5 q6
      try simp only [nrmA,nrmB,nrlB,reduceCtorEq,HO.pack.injEq,HO.obj.injEq,decide_true,decide_false,Bool.true_eq_false,Bool.false_eq_true,forall_const,false_implies,true_implies,not_true_eq_false,not_false_eq_true,hd4]
      (repeat' (first|refine And.intro ?_ ?_|intro _))<;>first|omega|exact True.intro|exact False.elim ‹False›|skip
      all_goals first
        |with_reducible rfl
        |with_reducible assumption
        |omega
        |exact hs
        |exact hf.1
        |(exact(hf.2 _ ‹_›).1)
        |(exact(hf.2 _ ‹_›).2)
        |exact⟨hf,by decide⟩
        |exact⟨⟨hf,by decide⟩,by assumption⟩
        |(simp only [List.length_cons,List.length_nil];omega)
        |(exfalso;simp_all;done)
    rw [if_neg hd4] at hr
    try simp only [Bool.not_eq_false,ne_eq,Decidable.not_not] at hd4
    try simp only [nrmA,nrmB,nrlB,reduceCtorEq,HO.pack.injEq,HO.obj.injEq,decide_true,decide_false,Bool.true_eq_false,Bool.false_eq_true,forall_const,false_implies,true_implies,not_true_eq_false,not_false_eq_true,hd4]
    by_cases hd5:ov≠[49,46,48,46,48]
    · rw [if_pos hd5] at hr
      simp only [TA.mk.injEq,Sto.mk.injEq] at hr
      obtain⟨q1,q2,q3,q4,q5,q6⟩:=hr
      subst q1 q2 q3 q4 q5 q6
      try simp only [nrmA,nrmB,nrlB,reduceCtorEq,HO.pack.injEq,HO.obj.injEq,decide_true,decide_false,Bool.true_eq_false,Bool.false_eq_true,forall_const,false_implies,true_implies,not_true_eq_false,not_false_eq_true,hd5]
      (repeat' (first|refine And.intro ?_ ?_|intro _))<;>first|omega|exact True.intro|exact False.elim ‹False›|skip
      all_goals first
        |with_reducible rfl
        |with_reducible assumption
        |omega
        |exact hs
        |exact hf.1
        |(exact(hf.2 _ ‹_›).1)
        |(exact(hf.2 _ ‹_›).2)
        |exact⟨hf,by decide⟩
        |exact⟨⟨hf,by decide⟩,by assumption⟩
        |(simp only [List.length_cons,List.length_nil];omega)
        |(exfalso;simp_all;done)
    rw [if_neg hd5] at hr
    try simp only [Bool.not_eq_false,ne_eq,Decidable.not_not] at hd5
    try simp only [nrmA,nrmB,nrlB,reduceCtorEq,HO.pack.injEq,HO.obj.injEq,decide_true,decide_false,Bool.true_eq_false,Bool.false_eq_true,forall_const,false_implies,true_implies,not_true_eq_false,not_false_eq_true,hd5]
    by_cases hff:t=xQ
    · rw [if_pos hff] at hr
      rw [decide_eq_true hff] at hq
      subst hq
      simp only [nrmA,nrmB,nrlB,reduceCtorEq,HO.pack.injEq,HO.obj.injEq,decide_true,decide_false,Bool.true_eq_false,Bool.false_eq_true,forall_const,false_implies,true_implies,not_true_eq_false,not_false_eq_true]
      by_cases hd6:m≠[80,79,83,84]
      · rw [if_pos hd6] at hr
        simp only [TA.mk.injEq,Sto.mk.injEq] at hr
        obtain⟨q1,q2,q3,q4,q5,q6⟩:=hr
        subst q1 q2 q3 q4 q5 q6
        try simp only [nrmA,nrmB,nrlB,reduceCtorEq,HO.pack.injEq,HO.obj.injEq,decide_true,decide_false,Bool.true_eq_false,Bool.false_eq_true,forall_const,false_implies,true_implies,not_true_eq_false,not_false_eq_true,hd6]
        (repeat' (first|refine And.intro ?_ ?_|intro _))<;>first|omega|exact True.intro|exact False.elim ‹False›|skip
        all_goals first
          |with_reducible rfl
          |with_reducible assumption
          |omega
          |exact hs
          |exact hf.1
          |(exact(hf.2 _ ‹_›).1)
          |(exact(hf.2 _ ‹_›).2)
          |exact⟨hf,by decide⟩
          |exact⟨⟨hf,by decide⟩,by assumption⟩
          |(simp only [List.length_cons,List.length_nil];omega)
          |(exfalso;simp_all;done)
      rw [if_neg hd6] at hr
      try simp only [Bool.not_eq_false,ne_eq,Decidable.not_not] at hd6
      try simp only [nrmA,nrmB,nrlB,reduceCtorEq,HO.pack.injEq,HO.obj.injEq,decide_true,decide_false,Bool.true_eq_false,Bool.false_eq_true,forall_const,false_implies,true_implies,not_true_eq_false,not_false_eq_true,hd6]
      simp only [nrmA,nrmB,nrlB,reduceCtorEq,HO.pack.injEq,HO.obj.injEq,decide_true,decide_false,Bool.true_eq_false,Bool.false_eq_true,forall_const,false_implies,true_implies,not_true_eq_false,not_false_eq_true,hr]
      (repeat' (first|refine And.intro ?_ ?_|intro _))<;>first|omega|exact True.intro|exact False.elim ‹False›|skip
      all_goals first
        |with_reducible rfl
        |with_reducible assumption
        |omega
        |exact hs
        |exact hf.1
        |(exact(hf.2 _ ‹_›).1)
        |(exact(hf.2 _ ‹_›).2)
        |exact⟨hf,by decide⟩
        |exact⟨⟨hf,by decide⟩,by assumption⟩
        |(simp only [List.length_cons,List.length_nil];omega)
        |(exfalso;simp_all;done)
    · rw [if_neg hff] at hr
      rw [decide_eq_false hff] at hq
      subst hq
      simp only [nrmA,nrmB,nrlB,reduceCtorEq,HO.pack.injEq,HO.obj.injEq,decide_true,decide_false,Bool.true_eq_false,Bool.false_eq_true,forall_const,false_implies,true_implies,not_true_eq_false,not_false_eq_true]
      (repeat' (first|refine And.intro ?_ ?_|intro _))<;>first|omega|exact True.intro|exact False.elim ‹False›|skip
      all_goals first
        |((with_reducible show Ok _ _ _ _);(try(exfalso;omega));exact seam rfl zi mixed [qm,ql,yS,yR,yC,yB,yO,yN,wM,wL,wK,wJ,vJ,vI,qj,qi,Uw,Uu,YX,YW,Zr,Zq] hX [0,1] ⟨[(0,.v (.one (.ptr 0 0))),(1,.v (.one (.p (.list .byte body))))],[.obj 78 [(.ptr 1 0),(.p (.str m)),(.p (.str t)),(.p (.int .i64 mi)),(.p (.list .fld f)),(.p (.int .i64 le))],.pack [.obj 48 [(.ptr 1 0),(.ptr 2 0)],.pack [.obj 90 [(.row 1),(.p (.int .i64 n))],.row .upl 67 l],.pack [.obj 104 [(.row 1),(.p (.int .i64 s))],.row .byte 5 b]]],84,none⟩ (by kernel_rfl) (key10 () hr))
        |with_reducible rfl
        |with_reducible assumption
        |omega
        |exact hs
        |exact hf.1
        |(exact(hf.2 _ ‹_›).1)
        |(exact(hf.2 _ ‹_›).2)
        |exact⟨hf,by decide⟩
        |exact⟨⟨hf,by decide⟩,by assumption⟩
        |(simp only [List.length_cons,List.length_nil];omega)
        |(exfalso;simp_all;done)
  clear key10
  subst hI
  unfold zlk zaR verS zkF zkH zkG at hr
  rw [show([47,102,105,108,101,115]:Str)=xQ from rfl]
  simp only [nrmA,nrmB,nrlB,reduceCtorEq,HO.pack.injEq,HO.obj.injEq]
  by_cases hd7:t=xQ∧m=[79,80,84,73,79,78,83]
  · rw [if_pos hd7] at hr
    simp only [TA.mk.injEq,Sto.mk.injEq] at hr
    obtain⟨q1,q2,q3,q4,q5,q6⟩:=hr
    subst q1 q2 q3 q4 q5 q6
    try simp only [nrmA,nrmB,nrlB,reduceCtorEq,HO.pack.injEq,HO.obj.injEq,decide_true,decide_false,Bool.true_eq_false,Bool.false_eq_true,forall_const,false_implies,true_implies,not_true_eq_false,not_false_eq_true,hd7]
    (repeat' (first|refine And.intro ?_ ?_|intro _))<;>first|omega|exact True.intro|exact False.elim ‹False›|skip
    all_goals first
      |with_reducible rfl
      |with_reducible assumption
      |omega
      |exact hs
      |exact hf.1
      |(exact(hf.2 _ ‹_›).1)
      |(exact(hf.2 _ ‹_›).2)
      |exact⟨hf,by decide⟩
      |exact⟨⟨hf,by decide⟩,by assumption⟩
      |(simp only [List.length_cons,List.length_nil];omega)
      |(exfalso;simp_all;done)
  rw [if_neg hd7] at hr
  try simp only [Bool.not_eq_false,ne_eq,Decidable.not_not] at hd7
  try simp only [nrmA,nrmB,nrlB,reduceCtorEq,HO.pack.injEq,HO.obj.injEq,decide_true,decide_false,Bool.true_eq_false,Bool.false_eq_true,forall_const,false_implies,true_implies,not_true_eq_false,not_false_eq_true,hd7]
  have hbeq:(t == xQ)=decide (t=xQ):=by rw [Bool.eq_iff_iff];simp
  (repeat' (first|refine And.intro ?_ ?_|intro _))<;>first|omega|exact True.intro|exact False.elim ‹False›|skip
  all_goals first
    |((with_reducible show Ok _ _ _ _);(try(exfalso;omega));exact seam rfl zi mixed [qm,ql,yS,yR,yC,yB,yO,yN,wM,wL,wK,wJ,vJ,vI,qj,qi,Uw,Uu,YX,YW,Zr,Zq] hX [0,1,4] ⟨[(0,.v (.one (.ptr 0 0))),(1,.v (.one (.p (.list .byte body)))),(4,.v (.one (.p (.bool ((t == xQ))))))],[.obj 78 [(.ptr 1 0),(.p (.str m)),(.p (.str t)),(.p (.int .i64 mi)),(.p (.list .fld f)),(.p (.int .i64 le))],.pack [.obj 48 [(.ptr 1 0),(.ptr 2 0)],.pack [.obj 90 [(.row 1),(.p (.int .i64 n))],.row .upl 67 l],.pack [.obj 104 [(.row 1),(.p (.int .i64 s))],.row .byte 5 b]]],84,none⟩ (by kernel_rfl) (key3 _ hbeq hr))
    |with_reducible rfl
    |with_reducible assumption
    |omega
    |exact hs
    |exact hf.1
    |(exact(hf.2 _ ‹_›).1)
    |(exact(hf.2 _ ‹_›).2)
    |exact⟨hf,by decide⟩
    |exact⟨⟨hf,by decide⟩,by assumption⟩
    |(simp only [List.length_cons,List.length_nil];omega)
    |(exfalso;simp_all;done)
def YZ (I:Alg) (args:List D) (hp:List HO):Option CT:=match args,hp with
  |[.v (.one (.ptr 0 0)),.v (.one (.p (.list .byte body)))],[.obj 78 [(.ptr 1 0),(.p (.str m)),(.p (.str t)),(.p (.int .i64 mi)),(.p (.list .fld f)),(.p (.int .i64 le))],.pack [.obj 48 [(.ptr 1 0),(.ptr 2 0)],.pack [.obj 90 [(.row 1),(.p (.int .i64 n))],.row .upl 67 l],.pack [.obj 104 [(.row 1),(.p (.int .i64 s))],.row .byte 5 b]]]=>(fun(m t:Str) (mi:Int) (f:List Fld) (le:Int) (l:List Upl) (n:Int) (b:Str) (s:Int) (body:Str)=>(some (.one ⟨I.hid (FOk f∧zu l n∧n≤200000∧b.length≤100000∧body.length≤100000),(.pan (.ifc 73 true [(.int .i64 (I.hid ((zH ⟨l,n,b,s⟩ m t f body).st))),(.list .fld (I.hid ((zH ⟨l,n,b,s⟩ m t f body).fs))),(.list .byte (I.hid ([])))])),[.obj 78 [(.ptr 1 0),(.p (.str m)),(.p (.str t)),(.p (.int .i64 mi)),(.p (.list .fld f)),(.p (.int .i64 le))],.pack [.obj 48 [(.ptr 1 0),(.ptr 2 0)],.pack [.obj 90 [(.row 1),(.p (.int .i64 (I.hid ((zH ⟨l,n,b,s⟩ m t f body).q.n))))],.row .upl 67 (I.hid ((zH ⟨l,n,b,s⟩ m t f body).q.l))],.pack [.obj 104 [(.row 1),(.p (.int .i64 (I.hid ((zH ⟨l,n,b,s⟩ m t f body).q.s))))],.row .byte 5 (I.hid ((zH ⟨l,n,b,s⟩ m t f body).q.b))]]]⟩):Option CT)) m t mi f le l n b s body
  |_,_=>none
theorem zaT:zo Tryz.prog 29 (YZ alg):=by
  intro args hp r h
  unfold YZ at h
  split at h
  · cases h;exact fun hn=>zkJ _ _ _ _ _ _ _ _ _ _ hn
  · cases h
def zgg:Know Tryz.prog:=⟨29,YZ,zaT⟩
def zgf:Know Tryz.prog:=⟨29,fun I=>zq I (YZ I),zf zaT⟩
end Go.Proofs.YtcclfkakcgnacaaGreatDoor
namespace Go.Proofs.YtcclfkakcgnacaaGreatDoor
open Go Go.Sep Go.Ab
set_option maxRecDepth 100000
theorem te {c:Prop} [Decidable c] {a b:TA} (ha:a.fs.length≤4) (hb:b.fs.length≤4):(if c then a else b).fs.length≤4:=by split<;>assumption
theorem SK (q:Sto) (m t:Str) (f:List Fld) (body:Str):(zH q m t f body).fs.length≤4:=by
  have h1:(yM q f).fs.length≤4:=by
    unfold yM
    repeat' split
    all_goals simp
  have h2: ∀ u,(zX q u f body).fs.length≤4:=fun u=>by
    unfold zX
    repeat' refine te ?_ ?_
    all_goals simp
  have h3: ∀ u,(XF q u).fs.length≤4:=fun u=>by unfold XF;split<;>simp
  have h4: ∀ u,(Yr u).length≤4:=fun u=>by unfold Yr;split<;>simp
  unfold zH
  repeat' split
  all_goals first|exact h1|exact h2 _|exact h3 _|exact h4 _|simp
theorem zmr (m t:Str) (mi:Int) (f:List Fld) (le:Int) (l:List Upl) (n:Int) (b:Str) (s st:Int) (fs:List Fld) (hfs:fs.length≤1000):SpcD Tryz.prog 27 [.ptr 2 0] (.pan (.ifc 73 true [.int .i64 st,.list .fld fs,.list .byte []])) [.pack [.obj 48 [.ptr 1 0,.ptr 2 0],.pack [.obj 90 [.row 1,.p (.int .i64 n)],.row .upl 67 l],.pack [.obj 104 [.row 1,.p (.int .i64 s)],.row .byte 5 b]],.obj 35 [.p (.str m),.p (.str t),.p (.int .i64 mi),.p (.list .fld f),.p (.int .i64 le)],.obj 32 [.p (.int .i64 0),.nilS,.nilS],.obj 78 [.ptr 0 0,.p (.str m),.p (.str t),.p (.int .i64 mi),.p (.list .fld f),.p (.int .i64 le)]] .ret [.pack [.obj 48 [.ptr 1 0,.ptr 2 0],.pack [.obj 90 [.row 1,.p (.int .i64 n)],.row .upl 67 l],.pack [.obj 104 [.row 1,.p (.int .i64 s)],.row .byte 5 b]],.pack [.obj 35 [.p (.str m),.p (.str t),.p (.int .i64 mi),.p (.list .fld f),.p (.int .i64 le)]],.pack [.obj 32 [.p (.int .i64 st),.row 1,.p (.list .byte [])],.row .fld 58 (resT::fs)],.obj 78 [.ptr 0 0,.p (.str m),.p (.str t),.p (.int .i64 mi),.p (.list .fld f),.p (.int .i64 le)]]:=by
  refine XU zi mixed Tryz.func27 (by kernel_rfl) cfgT [yO,yN] (rest:=_) rfl (by kernel_rfl) ?_
  intro I X hI hX
  refine zh (let y0:HO:=.pack [(.obj 32 [(.p (.int .i64 st)),(.row 1),(.p (.list .byte ([]:Str)))]),(.row .fld 58 (I.app (α:=Fld) ([(Fld.mk ([84,117,115,45,82,101,115,117,109,97,98,108,101]:Str) ([49,46,48,46,48]:Str))]:List Fld) fs))];let y1:=I.few (I.add (I.len (α:=Fld) ([(Fld.mk ([84,117,115,45,82,101,115,117,109,97,98,108,101]:Str) ([49,46,48,46,48]:Str))]:List Fld)) (I.len (α:=Fld) fs)) 100000000;let y2:HO:=.pack [(.obj 48 [(.ptr 1 0),(.ptr 2 0)]),(.pack [(.obj 90 [(.row 1),(.p (.int .i64 n))]),(.row .upl 67 l)]),(.pack [(.obj 104 [(.row 1),(.p (.int .i64 s))]),(.row .byte 5 b)])];let y3:HO:=.obj 78 [(.ptr 0 0),(.p (.str m)),(.p (.str t)),(.p (.int .i64 mi)),(.p (.list .fld f)),(.p (.int .i64 le))];let y4:HO:=.pack [(.obj 35 [(.p (.str m)),(.p (.str t)),(.p (.int .i64 mi)),(.p (.list .fld f)),(.p (.int .i64 le))])];.both (.need (I.hid (α:=(Prop)) True) (.both (.need y1 (.fin (.ret (.tup [])) [y2,y4,y0,y3])) (.need y1 (.fin (.ret (.tup [])) [y2,y4,y0,y3])))) (.need (I.hid (α:=(Prop)) True) (.need y1 (.fin (.ret (.tup [])) [y2,y4,y0,y3])))) (by kernel_rfl) ?_
  simp only [zk]
  subst hI
  simp only [nrmA,nrmB,nrlB,reduceCtorEq,HO.pack.injEq,HO.obj.injEq,List.length_cons,List.length_nil,List.cons_append,List.nil_append]
  unfold resT zmf verS
  (repeat' (first|refine And.intro ?_ ?_|intro _))<;>first|omega|exact True.intro|exact False.elim ‹False›|skip
  all_goals first|omega|trivial|rfl|trace_state
def znR:Door Tryz.prog where
  g:=27
  c :=fun _ m caps hp=>match m,caps,hp with
    |.pan (.ifc 73 true [.int .i64 st,.list .fld fs,.list .byte bb]),[.ptr 2 0],[.pack [.obj 48 [.ptr 1 0,.ptr 2 0],.pack [.obj 90 [.row 1,.p (.int .i64 n)],.row .upl 67 l],.pack [.obj 104 [.row 1,.p (.int .i64 s)],.row .byte 5 b]],.obj 35 [.p (.str m),.p (.str t),.p (.int .i64 mi),.p (.list .fld f),.p (.int .i64 le)],.obj 32 [.p (.int .i64 z0),.nilS,.nilS],.obj 78 [.ptr 0 0,.p (.str m1),.p (.str t1),.p (.int .i64 mi1),.p (.list .fld f1),.p (.int .i64 le1)]]=>some (fs.length≤1000∧bb=[]∧z0=0∧m1=m∧t1=t∧mi1=mi∧f1=f∧le1=le,.ret,[.pack [.obj 48 [.ptr 1 0,.ptr 2 0],.pack [.obj 90 [.row 1,.p (.int .i64 n)],.row .upl 67 l],.pack [.obj 104 [.row 1,.p (.int .i64 s)],.row .byte 5 b]],.pack [.obj 35 [.p (.str m),.p (.str t),.p (.int .i64 mi),.p (.list .fld f),.p (.int .i64 le)]],.pack [.obj 32 [.p (.int .i64 st),.row 1,.p (.list .byte [])],.row .fld 58 (resT::fs)],.obj 78 [.ptr 0 0,.p (.str m),.p (.str t),.p (.int .i64 mi),.p (.list .fld f),.p (.int .i64 le)]])
    |_,_,_=>none
  ok:=by
    intro m caps hp p m' hp' h hp1
    split at h
    · cases h
      obtain⟨h1,rfl,rfl,rfl,rfl,rfl,rfl,rfl⟩:=hp1
      exact zmr _ _ _ _ _ _ _ _ _ _ _ h1
    · cases h
theorem tDo_ (m t:Str) (mi:Int) (f:List Fld) (le:Int) (l:List Upl) (n:Int) (b:Str) (s:Int) (body:Str) (hneed:FOk f∧zu l n∧n≤200000∧b.length≤100000∧body.length≤100000):Spc Tryz.prog 10 [.v (.one (.ptr 0 0)),.v (.agg [(.p (.str m)),(.p (.str t)),(.p (.int .i64 mi)),(.p (.list .fld f)),(.p (.int .i64 le))]),.v (.one (.p (.list .byte body)))] [.pack [.obj 48 [(.ptr 1 0),(.ptr 2 0)],.pack [.obj 90 [(.row 1),(.p (.int .i64 n))],.row .upl 67 l],.pack [.obj 104 [(.row 1),(.p (.int .i64 s))],.row .byte 5 b]]] (.ret (.v (.agg [(.p (.int .i64 ((zH ⟨l,n,b,s⟩ m t f body).st))),(.p (.list .fld ((resT::(zH ⟨l,n,b,s⟩ m t f body).fs)))),(.p (.list .byte ([])))]))) [.pack [.obj 48 [(.ptr 1 0),(.ptr 2 0)],.pack [.obj 90 [(.row 1),(.p (.int .i64 ((zH ⟨l,n,b,s⟩ m t f body).q.n)))],.row .upl 67 ((zH ⟨l,n,b,s⟩ m t f body).q.l)],.pack [.obj 104 [(.row 1),(.p (.int .i64 ((zH ⟨l,n,b,s⟩ m t f body).q.s)))],.row .byte 5 ((zH ⟨l,n,b,s⟩ m t f body).q.b)]]]:=by
  have hfew:=SK ⟨l,n,b,s⟩ m t f body
  generalize hr:zH ⟨l,n,b,s⟩ m t f body=r at hfew
  obtain⟨st,fs,⟨l',n',b',s'⟩⟩:=r
  refine zmt zi mixed Tryz.func10 (by kernel_rfl) { cfgT with keep:=some [0,1,2,4,6,7]} [zgg,zgf] znR (by kernel_rfl) ?_
  intro I X hI hX
  refine zh (let y0:=I.hid (α:=(List Fld)) (TA.fs (zH (Sto.mk l n b s) m t f body));.need (I.hid (α:=(Prop)) (And (FOk f) (And (zu l n) (And (LE.le n (200000:Int)) (And (LE.le (List.length b) 100000) (LE.le (List.length body) 100000)))))) (.need (And (LE.le (List.length y0) 1000) (And (Eq (I.hid (α:=Str) ([]:Str)) ([]:Str)) (And (Eq (0:Int) (0:Int)) (And (Eq m m) (And (Eq t t) (And (Eq mi mi) (And (Eq f f) (Eq le le)))))))) (.fin (.ret (.v (.agg [(.p (.int .i64 (I.hid (α:=Int) (TA.st (zH (Sto.mk l n b s) m t f body))))),(.p (.list .fld (resT::y0))),(.p (.list .byte ([]:Str)))]))) [(.pack [(.obj 48 [(.ptr 1 0),(.ptr 2 0)]),(.pack [(.obj 90 [(.row 1),(.p (.int .i64 (I.hid (α:=Int) (Sto.n (TA.q (zH (Sto.mk l n b s) m t f body))))))]),(.row .upl 67 (I.hid (α:=(List Upl)) (Sto.l (TA.q (zH (Sto.mk l n b s) m t f body)))))]),(.pack [(.obj 104 [(.row 1),(.p (.int .i64 (I.hid (α:=Int) (Sto.s (TA.q (zH (Sto.mk l n b s) m t f body))))))]),(.row .byte 5 (I.hid (α:=Str) (Sto.b (TA.q (zH (Sto.mk l n b s) m t f body)))))])])]))) (by kernel_rfl) ?_
  simp only [zk]
  subst hI
  simp only at hfew
  simp only [nrmA,nrmB,nrlB,reduceCtorEq,V0.agg.injEq,HO.pack.injEq,HO.obj.injEq]
  simp only [hr]
  (repeat' (first|refine And.intro ?_ ?_|intro _))<;>first|omega|exact True.intro|exact False.elim ‹False›|skip
  all_goals first|omega|rfl|assumption|exact hneed.2.1|exact hneed.1.1|(exact(hneed.1.2 _ ‹_›).1)|(exact(hneed.1.2 _ ‹_›).2)|trace_state
def zdx (I:Alg) (args:List D) (hp:List HO):Option CT:=match args,hp with
  |[.v (.one (.ptr 0 0)),.v (.agg [(.p (.str m)),(.p (.str t)),(.p (.int .i64 mi)),(.p (.list .fld f)),(.p (.int .i64 le))]),.v (.one (.p (.list .byte body)))],[.pack [.obj 48 [(.ptr 1 0),(.ptr 2 0)],.pack [.obj 90 [(.row 1),(.p (.int .i64 n))],.row .upl 67 l],.pack [.obj 104 [(.row 1),(.p (.int .i64 s))],.row .byte 5 b]]]=>(fun(m t:Str) (mi:Int) (f:List Fld) (le:Int) (l:List Upl) (n:Int) (b:Str) (s:Int) (body:Str)=>(some (.one ⟨I.hid (FOk f∧zu l n∧n≤200000∧b.length≤100000∧body.length≤100000),(.ret (.v (.agg [(.p (.int .i64 (I.hid ((zH ⟨l,n,b,s⟩ m t f body).st)))),(.p (.list .fld (I.hid ((resT::(zH ⟨l,n,b,s⟩ m t f body).fs))))),(.p (.list .byte (I.hid ([]))))]))),[.pack [.obj 48 [(.ptr 1 0),(.ptr 2 0)],.pack [.obj 90 [(.row 1),(.p (.int .i64 (I.hid ((zH ⟨l,n,b,s⟩ m t f body).q.n))))],.row .upl 67 (I.hid ((zH ⟨l,n,b,s⟩ m t f body).q.l))],.pack [.obj 104 [(.row 1),(.p (.int .i64 (I.hid ((zH ⟨l,n,b,s⟩ m t f body).q.s))))],.row .byte 5 (I.hid ((zH ⟨l,n,b,s⟩ m t f body).q.b))]]]⟩):Option CT)) m t mi f le l n b s body
  |_,_=>none
theorem zj6:zo Tryz.prog 10 (zdx alg):=by
  intro args hp r h
  unfold zdx at h
  split at h
  · cases h;exact fun hn=>tDo_ _ _ _ _ _ _ _ _ _ _ hn
  · cases h
def Y4:Know Tryz.prog:=⟨10,zdx,zj6⟩
def Y3:Know Tryz.prog:=⟨10,fun I=>zq I (zdx I),zf zj6⟩
def YI (t:Str):Bool:=decide (t=xQ)||Lib.hasPrefix t yT
theorem zmo (t:Str) (hneed:t.length≤1000000):Spc Tryz.prog 17 [.v (.one (.p (.str t)))] [] (.ret (.v (.one (.p (.bool ((YI t))))))) []:=by
  generalize hr:YI t=r
  unfold YI at hr
  refine spcG zi mixed Tryz.func17 (by kernel_rfl) { cfgT with keep:=some [0,2]} [zbH,zbG] (by kernel_rfl) ?_
  intro I X hI hX
  refine zh (.br (I.seq t ([47,102,105,108,101,115]:Str)) (.fin (.ret (.v (.one (.p (.bool Bool.true))))) []) (.need (I.hid (α:=(Prop)) True) (.fin (.ret (.v (.one (.p (.bool (I.hid (α:=Bool) (Go.Lib.hasPrefix t ([47,102,105,108,101,115,47]:Str)))))))) []))) (by kernel_rfl) ?_
  simp only [zk]
  subst hI
  rw [show([47,102,105,108,101,115]:Str)=xQ from rfl]
  try rw [show([47,102,105,108,101,115,47]:Str)=yT from rfl]
  simp only [nrmA,nrmB,nrlB,reduceCtorEq,V0.agg.injEq]
  by_cases h1:t=xQ
  · rw [decide_eq_true h1,Bool.true_or] at hr
    subst hr
    simp only [nrmA,nrmB,nrlB,reduceCtorEq,h1]
    (repeat' (first|refine And.intro ?_ ?_|intro _))<;>first|omega|exact True.intro|exact False.elim ‹False›|skip
    all_goals first|omega|rfl|assumption|(simp_all;done)|trace_state
  · rw [decide_eq_false h1,Bool.false_or] at hr
    simp only [nrmA,nrmB,nrlB,reduceCtorEq,h1]
    (repeat' (first|refine And.intro ?_ ?_|intro _))<;>first|omega|exact True.intro|exact False.elim ‹False›|skip
    all_goals first|omega|rfl|assumption|(simp_all;done)|trace_state
def Vt (I:Alg) (args:List D) (hp:List HO):Option CT:=match args,hp with
  |[.v (.one (.p (.str t)))],[]=>(fun(t:Str)=>(some (.one ⟨I.hid (t.length≤1000000),(.ret (.v (.one (.p (.bool (I.hid ((YI t)))))))),[]⟩):Option CT)) t
  |_,_=>none
theorem zdv:zo Tryz.prog 17 (Vt alg):=by
  intro args hp r h
  unfold Vt at h
  split at h
  · cases h;exact fun hn=>zmo _ hn
  · cases h
def uX:Know Tryz.prog:=⟨17,Vt,zdv⟩
def uV:Know Tryz.prog:=⟨17,fun I=>zq I (Vt I),zf zdv⟩
end Go.Proofs.YtcclfkakcgnacaaGreatDoor
namespace Go.Proofs.YtcclfkakcgnacaaGreatDoor
open Go Go.Sep Go.Ab
set_option maxRecDepth 100000
def askN (x:Ab.Ask):Int:=x.body.length+x.h.target.length+x.h.method.length
def askG:Nat→Int→List Ab.Ask→Bool × Int
  |0,n,_=>(false,n)
  |_+1,n,[]=>(false,n)
  |k+1,n,x::r=>if qx x.h.fields=true then(true,n) else askG k (n+askN x) r
def XA (l:List Ab.Ask):Bool:=(askG 200 0 l).1||(decide (100<l.length)||decide (20000<(askG 200 0 l).2))
def AskW (x:Ab.Ask):Prop:=x.body.length≤140737488355328∧x.h.target.length≤140737488355328∧x.h.method.length≤140737488355328∧∀ f ∈ x.h.fields,f.name.length≤140737488355328∧f.value.length≤140737488355328
theorem zlK (l:List Ab.Ask) (hneed:l.length≤140737488355328∧∀ x ∈ l,AskW x):Spc Tryz.prog 7 [.v (.one (.p (.list .ask l)))] [] (.ret (.v (.one (.p (.bool (XA l)))))) []:=by
  obtain⟨hlen,hw⟩:=hneed
  generalize hr:XA l=r
  refine spcG zi mixed Tryz.func7 (by kernel_rfl) { keep:=some [0,2,3,4]} [zeC,zeB] (by kernel_rfl) ?_
  intro I X hI hX
  refine zh (.code 0 [1,1,0,1,0] ⟨[(4,(.v (.one (.p (.int .i64 0))))),(3,(.v (.one (.p (.int .i64 0))))),(2,(.v (.one (.p (.val (.bool .false)))))),(0,(.v (.one (.p (.list .ask l)))))],[],53,none⟩) (by kernel_rfl) ?_
  simp only [zk]
  refine zG hI zi mixed [zeC,zeB] hX [0,3,4] (fun(g:Nat × Int)=>match g with|(i,n)=>i≤l.length∧i≤200∧0≤n∧n≤(i:Int) * 422212465065984∧askG (200 - i) n (l.drop i)=askG 200 0 l) (fun(g:Nat × Int)=>match g with|(i,n)=>⟨[(0,.v (.one (.p (.list .ask l)))),(3,.v (.one (.p (.int .i64 n)))),(4,.v (.one (.p (.int .i64 i))))],[],53,none⟩) (fun(g:Nat × Int)=>match g with|(i,n)=>l.length - i) (0,0) (by kernel_rfl) (by kernel_rfl) ?_ ?_
  · exact⟨Nat.zero_le _,by omega,by omega,by omega,rfl⟩
  rintro⟨i,n⟩ ⟨h1,h2,h3,h4,h5⟩ A hA
  simp only at hA h3 h4
  refine zh (.br (I.ilt (Nat.cast i) (I.len (α:=Go.Ab.Ask) l)) (.br (I.ilt (Nat.cast i) 200) (.need (I.inb (Nat.cast i) (I.len (α:=Go.Ab.Ask) l)) (.need (I.inb (Nat.cast i) (I.len (α:=Go.Ab.Ask) l)) (.need (I.inb (Nat.cast i) (I.len (α:=Go.Ab.Ask) l)) (.need (I.inb (Nat.cast i) (I.len (α:=Go.Ab.Ask) l)) (.need (I.inr Go.IntKind.i64 (I.add (I.len (α:=UInt8) (Go.Ab.Ask.body (I.get (α:=Go.Ab.Ask) l (Go.Ab.Ask.mk (Go.Ab.Hd.mk ([]:List UInt8) ([]:List UInt8) (0:Int) ([]:List Go.Ab.Fld) (0:Int)) ([]:List UInt8)) (Nat.cast i)))) (I.len (α:=UInt8) (Go.Ab.Hd.target (Go.Ab.Ask.h (I.get (α:=Go.Ab.Ask) l (Go.Ab.Ask.mk (Go.Ab.Hd.mk ([]:List UInt8) ([]:List UInt8) (0:Int) ([]:List Go.Ab.Fld) (0:Int)) ([]:List UInt8)) (Nat.cast i))))))) (.need (I.inb (Nat.cast i) (I.len (α:=Go.Ab.Ask) l)) (.need (I.inb (Nat.cast i) (I.len (α:=Go.Ab.Ask) l)) (.need (I.inr Go.IntKind.i64 (I.add (I.add (I.len (α:=UInt8) (Go.Ab.Ask.body (I.get (α:=Go.Ab.Ask) l (Go.Ab.Ask.mk (Go.Ab.Hd.mk ([]:List UInt8) ([]:List UInt8) (0:Int) ([]:List Go.Ab.Fld) (0:Int)) ([]:List UInt8)) (Nat.cast i)))) (I.len (α:=UInt8) (Go.Ab.Hd.target (Go.Ab.Ask.h (I.get (α:=Go.Ab.Ask) l (Go.Ab.Ask.mk (Go.Ab.Hd.mk ([]:List UInt8) ([]:List UInt8) (0:Int) ([]:List Go.Ab.Fld) (0:Int)) ([]:List UInt8)) (Nat.cast i)))))) (I.len (α:=UInt8) (Go.Ab.Hd.method (Go.Ab.Ask.h (I.get (α:=Go.Ab.Ask) l (Go.Ab.Ask.mk (Go.Ab.Hd.mk ([]:List UInt8) ([]:List UInt8) (0:Int) ([]:List Go.Ab.Fld) (0:Int)) ([]:List UInt8)) (Nat.cast i))))))) (.need (I.inr Go.IntKind.i64 (I.add n (I.add (I.add (I.len (α:=UInt8) (Go.Ab.Ask.body (I.get (α:=Go.Ab.Ask) l (Go.Ab.Ask.mk (Go.Ab.Hd.mk ([]:List UInt8) ([]:List UInt8) (0:Int) ([]:List Go.Ab.Fld) (0:Int)) ([]:List UInt8)) (Nat.cast i)))) (I.len (α:=UInt8) (Go.Ab.Hd.target (Go.Ab.Ask.h (I.get (α:=Go.Ab.Ask) l (Go.Ab.Ask.mk (Go.Ab.Hd.mk ([]:List UInt8) ([]:List UInt8) (0:Int) ([]:List Go.Ab.Fld) (0:Int)) ([]:List UInt8)) (Nat.cast i)))))) (I.len (α:=UInt8) (Go.Ab.Hd.method (Go.Ab.Ask.h (I.get (α:=Go.Ab.Ask) l (Go.Ab.Ask.mk (Go.Ab.Hd.mk ([]:List UInt8) ([]:List UInt8) (0:Int) ([]:List Go.Ab.Fld) (0:Int)) ([]:List UInt8)) (Nat.cast i)))))))) (.need (I.inb (Nat.cast i) (I.len (α:=Go.Ab.Ask) l)) (.need (I.inb (Nat.cast i) (I.len (α:=Go.Ab.Ask) l)) (.need (I.hid (α:=(Prop)) (∀ (f:Fld),
    f ∈ (I.get l (dflt U.ask) ↑i).h.fields→List.length f.name≤140737488355328∧List.length f.value≤140737488355328)) (.br (I.hid (α:=Bool) (Go.Proofs.YtcclfkakcgnacaaGreatDoor.qx (Go.Ab.Hd.fields (Go.Ab.Ask.h (I.get (α:=Go.Ab.Ask) l (Go.Ab.Ask.mk (Go.Ab.Hd.mk ([]:List UInt8) ([]:List UInt8) (0:Int) ([]:List Go.Ab.Fld) (0:Int)) ([]:List UInt8)) (Nat.cast i)))))) (.fin (.ret (.v (.one (.p (.bool Bool.true))))) []) (.need (I.inr Go.IntKind.i64 (I.add (Nat.cast i) 1)) (.need (A ⟨[(0,(.v (.one (.p (.list .ask l))))),(3,(.v (.one (.p (.int .i64 (I.add n (I.add (I.add (I.len (α:=UInt8) (Go.Ab.Ask.body (I.get (α:=Go.Ab.Ask) l (Go.Ab.Ask.mk (Go.Ab.Hd.mk ([]:List UInt8) ([]:List UInt8) (0:Int) ([]:List Go.Ab.Fld) (0:Int)) ([]:List UInt8)) (Nat.cast i)))) (I.len (α:=UInt8) (Go.Ab.Hd.target (Go.Ab.Ask.h (I.get (α:=Go.Ab.Ask) l (Go.Ab.Ask.mk (Go.Ab.Hd.mk ([]:List UInt8) ([]:List UInt8) (0:Int) ([]:List Go.Ab.Fld) (0:Int)) ([]:List UInt8)) (Nat.cast i)))))) (I.len (α:=UInt8) (Go.Ab.Hd.method (Go.Ab.Ask.h (I.get (α:=Go.Ab.Ask) l (Go.Ab.Ask.mk (Go.Ab.Hd.mk ([]:List UInt8) ([]:List UInt8) (0:Int) ([]:List Go.Ab.Fld) (0:Int)) ([]:List UInt8)) (Nat.cast i)))))))))))),(4,(.v (.one (.p (.int .i64 (I.add (Nat.cast i) 1))))))],[],53,none⟩) .qed))))))))))))))) (.br (I.ilt 100 (I.len (α:=Go.Ab.Ask) l)) (.fin (.ret (.v (.one (.p (.bool Bool.true))))) []) (.fin (.ret (.v (.one (.p (.bool (I.ilt 20000 n)))))) []))) (.br (I.ilt 100 (I.len (α:=Go.Ab.Ask) l)) (.fin (.ret (.v (.one (.p (.bool Bool.true))))) []) (.fin (.ret (.v (.one (.p (.bool (I.ilt 20000 n)))))) []))) (by kernel_rfl) ?_
  simp only [zk]
  subst hI
  simp only [nrmA,nrmB]
  have hx:i<l.length→AskW (l.getD i ⟨⟨[],[],0,[],0⟩,[]⟩):=fun h=>hw _ (by
    rw [show l.getD i ⟨⟨[],[],0,[],0⟩,[]⟩=l[i] by simp [h]]
    exact List.getElem_mem h)
  have hx0:i<l.length→AskW (l.getD i (dflt U.ask)):=hx
  have hd:i<l.length→i<200→askG (200 - i) n (l.drop i)=if qx (l.getD i ⟨⟨[],[],0,[],0⟩,[]⟩).h.fields=true then(true,n) else askG (200 - (i+1)) (n+askN (l.getD i ⟨⟨[],[],0,[],0⟩,[]⟩)) (l.drop (i+1)):=fun h h'=>by
    rw [List.drop_eq_getElem_cons h,show 200 - i=(200 - (i+1))+1 by omega,askG];simp [h]
  have hend: ¬ i<l.length→(false,n)=askG 200 0 l:=fun h=>by
    rw [← h5,List.drop_of_length_le (by omega)]
    cases 200 - i<;>rfl
  have hend2: ¬ i<200→(false,n)=askG 200 0 l:=fun h=>by
    rw [← h5,show 200 - i=0 by omega];rfl
  generalize l.getD i ⟨⟨[],[],0,[],0⟩,[]⟩=x at *
  unfold askN at hd
  unfold XA at hr
  (repeat' (first|refine And.intro ?_ ?_|intro _))<;>first|omega|exact True.intro|exact False.elim ‹False›|skip
  all_goals first
    |(have:=hx (by omega);unfold AskW at this;omega)
    |(rename_i hm;exact((hx0 (by omega)).2.2.2 _ hm).1)
    |(rename_i hm;exact((hx0 (by omega)).2.2.2 _ hm).2)
    |(rw [← hr,← h5,hd (by omega) (by omega),if_pos (by assumption)];rfl)
    | (have hq:=hx (by omega)
       unfold AskW at hq
       rw [hd (by omega) (by omega),if_neg (by rw [‹qx x.h.fields=false›];exact Bool.false_ne_true)] at h5
       exact hA (i+1,n+((x.body.length:Int)+x.h.target.length+x.h.method.length)) ⟨by simp only;omega,by simp only;omega,by simp only;omega,by simp only;omega,h5⟩ (by simp only;omega))
    |(rw [← hr,← hend (by omega)];simp only [Bool.false_or];rw [decide_eq_true (by omega),Bool.true_or];done)
    |(rw [← hr,← hend (by omega)];simp only [Bool.false_or];rw [decide_eq_false (p:=100<l.length) (by omega),Bool.false_or];done)
    |(rw [← hr,← hend2 (by omega)];simp only [Bool.false_or];rw [decide_eq_true (by omega),Bool.true_or];done)
    |(rw [← hr,← hend2 (by omega)];simp only [Bool.false_or];rw [decide_eq_false (p:=100<l.length) (by omega),Bool.false_or];done)
def Xz (I:Alg) (args:List D) (hp:List HO):Option CT:=match args,hp with
  |[.v (.one (.p (.list .ask l)))],[]=>(fun(l:List Ab.Ask)=>(some (.one ⟨I.hid (l.length≤140737488355328∧∀ x ∈ l,AskW x),(.ret (.v (.one (.p (.bool (I.hid (XA l))))))),[]⟩):Option CT)) l
  |_,_=>none
theorem zbL:zo Tryz.prog 7 (Xz alg):=by
  intro args hp r h
  unfold Xz at h
  split at h
  · cases h;exact fun hn=>zlK _ hn
  · cases h
def uM:Know Tryz.prog:=⟨7,Xz,zbL⟩
def uK:Know Tryz.prog:=⟨7,fun I=>zq I (Xz I),zf zbL⟩
end Go.Proofs.YtcclfkakcgnacaaGreatDoor
namespace Go.Proofs.YtcclfkakcgnacaaGreatDoor
open Go Go.Sep Go.Ab
set_option maxRecDepth 100000
def prs:List Str→List Fld
  |a::b::r=>⟨a,b⟩::prs r
  |_=>[]
def cfgH:Cfg:= { sl:=[⟨35,3,.fld,some 58⟩]}
theorem zol (m t:Str) (v:List Str) (hneed:v.length≤1000):Spc Tryz.prog 23 [.v (.one (.p (.str m))),.v (.one (.p (.str t))),.v (.one (.p (.list .str v)))] [] (.ret (.v (.agg [(.p (.str m)),(.p (.str t)),(.p (.int .i64 1)),(.p (.list .fld ((resT::prs v)))),(.p (.int .i64 0))]))) []:=by
  refine spcG zi mixed Tryz.func23 (by kernel_rfl) { cfgH with keep:=some [0,1,2,6,7,8]} [] (by kernel_rfl) ?_
  intro I X hI hX
  refine zh (.code 0 [1,1,0,1,0] ⟨[(8,(.v (.one (.p (.int .i64 0))))),(7,(.v (.one (.ptr 2 0)))),(6,(.v (.one (.ptr 0 0)))),(0,(.v (.one (.p (.str m))))),(1,(.v (.one (.p (.str t))))),(2,(.v (.one (.p (.list .str v)))))],[(.obj 35 [(.p (.str ([]:Str))),(.p (.str ([]:Str))),(.p (.int .i64 0)),.nilS,(.p (.int .i64 0))]),(.row .fld 58 ([(Fld.mk ([84,117,115,45,82,101,115,117,109,97,98,108,101]:Str) ([49,46,48,46,48]:Str))]:List Fld)),(.obj 35 [(.p (.str m)),(.p (.str t)),(.p (.int .i64 1)),(.row 1),(.p (.int .i64 0))])],37,none⟩) (by kernel_rfl) ?_
  simp only [zk]
  refine zG hI zi mixed [] hX [0,1,2,6,7,8] (fun(g:Nat × List Fld)=>match g with|(j,l)=>2 * j≤v.length∧l.length=j∧prs v=l++prs (v.drop (2 * j))) (fun(g:Nat × List Fld)=>match g with|(j,l)=>⟨[(0,.v (.one (.p (.str m)))),(1,.v (.one (.p (.str t)))),(2,.v (.one (.p (.list .str v)))),(6,.v (.one (.ptr 0 0))),(7,.v (.one (.ptr 1 0))),(8,.v (.one (.p (.int .i64 ((2 * (j:Int)))))))],[.pack [.obj 35 [(.p (.str ([]))),(.p (.str ([]))),(.p (.int .i64 0)),(.row 1),(.p (.int .i64 0))],.row .fld 58 ([])],.pack [.obj 35 [(.p (.str m)),(.p (.str t)),(.p (.int .i64 1)),(.row 1),(.p (.int .i64 0))],.row .fld 58 ((resT::l))]],37,none⟩) (fun(g:Nat × List Fld)=>match g with|(j,l)=>v.length - 2 * j) (0,[]) (by kernel_rfl) (by kernel_rfl) ?_ ?_
  · exact⟨by omega,rfl,rfl⟩
  rintro⟨j,l⟩ ⟨h1,h2,h3⟩ A hA
  simp only at hA
  refine zh (let y0:=I.add (HMul.hMul (2:Int) (Nat.cast j)) 1;let y1:HO:=.pack [(.obj 35 [(.p (.str m)),(.p (.str t)),(.p (.int .i64 1)),(.row 1),(.p (.int .i64 0))]),(.row .fld 58 (I.app (α:=Fld) (resT::l) ([(Fld.mk (I.get (α:=Str) v ([]:Str) (HMul.hMul (2:Int) (Nat.cast j))) (I.get (α:=Str) v ([]:Str) y0))]:List Fld)))];let y2:=I.few (I.add (I.len (α:=Fld) (resT::l)) (I.len (α:=Fld) ([(Fld.mk (I.get (α:=Str) v ([]:Str) (HMul.hMul (2:Int) (Nat.cast j))) (I.get (α:=Str) v ([]:Str) y0))]:List Fld))) 100000000;let y3:HO:=.pack [(.obj 35 [(.p (.str ([]:Str))),(.p (.str ([]:Str))),(.p (.int .i64 0)),(.row 1),(.p (.int .i64 0))]),(.row .fld 58 ([]:List Fld))];let y4:=I.add (HMul.hMul (2:Int) (Nat.cast j)) 2;let y5:=I.inb (HMul.hMul (2:Int) (Nat.cast j)) (I.len (α:=Str) v);.need (I.inr Go.IntKind.i64 y0) (.br (I.ilt y0 (I.len (α:=Str) v)) (.need y5 (.need y5 (.need (I.inr Go.IntKind.i64 y0) (.need (I.inb y0 (I.len (α:=Str) v)) (.need (I.inb y0 (I.len (α:=Str) v)) (.both (.need y2 (.need (I.inr Go.IntKind.i64 y4) (.need (A ⟨[(0,(.v (.one (.p (.str m))))),(1,(.v (.one (.p (.str t))))),(2,(.v (.one (.p (.list .str v))))),(6,(.v (.one (.ptr 0 0)))),(7,(.v (.one (.ptr 1 0)))),(8,(.v (.one (.p (.int .i64 y4)))))],[y3,y1],37,none⟩) .qed))) (.need y2 (.need (I.inr Go.IntKind.i64 y4) (.need (A ⟨[(0,(.v (.one (.p (.str m))))),(1,(.v (.one (.p (.str t))))),(2,(.v (.one (.p (.list .str v))))),(6,(.v (.one (.ptr 0 0)))),(7,(.v (.one (.ptr 1 0)))),(8,(.v (.one (.p (.int .i64 y4)))))],[y3,y1],37,none⟩) .qed))))))))) (.fin (.ret (.v (.agg [(.p (.str m)),(.p (.str t)),(.p (.int .i64 1)),(.p (.list .fld (resT::l))),(.p (.int .i64 0))]))) []))) (by kernel_rfl) ?_
  simp only [zk]
  subst hI
  simp only [nrmA,nrmB,nrlB,reduceCtorEq,V0.agg.injEq,HO.pack.injEq,HO.obj.injEq]
  have e1:(2 * (j:Int)).toNat=2 * j:=by omega
  have e2:(2 * (j:Int)+1).toNat=2 * j+1:=by omega
  rw [e1,e2]
  have hstep:2 * j+1<v.length→prs (v.drop (2 * j))=⟨v.getD (2 * j) [],v.getD (2 * j+1) []⟩::prs (v.drop (2 * (j+1))):=fun h=>by
    rw [List.drop_eq_getElem_cons (by omega:2 * j<v.length),List.drop_eq_getElem_cons h,prs]
    simp [show 2 * j<v.length by omega,h,Nat.mul_add]
  have hstop: ¬ 2 * j+1<v.length→l=prs v:=fun h=>by
    rw [h3]
    have:(v.drop (2 * j)).length≤1:=by rw [List.length_drop];omega
    match hq:v.drop (2 * j),this with
    |[],_=>simp [prs]
    |[_],_=>simp [prs]
  generalize v.getD (2 * j) []=x at *
  generalize v.getD (2 * j+1) []=y at *
  have hgo:2 * j+1<v.length→_:=fun h=>hA (j+1,l++[⟨x,y⟩]) ⟨by simp only;omega,by simp only [List.length_append,List.length_cons,List.length_nil];omega,by rw [h3,hstep h];simp⟩ (by simp only;omega)
  simp only at hgo
  (repeat' (first|refine And.intro ?_ ?_|intro _))<;>first|omega|exact True.intro|exact False.elim ‹False›|skip
  all_goals first
    |(simp only [List.length_cons,List.length_nil];omega)
    |exact hstop (by omega)
    |exact hgo (by omega)
def zai (I:Alg) (args:List D) (hp:List HO):Option CT:=match args,hp with
  |[.v (.one (.p (.str m))),.v (.one (.p (.str t))),.v (.one (.p (.list .str v)))],[]=>(fun(m t:Str) (v:List Str)=>(some (.one ⟨I.hid (v.length≤1000),(.ret (.v (.agg [(.p (.str m)),(.p (.str t)),(.p (.int .i64 1)),(.p (.list .fld (I.hid ((resT::prs v))))),(.p (.int .i64 0))]))),[]⟩):Option CT)) m t v
  |_,_=>none
theorem zhz:zo Tryz.prog 23 (zai alg):=by
  intro args hp r h
  unfold zai at h
  split at h
  · cases h;exact fun hn=>zol _ _ _ hn
  · cases h
def zlF:Know Tryz.prog:=⟨23,zai,zhz⟩
def zlE:Know Tryz.prog:=⟨23,fun I=>zq I (zai I),zf zhz⟩
end Go.Proofs.YtcclfkakcgnacaaGreatDoor
namespace Go.Proofs.YtcclfkakcgnacaaGreatDoor
open Go Go.Sep Go.Ab
set_option maxRecDepth 100000
def QOk (n0:Int) (q:Sto):Prop:=zu q.l q.n∧q.b.length≤100000∧n0≤q.n∧q.n≤n0+1
theorem te2 {n0:Int} {c:Prop} [Decidable c] {a b:TA} (ha:QOk n0 a.q) (hb:QOk n0 b.q):QOk n0 (if c then a else b).q:=by split<;>assumption
theorem zgT {n0:Int} {q:Sto} {e:Ent} (h:QOk n0 q) (he:e.kind≠1):QOk n0 (wsS q e):=by
  have:=Uk (l:=q.l) (n:=q.n) (b:=q.b) he
  refine⟨zdh h.1 _ _,Vl _ h.2.1,?_,?_⟩
  · show n0≤wrtN q.l q.n q.b e;rw [this];exact h.2.2.1
  · show wrtN q.l q.n q.b e≤n0+1;rw [this];exact h.2.2.2
theorem tu {q:Sto} (h:zu q.l q.n) (hb:q.b.length≤100000) (m t:Str) (f:List Fld) (body:Str):QOk q.n (zH q m t f body).q:=by
  have h0:QOk q.n q:=⟨h,hb,by omega,by omega⟩
  have hc:QOk q.n (yM q f).q:=by
    unfold yM
    have hw: ∀ e,QOk q.n (wsS q e):=fun e=>⟨zdh h _ _,Vl _ hb,(zf4 _ _ _ _).1,(zf4 _ _ _ _).2⟩
    repeat' with_reducible refine te2 ?_ ?_
    all_goals first|exact h0|exact hw _
  have hd: ∀ u,QOk q.n (XF q u).q:=fun u=>by
    unfold XF
    refine te2 h0 ?_
    exact zgT h0 (by simp)
  have hp: ∀ u,QOk q.n (zX q u f body).q:=fun u=>by
    unfold zX
    have h1:QOk q.n (wsS q (apE u.id body)):=zgT h0 (by simp [apE])
    have h2: ∀ z,QOk q.n (wsS (wsS q (apE u.id body)) ⟨3,u.id,z,[]⟩):=fun z=>zgT h1 (by simp)
    repeat' with_reducible refine te2 ?_ ?_
    all_goals first|exact h0|exact h1|exact h2 _
  unfold zH
  repeat' with_reducible refine te2 ?_ ?_
  all_goals first|exact h0|exact hc|exact hd _|exact hp _
set_option maxHeartbeats 4000000 in
theorem zga:Spc Tryz.prog 6 [] [] (.ret (.v (.one (.p (.bool true))))) []:=by
  refine spcG zi mixed Tryz.func6 (by kernel_rfl) { cfgT with fz:=[23,10],keep:=some [0,1,2,3,4]} [vM,vK,Y4,Y3,uX,uV,zlF,zlE] (by kernel_rfl) ?_
  intro I X hI hX
  refine zh (let y12:=I.hid (α:=(List Upl)) ([]:List Upl);let y1:=I.hid (α:=(List Fld)) (resT::(prs ([([85,112,108,111,97,100,45,76,101,110,103,116,104]:Str),([51]:Str)]:List (Str))));let y4:=I.hid (α:=(List Upl)) (Sto.l (TA.q (zH (Sto.mk y12 (0:Int) (I.hid (α:=Str) ([]:Str)) (0:Int)) ([80,79,83,84]:Str) ([47,102,105,108,101,115]:Str) y1 ([]:Str))));let y3:=I.hid (α:=Int) (Sto.n (TA.q (zH (Sto.mk y12 (0:Int) (I.hid (α:=Str) ([]:Str)) (0:Int)) ([80,79,83,84]:Str) ([47,102,105,108,101,115]:Str) y1 ([]:Str))));let y5:=I.hid (α:=Str) (Sto.b (TA.q (zH (Sto.mk y12 (0:Int) (I.hid (α:=Str) ([]:Str)) (0:Int)) ([80,79,83,84]:Str) ([47,102,105,108,101,115]:Str) y1 ([]:Str))));let y6:=I.hid (α:=Int) (Sto.s (TA.q (zH (Sto.mk y12 (0:Int) (I.hid (α:=Str) ([]:Str)) (0:Int)) ([80,79,83,84]:Str) ([47,102,105,108,101,115]:Str) y1 ([]:Str))));let y7:=([47,102,105,108,101,115,47,49]:Str);let y2:=I.hid (α:=(List Fld)) (resT::(prs ([([67,111,110,116,101,110,116,45,84,121,112,101]:Str),([97,112,112,108,105,99,97,116,105,111,110,47,111,102,102,115,101,116,43,111,99,116,101,116,45,115,116,114,101,97,109]:Str),([85,112,108,111,97,100,45,79,102,102,115,101,116]:Str),([48]:Str)]:List (Str))));let y9:=I.hid (α:=(List Upl)) (Sto.l (TA.q (zH (Sto.mk y4 y3 y5 y6) ([80,65,84,67,72]:Str) y7 y2 ([(I.i2b 97),(I.i2b 98)]:Str))));let y8:=I.hid (α:=Int) (Sto.n (TA.q (zH (Sto.mk y4 y3 y5 y6) ([80,65,84,67,72]:Str) y7 y2 ([(I.i2b 97),(I.i2b 98)]:Str))));let y10:=I.hid (α:=Str) (Sto.b (TA.q (zH (Sto.mk y4 y3 y5 y6) ([80,65,84,67,72]:Str) y7 y2 ([(I.i2b 97),(I.i2b 98)]:Str))));let y11:=I.hid (α:=(List Fld)) (resT::(prs ([]:List (Str))));let y0:=I.hid (α:=(List Fld)) (resT::(TA.fs (zH (Sto.mk y9 y8 y10 (I.hid (α:=Int) (Sto.s (TA.q (zH (Sto.mk y4 y3 y5 y6) ([80,65,84,67,72]:Str) y7 y2 ([(I.i2b 97),(I.i2b 98)]:Str)))))) ([72,69,65,68]:Str) y7 y11 ([]:Str))));let y13:=([47,102,105,108,101,115,47]:Str);.need (I.hid (α:=(Prop)) True) (.need (I.hid (α:=(Prop)) (LE.le (List.length ([([85,112,108,111,97,100,45,76,101,110,103,116,104]:Str),([51]:Str)]:List (Str))) 1000)) (.need (I.hid (α:=(Prop)) (And (FOk y1) (And (zu y12 (0:Int)) (And (LE.le (0:Int) (200000:Int)) (And (LE.le (List.length (I.hid (α:=Str) ([]:Str))) 100000) (LE.le (List.length ([]:Str)) 100000)))))) (.need (I.hid (α:=(Prop)) (LE.le (List.length ([([67,111,110,116,101,110,116,45,84,121,112,101]:Str),([97,112,112,108,105,99,97,116,105,111,110,47,111,102,102,115,101,116,43,111,99,116,101,116,45,115,116,114,101,97,109]:Str),([85,112,108,111,97,100,45,79,102,102,115,101,116]:Str),([48]:Str)]:List (Str))) 1000)) (.need (I.inr Go.IntKind.u8 97) (.need (I.inr Go.IntKind.u8 98) (.need (I.inb 0 (I.len (α:=UInt8) ([(I.i2b 97),(I.i2b 98)]:Str))) (.need (I.hid (α:=(Prop)) (And (FOk y2) (And (zu y4 y3) (And (LE.le y3 (200000:Int)) (And (LE.le (List.length y5) 100000) (LE.le (List.length ([(I.i2b 97),(I.i2b 98)]:Str)) 100000)))))) (.need (I.hid (α:=(Prop)) (LE.le (List.length ([]:List (Str))) 1000)) (.need (I.hid (α:=(Prop)) (And (FOk y11) (And (zu y9 y8) (And (LE.le y8 (200000:Int)) (And (LE.le (List.length y10) 100000) (LE.le (List.length ([]:Str)) 100000)))))) (.br (I.ieq (I.hid (α:=Int) (TA.st (zH (Sto.mk y12 (0:Int) (I.hid (α:=Str) ([]:Str)) (0:Int)) ([80,79,83,84]:Str) ([47,102,105,108,101,115]:Str) y1 ([]:Str)))) 201) (.br (I.ieq (I.hid (α:=Int) (TA.st (zH (Sto.mk y4 y3 y5 y6) ([80,65,84,67,72]:Str) y7 y2 ([(I.i2b 97),(I.i2b 98)]:Str)))) 204) (.br (I.ieq (I.hid (α:=Int) (TA.st (zH (Sto.mk y9 y8 y10 (I.hid (α:=Int) (Sto.s (TA.q (zH (Sto.mk y4 y3 y5 y6) ([80,65,84,67,72]:Str) y7 y2 ([(I.i2b 97),(I.i2b 98)]:Str)))))) ([72,69,65,68]:Str) y7 y11 ([]:Str)))) 200) (.br (I.ieq (I.len (α:=Fld) y0) 4) (.need (I.inb 1 (I.len (α:=Fld) y0)) (.need (I.inb 1 (I.len (α:=Fld) y0)) (.br (I.seq (Fld.value (I.get (α:=Fld) y0 (Fld.mk ([]:Str) ([]:Str)) 1)) ([50]:Str)) (.need (I.hid (α:=(Prop)) (LE.le (List.length y13) 1000000)) (.fin (.ret (.v (.one (.p (.bool (I.hid (α:=Bool) (YI y13))))))) [])) (.fin (.ret (.v (.one (.p (.bool Bool.false))))) [])))) (.fin (.ret (.v (.one (.p (.bool Bool.false))))) [])) (.fin (.ret (.v (.one (.p (.bool Bool.false))))) [])) (.fin (.ret (.v (.one (.p (.bool Bool.false))))) [])) (.fin (.ret (.v (.one (.p (.bool Bool.false))))) [])))))))))))) (by kernel_rfl) ?_
  simp only [zk]
  subst hI
  simp only [nrmA,nrmB,nrlB,reduceCtorEq]
  (repeat' (first|refine And.intro ?_ ?_|(intro h;first|exact absurd h (by decide+kernel)|clear h)))
  all_goals first
    |exact Zt
    |exact(tu Zt (by decide) _ _ _ _).1
    |exact(tu (tu Zt (by decide) _ _ _ _).1 (tu Zt (by decide) _ _ _ _).2.1 _ _ _ _).1
    |exact(tu Zt (by decide) _ _ _ _).2.1
    |exact(tu (tu Zt (by decide) _ _ _ _).1 (tu Zt (by decide) _ _ _ _).2.1 _ _ _ _).2.1
    |decide+kernel
def qA (I:Alg) (args:List D) (hp:List HO):Option CT:=match args,hp with
  |[],[]=>(fun(_:Unit)=>(some (.one ⟨I.hid (True),(.ret (.v (.one (.p (.bool true))))),[]⟩):Option CT)) ()
  |_,_=>none
theorem Uo:zo Tryz.prog 6 (qA alg):=by
  intro args hp r h
  unfold qA at h
  split at h
  · cases h;exact fun hn=>zga
  · cases h
def wS:Know Tryz.prog:=⟨6,qA,Uo⟩
def wR:Know Tryz.prog:=⟨6,fun I=>zq I (qA I),zf Uo⟩
end Go.Proofs.YtcclfkakcgnacaaGreatDoor
namespace Go.Proofs.YtcclfkakcgnacaaGreatDoor
open Go Go.Sep Go.Ab Go.Jrn
theorem zl5 {l:List Upl} {id:Int} {u:Upl} (h:atU l id<l.length) (hu:u.id=id):atU (l.set (atU l id) u) id=atU l id:=by
  have hlen:(l.set (atU l id) u).length=l.length:=List.length_set ..
  have h2: ∀ (l:List Upl) (i:Nat),i<l.length→(l.getD i upl0).id=u.id→(l.set i u).findIdx (fun x=>x.id == id)=l.findIdx (fun x=>x.id == id):=by
    intro l
    induction l with
    |nil=>intro i hi;simp at hi
    | cons a r ih=>
      intro i hi hid
      cases i with
      | zero=>
        simp only [List.getD_cons_zero] at hid
        simp [List.set,List.findIdx_cons,hid]
      | succ i=>
        simp only [List.length_cons] at hi
        simp only [List.getD_cons_succ] at hid
        simp only [List.set,List.findIdx_cons]
        rw [ih i (by omega) hid]
  have h3:=YS h
  unfold yJ at h3
  exact h2 l (atU l id) h (by rw [hu];exact h3)
theorem zb1 (e:Ent) (hk:1≤e.kind∧e.kind≤6):(encM e).length≤31+e.text.length∧(e.n=0→(encM e).length≤22+e.text.length):=by
  unfold encM
  split
  · have h1:=wu ((enc3 e).length+1)
    have h2:=wu (e.id+1).toNat
    have h3:=wu (e.n+1).toNat
    have h4:(sev (e.kind+1).toNat).length=1:=by rw [UF (by omega)];rfl
    unfold encB enc3
    unfold enc3 at h1
    have h5:e.n=0→(sev (e.n+1).toNat).length=1:=fun h=>by rw [h];rfl
    simp only [List.length_append] at *
    refine⟨by omega,fun h=> ?_⟩
    have:=h5 h
    omega
  · exact⟨by simp,fun _=>by simp⟩
theorem zh7 {q:Sto} {u:Upl} {body:Str} {nv sz:Int} (hb:getB q.l u.id=true) (hu:getU q.l u.id=u) (hnv:nv=(u.bytes.length:Int)) (hid:1≤u.id∧u.id≤200000)
    (h1:wsC q (apE u.id body)=0) (hz:0≤sz) (hz2:sz≤2000) (hz3:nv+(body.length:Int)≤sz) (hus:u.size<0) (hr:tJ q.b ((body.length:Int)+60)=true):wsC (wsS q (apE u.id body)) ⟨3,u.id,sz,[]⟩=0:=by
  have hat:atU q.l u.id<q.l.length:=by unfold getB at hb;simpa using hb
  have hup:yJ q.l u.id=u:=by unfold getU at hu;rwa [if_pos hat] at hu
  unfold tJ at hr
  have hroom:0≤(body.length:Int)+60∧(body.length:Int)+60≤100000 - (q.b.length:Int):=by simpa using hr
  unfold wsC at h1 ⊢
  have hl:(wsS q (apE u.id body)).l=q.l.set (atU q.l u.id) { yJ q.l u.id with bytes:=(yJ q.l u.id).bytes++body}:=by
    show wrtL _ _ _ _=_
    unfold wrtL
    rw [if_pos h1]
    have hap:appC q.l u.id (getU q.l u.id).bytes.length body=0:=by
      unfold wrtC at h1
      split at h1
      · contradiction
      · rename_i hc
        simp only [Decidable.not_not] at hc
        exact hc
    show YH _ _ _=_
    unfold YH
    rw [if_neg (by simp [apE]),if_pos (by simp [apE])]
    show appL q.l u.id (getU q.l u.id).bytes.length body=_
    unfold appL
    rw [if_pos hap]
  have hB:(wsS q (apE u.id body)).b=q.b++encB (apE u.id body):=by
    show wrtB _ _ _ _=_
    unfold wrtB
    rw [if_pos h1]
  have hat2:atU (wsS q (apE u.id body)).l u.id=atU q.l u.id:=by rw [hl];exact zl5 hat (by rw [hup])
  have hlen:(wsS q (apE u.id body)).l.length=q.l.length:=by rw [hl,List.length_set]
  have hup2:yJ (wsS q (apE u.id body)).l u.id= { u with bytes:=u.bytes++body}:=by
    unfold yJ
    rw [hat2,hl]
    simp [List.getD_eq_getElem?_getD,hat,hup]
  unfold wrtC
  have hp:Zm (wsS q (apE u.id body)).l (wsS q (apE u.id body)).n ⟨3,u.id,sz,[]⟩=0:=by
    show decC (wsS q (apE u.id body)).l u.id sz=0
    unfold decC
    rw [hat2,hlen,hup2,if_neg (by omega),if_neg (by simp only;omega),if_neg (by omega),if_neg (by simp only [List.length_append];omega)]
  have hm:mayM (apE u.id body)=true:=by
    unfold wrtC at h1
    rw [if_neg (by intro hc;rw [if_pos hc] at h1;exact hc h1)] at h1
    unfold encC at h1
    cases hq:mayM (apE u.id body) with
    |true=>rfl
    |false=>rw [hq] at h1;simp at h1
  have he:encC ⟨3,u.id,sz,[]⟩=0:=by
    unfold encC
    rw [if_pos (by unfold mayM few;simp only [Bool.and_eq_true,decide_eq_true_eq,List.length_nil];omega)]
  rw [hp,he,if_neg (by simp),if_neg (by simp)]
  have e1:=(zb1 (apE u.id body) (by simp [apE])).2 rfl
  have e2:=(zb1 ⟨3,u.id,sz,[]⟩ (by simp)).1
  unfold wrC
  rw [hB]
  rw [if_pos]
  unfold encM at e1
  rw [if_pos hm] at e1
  simp only [List.length_append,List.length_nil] at *
  simp only [apE] at *
  omega
end Go.Proofs.YtcclfkakcgnacaaGreatDoor
namespace Go.Proofs.YtcclfkakcgnacaaGreatDoor
open Go Go.Sep Go.Ab Go.Jrn
theorem zlL {l:List Upl} {id:Int} (h:getB l id=true):(getU l id).id=id∧getU l id ∈ l:=by
  have hat:atU l id<l.length:=by unfold getB at h;simpa using h
  unfold getU
  rw [if_pos hat]
  exact⟨YS hat,vG hat⟩
end Go.Proofs.YtcclfkakcgnacaaGreatDoor
namespace Go.Proofs.YtcclfkakcgnacaaGreatDoor
open Go Go.Sep Go.Ab
set_option maxRecDepth 100000
theorem getD_drop (s:Str) (a b:Nat):(s.drop a).getD b 0=s.getD (a+b) 0:=by
  simp [List.getD_eq_getElem?_getD,List.getElem?_drop]
theorem zmN (s:Str) (i:Int) (hneed:s.length≤1000000∧0≤i∧i≤s.length):Spc Tryz.prog 95 [.v (.one (.p (.str s))),.v (.one (.p (.int .i64 i)))] [] (.ret (.v (.one (.p (.int .i64 (((tokS (s.drop i.toNat)).length:Int))))))) []:=by
  obtain⟨hl,h0,hi⟩:=hneed
  refine spcG zi mixed Tryz.func95 (by kernel_rfl) { keep:=some [0,1,4,5]} [YA,Yz] (by kernel_rfl) ?_
  intro I X hI hX
  refine zh (.code 0 [1,1,0,0] ⟨[(5,(.v (.one (.p (.int .i64 0))))),(4,(.v (.one (.p (.int .i64 0))))),(0,(.v (.one (.p (.str s))))),(1,(.v (.one (.p (.int .i64 i)))))],[],23,none⟩) (by kernel_rfl) ?_
  simp only [zk]
  refine zG hI zi mixed [YA,Yz] hX [0,1,5] (fun(n:Nat)=>n≤(tokS (s.drop i.toNat)).length) (fun(n:Nat)=>⟨[(0,.v (.one (.p (.str s)))),(1,.v (.one (.p (.int .i64 i)))),(5,.v (.one (.p (.int .i64 n))))],[],23,none⟩) (fun(n:Nat)=>s.length - n) 0 (by kernel_rfl) (by kernel_rfl) ?_ ?_
  · exact Nat.zero_le _
  rintro n h1 A hA
  refine zh (let y0:=I.b2i (I.get (α:=UInt8) s 0 (I.add i (Nat.cast n)));let y1:=I.inr Go.IntKind.i64 (I.add i (Nat.cast n));.need y1 (.br (I.ilt (I.add i (Nat.cast n)) (I.len (α:=UInt8) s)) (.need y1 (.need (I.inb (I.add i (Nat.cast n)) (I.len (α:=UInt8) s)) (.need (I.hid (α:=(Prop)) (And (LE.le (0:Int) y0) (LE.le y0 (255:Int)))) (.br (I.hid (α:=Bool) (tokB y0)) (.need (I.inr Go.IntKind.i64 (I.add (Nat.cast n) 1)) (.need (A ⟨[(0,(.v (.one (.p (.str s))))),(1,(.v (.one (.p (.int .i64 i))))),(5,(.v (.one (.p (.int .i64 (I.add (Nat.cast n) 1))))))],[],23,none⟩) .qed)) (.fin (.ret (.v (.one (.p (.int .i64 (Nat.cast n)))))) []))))) (.fin (.ret (.v (.one (.p (.int .i64 (Nat.cast n)))))) []))) (by kernel_rfl) ?_
  simp only [zk]
  subst hI
  simp only [nrmA,nrmB]
  have hs:=Qb (p:=isTk) (s:=s.drop i.toNat) h1
  have hle:=xZ (s.drop i.toNat)
  rw [getD_drop,List.length_drop] at hs
  rw [List.length_drop] at hle
  unfold isTk at hs
  change _↔n<(tokS (s.drop i.toNat)).length at hs
  rw [show(i+(n:Int)).toNat=i.toNat+n by omega]
  have hb:=wQ (s.getD (i.toNat+n) 0)
  have hgo:n<(tokS (s.drop i.toNat)).length→A ⟨[(0,.v (.one (.p (.str s)))),(1,.v (.one (.p (.int .i64 i)))),(5,.v (.one (.p (.int .i64 (((n:Int)+1))))))],[],23,none⟩:=fun h=>hA (n+1) (by omega) (by omega)
  generalize s.getD (i.toNat+n) 0=x at *
  generalize(tokS (s.drop i.toNat)).length=m at *
  clear hA
  (repeat' (first|refine And.intro ?_ ?_|intro _))<;>first|omega|exact True.intro|exact False.elim ‹False›|skip
  all_goals first
    |omega
    |exact hgo (by rw [← hs];exact⟨by omega,by assumption⟩)
    | (have hx: ¬ n<m:=fun h=>by have:=(hs.2 h).1;omega
       omega)
    | (have hx: ¬ n<m:=fun h=>by have:=(hs.2 h).2;simp_all
       omega)
def VU (I:Alg) (args:List D) (hp:List HO):Option CT:=match args,hp with
  |[.v (.one (.p (.str s))),.v (.one (.p (.int .i64 i)))],[]=>(fun(s:Str) (i:Int)=>(some (.one ⟨I.hid (s.length≤1000000∧0≤i∧i≤s.length),(.ret (.v (.one (.p (.int .i64 (I.hid (((tokS (s.drop i.toNat)).length:Int)))))))),[]⟩):Option CT)) s i
  |_,_=>none
theorem zdZ:zo Tryz.prog 95 (VU alg):=by
  intro args hp r h
  unfold VU at h
  split at h
  · cases h;exact fun hn=>zmN _ _ hn
  · cases h
def vU:Know Tryz.prog:=⟨95,VU,zdZ⟩
def vT:Know Tryz.prog:=⟨95,fun I=>zq I (VU I),zf zdZ⟩
def blkN (s:Str):Nat:=s.length - (skS s).length
theorem zi0 (s:Str):s.drop (blkN s)=skS s:=by
  have h:=drop_tw (fun b=>([32,9]:Str).contains b) s
  have h2:=zj4 (fun b=>([32,9]:Str).contains b) s
  have h3:=congrArg List.length (List.takeWhile_append_dropWhile (p:=fun b=>([32,9]:Str).contains b) (l:=s))
  rw [List.length_append] at h3
  unfold blkN skS Lib.trimLeftS
  rw [show s.length - (s.dropWhile fun b=>([32,9]:Str).contains b).length=(s.takeWhile fun b=>([32,9]:Str).contains b).length by omega]
  exact h
theorem zay (s:Str):blkN s≤s.length:=Nat.sub_le _ _
theorem zjX {s:Str} {n:Nat} (h:n≤blkN s):(n<s.length∧(s.getD n 0=32∨s.getD n 0=9))↔n<blkN s:=by
  have e:blkN s=(s.takeWhile fun b=>([32,9]:Str).contains b).length:=by
    have h3:=congrArg List.length (List.takeWhile_append_dropWhile (p:=fun b=>([32,9]:Str).contains b) (l:=s))
    rw [List.length_append] at h3
    unfold blkN skS Lib.trimLeftS
    omega
  rw [e] at h ⊢
  rw [← Qb h]
  simp
theorem zjj (s:Str) (i:Int) (hneed:s.length≤1000000∧0≤i∧i≤s.length):Spc Tryz.prog 94 [.v (.one (.p (.str s))),.v (.one (.p (.int .i64 i)))] [] (.ret (.v (.one (.p (.int .i64 ((i+(blkN (s.drop i.toNat):Int)))))))) []:=by
  obtain⟨hl,h0,hi⟩:=hneed
  refine spcG zi mixed Tryz.func94 (by kernel_rfl) { keep:=some [0,1,4]} [] (by kernel_rfl) ?_
  intro I X hI hX
  refine zh (.code 0 [1,0,0] ⟨[(4,(.v (.one (.p (.int .i64 0))))),(0,(.v (.one (.p (.str s))))),(1,(.v (.one (.p (.int .i64 i)))))],[],24,none⟩) (by kernel_rfl) ?_
  simp only [zk]
  refine zG hI zi mixed [] hX [0,1] (fun(j:Int)=>i≤j∧j - i≤blkN (s.drop i.toNat)) (fun(j:Int)=>⟨[(0,.v (.one (.p (.str s)))),(1,.v (.one (.p (.int .i64 j))))],[],24,none⟩) (fun(j:Int)=>(s.length - j).toNat) i (by kernel_rfl) (by kernel_rfl) ?_ ?_
  · exact⟨Int.le_refl _,by omega⟩
  rintro j ⟨h1,h2⟩ A hA
  refine zh (let y0:=I.b2i (I.get (α:=UInt8) s 0 j);let y1:=I.inr Go.IntKind.i64 (I.add j 1);.br (I.ilt j (I.len (α:=UInt8) s)) (.need (I.inb j (I.len (α:=UInt8) s)) (.br (I.ieq y0 32) (.need y1 (.need (A ⟨[(0,(.v (.one (.p (.str s))))),(1,(.v (.one (.p (.int .i64 (I.add j 1))))))],[],24,none⟩) .qed)) (.need (I.inb j (I.len (α:=UInt8) s)) (.br (I.ieq y0 9) (.need y1 (.need (A ⟨[(0,(.v (.one (.p (.str s))))),(1,(.v (.one (.p (.int .i64 (I.add j 1))))))],[],24,none⟩) .qed)) (.fin (.ret (.v (.one (.p (.int .i64 j))))) []))))) (.fin (.ret (.v (.one (.p (.int .i64 j))))) [])) (by kernel_rfl) ?_
  simp only [zk]
  subst hI
  simp only [nrmA,nrmB]
  have hle:=zay (s.drop i.toNat)
  rw [List.length_drop] at hle
  have hs:=zjX (s:=s.drop i.toNat) (n:=(j - i).toNat) (by omega)
  rw [getD_drop,List.length_drop,show i.toNat+(j - i).toNat=j.toNat by omega] at hs
  have e1:=vw (s.getD j.toNat 0) 32
  have e2:=vw (s.getD j.toNat 0) 9
  rw [show(((32:UInt8).toNat:Nat):Int)=32 from rfl] at e1
  rw [show(((9:UInt8).toNat:Nat):Int)=9 from rfl] at e2
  rw [← e1,← e2] at hs
  have hgo:(j - i).toNat<blkN (s.drop i.toNat)→A ⟨[(0,.v (.one (.p (.str s)))),(1,.v (.one (.p (.int .i64 ((j+1))))))],[],24,none⟩:=fun h=>hA (j+1) ⟨by omega,by omega⟩ (by omega)
  generalize((s.getD j.toNat 0).toNat:Int)=x at *
  generalize blkN (s.drop i.toNat)=m at *
  clear hA e1 e2
  (repeat' (first|refine And.intro ?_ ?_|intro _))<;>first|omega|exact True.intro|exact False.elim ‹False›|skip
  all_goals first
    |omega
    |exact hgo (hs.1 ⟨by omega,.inl ‹_›⟩)
    |exact hgo (hs.1 ⟨by omega,.inr ‹_›⟩)
    | (have hx: ¬ (j - i).toNat<m:=fun h=>by have:=hs.2 h;omega
       omega)
def Z7 (I:Alg) (args:List D) (hp:List HO):Option CT:=match args,hp with
  |[.v (.one (.p (.str s))),.v (.one (.p (.int .i64 i)))],[]=>(fun(s:Str) (i:Int)=>(some (.one ⟨I.hid (s.length≤1000000∧0≤i∧i≤s.length),(.ret (.v (.one (.p (.int .i64 (I.hid ((i+(blkN (s.drop i.toNat):Int))))))))),[]⟩):Option CT)) s i
  |_,_=>none
theorem S9:zo Tryz.prog 94 (Z7 alg):=by
  intro args hp r h
  unfold Z7 at h
  split at h
  · cases h;exact fun hn=>zjj _ _ hn
  · cases h
def xO:Know Tryz.prog:=⟨94,Z7,S9⟩
def xN:Know Tryz.prog:=⟨94,fun I=>zq I (Z7 I),zf S9⟩
def finM (x:Int × Med × Str):Med × Int:=if x.1=0 then(x.2.1,0) else(⟨[],[]⟩,x.1)
def finL (w:Str) (x:Int × List Fld × Str):Med × Int:=if x.1=0 then(⟨w,x.2.1⟩,0) else(⟨[],[]⟩,x.1)
def medS (n:Nat) (l:List Fld) (x:Int × Fld × Str):Int × List Fld × Str:=
  if x.1≠0 then(x.1,l,x.2.2) else if(getP l x.2.1.name).2=true then(9,l,x.2.2) else if l.length=8 then(8,l,x.2.2) else medL n (skS x.2.2) (l++[x.2.1])
theorem zhr (n:Nat) (s:Str) (l:List Fld):medL (n+1) s l=if zY s 59=true then medS n l (parM (skS (s.drop 1))) else if s=[] then(0,l,s) else(5,l,s):=rfl
theorem zau (s:Str) (i:Nat):s.drop (i+blkN (s.drop i))=skS (s.drop i):=by rw [← List.drop_drop,zi0]
theorem XE (s:Str) (i:Nat):s.drop (i+(tokS (s.drop i)).length)=tokE (s.drop i):=by
  rw [← List.drop_drop];exact drop_tw isTk (s.drop i)
theorem qW (s:Str) (i:Int) (h0:0≤i) (c:UInt8):zY (s.drop i.toNat) c=true↔i<s.length∧((s.getD i.toNat 0).toNat:Int)=(c.toNat:Int):=by
  rw [Wj,getD_drop,List.length_drop,vw,Nat.add_zero]
  constructor
  · rintro⟨a,b⟩;exact⟨by omega,b⟩
  · rintro⟨a,b⟩;exact⟨by omega,b⟩
theorem drop_nil (s:Str) (i:Int) (h0:0≤i) (h1:i≤s.length):s.drop i.toNat=[]↔i=s.length:=by
  rw [← List.length_eq_zero_iff,List.length_drop];omega
theorem zhJ {l:List Fld} {nm:Str}:(getP l nm).2=false↔∀ x ∈ l,x.name≠nm:=by
  unfold getP
  split
  · rename_i f hf
    have h1:=List.find?_some hf
    have h2:=List.mem_of_find?_eq_some hf
    simp only [Bool.true_eq_false,false_iff]
    intro h;exact h f h2 (by simpa using h1)
  · rename_i hf
    simp only [true_iff]
    intro x hx h
    have:=List.find?_eq_none.1 hf x hx
    exact this (by simpa using h)
theorem zlb {x:UInt8} (r:Str) (h:x=34):quoF (x::r)=some ([],r):=by
  subst h;cases r<;>simp [quoF]
theorem zla {x:UInt8} (y:UInt8) (r:Str) (h:x=92):quoF (x::y::r)=(quoF r).map (fun p=>(y::p.1,p.2)):=by
  subst h;simp [quoF]
theorem zmO {x:UInt8} (r:Str) (h: ¬ x=34) (k: ¬ x=92):quoF (x::r)=(quoF r).map (fun p=>(x::p.1,p.2)):=by
  cases r<;>simp [quoF,h,k]
theorem TB {s:Str} {k:Int} (h0:0≤k) (h:k<s.length):s.drop k.toNat=s.getD k.toNat 0::s.drop (k+1).toNat:=by
  rw [List.drop_eq_getElem_cons (by omega:k.toNat<s.length),show(k+1).toNat=k.toNat+1 by omega]
  simp [show k.toNat<s.length by omega]
theorem zh9 {s:Str} {k e:Int} (h0:0≤k) (h:k<s.length) (he:e=k+1):(s.drop k.toNat).take (e.toNat - k.toNat)=[s.getD k.toNat 0]:=by
  rw [TB h0 h,show e.toNat - k.toNat=1 by omega];rfl
theorem getD_mem {l:List Fld} {k:Nat} (h:k<l.length) (d:Fld):l.getD k d ∈ l:=by
  rw [show l.getD k d=l[k] by simp [h]];exact List.getElem_mem h
theorem zkI {l:List Fld} {k:Nat} {nm:Str} (h:k<l.length) (d:Fld) (h1: ∀ x ∈ l.take k,x.name≠nm) (h2: ¬ (l.getD k d).name=nm): ∀ x ∈ l.take (k+1),x.name≠nm:=by
  intro x hx
  rw [List.take_succ_eq_append_getElem h] at hx
  rcases List.mem_append.1 hx with hx|hx
  · exact h1 x hx
  · simp only [List.mem_singleton] at hx
    subst hx
    rw [show l.getD k d=l[k] by simp [h]] at h2
    exact h2
set_option maxHeartbeats 8000000 in
theorem zk9 (s:Str) (hneed:s.length≤1000000):Spc Tryz.prog 61 [.v (.one (.p (.str s)))] [] (.ret (.tup [(.agg [(.p (.str ((xY s).1.word))),(.p (.list .fld ((xY s).1.params)))]),(.one (.p (.int .i64 ((xY s).2))))])) []:=by
  generalize hr:xY s=r
  obtain⟨⟨pw,ps⟩,c⟩:=r
  refine spcG zi mixed Tryz.func61 (by kernel_rfl) { cfgM with seam:=[9,24,46],keep:=some [0,2,3,4,5,6,7,8,9]} [yV,yU,wo,x9,vU,vT,xO,xN] (by kernel_rfl) ?_
  intro I X hI hX
  refine zh (let y0:=I.hid (α:=Int) (HAdd.hAdd (0:Int) (Nat.cast (blkN (List.drop (Int.toNat (0:Int)) s))));let y1:=I.hid (α:=Int) (Nat.cast (List.length (tokS (List.drop (Int.toNat y0) s))));let y2:=I.cut (α:=UInt8) s y0 (I.add y0 y1);let y3:=I.inr Go.IntKind.i64 (I.add y0 y1);.need (I.hid (α:=(Prop)) (LE.le (List.length s) 1000000)) (.br (I.bnot (I.hid (α:=Bool) (tZ s))) (.fin (.ret (.tup [(.agg [(.p (.str ([]:Str))),(.p (.list .fld ([]:List Fld)))]),(.one (.p (.int .i64 3)))])) []) (.need (I.hid (α:=(Prop)) (And (LE.le (List.length s) 1000000) (And (LE.le (0:Int) (0:Int)) (LE.le (0:Int) (Nat.cast (List.length s)))))) (.need (I.hid (α:=(Prop)) (And (LE.le (List.length s) 1000000) (And (LE.le (0:Int) y0) (LE.le y0 (Nat.cast (List.length s)))))) (.br (I.ieq y1 0) (.fin (.ret (.tup [(.agg [(.p (.str ([]:Str))),(.p (.list .fld ([]:List Fld)))]),(.one (.p (.int .i64 5)))])) []) (.need y3 (.need (I.cutb y0 (I.add y0 y1) (I.len (α:=UInt8) s)) (.need (I.hid (α:=(Prop)) (LE.le (List.length y2) 1000000)) (.need y3 (.code 0 [1,1,1,1,1,1,1,0,0] ⟨[(4,(.v (.one (.p (.int .i64 (I.add y0 y1)))))),(6,(.v (.one (.ptr 1 0)))),(5,(.v (.one (.p (.int .i64 y1))))),(3,(.v (.one (.p (.int .i64 0))))),(2,(.v (.one (.ptr 0 0)))),(0,(.v (.one (.p (.str s)))))],[(.obj 115 [(.p (.str ([]:Str))),.nilS]),(.obj 115 [(.p (.str (I.hid (α:=Str) (lowS y2)))),.nilS])],223,none⟩)))))))))) (by kernel_rfl) ?_
  simp only [zk]
  have keyL : ∀ (i:Int) (w:Str) (st:St),0≤i→i≤s.length→finM (medB w (s.drop i.toNat))=(⟨pw,ps⟩,c)→cutM { cfgM with seam:=[9,24,46],keep:=some [0,2,3,4,5,6,7,8,9]} 0 [0,2,4,6] st=some ⟨[(0,.v (.one (.p (.str s)))),(2,.v (.one (.ptr 0 0))),(4,.v (.one (.p (.int .i64 i)))),(6,.v (.one (.ptr 1 0)))],[.pack [.obj 115 [(.p (.str ([]))),(.row 1)],.row .fld 135 ([])],.pack [.obj 115 [(.p (.str w)),(.row 1)],.row .fld 135 ([])]],223,none⟩→Ok Tryz.prog X (fun o h=>o=AOut.ret (D.tup [V0.agg [C.p (P.str pw),C.p (P.list U.fld ps)],V0.one (C.p (P.int IntKind.i64 c))])∧h=[]) (leaf I tab { cfgM with seam:=[9,24,46],keep:=some [0,2,3,4,5,6,7,8,9]} [⟨yH Tryz.f61,finK I tab { cfgM with seam:=[9,24,46],keep:=some [0,2,3,4,5,6,7,8,9]} 0 Tryz.f61⟩] 0 [1,1,1,1,1,1,1,1,0] st):=by
    intro i w st h0 h1 hm hst
    refine zG hI zi mixed [yV,yU,wo,x9,vU,vT,xO,xN] hX [0,2,4,6] (fun(g:Int × List Fld)=>match g with|(i,l)=>0≤i∧i≤s.length∧l.length≤8∧∃ n,(skS (s.drop i.toNat)).length<n∧finL w (medL n (skS (s.drop i.toNat)) l)=(⟨pw,ps⟩,c)) (fun(g:Int × List Fld)=>match g with|(i,l)=>⟨[(0,.v (.one (.p (.str s)))),(2,.v (.one (.ptr 0 0))),(4,.v (.one (.p (.int .i64 i)))),(6,.v (.one (.ptr 1 0)))],[.pack [.obj 115 [(.p (.str ([]))),(.row 1)],.row .fld 135 ([])],.pack [.obj 115 [(.p (.str w)),(.row 1)],.row .fld 135 l]],223,none⟩) (fun(g:Int × List Fld)=>match g with|(i,l)=>(s.length - i).toNat) (i,[]) (by kernel_rfl) hst ?_ ?_
    · refine⟨h0,h1,by simp,(skS (s.drop i.toNat)).length+1,by omega,?_⟩
      rw [← hm];rfl
    clear hm hst h0 h1 hr
    rintro⟨i,l⟩ ⟨h0,h1,hl8,n,hn,hm⟩ A hA
    simp only at hA
    cases n with
    |zero=>omega
    |succ n=>
    have key46: ∀ (j:Int) (nm v:Str),i<j→j≤s.length→(skS (s.drop j.toNat)).length<n→finL w (medS n l (0,⟨nm,v⟩,s.drop j.toNat))=(⟨pw,ps⟩,c)→Ok Tryz.prog X (fun o h=>o=AOut.ret (D.tup [V0.agg [C.p (P.str pw),C.p (P.list U.fld ps)],V0.one (C.p (P.int IntKind.i64 c))])∧h=[]) (go I tab { cfgM with seam:=[9,24,46],keep:=some [0,2,3,4,5,6,7,8,9]} [yV,yU,wo,x9,vU,vT,xO,xN] (round I tab { cfgM with seam:=[9,24,46],keep:=some [0,2,3,4,5,6,7,8,9]} 0 [0,2,4,6] A [⟨yH Tryz.f61,finK I tab { cfgM with seam:=[9,24,46],keep:=some [0,2,3,4,5,6,7,8,9]} 0 Tryz.f61⟩] 0 [1,1,1,1,1,1,1,1,0]::[⟨yH Tryz.f61,finK I tab { cfgM with seam:=[9,24,46],keep:=some [0,2,3,4,5,6,7,8,9]} 0 Tryz.f61⟩]) 0 [0,1,1,1,1,1,1,1,1,1,0,0] ⟨[(0,.v (.one (.p (.str s)))),(2,.v (.one (.ptr 0 0))),(4,.v (.one (.p (.int .i64 j)))),(6,.v (.one (.ptr 1 0))),(7,.v (.one (.ptr 2 0)))],[.pack [.obj 115 [(.p (.str ([]))),(.row 1)],.row .fld 135 ([])],.pack [.obj 115 [(.p (.str w)),(.row 1)],.row .fld 135 l],.pack [.obj 135 [(.p (.str nm)),(.p (.str v))]]],223,none⟩):=by
      intro j nm v hj hj1 hjn hm
      refine zh (.code 0 [0,1,1,1,1,1,1,1,1,1,0,1,0] ⟨[(9,(.v (.one (.p (.int .i64 0))))),(0,(.v (.one (.p (.str s))))),(2,(.v (.one (.ptr 0 0)))),(4,(.v (.one (.p (.int .i64 j))))),(6,(.v (.one (.ptr 1 0)))),(7,(.v (.one (.ptr 2 0))))],[(.pack [(.obj 115 [(.p (.str ([]:Str))),(.row 1)]),(.row .fld 135 ([]:List Fld))]),(.pack [(.obj 115 [(.p (.str w)),(.row 1)]),(.row .fld 135 l)]),(.pack [(.obj 135 [(.p (.str nm)),(.p (.str v))])])],223,none⟩) (by kernel_rfl) ?_
      simp only [zk]
      refine zG hI zi mixed [yV,yU,wo,x9,vU,vT,xO,xN] hX [0,2,4,6,7,9] (fun(k:Nat)=>k≤l.length∧∀ x ∈ l.take k,x.name≠nm) (fun(k:Nat)=>⟨[(0,.v (.one (.p (.str s)))),(2,.v (.one (.ptr 0 0))),(4,.v (.one (.p (.int .i64 j)))),(6,.v (.one (.ptr 1 0))),(7,.v (.one (.ptr 2 0))),(9,.v (.one (.p (.int .i64 k))))],[.pack [.obj 115 [(.p (.str ([]))),(.row 1)],.row .fld 135 ([])],.pack [.obj 115 [(.p (.str w)),(.row 1)],.row .fld 135 l],.pack [.obj 135 [(.p (.str nm)),(.p (.str v))]]],223,none⟩) (fun(k:Nat)=>l.length - k) 0 (by kernel_rfl) (by kernel_rfl) ?_ ?_
      · exact⟨Nat.zero_le _,by simp⟩
      rintro k ⟨h2,h3⟩ B hB
      refine zh (let y0:HO:=.pack [(.obj 115 [(.p (.str ([]:Str))),(.row 1)]),(.row .fld 135 ([]:List Fld))];let y1:=I.inb (Nat.cast k) (I.len (α:=Fld) l);let y2:HO:=.obj 115 [(.p (.str w)),(.row 1)];.br (I.ilt (Nat.cast k) (I.len (α:=Fld) l)) (.need y1 (.need y1 (.br (I.seq (Fld.name (I.get (α:=Fld) l (Fld.mk ([]:Str) ([]:Str)) (Nat.cast k))) nm) (.fin (.ret (.tup [(.agg [(.p (.str ([]:Str))),(.p (.list .fld ([]:List Fld)))]),(.one (.p (.int .i64 9)))])) []) (.need (I.inr Go.IntKind.i64 (I.add (Nat.cast k) 1)) (.need (B ⟨[(0,(.v (.one (.p (.str s))))),(2,(.v (.one (.ptr 0 0)))),(4,(.v (.one (.p (.int .i64 j))))),(6,(.v (.one (.ptr 1 0)))),(7,(.v (.one (.ptr 2 0)))),(9,(.v (.one (.p (.int .i64 (I.add (Nat.cast k) 1))))))],[y0,(.pack [y2,(.row .fld 135 l)]),(.pack [(.obj 135 [(.p (.str nm)),(.p (.str v))])])],223,none⟩) .qed))))) (.br (I.ieq (I.len (α:=Fld) l) 8) (.fin (.ret (.tup [(.agg [(.p (.str ([]:Str))),(.p (.list .fld ([]:List Fld)))]),(.one (.p (.int .i64 8)))])) []) (.need (I.few (I.add (I.len (α:=Fld) l) (I.len (α:=Fld) ([(Fld.mk nm v)]:List Fld))) 100000000) (.need (A ⟨[(0,(.v (.one (.p (.str s))))),(2,(.v (.one (.ptr 0 0)))),(4,(.v (.one (.p (.int .i64 j))))),(6,(.v (.one (.ptr 1 0))))],[y0,(.pack [y2,(.row .fld 135 (I.app (α:=Fld) l ([(Fld.mk nm v)]:List Fld)))])],223,none⟩) .qed)))) (by kernel_rfl) ?_
      simp only [zk]
      subst hI
      simp only [nrmA,nrmB]
      try rw [show dflt U.fld=(⟨[],[]⟩:Fld) from rfl]
      have hstep:=fun(h:k<l.length)=>zkI (nm:=nm) h ⟨[],[]⟩ h3
      have hmem:=fun(h:k<l.length)=>getD_mem h ⟨[],[]⟩
      have hgo:k<l.length→¬ (l.getD k ⟨[],[]⟩).name=nm→B ⟨[(0,.v (.one (.p (.str s)))),(2,.v (.one (.ptr 0 0))),(4,.v (.one (.p (.int .i64 j)))),(6,.v (.one (.ptr 1 0))),(7,.v (.one (.ptr 2 0))),(9,.v (.one (.p (.int .i64 (((k:Int)+1))))))],[.pack [.obj 115 [(.p (.str ([]))),(.row 1)],.row .fld 135 ([])],.pack [.obj 115 [(.p (.str w)),(.row 1)],.row .fld 135 l],.pack [.obj 135 [(.p (.str nm)),(.p (.str v))]]],223,none⟩:=fun a b=>hB (k+1) ⟨by omega,hstep a b⟩ (by omega)
      have hno: ¬ k<l.length→(getP l nm).2=false:=fun a=>zhJ.2 (by rw [List.take_of_length_le (by omega)] at h3;exact h3)
      have hy:k<l.length→(l.getD k ⟨[],[]⟩).name=nm→(getP l nm).2=true:=fun a b=>by
        cases hq:(getP l nm).2 with
        |true=>rfl
        |false=>exact absurd b (zhJ.1 hq _ (hmem a))
      have hA2:=hA (j,l++[⟨nm,v⟩])
      simp only [List.length_append,List.length_cons,List.length_nil] at hA2
      clear hstep hmem hB h3
      generalize l.getD k ⟨[],[]⟩=x at *
      simp only [medS,ne_eq,not_true_eq_false,if_false] at hm
      by_cases hk:k<l.length
      · by_cases hx:x.name=nm
        · rw [if_pos (hy hk hx)] at hm
          simp only [finL,if_false,Prod.mk.injEq,Med.mk.injEq,Int.reduceEq] at hm
          (repeat' (first|refine And.intro ?_ ?_|intro _))<;>first|omega|exact True.intro|exact False.elim ‹False›|skip
          all_goals first|omega|(simp [← hm.1.1,← hm.1.2,← hm.2];done)|(exfalso;exact absurd hx ‹_›)|trace_state
        · have hg:=hgo hk hx
          (repeat' (first|refine And.intro ?_ ?_|intro _))<;>first|omega|exact True.intro|exact False.elim ‹False›|skip
          all_goals first|omega|exact hg|contradiction|(exfalso;exact absurd ‹_› hx)|trace_state
      · rw [if_neg (by rw [hno hk];exact Bool.false_ne_true)] at hm
        by_cases h8:l.length=8
        · rw [if_pos h8] at hm
          simp only [finL,if_false,Prod.mk.injEq,Med.mk.injEq,Int.reduceEq] at hm
          (repeat' (first|refine And.intro ?_ ?_|intro _))<;>first|omega|exact True.intro|exact False.elim ‹False›|skip
          all_goals first|omega|(simp [← hm.1.1,← hm.1.2,← hm.2];done)|trace_state
        · rw [if_neg h8] at hm
          have hA3:=hA2 ⟨by omega,hj1,by omega,n,hjn,hm⟩ (by omega)
          (repeat' (first|refine And.intro ?_ ?_|intro _))<;>first|omega|exact True.intro|exact False.elim ‹False›|skip
          all_goals first|omega|exact hA3|(simp only [List.length_cons,List.length_nil];omega)|trace_state
    have keyQ : ∀ (j:Int) (nm:Str) (st:St),i<j→j≤s.length→(s.drop j.toNat).length<n→finL w (medS n l (if(quoF (s.drop j.toNat)).isSome=true then(0,⟨nm,quoV (s.drop j.toNat)⟩,quoR (s.drop j.toNat)) else(14,⟨[],[]⟩,[])))=(⟨pw,ps⟩,c)→cutM { cfgM with seam:=[9,24,46],keep:=some [0,2,3,4,5,6,7,8,9]} 0 [0,2,4,6,7,8] st=some ⟨[(0,.v (.one (.p (.str s)))),(2,.v (.one (.ptr 0 0))),(4,.v (.one (.p (.int .i64 j)))),(6,.v (.one (.ptr 1 0))),(7,.v (.one (.ptr 2 0))),(8,.v (.one (.p (.bool false))))],[.pack [.obj 115 [(.p (.str ([]))),(.row 1)],.row .fld 135 ([])],.pack [.obj 115 [(.p (.str w)),(.row 1)],.row .fld 135 l],.pack [.obj 135 [(.p (.str nm)),(.p (.str ([])))]]],223,none⟩→Ok Tryz.prog X (fun o h=>o=AOut.ret (D.tup [V0.agg [C.p (P.str pw),C.p (P.list U.fld ps)],V0.one (C.p (P.int IntKind.i64 c))])∧h=[]) (leaf I tab { cfgM with seam:=[9,24,46],keep:=some [0,2,3,4,5,6,7,8,9]} (round I tab { cfgM with seam:=[9,24,46],keep:=some [0,2,3,4,5,6,7,8,9]} 0 [0,2,4,6] A [⟨yH Tryz.f61,finK I tab { cfgM with seam:=[9,24,46],keep:=some [0,2,3,4,5,6,7,8,9]} 0 Tryz.f61⟩] 0 [1,1,1,1,1,1,1,1,0]::[⟨yH Tryz.f61,finK I tab { cfgM with seam:=[9,24,46],keep:=some [0,2,3,4,5,6,7,8,9]} 0 Tryz.f61⟩]) 0 [0,1,1,1,1,1,1,1,1,0,1,0,1,1,0,0] st):=by
      intro j nm st hj hj1 hjn hm hst
      refine zG hI zi mixed [yV,yU,wo,x9,vU,vT,xO,xN] hX [0,2,4,6,7,8] (fun(g:Int × Bool × Str)=>match g with|(k,b,v)=>j≤k∧k≤s.length∧(v.length:Int)≤k - j∧(b=true→quoF (s.drop j.toNat)=some (v,s.drop k.toNat))∧(b=false→quoF (s.drop j.toNat)=(quoF (s.drop k.toNat)).map (fun p=>(v++p.1,p.2)))) (fun(g:Int × Bool × Str)=>match g with|(k,b,v)=>⟨[(0,.v (.one (.p (.str s)))),(2,.v (.one (.ptr 0 0))),(4,.v (.one (.p (.int .i64 k)))),(6,.v (.one (.ptr 1 0))),(7,.v (.one (.ptr 2 0))),(8,.v (.one (.p (.bool b))))],[.pack [.obj 115 [(.p (.str ([]))),(.row 1)],.row .fld 135 ([])],.pack [.obj 115 [(.p (.str w)),(.row 1)],.row .fld 135 l],.pack [.obj 135 [(.p (.str nm)),(.p (.str v))]]],223,none⟩) (fun(g:Int × Bool × Str)=>match g with|(k,b,v)=>(s.length - k).toNat) (j,false,[]) (by kernel_rfl) hst ?_ ?_
      · exact⟨Int.le_refl _,hj1,by simp,by simp,by simp⟩
      rintro⟨k,b,v⟩ ⟨h2,h3,h4,h5,h6⟩ B hB
      simp only at hB
      refine zh (let y0:HO:=.pack [(.obj 115 [(.p (.str ([]:Str))),(.row 1)]),(.row .fld 135 ([]:List Fld))];let y1:HO:=.pack [(.obj 115 [(.p (.str w)),(.row 1)]),(.row .fld 135 l)];let y2:=I.inr Go.IntKind.i64 (I.add k 1);let y3:HO:=.pack [(.obj 135 [(.p (.str nm)),(.p (.str v))])];let y4:=I.cut (α:=UInt8) s (I.add k 1) (I.add k 2);let y5:=I.cut (α:=UInt8) s k (I.add k 1);let y6:=I.b2i (I.get (α:=UInt8) s 0 k);.br (I.ilt k (I.len (α:=UInt8) s)) (.br (I.bnot b) (.need (I.inb k (I.len (α:=UInt8) s)) (.br (I.ieq y6 34) (.need y2 (.need (B ⟨[(0,(.v (.one (.p (.str s))))),(2,(.v (.one (.ptr 0 0)))),(4,(.v (.one (.p (.int .i64 (I.add k 1)))))),(6,(.v (.one (.ptr 1 0)))),(7,(.v (.one (.ptr 2 0)))),(8,(.v (.one (.p (.bool Bool.true)))))],[y0,y1,y3],223,none⟩) .qed)) (.need (I.inb k (I.len (α:=UInt8) s)) (.br (I.ieq y6 92) (.need y2 (.br (I.ieq (I.add k 1) (I.len (α:=UInt8) s)) (.fin (.ret (.tup [(.agg [(.p (.str ([]:Str))),(.p (.list .fld ([]:List Fld)))]),(.one (.p (.int .i64 14)))])) []) (.need y2 (.need (I.inr Go.IntKind.i64 (I.add k 2)) (.need (I.cutb (I.add k 1) (I.add k 2) (I.len (α:=UInt8) s)) (.need (I.few (I.add (I.len (α:=UInt8) v) (I.len (α:=UInt8) y4)) 1000000000) (.need y2 (.need (I.inr Go.IntKind.i64 (I.add (I.add k 1) 1)) (.need (B ⟨[(0,(.v (.one (.p (.str s))))),(2,(.v (.one (.ptr 0 0)))),(4,(.v (.one (.p (.int .i64 (I.add (I.add k 1) 1)))))),(6,(.v (.one (.ptr 1 0)))),(7,(.v (.one (.ptr 2 0)))),(8,(.v (.one (.p (.bool b)))))],[y0,y1,(.pack [(.obj 135 [(.p (.str nm)),(.p (.str (I.app (α:=UInt8) v y4)))])])],223,none⟩) .qed))))))))) (.need y2 (.need (I.cutb k (I.add k 1) (I.len (α:=UInt8) s)) (.need (I.few (I.add (I.len (α:=UInt8) v) (I.len (α:=UInt8) y5)) 1000000000) (.need y2 (.need (B ⟨[(0,(.v (.one (.p (.str s))))),(2,(.v (.one (.ptr 0 0)))),(4,(.v (.one (.p (.int .i64 (I.add k 1)))))),(6,(.v (.one (.ptr 1 0)))),(7,(.v (.one (.ptr 2 0)))),(8,(.v (.one (.p (.bool b)))))],[y0,y1,(.pack [(.obj 135 [(.p (.str nm)),(.p (.str (I.app (α:=UInt8) v y5)))])])],223,none⟩) .qed))))))))) (.br (I.bnot b) (.fin (.ret (.tup [(.agg [(.p (.str ([]:Str))),(.p (.list .fld ([]:List Fld)))]),(.one (.p (.int .i64 14)))])) []) (.code 1 [0,1,1,1,1,1,1,1,1,1,0,0] ⟨[(0,(.v (.one (.p (.str s))))),(2,(.v (.one (.ptr 0 0)))),(4,(.v (.one (.p (.int .i64 k))))),(6,(.v (.one (.ptr 1 0)))),(7,(.v (.one (.ptr 2 0)))),(8,(.v (.one (.p (.bool b)))))],[y0,y1,y3],223,none⟩))) (.br (I.bnot b) (.fin (.ret (.tup [(.agg [(.p (.str ([]:Str))),(.p (.list .fld ([]:List Fld)))]),(.one (.p (.int .i64 14)))])) []) (.code 1 [0,1,1,1,1,1,1,1,1,1,0,0] ⟨[(0,(.v (.one (.p (.str s))))),(2,(.v (.one (.ptr 0 0)))),(4,(.v (.one (.p (.int .i64 k))))),(6,(.v (.one (.ptr 1 0)))),(7,(.v (.one (.ptr 2 0)))),(8,(.v (.one (.p (.bool b)))))],[y0,y1,y3],223,none⟩))) (by kernel_rfl) ?_
      simp only [zk]
      subst hI
      simp only [nrmA,nrmB]
      clear hA hst
      have hk46:=key46 k nm v (by omega) h3
      clear key46
      have hle:(skS (s.drop k.toNat)).length<n:=by
        have:=vW (s.drop k.toNat)
        rw [List.length_drop] at this hjn
        omega
      cases b with
      | true=>
        rw [h5 rfl] at hm
        have e1:quoV (s.drop j.toNat)=v:=by unfold quoV;rw [h5 rfl]
        have e2:quoR (s.drop j.toNat)=s.drop k.toNat:=by unfold quoR;rw [h5 rfl]
        rw [e1,e2] at hm
        have hk:=hk46 hle hm
        (repeat' (first|refine And.intro ?_ ?_|intro _))<;>first|omega|exact True.intro|exact False.elim ‹False›|skip
        all_goals first|omega|contradiction|skip
        all_goals exact seam (by first|rfl|exact hI) zi mixed [yV,yU,wo,x9,vU,vT,xO,xN] hX [0,2,4,6,7] ⟨[(0,.v (.one (.p (.str s)))),(2,.v (.one (.ptr 0 0))),(4,.v (.one (.p (.int .i64 k)))),(6,.v (.one (.ptr 1 0))),(7,.v (.one (.ptr 2 0)))],[.pack [.obj 115 [(.p (.str ([]))),(.row 1)],.row .fld 135 ([])],.pack [.obj 115 [(.p (.str w)),(.row 1)],.row .fld 135 l],.pack [.obj 135 [(.p (.str nm)),(.p (.str v))]]],223,none⟩ (by kernel_rfl) (hk)
      | false =>
        have h6:=h6 rfl
        have hend:quoF (s.drop j.toNat)=none→(⟨[],[]⟩,14)=((⟨pw,ps⟩,c):Med × Int):=fun h=>by
          rw [h] at hm
          exact hm
        clear hm hk46 h5
        by_cases hk:k<s.length
        · have hc:=TB (by omega) hk
          have hu1:=zh9 (by omega:0≤k) hk (e:=k+1) rfl
          rw [hc] at h6
          have e34:((s.getD k.toNat 0).toNat:Int)=34↔s.getD k.toNat 0=34:=vw _ 34
          have e92:((s.getD k.toNat 0).toNat:Int)=92↔s.getD k.toNat 0=92:=vw _ 92
          rw [e34,e92]
          by_cases q34:s.getD k.toNat 0=34
          · rw [zlb _ q34] at h6
            have hg:=hB (k+1,true,v) ⟨by simp only;omega,by simp only;omega,by simp only;omega,fun _=>by rw [h6];simp,fun h=>(by cases h)⟩ (by simp only;omega)
            simp only at hg
            clear hB
            (repeat' (first|refine And.intro ?_ ?_|intro _))<;>first|omega|exact True.intro|exact False.elim ‹False›|skip
            all_goals first|omega|exact hg|contradiction|(exfalso;exact absurd q34 ‹_›)|trace_state
          by_cases q92:s.getD k.toNat 0=92
          · by_cases hk1:k+1<s.length
            · have hc1:=TB (s:=s) (k:=k+1) (by omega) hk1
              have hu2:=zh9 (s:=s) (k:=k+1) (e:=k+2) (by omega) hk1 (by omega)
              rw [hc1,zla _ _ q92,Option.map_map] at h6
              have hg:=hB (k+1+1,false,v++[s.getD (k+1).toNat 0]) ⟨by simp only;omega,by simp only;omega,by simp only [List.length_append,List.length_cons,List.length_nil];omega,fun h=>(by cases h),fun _=>by rw [h6];congr 1;funext p;simp⟩ (by simp only;omega)
              simp only at hg
              rw [hu2]
              clear hB
              (repeat' (first|refine And.intro ?_ ?_|intro _))<;>first|omega|exact True.intro|exact False.elim ‹False›|skip
              all_goals first|omega|exact hg|contradiction|(exfalso;exact absurd q92 ‹_›)|(exfalso;exact absurd ‹_› q34)|(simp only [List.length_cons,List.length_nil];omega)|trace_state
            · have hnil:s.drop (k+1).toNat=[]:=by rw [← List.length_eq_zero_iff,List.length_drop];omega
              rw [hnil,q92] at h6
              have hz:=hend (by rw [h6];simp [quoF])
              simp only [Prod.mk.injEq,Med.mk.injEq] at hz
              clear hB
              (repeat' (first|refine And.intro ?_ ?_|intro _))<;>first|omega|exact True.intro|exact False.elim ‹False›|skip
              all_goals first|omega|contradiction|(simp [← hz.1.1,← hz.1.2,← hz.2];done)|(exfalso;exact absurd q92 ‹_›)|(exfalso;exact absurd ‹_› q34)|trace_state
          · rw [zmO _ q34 q92,Option.map_map] at h6
            have hg:=hB (k+1,false,v++[s.getD k.toNat 0]) ⟨by simp only;omega,by simp only;omega,by simp only [List.length_append,List.length_cons,List.length_nil];omega,fun h=>(by cases h),fun _=>by rw [h6];congr 1;funext p;simp⟩ (by simp only;omega)
            simp only at hg
            rw [hu1]
            clear hB
            (repeat' (first|refine And.intro ?_ ?_|intro _))<;>first|omega|exact True.intro|exact False.elim ‹False›|skip
            all_goals first|omega|exact hg|contradiction|(exfalso;exact absurd ‹_› q92)|(exfalso;exact absurd ‹_› q34)|(simp only [List.length_cons,List.length_nil];omega)|trace_state
        · have hnil:s.drop k.toNat=[]:=by rw [← List.length_eq_zero_iff,List.length_drop];omega
          rw [hnil] at h6
          have hz:=hend (by rw [h6];simp [quoF])
          simp only [Prod.mk.injEq,Med.mk.injEq] at hz
          clear hB
          (repeat' (first|refine And.intro ?_ ?_|intro _))<;>first|omega|exact True.intro|exact False.elim ‹False›|skip
          all_goals first|omega|contradiction|(simp [← hz.1.1,← hz.1.2,← hz.2];done)|contradiction|trace_state
    have key24: ∀ (j m:Int),i<j→j+m<s.length→m=(tokS (s.drop j.toNat)).length→¬ tokS (s.drop j.toNat)=[]→zY (s.drop (j+m).toNat) 61=true→(s.drop j.toNat).length<n+1→finL w (medS n l (parM (s.drop j.toNat)))=(⟨pw,ps⟩,c)→Ok Tryz.prog X (fun o h=>o=AOut.ret (D.tup [V0.agg [C.p (P.str pw),C.p (P.list U.fld ps)],V0.one (C.p (P.int IntKind.i64 c))])∧h=[]) (go I tab { cfgM with seam:=[9,24,46],keep:=some [0,2,3,4,5,6,7,8,9]} [yV,yU,wo,x9,vU,vT,xO,xN] (round I tab { cfgM with seam:=[9,24,46],keep:=some [0,2,3,4,5,6,7,8,9]} 0 [0,2,4,6] A [⟨yH Tryz.f61,finK I tab { cfgM with seam:=[9,24,46],keep:=some [0,2,3,4,5,6,7,8,9]} 0 Tryz.f61⟩] 0 [1,1,1,1,1,1,1,1,0]::[⟨yH Tryz.f61,finK I tab { cfgM with seam:=[9,24,46],keep:=some [0,2,3,4,5,6,7,8,9]} 0 Tryz.f61⟩]) 0 [0,1,1,1,1,1,1,0] ⟨[(0,.v (.one (.p (.str s)))),(2,.v (.one (.ptr 0 0))),(4,.v (.one (.p (.int .i64 j)))),(5,.v (.one (.p (.int .i64 m)))),(6,.v (.one (.ptr 1 0)))],[.pack [.obj 115 [(.p (.str ([]))),(.row 1)],.row .fld 135 ([])],.pack [.obj 115 [(.p (.str w)),(.row 1)],.row .fld 135 l]],223,none⟩):=by
      intro j m hj hjm em ht hq hjn hm
      refine zh (let y0:=I.hid (α:=Int) (Nat.cast (List.length (tokS (List.drop (Int.toNat (I.add j (I.add m 1))) s))));let y7:=I.cut (α:=UInt8) s j (I.add j m);let y1:HO:=.obj 135 [(.p (.str (I.hid (α:=Str) (lowS y7)))),(.p (.str (I.cut (α:=UInt8) s (I.add j (I.add m 1)) (I.add (I.add j (I.add m 1)) y0))))];let y2:HO:=.pack [(.obj 115 [(.p (.str ([]:Str))),(.row 1)]),(.row .fld 135 ([]:List Fld))];let y3:=I.hid (α:=(Prop)) (And (LE.le (List.length s) 1000000) (And (LE.le (0:Int) (I.add j (I.add m 1))) (LE.le (I.add j (I.add m 1)) (Nat.cast (List.length s)))));let y4:=I.inr Go.IntKind.i64 (I.add (I.add j (I.add m 1)) y0);let y5:HO:=.pack [(.obj 115 [(.p (.str w)),(.row 1)]),(.row .fld 135 l)];let y6:=I.cutb (I.add j (I.add m 1)) (I.add (I.add j (I.add m 1)) y0) (I.len (α:=UInt8) s);.need (I.inr Go.IntKind.i64 (I.add j m)) (.need (I.cutb j (I.add j m) (I.len (α:=UInt8) s)) (.need (I.hid (α:=(Prop)) (LE.le (List.length y7) 1000000)) (.need (I.inr Go.IntKind.i64 (I.add m 1)) (.need (I.inr Go.IntKind.i64 (I.add j (I.add m 1))) (.br (I.ilt (I.add j (I.add m 1)) (I.len (α:=UInt8) s)) (.need (I.inb (I.add j (I.add m 1)) (I.len (α:=UInt8) s)) (.br (I.ieq (I.b2i (I.get (α:=UInt8) s 0 (I.add j (I.add m 1)))) 34) (.need (I.inr Go.IntKind.i64 (I.add (I.add j (I.add m 1)) 1)) (.code 0 [0,1,1,1,1,1,1,1,1,0,1,0,1,1,0,0] ⟨[(8,(.v (.one (.p (.val (.bool .false)))))),(4,(.v (.one (.p (.int .i64 (I.add (I.add j (I.add m 1)) 1)))))),(7,(.v (.one (.ptr 2 0)))),(0,(.v (.one (.p (.str s))))),(2,(.v (.one (.ptr 0 0)))),(5,(.v (.one (.p (.int .i64 m))))),(6,(.v (.one (.ptr 1 0))))],[y2,y5,(.obj 135 [(.p (.str (I.hid (α:=Str) (lowS y7)))),(.p (.str ([]:Str)))])],223,none⟩)) (.need y3 (.br (I.ieq y0 0) (.fin (.ret (.tup [(.agg [(.p (.str ([]:Str))),(.p (.list .fld ([]:List Fld)))]),(.one (.p (.int .i64 5)))])) []) (.need y4 (.need y6 (.need y4 (.code 0 [0,1,1,1,1,1,1,1,1,1,0,0] ⟨[(4,(.v (.one (.p (.int .i64 (I.add (I.add j (I.add m 1)) y0)))))),(5,(.v (.one (.p (.int .i64 y0))))),(7,(.v (.one (.ptr 2 0)))),(0,(.v (.one (.p (.str s))))),(2,(.v (.one (.ptr 0 0)))),(6,(.v (.one (.ptr 1 0))))],[y2,y5,y1],223,none⟩)))))))) (.need y3 (.br (I.ieq y0 0) (.fin (.ret (.tup [(.agg [(.p (.str ([]:Str))),(.p (.list .fld ([]:List Fld)))]),(.one (.p (.int .i64 5)))])) []) (.need y4 (.need y6 (.need y4 (.code 0 [0,1,1,1,1,1,1,1,1,1,0,0] ⟨[(4,(.v (.one (.p (.int .i64 (I.add (I.add j (I.add m 1)) y0)))))),(5,(.v (.one (.p (.int .i64 y0))))),(7,(.v (.one (.ptr 2 0)))),(0,(.v (.one (.p (.str s))))),(2,(.v (.one (.ptr 0 0)))),(6,(.v (.one (.ptr 1 0))))],[y2,y5,y1],223,none⟩)))))))))))) (by kernel_rfl) ?_
      simp only [zk]
      subst hI
      simp only [nrmA,nrmB]
      have f3:=XE s j.toNat
      rw [show j.toNat+(tokS (s.drop j.toNat)).length=(j+m).toNat by omega] at f3
      have e1:(s.drop j.toNat).take ((j+m).toNat - j.toNat)=tokS (s.drop j.toNat):=by
        rw [show(j+m).toNat - j.toNat=(tokS (s.drop j.toNat)).length by omega]
        exact Ut isTk _
      have hml:=xZ (s.drop j.toNat)
      have hp:parM (s.drop j.toNat)=if zY (s.drop (j+(m+1)).toNat) 34=true then(if(quoF (s.drop (j+(m+1)+1).toNat)).isSome=true then(0,⟨lowS (tokS (s.drop j.toNat)),quoV (s.drop (j+(m+1)+1).toNat)⟩,quoR (s.drop (j+(m+1)+1).toNat)) else(14,⟨[],[]⟩,[]))
          else if tokS (s.drop (j+(m+1)).toNat)=[] then(5,⟨[],[]⟩,tokE (s.drop (j+(m+1)).toNat)) else(0,⟨lowS (tokS (s.drop j.toNat)),tokS (s.drop (j+(m+1)).toNat)⟩,tokE (s.drop (j+(m+1)).toNat)):=by
        unfold parM
        rw [if_neg ht,← f3,if_neg (by rw [hq];simp),List.drop_drop,List.drop_drop,show(j+m).toNat+1=(j+(m+1)).toNat by omega,show(j+m).toNat+2=(j+(m+1)+1).toNat by omega]
      rw [hp] at hm
      rw [e1]
      rw [List.length_drop] at hml hjn
      have hnl:=wC (tokS (s.drop j.toNat))
      generalize lowS (tokS (s.drop j.toNat))=nm at *
      generalize hj3:j+(m+1)=p at *
      clear hp f3 ht hq e1 hA
      have hH:=qW s p (by omega) 34
      rw [show(((34:UInt8).toNat:Nat):Int)=34 from rfl] at hH
      have hT:tokS (s.drop p.toNat)=[]↔((tokS (s.drop p.toNat)).length:Int)=0:=by rw [← List.length_eq_zero_iff];omega
      have f4:=XE s p.toNat
      have e2:(s.drop p.toNat).take ((p+(tokS (s.drop p.toNat)).length).toNat - p.toNat)=tokS (s.drop p.toNat):=by
        rw [show(p+((tokS (s.drop p.toNat)).length:Int)).toNat - p.toNat=(tokS (s.drop p.toNat)).length by omega]
        exact Ut isTk _
      have hml2:=xZ (s.drop p.toNat)
      rw [List.length_drop] at hml2
      rw [show p.toNat+(tokS (s.drop p.toNat)).length=(p+((tokS (s.drop p.toNat)).length:Int)).toNat by omega] at f4
      rw [e2]
      have hsl:=vW (tokE (s.drop p.toNat))
      rw [← f4,List.length_drop] at hsl
      by_cases q1:zY (s.drop p.toNat) 34=true
      · have q2:=hH.1 q1
        rw [if_pos q1] at hm
        have hk:=keyQ (p+1) nm
        (repeat' (first|refine And.intro ?_ ?_|intro _))<;>first|omega|exact True.intro|exact False.elim ‹False›|skip
        all_goals first|omega|exact hk _ (by omega) (by omega) (by rw [List.length_drop];omega) hm (by kernel_rfl)|(exfalso;exact absurd q2.2 ‹_›)|trace_state
      · rw [if_neg q1] at hm
        have q2:p<s.length→¬ ((s.getD p.toNat 0).toNat:Int)=34:=fun a b=>q1 (hH.2 ⟨a,b⟩)
        by_cases q3:tokS (s.drop p.toNat)=[]
        · rw [if_pos q3] at hm
          have q4:=hT.1 q3
          simp only [medS,finL,ne_eq,reduceCtorEq,not_false_eq_true,if_true,if_false,Prod.mk.injEq,Med.mk.injEq,Int.reduceEq] at hm
          (repeat' (first|refine And.intro ?_ ?_|intro _))<;>first|omega|exact True.intro|exact False.elim ‹False›|skip
          all_goals first|omega|(simp [← hm.1.1,← hm.1.2,← hm.2];done)|(exfalso;exact q2 (by omega) ‹_›)|trace_state
        · rw [if_neg q3,← f4] at hm
          have q4: ¬ ((tokS (s.drop p.toNat)).length:Int)=0:=fun h=>q3 (hT.2 h)
          have hk:=key46 (p+((tokS (s.drop p.toNat)).length:Int)) nm (tokS (s.drop p.toNat)) (by omega) (by omega) (by omega) hm
          (repeat' (first|refine And.intro ?_ ?_|intro _))<;>first|omega|exact True.intro|exact False.elim ‹False›|skip
          all_goals first|omega|(exfalso;exact q2 (by omega) ‹_›)|exact seam (by first|rfl|exact hI) zi mixed [yV,yU,wo,x9,vU,vT,xO,xN] hX [0,2,4,6,7] ⟨[(0,.v (.one (.p (.str s)))),(2,.v (.one (.ptr 0 0))),(4,.v (.one (.p (.int .i64 ((p+((tokS (s.drop p.toNat)).length:Int))))))),(6,.v (.one (.ptr 1 0))),(7,.v (.one (.ptr 2 0)))],[.pack [.obj 115 [(.p (.str ([]))),(.row 1)],.row .fld 135 ([])],.pack [.obj 115 [(.p (.str w)),(.row 1)],.row .fld 135 l],.pack [.obj 135 [(.p (.str nm)),(.p (.str ((tokS (s.drop p.toNat)))))]]],223,none⟩ (by kernel_rfl) (hk)|trace_state
    refine zh (let y2:=I.hid (α:=Int) (HAdd.hAdd i (Nat.cast (blkN (List.drop (Int.toNat i) s))));let y0:=I.hid (α:=Int) (HAdd.hAdd (I.add y2 1) (Nat.cast (blkN (List.drop (Int.toNat (I.add y2 1)) s))));let y1:=I.hid (α:=Int) (Nat.cast (List.length (tokS (List.drop (Int.toNat y0) s))));let y3:=I.inr Go.IntKind.i64 (I.add y0 y1);.need (I.hid (α:=(Prop)) (And (LE.le (List.length s) 1000000) (And (LE.le (0:Int) i) (LE.le i (Nat.cast (List.length s)))))) (.br (I.ieq y2 (I.len (α:=UInt8) s)) (.fin (.ret (.tup [(.agg [(.p (.str w)),(.p (.list .fld l))]),(.one (.p (.int .i64 0)))])) []) (.need (I.inb y2 (I.len (α:=UInt8) s)) (.br (I.bnot (I.ieq (I.b2i (I.get (α:=UInt8) s 0 y2)) 59)) (.fin (.ret (.tup [(.agg [(.p (.str ([]:Str))),(.p (.list .fld ([]:List Fld)))]),(.one (.p (.int .i64 5)))])) []) (.need (I.inr Go.IntKind.i64 (I.add y2 1)) (.need (I.hid (α:=(Prop)) (And (LE.le (List.length s) 1000000) (And (LE.le (0:Int) (I.add y2 1)) (LE.le (I.add y2 1) (Nat.cast (List.length s)))))) (.need (I.hid (α:=(Prop)) (And (LE.le (List.length s) 1000000) (And (LE.le (0:Int) y0) (LE.le y0 (Nat.cast (List.length s)))))) (.br (I.ieq y1 0) (.fin (.ret (.tup [(.agg [(.p (.str ([]:Str))),(.p (.list .fld ([]:List Fld)))]),(.one (.p (.int .i64 5)))])) []) (.need y3 (.br (I.ieq (I.add y0 y1) (I.len (α:=UInt8) s)) (.fin (.ret (.tup [(.agg [(.p (.str ([]:Str))),(.p (.list .fld ([]:List Fld)))]),(.one (.p (.int .i64 5)))])) []) (.need y3 (.need (I.inb (I.add y0 y1) (I.len (α:=UInt8) s)) (.br (I.bnot (I.ieq (I.b2i (I.get (α:=UInt8) s 0 (I.add y0 y1))) 61)) (.fin (.ret (.tup [(.agg [(.p (.str ([]:Str))),(.p (.list .fld ([]:List Fld)))]),(.one (.p (.int .i64 5)))])) []) (.code 0 [0,1,1,1,1,1,1,0] ⟨[(5,(.v (.one (.p (.int .i64 y1))))),(4,(.v (.one (.p (.int .i64 y0))))),(0,(.v (.one (.p (.str s))))),(2,(.v (.one (.ptr 0 0)))),(6,(.v (.one (.ptr 1 0))))],[(.pack [(.obj 115 [(.p (.str ([]:Str))),(.row 1)]),(.row .fld 135 ([]:List Fld))]),(.pack [(.obj 115 [(.p (.str w)),(.row 1)]),(.row .fld 135 l)])],223,none⟩)))))))))))))) (by kernel_rfl) ?_
    simp only [zk]
    subst hI
    simp only [nrmA,nrmB]
    have hb:=zay (s.drop i.toNat)
    rw [List.length_drop] at hb
    have f1:=zau s i.toNat
    generalize hj1:i+(blkN (s.drop i.toNat):Int)=j1
    rw [show i.toNat+blkN (s.drop i.toNat)=j1.toNat by omega] at f1
    have hb2:=zay (s.drop (j1+1).toNat)
    rw [List.length_drop] at hb2
    have f2:=zau s (j1+1).toNat
    generalize hj2:j1+1+(blkN (s.drop (j1+1).toNat):Int)=j2
    rw [show(j1+1).toNat+blkN (s.drop (j1+1).toNat)=j2.toNat by omega] at f2
    rw [← f1] at hm hn
    rw [zhr,List.drop_drop,show j1.toNat+1=(j1+1).toNat by omega,← f2] at hm
    have hH:=qW s j1 (by omega) 59
    rw [show(((59:UInt8).toNat:Nat):Int)=59 from rfl] at hH
    have hE:=drop_nil s j1 (by omega) (by omega)
    have f3:=XE s j2.toNat
    have hT:tokS (s.drop j2.toNat)=[]↔((tokS (s.drop j2.toNat)).length:Int)=0:=by rw [← List.length_eq_zero_iff];omega
    have hml:=xZ (s.drop j2.toNat)
    rw [List.length_drop] at hml hn
    have hP5:tokS (s.drop j2.toNat)=[]→parM (s.drop j2.toNat)=(5,⟨[],[]⟩,tokE (s.drop j2.toNat)):=fun h=>by unfold parM;rw [if_pos h]
    have hP6: ¬ tokS (s.drop j2.toNat)=[]→zY (tokE (s.drop j2.toNat)) 61=false→parM (s.drop j2.toNat)=(5,⟨[],[]⟩,tokE (s.drop j2.toNat)):=fun h k=>by unfold parM;rw [if_neg h,if_pos k]
    have hk:=key24 j2 (tokS (s.drop j2.toNat)).length
    generalize hm2:((tokS (s.drop j2.toNat)).length:Int)=m at *
    rw [show j2.toNat+(tokS (s.drop j2.toNat)).length=(j2+m).toNat by omega] at f3
    rw [← f3] at hP6
    have hH2:=qW s (j2+m) (by omega) 61
    rw [show(((61:UInt8).toNat:Nat):Int)=61 from rfl] at hH2
    clear hA
    by_cases q1:j1=s.length
    · have q2:=hE.2 q1
      have q3:zY (s.drop j1.toNat) 59=false:=by
        cases hh:zY (s.drop j1.toNat) 59 with
        |false=>rfl
        |true=>exact absurd (hH.1 hh).1 (by omega)
      rw [q3,if_neg Bool.false_ne_true,if_pos q2] at hm
      simp only [finL,if_true,Prod.mk.injEq,Med.mk.injEq] at hm
      (repeat' (first|refine And.intro ?_ ?_|intro _))<;>first|omega|exact True.intro|exact False.elim ‹False›|skip
      all_goals first|omega|(simp [hm];done)|trace_state
    have q2: ¬ s.drop j1.toNat=[]:=fun h=>q1 (hE.1 h)
    by_cases q3:zY (s.drop j1.toNat) 59=true
    · have q4:=hH.1 q3
      rw [if_pos q3] at hm
      by_cases q5:tokS (s.drop j2.toNat)=[]
      · rw [hP5 q5] at hm
        have q6:=hT.1 q5
        simp only [medS,finL,ne_eq,reduceCtorEq,not_false_eq_true,if_true,if_false,Prod.mk.injEq,Med.mk.injEq,Int.reduceEq] at hm
        (repeat' (first|refine And.intro ?_ ?_|intro _))<;>first|omega|exact True.intro|exact False.elim ‹False›|skip
        all_goals first|omega|(simp [← hm.1.1,← hm.1.2,← hm.2];done)|trace_state
      have q6: ¬ m=0:=fun h=>q5 (hT.2 h)
      cases q7:zY (s.drop (j2+m).toNat) 61 with
      | false=>
        rw [hP6 q5 q7] at hm
        simp only [medS,finL,ne_eq,reduceCtorEq,not_false_eq_true,if_true,if_false,Prod.mk.injEq,Med.mk.injEq,Int.reduceEq] at hm
        have q8:j2+m<s.length→¬ ((s.getD (j2+m).toNat 0).toNat:Int)=61:=fun a b=>by rw [hH2.2 ⟨a,b⟩] at q7;cases q7
        generalize((s.getD (j2+m).toNat 0).toNat:Int)=x at *
        (repeat' (first|refine And.intro ?_ ?_|intro _))<;>first|omega|exact True.intro|exact False.elim ‹False›|skip
        all_goals first|omega|(simp [← hm.1.1,← hm.1.2,← hm.2];done)|(exfalso;exact q8 (by omega) ‹_›)|trace_state
      | true=>
        have q8:=hH2.1 q7
        have hk2:=hk (by omega) q8.1 rfl q5 q7 (by rw [List.length_drop];omega) hm
        (repeat' (first|refine And.intro ?_ ?_|intro _))<;>first|omega|exact True.intro|exact False.elim ‹False›|skip
        all_goals first|omega|(exfalso;exact absurd q8.2 ‹_›)|exact seam (by first|rfl|exact hI) zi mixed [yV,yU,wo,x9,vU,vT,xO,xN] hX [0,2,4,5,6] ⟨[(0,.v (.one (.p (.str s)))),(2,.v (.one (.ptr 0 0))),(4,.v (.one (.p (.int .i64 j2)))),(5,.v (.one (.p (.int .i64 m)))),(6,.v (.one (.ptr 1 0)))],[.pack [.obj 115 [(.p (.str ([]))),(.row 1)],.row .fld 135 ([])],.pack [.obj 115 [(.p (.str w)),(.row 1)],.row .fld 135 l]],223,none⟩ (by kernel_rfl) (hk2)|trace_state
    · have q4:j1<s.length→¬ ((s.getD j1.toNat 0).toNat:Int)=59:=fun a b=>q3 (hH.2 ⟨a,b⟩)
      rw [if_neg q3,if_neg q2] at hm
      simp only [medS,finL,ne_eq,reduceCtorEq,not_false_eq_true,if_true,if_false,Prod.mk.injEq,Med.mk.injEq,Int.reduceEq] at hm
      have q5:=q4 (by omega)
      (repeat' (first|refine And.intro ?_ ?_|intro _))<;>first|omega|exact True.intro|exact False.elim ‹False›|skip
      all_goals first|omega|(simp [← hm.1.1,← hm.1.2,← hm.2];done)|(exfalso;exact q5 ‹_›)|trace_state
  have key9: ∀ (i:Int) (w:Str),0≤i→i≤s.length→w.length≤1000000→finM (if zY (s.drop i.toNat) 47=true then(if tokS (s.drop (i+1).toNat)=[] then(5,⟨[],[]⟩,tokE (s.drop (i+1).toNat)) else medB (w++([47]++lowS (tokS (s.drop (i+1).toNat)))) (tokE (s.drop (i+1).toNat))) else medB w (s.drop i.toNat))=(⟨pw,ps⟩,c)→Ok Tryz.prog X (fun o h=>o=AOut.ret (D.tup [V0.agg [C.p (P.str pw),C.p (P.list U.fld ps)],V0.one (C.p (P.int IntKind.i64 c))])∧h=[]) (go I tab { cfgM with seam:=[9,24,46],keep:=some [0,2,3,4,5,6,7,8,9]} [yV,yU,wo,x9,vU,vT,xO,xN] [⟨yH Tryz.f61,finK I tab { cfgM with seam:=[9,24,46],keep:=some [0,2,3,4,5,6,7,8,9]} 0 Tryz.f61⟩] 0 [1,1,1,1,1,1,1,0,0] ⟨[(0,.v (.one (.p (.str s)))),(2,.v (.one (.ptr 0 0))),(4,.v (.one (.p (.int .i64 i)))),(6,.v (.one (.ptr 1 0)))],[.pack [.obj 115 [(.p (.str ([]))),(.row 1)],.row .fld 135 ([])],.pack [.obj 115 [(.p (.str w)),(.row 1)],.row .fld 135 ([])]],223,none⟩):=by
    intro i w h0 h1 hw hm
    refine zh (let y0:=I.hid (α:=Int) (Nat.cast (List.length (tokS (List.drop (Int.toNat (I.add i 1)) s))));let y1:=I.hid (α:=Str) (lowS (I.cut (α:=UInt8) s (I.add i 1) (I.add (I.add i 1) y0)));let y2:HO:=.pack [(.obj 115 [(.p (.str ([]:Str))),(.row 1)]),(.row .fld 135 ([]:List Fld))];let y3:=I.hid (α:=(Prop)) (LE.le (List.length (I.cut (α:=UInt8) s (I.add i 1) (I.add (I.add i 1) y0))) 1000000);let y4:=I.few (I.add (I.len (α:=UInt8) w) (I.len (α:=UInt8) (I.app (α:=UInt8) ([47]:Str) y1))) 1000000000;let y5:HO:=.obj 115 [(.p (.str (I.app (α:=UInt8) w (I.app (α:=UInt8) ([47]:Str) y1)))),(.row 2)];let y6:=I.few (I.add (I.len (α:=UInt8) ([47]:Str)) (I.len (α:=UInt8) y1)) 1000000000;let y7:HO:=.pack [(.obj 115 [(.p (.str w)),(.row 1)]),(.row .fld 135 ([]:List Fld))];let y8:=I.inr Go.IntKind.i64 (I.add i 1);let y9:=I.inr Go.IntKind.i64 (I.add i (I.add 1 y0));let y10:=I.inr Go.IntKind.i64 (I.add 1 y0);.br (I.ilt i (I.len (α:=UInt8) s)) (.need (I.inb i (I.len (α:=UInt8) s)) (.br (I.ieq (I.b2i (I.get (α:=UInt8) s 0 i)) 47) (.need y8 (.need (I.hid (α:=(Prop)) (And (LE.le (List.length s) 1000000) (And (LE.le (0:Int) (I.add i 1)) (LE.le (I.add i 1) (Nat.cast (List.length s)))))) (.br (I.ieq y0 0) (.fin (.ret (.tup [(.agg [(.p (.str ([]:Str))),(.p (.list .fld ([]:List Fld)))]),(.one (.p (.int .i64 5)))])) []) (.need y8 (.need y8 (.need (I.inr Go.IntKind.i64 (I.add (I.add i 1) y0)) (.need (I.cutb (I.add i 1) (I.add (I.add i 1) y0) (I.len (α:=UInt8) s)) (.both (.need y3 (.need y6 (.need y4 (.need y10 (.need y9 (.code 0 [1,1,1,1,1,1,1,1,0] ⟨[(4,(.v (.one (.p (.int .i64 (I.add i (I.add 1 y0))))))),(5,(.v (.one (.p (.int .i64 y0))))),(0,(.v (.one (.p (.str s))))),(2,(.v (.one (.ptr 0 0)))),(6,(.v (.one (.ptr 1 0))))],[y2,y5,(.row .fld 135 ([]:List Fld))],223,none⟩)))))) (.need y3 (.need y6 (.need y4 (.need y10 (.need y9 (.code 0 [1,1,1,1,1,1,1,1,0] ⟨[(4,(.v (.one (.p (.int .i64 (I.add i (I.add 1 y0))))))),(5,(.v (.one (.p (.int .i64 y0))))),(0,(.v (.one (.p (.str s))))),(2,(.v (.one (.ptr 0 0)))),(6,(.v (.one (.ptr 1 0))))],[y2,y5,(.row .fld 135 ([]:List Fld))],223,none⟩)))))))))))))) (.code 0 [1,1,1,1,1,1,1,1,0] ⟨[(0,(.v (.one (.p (.str s))))),(2,(.v (.one (.ptr 0 0)))),(4,(.v (.one (.p (.int .i64 i))))),(6,(.v (.one (.ptr 1 0))))],[y2,y7],223,none⟩))) (.code 0 [1,1,1,1,1,1,1,1,0] ⟨[(0,(.v (.one (.p (.str s))))),(2,(.v (.one (.ptr 0 0)))),(4,(.v (.one (.p (.int .i64 i))))),(6,(.v (.one (.ptr 1 0))))],[y2,y7],223,none⟩)) (by kernel_rfl) ?_
    simp only [zk]
    subst hI
    simp only [nrmA,nrmB]
    have hH:=qW s i h0 47
    rw [show(((47:UInt8).toNat:Nat):Int)=47 from rfl] at hH
    have hT:tokS (s.drop (i+1).toNat)=[]↔((tokS (s.drop (i+1).toNat)).length:Int)=0:=by rw [← List.length_eq_zero_iff];omega
    have f4:=XE s (i+1).toNat
    have e2:(s.drop (i+1).toNat).take ((i+1+(tokS (s.drop (i+1).toNat)).length).toNat - (i+1).toNat)=tokS (s.drop (i+1).toNat):=by
      rw [show(i+1+((tokS (s.drop (i+1).toNat)).length:Int)).toNat - (i+1).toNat=(tokS (s.drop (i+1).toNat)).length by omega]
      exact Ut isTk _
    have hml2:=xZ (s.drop (i+1).toNat)
    rw [List.length_drop] at hml2
    rw [show(i+1).toNat+(tokS (s.drop (i+1).toNat)).length=(i+(1+((tokS (s.drop (i+1).toNat)).length:Int))).toNat by omega] at f4
    rw [e2]
    have hll:=wC (tokS (s.drop (i+1).toNat))
    by_cases q1:zY (s.drop i.toNat) 47=true
    · have q2:=hH.1 q1
      rw [if_pos q1] at hm
      by_cases q3:tokS (s.drop (i+1).toNat)=[]
      · rw [if_pos q3] at hm
        have q4:=hT.1 q3
        simp only [finM,ne_eq,reduceCtorEq,not_false_eq_true,if_true,if_false,Prod.mk.injEq,Med.mk.injEq,Int.reduceEq] at hm
        (repeat' (first|refine And.intro ?_ ?_|intro _))<;>first|omega|exact True.intro|exact False.elim ‹False›|skip
        all_goals first|omega|(simp [← hm.1.1,← hm.1.2,← hm.2];done)|(exfalso;exact absurd q2.2 ‹_›)|trace_state
      · rw [if_neg q3,← f4] at hm
        have q4: ¬ ((tokS (s.drop (i+1).toNat)).length:Int)=0:=fun h=>q3 (hT.2 h)
        (repeat' (first|refine And.intro ?_ ?_|intro _))<;>first|omega|exact True.intro|exact False.elim ‹False›|skip
        all_goals first|omega|(exfalso;exact absurd q2.2 ‹_›)|exact keyL _ _ _ (by omega) (by omega) hm (by kernel_rfl)|(simp only [List.length_append,List.length_cons,List.length_nil];omega)|trace_state
    · rw [if_neg q1] at hm
      have q2:i<s.length→¬ ((s.getD i.toNat 0).toNat:Int)=47:=fun a b=>q1 (hH.2 ⟨a,b⟩)
      (repeat' (first|refine And.intro ?_ ?_|intro _))<;>first|omega|exact True.intro|exact False.elim ‹False›|skip
      all_goals first|omega|(exfalso;exact q2 (by omega) ‹_›)|exact keyL _ _ _ h0 h1 hm (by kernel_rfl)|trace_state
  clear keyL
  subst hI
  simp only [nrmA,nrmB]
  rw [Int.zero_add]
  unfold xY xE medA at hr
  have f1:=zau s 0
  have hb:=zay s
  rw [Nat.zero_add,List.drop_zero] at f1
  rw [show((blkN s:Int)).toNat=blkN s by omega]
  rw [f1]
  have f2:=XE s (blkN s)
  rw [f1] at f2
  have hml:=xZ (skS s)
  have hll:=wC (tokS (skS s))
  have hsl:(skS s).length=s.length - blkN s:=by rw [← f1,List.length_drop]
  have e1:(skS s).take (((blkN s:Int)+(tokS (skS s)).length).toNat - blkN s)=tokS (skS s):=by
    rw [show((blkN s:Int)+((tokS (skS s)).length:Int)).toNat - blkN s=(tokS (skS s)).length by omega]
    exact Ut isTk _
  rw [e1]
  have hk:=key9 ((blkN s:Int)+(tokS (skS s)).length) (lowS (tokS (skS s))) (by omega) (by omega) (by omega)
  clear key9
  by_cases hs:tZ s=true
  · rw [if_neg (by rw [hs];simp)] at hr
    by_cases q:tokS (skS s)=[]
    · have q2:((tokS (skS s)).length:Int)=0:=by rw [q];rfl
      rw [if_pos q] at hr
      simp only [if_false,Prod.mk.injEq,Med.mk.injEq,Int.reduceEq] at hr
      (repeat' (first|refine And.intro ?_ ?_|intro _))<;>first|omega|exact True.intro|exact False.elim ‹False›|skip
      all_goals first|omega|(simp [← hr.1.1,← hr.1.2,← hr.2];done)|(simp_all;done)|trace_state
    · have q2: ¬ ((tokS (skS s)).length:Int)=0:=fun h=>q (List.length_eq_zero_iff.1 (by omega))
      rw [if_neg q] at hr
      have hk2:=hk (by
        rw [show((blkN s:Int)+((tokS (skS s)).length:Int)).toNat=blkN s+(tokS (skS s)).length by omega,f2,show((blkN s:Int)+((tokS (skS s)).length:Int)+1).toNat=blkN s+(tokS (skS s)).length+1 by omega,← List.drop_drop,f2]
        exact hr)
      (repeat' (first|refine And.intro ?_ ?_|intro _))<;>first|omega|exact True.intro|exact False.elim ‹False›|skip
      all_goals first|omega|(simp_all;done)|exact seam (by first|rfl|exact hI) zi mixed [yV,yU,wo,x9,vU,vT,xO,xN] hX [0,2,4,6] ⟨[(0,.v (.one (.p (.str s)))),(2,.v (.one (.ptr 0 0))),(4,.v (.one (.p (.int .i64 (((blkN s:Int)+((tokS (skS s)).length:Int))))))),(6,.v (.one (.ptr 1 0)))],[.pack [.obj 115 [(.p (.str ([]))),(.row 1)],.row .fld 135 ([])],.pack [.obj 115 [(.p (.str ((lowS (tokS (skS s)))))),(.row 1)],.row .fld 135 ([])]],223,none⟩ (by kernel_rfl) (hk2)|trace_state
  · have hs:tZ s=false:=by simpa using hs
    rw [if_pos hs] at hr
    simp only [Prod.mk.injEq,Med.mk.injEq] at hr
    (repeat' (first|refine And.intro ?_ ?_|intro _))<;>first|omega|exact True.intro|exact False.elim ‹False›|skip
    all_goals first|omega|(simp [← hr.1.1,← hr.1.2,← hr.2];done)|(simp_all;done)|trace_state
def Xk (I:Alg) (args:List D) (hp:List HO):Option CT:=match args,hp with
  |[.v (.one (.p (.str s)))],[]=>(fun(s:Str)=>(some (.one ⟨I.hid (s.length≤1000000),(.ret (.tup [(.agg [(.p (.str (I.hid ((xY s).1.word)))),(.p (.list .fld (I.hid ((xY s).1.params))))]),(.one (.p (.int .i64 (I.hid ((xY s).2)))))])),[]⟩):Option CT)) s
  |_,_=>none
theorem zbc:zo Tryz.prog 61 (Xk alg):=by
  intro args hp r h
  unfold Xk at h
  split at h
  · cases h;exact fun hn=>zk9 _ hn
  · cases h
def vg:Know Tryz.prog:=⟨61,Xk,zbc⟩
def ve:Know Tryz.prog:=⟨61,fun I=>zq I (Xk I),zf zbc⟩
end Go.Proofs.YtcclfkakcgnacaaGreatDoor
namespace Go.Proofs.YtcclfkakcgnacaaGreatDoor
open Go Go.Sep Go.Ab Go.Jrn
set_option maxRecDepth 100000
def xG:Cfg:= { sl:=[⟨50,0,.upl,some 67⟩,⟨53,1,.byte,some 5⟩,⟨50,1000001,.byte,none⟩]}
theorem zmA:Spc Tryz.prog 9 [] [] (.ret (.v (.one (.ptr 0 0)))) [.pack [.obj 53 [(.ptr 1 0),(.row 2),(.p (.int .i64 0))],.pack [.obj 50 [(.row 1),(.p (.int .i64 0))],.row .upl 67 ([])],.row .byte 5 ([])]]:=by
  refine spcG zi mixed Tryz.func9 (by kernel_rfl) { xG with keep:=some [0]} [] (by kernel_rfl) ?_
  intro I X hI hX
  refine zh (.fin (.ret (.v (.one (.ptr 0 0)))) [(.pack [(.obj 53 [(.ptr 1 0),(.row 2),(.p (.int .i64 0))]),(.pack [(.obj 50 [(.row 1),(.p (.int .i64 0))]),(.row .upl 67 ([]:List Upl))]),(.row .byte 5 ([]:Str))])]) (by kernel_rfl) ?_
  simp only [zk]
  trivial
def VH (I:Alg) (args:List D) (hp:List HO):Option CT:=match args,hp with
  |[],[]=>(fun(_:Unit)=>(some (.one ⟨I.hid (True),(.ret (.v (.one (.ptr 0 0)))),[.pack [.obj 53 [(.ptr 1 0),(.row 2),(.p (.int .i64 0))],.pack [.obj 50 [(.row 1),(.p (.int .i64 0))],.row .upl 67 (I.hid ([]))],.row .byte 5 (I.hid ([]))]]⟩):Option CT)) ()
  |_,_=>none
theorem zdI:zo Tryz.prog 9 (VH alg):=by
  intro args hp r h
  unfold VH at h
  split at h
  · cases h;exact fun hn=>zmA
  · cases h
def sZ:Know Tryz.prog:=⟨9,VH,zdI⟩
def sW:Know Tryz.prog:=⟨9,fun I=>zq I (VH I),zf zdI⟩
def okId (k i n:Int):Prop:=k=1→i=n+1
def plyC (l:List Upl) (e:Ent):Int:=if e.kind=1 then creC l e.n e.text else Zm l 0 e
theorem zjn {l:List Upl} {n:Int} {e:Ent} (h:e.kind=1→e.id=n+1):plyC l e=Zm l n e:=by
  unfold plyC Zm
  split
  · rename_i h1
    rw [if_neg (by rw [h h1];simp)]
  · rfl
theorem zaF {l:List Upl} {id off:Int} {b:Str} (h: ¬ atU l id<l.length):appC l id off b=10:=by
  unfold appC;rw [if_pos (by omega)]
theorem zjE {l:List Upl} {id:Int} (h:atU l id<l.length):getU l id=l.getD (atU l id) ⟨0,0,[],[],0⟩:=by
  unfold getU;rw [if_pos h];rfl
set_option maxHeartbeats 4000000 in
theorem zjz (l:List Upl) (n k i m:Int) (t:Str) (hneed:zu l n∧n≤1000000∧t.length≤1000000):Spc Tryz.prog 91 [.v (.one (.ptr 0 0)),.v (.agg [(.p (.int .i64 k)),(.p (.int .i64 i)),(.p (.int .i64 m)),(.p (.list .byte t))])] [.pack [.obj 50 [(.row 1),(.p (.int .i64 n))],.row .upl 67 l]] (.ret (.v (.one (.p (.int .i64 ((plyC l ⟨k,i,m,t⟩))))))) [.pack [.obj 50 [(.row 1),(.p (.int .i64 ((Zw l n ⟨k,i,m,t⟩))))],.row .upl 67 ((YH l n ⟨k,i,m,t⟩))]]:=by
  obtain⟨hs,hn,ht⟩:=hneed
  have hf:=vN hs
  generalize hc:plyC l ⟨k,i,m,t⟩=c
  generalize hl:YH l n ⟨k,i,m,t⟩=l'
  generalize hN:Zw l n ⟨k,i,m,t⟩=n'
  refine spcG zi mixed Tryz.func91 (by kernel_rfl) { xG with keep:=some [0,1,3,4,6,7,9]} [xM,xK,zfM,zfL,RG,RF,zcR,zcQ,zhG,zhF,zlI,zlH,zjB,zjA] (by kernel_rfl) ?_
  intro I X hI hX
  refine zh (let y0:HO:=.obj 50 [(.row 1),(.p (.int .i64 n))];let y1:=I.len (α:=UInt8) (Upl.bytes (I.get (α:=Upl) l (Upl.mk (0:Int) (0:Int) ([]:Str) ([]:Str) (0:Int)) (I.hid (α:=Int) (ixU l i))));let y2:=I.inb (I.hid (α:=Int) (ixU l i)) (I.len (α:=Upl) l);.br (I.ieq k 1) (.need (I.hid (α:=(Prop)) (And (zu l n) (And (LE.le n (1000000:Int)) (LE.le (List.length t) 1000000)))) (.fin (.ret (.v (.one (.p (.int .i64 (I.hid (α:=Int) (creC l m t))))))) [(.pack [(.obj 50 [(.row 1),(.p (.int .i64 (I.hid (α:=Int) (creN l n m t))))]),(.row .upl 67 (I.hid (α:=(List Upl)) (creL l n m t)))])])) (.br (I.ieq k 2) (.need (I.hid (α:=(Prop)) (LE.le (List.length l) 1000000)) (.br (I.ilt (I.hid (α:=Int) (ixU l i)) 0) (.fin (.ret (.v (.one (.p (.int .i64 10))))) [(.pack [y0,(.row .upl 67 l)])]) (.need y2 (.need y2 (.need (I.hid (α:=(Prop)) (And (zu l n) (LE.le (List.length t) 1000000))) (.fin (.ret (.v (.one (.p (.int .i64 (I.hid (α:=Int) (appC l i y1 t))))))) [(.pack [y0,(.row .upl 67 (I.hid (α:=(List Upl)) (appL l i y1 t)))])])))))) (.br (I.ieq k 3) (.need (I.hid (α:=(Prop)) (zu l n)) (.fin (.ret (.v (.one (.p (.int .i64 (I.hid (α:=Int) (decC l i m))))))) [(.pack [y0,(.row .upl 67 (I.hid (α:=(List Upl)) (decL l i m)))])])) (.br (I.ieq k 4) (.need (I.hid (α:=(Prop)) (zu l n)) (.fin (.ret (.v (.one (.p (.int .i64 (I.hid (α:=Int) (droC l i))))))) [(.pack [y0,(.row .upl 67 (I.hid (α:=(List Upl)) (droL l i)))])])) (.br (I.ieq k 5) (.need (I.hid (α:=(Prop)) (zu l n)) (.fin (.ret (.v (.one (.p (.int .i64 (I.hid (α:=Int) (begC l i))))))) [(.pack [y0,(.row .upl 67 (I.hid (α:=(List Upl)) (begL l i)))])])) (.need (I.hid (α:=(Prop)) (zu l n)) (.fin (.ret (.v (.one (.p (.int .i64 (I.hid (α:=Int) (endC l i))))))) [(.pack [y0,(.row .upl 67 (I.hid (α:=(List Upl)) (endL l i)))])]))))))) (by kernel_rfl) ?_
  simp only [zk]
  subst hI
  simp only [nrmA,nrmB,nrlB,reduceCtorEq,HO.pack.injEq,HO.obj.injEq]
  unfold plyC Zm at hc
  unfold YH at hl
  unfold Zw at hN
  simp only at hc hl hN
  have hle:=ZJ l i
  by_cases hk:atU l i<l.length
  · rw [ZC hk,Int.toNat_natCast]
    rw [zjE hk] at hc hl
    (repeat' (first|refine And.intro ?_ ?_|intro _))<;>first|omega|exact True.intro|exact False.elim ‹False›|skip
    all_goals first
      |exact hs
      |exact hn
      |exact ht
      |exact⟨hs,hn,ht⟩
      |exact⟨hs,ht⟩
      |exact hf.1
      |(((repeat(first|rewrite [if_pos (by first|omega|assumption|(simp only [*,or_self,or_true,true_or,or_false,false_or,not_true_eq_false,not_false_eq_true,Bool.false_eq_true,Bool.true_eq_false,and_self,and_true,true_and];done)|(simp only [*];omega)|(simp [*];done)|(simp [*];omega))] at hc|rewrite [if_neg (by first|omega|assumption|(simp only [*,or_self,or_true,true_or,or_false,false_or,not_true_eq_false,not_false_eq_true,Bool.false_eq_true,Bool.true_eq_false,and_self,and_true,true_and];done)|(simp only [*];omega)|(simp [*];done)|(simp [*];omega))] at hc));subst hc;((repeat(first|rewrite [if_pos (by first|omega|assumption|(simp only [*,or_self,or_true,true_or,or_false,false_or,not_true_eq_false,not_false_eq_true,Bool.false_eq_true,Bool.true_eq_false,and_self,and_true,true_and];done)|(simp only [*];omega)|(simp [*];done)|(simp [*];omega))] at hl|rewrite [if_neg (by first|omega|assumption|(simp only [*,or_self,or_true,true_or,or_false,false_or,not_true_eq_false,not_false_eq_true,Bool.false_eq_true,Bool.true_eq_false,and_self,and_true,true_and];done)|(simp only [*];omega)|(simp [*];done)|(simp [*];omega))] at hl)));subst hl;((repeat(first|rewrite [if_pos (by first|omega|assumption|(simp only [*,or_self,or_true,true_or,or_false,false_or,not_true_eq_false,not_false_eq_true,Bool.false_eq_true,Bool.true_eq_false,and_self,and_true,true_and];done)|(simp only [*];omega)|(simp [*];done)|(simp [*];omega))] at hN|rewrite [if_neg (by first|omega|assumption|(simp only [*,or_self,or_true,true_or,or_false,false_or,not_true_eq_false,not_false_eq_true,Bool.false_eq_true,Bool.true_eq_false,and_self,and_true,true_and];done)|(simp only [*];omega)|(simp [*];done)|(simp [*];omega))] at hN)));subst hN;first|rfl|omega))
  · rw [ZE hk]
    have ha:=fun b=>zaF (l:=l) (id:=i) (off:=(getU l i).bytes.length) (b:=b) hk
    unfold appL at hl
    (repeat' (first|refine And.intro ?_ ?_|intro _))<;>first|omega|exact True.intro|exact False.elim ‹False›|skip
    all_goals first
      |exact hs
      |exact hn
      |exact ht
      |exact⟨hs,hn,ht⟩
      |exact⟨hs,ht⟩
      |exact hf.1
      |(((repeat(first|rewrite [if_pos (by first|omega|assumption|(simp only [*,or_self,or_true,true_or,or_false,false_or,not_true_eq_false,not_false_eq_true,Bool.false_eq_true,Bool.true_eq_false,and_self,and_true,true_and];done)|(simp only [*];omega)|(simp [*];done)|(simp [*];omega))] at hc|rewrite [if_neg (by first|omega|assumption|(simp only [*,or_self,or_true,true_or,or_false,false_or,not_true_eq_false,not_false_eq_true,Bool.false_eq_true,Bool.true_eq_false,and_self,and_true,true_and];done)|(simp only [*];omega)|(simp [*];done)|(simp [*];omega))] at hc));subst hc;((repeat(first|rewrite [if_pos (by first|omega|assumption|(simp only [*,or_self,or_true,true_or,or_false,false_or,not_true_eq_false,not_false_eq_true,Bool.false_eq_true,Bool.true_eq_false,and_self,and_true,true_and];done)|(simp only [*];omega)|(simp [*];done)|(simp [*];omega))] at hl|rewrite [if_neg (by first|omega|assumption|(simp only [*,or_self,or_true,true_or,or_false,false_or,not_true_eq_false,not_false_eq_true,Bool.false_eq_true,Bool.true_eq_false,and_self,and_true,true_and];done)|(simp only [*];omega)|(simp [*];done)|(simp [*];omega))] at hl)));subst hl;((repeat(first|rewrite [if_pos (by first|omega|assumption|(simp only [*,or_self,or_true,true_or,or_false,false_or,not_true_eq_false,not_false_eq_true,Bool.false_eq_true,Bool.true_eq_false,and_self,and_true,true_and];done)|(simp only [*];omega)|(simp [*];done)|(simp [*];omega))] at hN|rewrite [if_neg (by first|omega|assumption|(simp only [*,or_self,or_true,true_or,or_false,false_or,not_true_eq_false,not_false_eq_true,Bool.false_eq_true,Bool.true_eq_false,and_self,and_true,true_and];done)|(simp only [*];omega)|(simp [*];done)|(simp [*];omega))] at hN)));subst hN;first|rfl|omega|(simp [ha];done)))
      |(rw [ha] at hc hl;((repeat(first|rewrite [if_pos (by first|omega|assumption|(simp only [*,or_self,or_true,true_or,or_false,false_or,not_true_eq_false,not_false_eq_true,Bool.false_eq_true,Bool.true_eq_false,and_self,and_true,true_and];done)|(simp only [*];omega)|(simp [*];done)|(simp [*];omega))] at hc|rewrite [if_neg (by first|omega|assumption|(simp only [*,or_self,or_true,true_or,or_false,false_or,not_true_eq_false,not_false_eq_true,Bool.false_eq_true,Bool.true_eq_false,and_self,and_true,true_and];done)|(simp only [*];omega)|(simp [*];done)|(simp [*];omega))] at hc));subst hc;((repeat(first|rewrite [if_pos (by first|omega|assumption|(simp only [*,or_self,or_true,true_or,or_false,false_or,not_true_eq_false,not_false_eq_true,Bool.false_eq_true,Bool.true_eq_false,and_self,and_true,true_and];done)|(simp only [*];omega)|(simp [*];done)|(simp [*];omega))] at hl|rewrite [if_neg (by first|omega|assumption|(simp only [*,or_self,or_true,true_or,or_false,false_or,not_true_eq_false,not_false_eq_true,Bool.false_eq_true,Bool.true_eq_false,and_self,and_true,true_and];done)|(simp only [*];omega)|(simp [*];done)|(simp [*];omega))] at hl)));subst hl;((repeat(first|rewrite [if_pos (by first|omega|assumption|(simp only [*,or_self,or_true,true_or,or_false,false_or,not_true_eq_false,not_false_eq_true,Bool.false_eq_true,Bool.true_eq_false,and_self,and_true,true_and];done)|(simp only [*];omega)|(simp [*];done)|(simp [*];omega))] at hN|rewrite [if_neg (by first|omega|assumption|(simp only [*,or_self,or_true,true_or,or_false,false_or,not_true_eq_false,not_false_eq_true,Bool.false_eq_true,Bool.true_eq_false,and_self,and_true,true_and];done)|(simp only [*];omega)|(simp [*];done)|(simp [*];omega))] at hN)));subst hN;first|rfl|omega))
def Yf (I:Alg) (args:List D) (hp:List HO):Option CT:=match args,hp with
  |[.v (.one (.ptr 0 0)),.v (.agg [(.p (.int .i64 k)),(.p (.int .i64 i)),(.p (.int .i64 m)),(.p (.list .byte t))])],[.pack [.obj 50 [(.row 1),(.p (.int .i64 n))],.row .upl 67 l]]=>(fun(l:List Upl) (n k i m:Int) (t:Str)=>(some (.one ⟨I.hid (zu l n∧n≤1000000∧t.length≤1000000),(.ret (.v (.one (.p (.int .i64 (I.hid ((plyC l ⟨k,i,m,t⟩)))))))),[.pack [.obj 50 [(.row 1),(.p (.int .i64 (I.hid ((Zw l n ⟨k,i,m,t⟩)))))],.row .upl 67 (I.hid ((YH l n ⟨k,i,m,t⟩)))]]⟩):Option CT)) l n k i m t
  |_,_=>none
theorem Rz:zo Tryz.prog 91 (Yf alg):=by
  intro args hp r h
  unfold Yf at h
  split at h
  · cases h;exact fun hn=>zjz _ _ _ _ _ _ hn
  · cases h
def zfK:Know Tryz.prog:=⟨91,Yf,Rz⟩
def zfJ:Know Tryz.prog:=⟨91,fun I=>zq I (Yf I),zf Rz⟩
set_option maxHeartbeats 4000000 in
theorem zi1 (l:List Upl) (n:Int) (b:Str) (s k i m:Int) (t:Str) (hneed:okId k i n∧zu l n∧n≤200000∧t.length≤1000000∧b.length≤100000):Spc Tryz.prog 60 [.v (.one (.ptr 0 0)),.v (.agg [(.p (.int .i64 k)),(.p (.int .i64 i)),(.p (.int .i64 m)),(.p (.list .byte t))])] [.pack [.obj 53 [(.ptr 1 0),(.row 2),(.p (.int .i64 s))],.pack [.obj 50 [(.row 1),(.p (.int .i64 n))],.row .upl 67 l],.row .byte 5 b]] (.ret (.v (.one (.p (.int .i64 ((wrtC l n b ⟨k,i,m,t⟩))))))) [.pack [.obj 53 [(.ptr 1 0),(.row 2),(.p (.int .i64 s))],.pack [.obj 50 [(.row 1),(.p (.int .i64 ((wrtN l n b ⟨k,i,m,t⟩))))],.row .upl 67 ((wrtL l n b ⟨k,i,m,t⟩))],.row .byte 5 ((wrtB l n b ⟨k,i,m,t⟩))]]:=by
  obtain⟨hki,hs,hn,ht,hb⟩:=hneed
  generalize hc:wrtC l n b ⟨k,i,m,t⟩=c
  generalize hl:wrtL l n b ⟨k,i,m,t⟩=l'
  generalize hN:wrtN l n b ⟨k,i,m,t⟩=n'
  generalize hB:wrtB l n b ⟨k,i,m,t⟩=b'
  have hp:plyC l ⟨k,i,m,t⟩=Zm l n ⟨k,i,m,t⟩:=zjn hki
  refine spcG zi mixed Tryz.func60 (by kernel_rfl) { xG with keep:=some [0,1,3,4,5,6,7,8]} [zat,zas,zey,zex,zfK,zfJ] (by kernel_rfl) ?_
  intro I X hI hX
  refine zh (let y0:HO:=.pack [(.obj 53 [(.ptr 1 0),(.row 2),(.p (.int .i64 s))]),(.pack [(.obj 50 [(.row 1),(.p (.int .i64 n))]),(.row .upl 67 l)]),(.row .byte 5 b)];let y1:=I.add (I.len (α:=UInt8) b) (I.len (α:=UInt8) (I.hid (α:=Str) (Go.Jrn.encM (Ent.mk k i m t))));let y2:=I.hid (α:=Int) (Go.Jrn.encC (Ent.mk k i m t));let y3:=I.hid (α:=Int) (plyC l (Ent.mk k i m t));.need (I.hid (α:=(Prop)) (zu l n)) (.need (I.hid (α:=(Prop)) (And (zu l n) (And (LE.le n (1000000:Int)) (LE.le (List.length t) 1000000)))) (.br (I.bnot (I.ieq y3 0)) (.fin (.ret (.v (.one (.p (.int .i64 y3))))) [y0]) (.need (I.hid (α:=(Prop)) True) (.br (I.bnot (I.ieq y2 0)) (.fin (.ret (.v (.one (.p (.int .i64 y2))))) [y0]) (.need (I.inr Go.IntKind.i64 y1) (.br (I.ilt 100000 y1) (.fin (.ret (.v (.one (.p (.int .i64 16))))) [y0]) (.need (I.few y1 140737488355328) (.fin (.ret (.v (.one (.p (.int .i64 0))))) [(.pack [(.obj 53 [(.ptr 1 0),(.row 2),(.p (.int .i64 s))]),(.pack [(.obj 50 [(.row 1),(.p (.int .i64 (I.hid (α:=Int) (Zw l n (Ent.mk k i m t)))))]),(.row .upl 67 (I.hid (α:=(List Upl)) (YH l n (Ent.mk k i m t))))]),(.row .byte 5 (I.app (α:=UInt8) b (I.hid (α:=Str) (Go.Jrn.encM (Ent.mk k i m t)))))])]))))))))) (by kernel_rfl) ?_
  simp only [zk]
  subst hI
  simp only [nrmA,nrmB,nrlB,reduceCtorEq,HO.pack.injEq,HO.obj.injEq]
  have hel:(encM ⟨k,i,m,t⟩).length≤2000000:=by
    unfold encM
    split
    · rename_i h
      have:=zeP h
      simp only at this
      omega
    · simp
  rw [hp]
  generalize he:(⟨k,i,m,t⟩:Ent)=e at *
  have hem:encC e=0→encM e=encB e:=fun h=>by
    unfold encC at h
    unfold encM
    split at h
    · rename_i h2;rw [if_pos h2]
    · cases h
  unfold wrtL at hl
  unfold wrtN at hN
  unfold wrtB at hB
  rw [hc] at hl hN hB
  unfold wrtC wrC at hc
  (repeat' (first|refine And.intro ?_ ?_|intro _))<;>first|omega|exact True.intro|exact False.elim ‹False›|skip
  all_goals first
    |exact hs
    |exact hn
    |exact ht
    |exact⟨hs,hn,ht⟩
    |(((repeat(first|rewrite [if_pos (by first|omega|assumption|(simp only [*,or_self,or_true,true_or,or_false,false_or,not_true_eq_false,not_false_eq_true,Bool.false_eq_true,Bool.true_eq_false,and_self,and_true,true_and];done)|(simp only [*];omega)|(simp [*];done)|(simp [*];omega))] at hc|rewrite [if_neg (by first|omega|assumption|(simp only [*,or_self,or_true,true_or,or_false,false_or,not_true_eq_false,not_false_eq_true,Bool.false_eq_true,Bool.true_eq_false,and_self,and_true,true_and];done)|(simp only [*];omega)|(simp [*];done)|(simp [*];omega))] at hc)));subst hc;((repeat(first|rewrite [if_pos (by first|omega|assumption|(simp only [*,or_self,or_true,true_or,or_false,false_or,not_true_eq_false,not_false_eq_true,Bool.false_eq_true,Bool.true_eq_false,and_self,and_true,true_and];done)|(simp only [*];omega)|(simp [*];done)|(simp [*];omega))] at hl|rewrite [if_neg (by first|omega|assumption|(simp only [*,or_self,or_true,true_or,or_false,false_or,not_true_eq_false,not_false_eq_true,Bool.false_eq_true,Bool.true_eq_false,and_self,and_true,true_and];done)|(simp only [*];omega)|(simp [*];done)|(simp [*];omega))] at hl)));subst hl;((repeat(first|rewrite [if_pos (by first|omega|assumption|(simp only [*,or_self,or_true,true_or,or_false,false_or,not_true_eq_false,not_false_eq_true,Bool.false_eq_true,Bool.true_eq_false,and_self,and_true,true_and];done)|(simp only [*];omega)|(simp [*];done)|(simp [*];omega))] at hN|rewrite [if_neg (by first|omega|assumption|(simp only [*,or_self,or_true,true_or,or_false,false_or,not_true_eq_false,not_false_eq_true,Bool.false_eq_true,Bool.true_eq_false,and_self,and_true,true_and];done)|(simp only [*];omega)|(simp [*];done)|(simp [*];omega))] at hN)));subst hN;((repeat(first|rewrite [if_pos (by first|omega|assumption|(simp only [*,or_self,or_true,true_or,or_false,false_or,not_true_eq_false,not_false_eq_true,Bool.false_eq_true,Bool.true_eq_false,and_self,and_true,true_and];done)|(simp only [*];omega)|(simp [*];done)|(simp [*];omega))] at hB|rewrite [if_neg (by first|omega|assumption|(simp only [*,or_self,or_true,true_or,or_false,false_or,not_true_eq_false,not_false_eq_true,Bool.false_eq_true,Bool.true_eq_false,and_self,and_true,true_and];done)|(simp only [*];omega)|(simp [*];done)|(simp [*];omega))] at hB)));subst hB;first|rfl|omega|(rw [hem (by assumption)]))
def ZV (I:Alg) (args:List D) (hp:List HO):Option CT:=match args,hp with
  |[.v (.one (.ptr 0 0)),.v (.agg [(.p (.int .i64 k)),(.p (.int .i64 i)),(.p (.int .i64 m)),(.p (.list .byte t))])],[.pack [.obj 53 [(.ptr 1 0),(.row 2),(.p (.int .i64 s))],.pack [.obj 50 [(.row 1),(.p (.int .i64 n))],.row .upl 67 l],.row .byte 5 b]]=>(fun(l:List Upl) (n:Int) (b:Str) (s k i m:Int) (t:Str)=>(some (.one ⟨I.hid (okId k i n∧zu l n∧n≤200000∧t.length≤1000000∧b.length≤100000),(.ret (.v (.one (.p (.int .i64 (I.hid ((wrtC l n b ⟨k,i,m,t⟩)))))))),[.pack [.obj 53 [(.ptr 1 0),(.row 2),(.p (.int .i64 s))],.pack [.obj 50 [(.row 1),(.p (.int .i64 (I.hid ((wrtN l n b ⟨k,i,m,t⟩)))))],.row .upl 67 (I.hid ((wrtL l n b ⟨k,i,m,t⟩)))],.row .byte 5 (I.hid ((wrtB l n b ⟨k,i,m,t⟩)))]]⟩):Option CT)) l n b s k i m t
  |_,_=>none
theorem SI:zo Tryz.prog 60 (ZV alg):=by
  intro args hp r h
  unfold ZV at h
  split at h
  · cases h;exact fun hn=>zi1 _ _ _ _ _ _ _ _ hn
  · cases h
def ZU:Know Tryz.prog:=⟨60,ZV,SI⟩
def ZT:Know Tryz.prog:=⟨60,fun I=>zq I (ZV I),zf SI⟩
theorem zgx (l:List Upl) (n:Int) (b:Str) (s size:Int) (t:Str) (hneed:zu l n∧n≤200000∧t.length≤1000000∧b.length≤100000):Spc Tryz.prog 32 [.v (.one (.ptr 0 0)),.v (.one (.p (.int .i64 size))),.v (.one (.p (.str t)))] [.pack [.obj 53 [(.ptr 1 0),(.row 2),(.p (.int .i64 s))],.pack [.obj 50 [(.row 1),(.p (.int .i64 n))],.row .upl 67 l],.row .byte 5 b]] (.ret (.tup [(.one (.p (.int .i64 ((if wrtC l n b ⟨1,n+1,size,t⟩=0 then n+1 else 0))))),(.one (.p (.int .i64 ((wrtC l n b ⟨1,n+1,size,t⟩)))))])) [.pack [.obj 53 [(.ptr 1 0),(.row 2),(.p (.int .i64 s))],.pack [.obj 50 [(.row 1),(.p (.int .i64 ((wrtN l n b ⟨1,n+1,size,t⟩))))],.row .upl 67 ((wrtL l n b ⟨1,n+1,size,t⟩))],.row .byte 5 ((wrtB l n b ⟨1,n+1,size,t⟩))]]:=by
  have hn0:=hneed.1.n0
  refine spcG zi mixed Tryz.func32 (by kernel_rfl) { xG with keep:=some [0,1,2,6,7,8,9]} [ZU,ZT] (by kernel_rfl) ?_
  intro I X hI hX
  refine zh (let y0:HO:=.pack [(.obj 53 [(.ptr 1 0),(.row 2),(.p (.int .i64 s))]),(.pack [(.obj 50 [(.row 1),(.p (.int .i64 (I.hid (α:=Int) (wrtN l n b (Ent.mk (1:Int) (I.add n 1) size t)))))]),(.row .upl 67 (I.hid (α:=(List Upl)) (wrtL l n b (Ent.mk (1:Int) (I.add n 1) size t))))]),(.row .byte 5 (I.hid (α:=Str) (wrtB l n b (Ent.mk (1:Int) (I.add n 1) size t))))];let y1:=I.hid (α:=Int) (wrtC l n b (Ent.mk (1:Int) (I.add n 1) size t));.need (I.inr Go.IntKind.i64 (I.add n 1)) (.need (I.hid (α:=(Prop)) (And (okId (1:Int) (I.add n 1) n) (And (zu l n) (And (LE.le n (200000:Int)) (And (LE.le (List.length t) 1000000) (LE.le (List.length b) 100000)))))) (.br (I.bnot (I.ieq y1 0)) (.fin (.ret (.tup [(.one (.p (.int .i64 0))),(.one (.p (.int .i64 y1)))])) [y0]) (.fin (.ret (.tup [(.one (.p (.int .i64 (I.add n 1)))),(.one (.p (.int .i64 0)))])) [y0])))) (by kernel_rfl) ?_
  simp only [zk]
  subst hI
  simp only [nrmA,nrmB,nrlB,reduceCtorEq,HO.pack.injEq,HO.obj.injEq]
  (repeat' (first|refine And.intro ?_ ?_|intro _))<;>first|omega|exact True.intro|exact False.elim ‹False›|skip
  all_goals first
    |exact hneed
    |exact hneed.1
    |exact hneed.2
    |(rw [if_neg (by assumption)])
    |(rw [if_pos (by assumption)])
    |(exact⟨fun _=>rfl,hneed⟩)
    |trivial
    |exact hn0
    |omega
def qH (I:Alg) (args:List D) (hp:List HO):Option CT:=match args,hp with
  |[.v (.one (.ptr 0 0)),.v (.one (.p (.int .i64 size))),.v (.one (.p (.str t)))],[.pack [.obj 53 [(.ptr 1 0),(.row 2),(.p (.int .i64 s))],.pack [.obj 50 [(.row 1),(.p (.int .i64 n))],.row .upl 67 l],.row .byte 5 b]]=>(fun(l:List Upl) (n:Int) (b:Str) (s size:Int) (t:Str)=>(some (.one ⟨I.hid (zu l n∧n≤200000∧t.length≤1000000∧b.length≤100000),(.ret (.tup [(.one (.p (.int .i64 (I.hid ((if wrtC l n b ⟨1,n+1,size,t⟩=0 then n+1 else 0)))))),(.one (.p (.int .i64 (I.hid ((wrtC l n b ⟨1,n+1,size,t⟩))))))])),[.pack [.obj 53 [(.ptr 1 0),(.row 2),(.p (.int .i64 s))],.pack [.obj 50 [(.row 1),(.p (.int .i64 (I.hid ((wrtN l n b ⟨1,n+1,size,t⟩)))))],.row .upl 67 (I.hid ((wrtL l n b ⟨1,n+1,size,t⟩)))],.row .byte 5 (I.hid ((wrtB l n b ⟨1,n+1,size,t⟩)))]]⟩):Option CT)) l n b s size t
  |_,_=>none
theorem UD:zo Tryz.prog 32 (qH alg):=by
  intro args hp r h
  unfold qH at h
  split at h
  · cases h;exact fun hn=>zgx _ _ _ _ _ _ hn
  · cases h
def zO:Know Tryz.prog:=⟨32,qH,UD⟩
def zN:Know Tryz.prog:=⟨32,fun I=>zq I (qH I),zf UD⟩
theorem zio {l:List Upl} {n:Int} {b:Str} {id off:Int} {x:Str}:(¬ appC l id off x=0→appC l id off x=(if apG l id off then 17 else wrtC l n b ⟨2,id,0,x⟩)∧(apG l id off=false→¬ wrtC l n b ⟨2,id,0,x⟩=0))∧(appC l id off x=0→apG l id off=false):=by
  have hle:=ZJ l id
  have h2:Zm l n ⟨2,id,0,x⟩=appC l id (getU l id).bytes.length x:=by unfold Zm;simp
  have hw: ¬ Zm l n ⟨2,id,0,x⟩=0→wrtC l n b ⟨2,id,0,x⟩=Zm l n ⟨2,id,0,x⟩:=fun h=>by unfold wrtC;rw [if_pos h]
  rw [h2] at hw
  by_cases hk:atU l id<l.length
  · have hg:getB l id=true:=decide_eq_true hk
    have hu:getU l id=yJ l id:=by unfold getU;rw [if_pos hk]
    rw [hu] at hw
    unfold apG
    rw [hg,hu]
    by_cases ho:off=(yJ l id).bytes.length
    · rw [← ho] at hw
      simp only [ho,decide_true,Bool.not_true,Bool.and_false,Bool.false_eq_true,if_false]
      rw [← ho]
      exact⟨fun h=>⟨(hw h).symm,fun _=>by rw [hw h];exact h⟩,by intros;trivial⟩
    · by_cases hs:(yJ l id).sent=0
      · have e:appC l id off x=17:=by unfold appC;rw [if_neg (by omega),if_neg (by simp [hs]),if_pos ho]
        rw [e]
        simp [ho,hs]
      · have e:appC l id off x=19:=by unfold appC;rw [if_neg (by omega),if_pos hs]
        have e2:appC l id (yJ l id).bytes.length x=19:=by unfold appC;rw [if_neg (by omega),if_pos hs]
        rw [e2] at hw
        have hw:=hw (by decide)
        rw [e,hw]
        simp [hs]
  · have hg:getB l id=false:=decide_eq_false hk
    have e1:=zaF (off:=off) (b:=x) hk
    have e2:=zaF (off:=(getU l id).bytes.length) (b:=x) hk
    rw [e2] at hw
    have hw:=hw (by decide)
    unfold apG
    rw [e1,hg,hw]
    simp
theorem zgy (l:List Upl) (n:Int) (b:Str) (s id off:Int) (x:Str) (hneed:zu l n∧n≤200000∧x.length≤1000000∧b.length≤100000):Spc Tryz.prog 63 [.v (.one (.ptr 0 0)),.v (.one (.p (.int .i64 id))),.v (.one (.p (.int .i64 off))),.v (.one (.p (.list .byte x)))] [.pack [.obj 53 [(.ptr 1 0),(.row 2),(.p (.int .i64 s))],.pack [.obj 50 [(.row 1),(.p (.int .i64 n))],.row .upl 67 l],.row .byte 5 b]] (.ret (.v (.one (.p (.int .i64 ((if apG l id off then 17 else wrtC l n b ⟨2,id,0,x⟩))))))) [.pack [.obj 53 [(.ptr 1 0),(.row 2),(.p (.int .i64 s))],.pack [.obj 50 [(.row 1),(.p (.int .i64 ((if apG l id off then n else wrtN l n b ⟨2,id,0,x⟩))))],.row .upl 67 ((if apG l id off then l else wrtL l n b ⟨2,id,0,x⟩))],.row .byte 5 ((if apG l id off then b else wrtB l n b ⟨2,id,0,x⟩))]]:=by
  have ha:=zio (l:=l) (n:=n) (b:=b) (id:=id) (off:=off) (x:=x)
  have hL: ¬ wrtC l n b ⟨2,id,0,x⟩=0→wrtL l n b ⟨2,id,0,x⟩=l∧wrtN l n b ⟨2,id,0,x⟩=n∧wrtB l n b ⟨2,id,0,x⟩=b:=fun h=>by
    unfold wrtL wrtN wrtB;rw [if_neg h,if_neg h,if_neg h];exact⟨rfl,rfl,rfl⟩
  generalize hwc:wrtC l n b ⟨2,id,0,x⟩=wc at *
  generalize hwl:wrtL l n b ⟨2,id,0,x⟩=wl at *
  generalize hwn:wrtN l n b ⟨2,id,0,x⟩=wn at *
  generalize hwb:wrtB l n b ⟨2,id,0,x⟩=wb at *
  generalize hg:apG l id off=g at *
  have hA:=ha.2
  have hB: ¬ appC l id off x=0→appC l id off x=(if g then 17 else wc)∧(if g then l else wl)=l∧(if g then n else wn)=n∧(if g then b else wb)=b:=fun h=>by
    obtain⟨e,hz⟩:=ha.1 h
    refine⟨e,?_⟩
    cases g with
    |true=>exact⟨rfl,rfl,rfl⟩
    |false=>exact hL (hz rfl)
  refine spcG zi mixed Tryz.func63 (by kernel_rfl) { xG with keep:=some [0,1,2,3,8,9,10]} [RG,RF,zey,zex,ZU,ZT] (by kernel_rfl) ?_
  intro I X hI hX
  refine zh (let y0:HO:=.obj 53 [(.ptr 1 0),(.row 2),(.p (.int .i64 s))];let y1:=I.hid (α:=Int) (appC l id off x);.need (I.hid (α:=(Prop)) (zu l n)) (.need (I.hid (α:=(Prop)) (And (zu l n) (LE.le (List.length x) 1000000))) (.br (I.bnot (I.ieq y1 0)) (.fin (.ret (.v (.one (.p (.int .i64 y1))))) [(.pack [y0,(.pack [(.obj 50 [(.row 1),(.p (.int .i64 n))]),(.row .upl 67 l)]),(.row .byte 5 b)])]) (.need (I.hid (α:=(Prop)) (And (okId (2:Int) id n) (And (zu l n) (And (LE.le n (200000:Int)) (And (LE.le (List.length x) 1000000) (LE.le (List.length b) 100000)))))) (.fin (.ret (.v (.one (.p (.int .i64 (I.hid (α:=Int) (wrtC l n b (Ent.mk (2:Int) id (0:Int) x)))))))) [(.pack [y0,(.pack [(.obj 50 [(.row 1),(.p (.int .i64 (I.hid (α:=Int) (wrtN l n b (Ent.mk (2:Int) id (0:Int) x)))))]),(.row .upl 67 (I.hid (α:=(List Upl)) (wrtL l n b (Ent.mk (2:Int) id (0:Int) x))))]),(.row .byte 5 (I.hid (α:=Str) (wrtB l n b (Ent.mk (2:Int) id (0:Int) x))))])]))))) (by kernel_rfl) ?_
  simp only [zk]
  subst hI
  simp only [nrmA,nrmB,nrlB,reduceCtorEq,HO.pack.injEq,HO.obj.injEq]
  (repeat' (first|refine And.intro ?_ ?_|intro _))<;>first|omega|exact True.intro|exact False.elim ‹False›|skip
  all_goals first
    |exact hneed.1
    |exact hneed
    |exact hneed.2.1
    |exact hneed.2.2.1
    |exact hneed.2.2.2
    |exact⟨fun h=>absurd h (by decide),hneed⟩
    |exact fun h=>absurd h (by decide)
    |exact(hB (by assumption)).1
    |exact(hB (by assumption)).2.1.symm
    |exact(hB (by assumption)).2.2.1.symm
    |exact(hB (by assumption)).2.2.2.symm
    |(rw [hA (by assumption),if_neg (by decide)];assumption)
    |omega
def qI (I:Alg) (args:List D) (hp:List HO):Option CT:=match args,hp with
  |[.v (.one (.ptr 0 0)),.v (.one (.p (.int .i64 id))),.v (.one (.p (.int .i64 off))),.v (.one (.p (.list .byte x)))],[.pack [.obj 53 [(.ptr 1 0),(.row 2),(.p (.int .i64 s))],.pack [.obj 50 [(.row 1),(.p (.int .i64 n))],.row .upl 67 l],.row .byte 5 b]]=>(fun(l:List Upl) (n:Int) (b:Str) (s id off:Int) (x:Str)=>(some (.one ⟨I.hid (zu l n∧n≤200000∧x.length≤1000000∧b.length≤100000),(.ret (.v (.one (.p (.int .i64 (I.hid ((if apG l id off then 17 else wrtC l n b ⟨2,id,0,x⟩)))))))),[.pack [.obj 53 [(.ptr 1 0),(.row 2),(.p (.int .i64 s))],.pack [.obj 50 [(.row 1),(.p (.int .i64 (I.hid ((if apG l id off then n else wrtN l n b ⟨2,id,0,x⟩)))))],.row .upl 67 (I.hid ((if apG l id off then l else wrtL l n b ⟨2,id,0,x⟩)))],.row .byte 5 (I.hid ((if apG l id off then b else wrtB l n b ⟨2,id,0,x⟩)))]]⟩):Option CT)) l n b s id off x
  |_,_=>none
theorem UE:zo Tryz.prog 63 (qI alg):=by
  intro args hp r h
  unfold qI at h
  split at h
  · cases h;exact fun hn=>zgy _ _ _ _ _ _ _ hn
  · cases h
def xJ:Know Tryz.prog:=⟨63,qI,UE⟩
def xI:Know Tryz.prog:=⟨63,fun I=>zq I (qI I),zf UE⟩
theorem zfi (l:List Upl) (n:Int) (b:Str) (s id size:Int) (hneed:zu l n∧n≤200000∧b.length≤100000):Spc Tryz.prog 64 [.v (.one (.ptr 0 0)),.v (.one (.p (.int .i64 id))),.v (.one (.p (.int .i64 size)))] [.pack [.obj 53 [(.ptr 1 0),(.row 2),(.p (.int .i64 s))],.pack [.obj 50 [(.row 1),(.p (.int .i64 n))],.row .upl 67 l],.row .byte 5 b]] (.ret (.v (.one (.p (.int .i64 ((wrtC l n b ⟨3,id,size,[]⟩))))))) [.pack [.obj 53 [(.ptr 1 0),(.row 2),(.p (.int .i64 s))],.pack [.obj 50 [(.row 1),(.p (.int .i64 ((wrtN l n b ⟨3,id,size,[]⟩))))],.row .upl 67 ((wrtL l n b ⟨3,id,size,[]⟩))],.row .byte 5 ((wrtB l n b ⟨3,id,size,[]⟩))]]:=by
  refine spcG zi mixed Tryz.func64 (by kernel_rfl) { xG with keep:=some [0,1,2,6]} [ZU,ZT] (by kernel_rfl) ?_
  intro I X hI hX
  refine zh (.need (I.hid (α:=(Prop)) (And (okId (3:Int) id n) (And (zu l n) (And (LE.le n (200000:Int)) (And (LE.le (List.length ([]:Str)) 1000000) (LE.le (List.length b) 100000)))))) (.fin (.ret (.v (.one (.p (.int .i64 (I.hid (α:=Int) (wrtC l n b (Ent.mk (3:Int) id size ([]:Str))))))))) [(.pack [(.obj 53 [(.ptr 1 0),(.row 2),(.p (.int .i64 s))]),(.pack [(.obj 50 [(.row 1),(.p (.int .i64 (I.hid (α:=Int) (wrtN l n b (Ent.mk (3:Int) id size ([]:Str))))))]),(.row .upl 67 (I.hid (α:=(List Upl)) (wrtL l n b (Ent.mk (3:Int) id size ([]:Str)))))]),(.row .byte 5 (I.hid (α:=Str) (wrtB l n b (Ent.mk (3:Int) id size ([]:Str)))))])])) (by kernel_rfl) ?_
  simp only [zk]
  subst hI
  simp only [nrmA,nrmB,nrlB,reduceCtorEq,HO.pack.injEq,HO.obj.injEq]
  exact⟨fun h=>absurd h (by decide),hneed.1,hneed.2.1,by decide,hneed.2.2⟩
def rf (I:Alg) (args:List D) (hp:List HO):Option CT:=match args,hp with
  |[.v (.one (.ptr 0 0)),.v (.one (.p (.int .i64 id))),.v (.one (.p (.int .i64 size)))],[.pack [.obj 53 [(.ptr 1 0),(.row 2),(.p (.int .i64 s))],.pack [.obj 50 [(.row 1),(.p (.int .i64 n))],.row .upl 67 l],.row .byte 5 b]]=>(fun(l:List Upl) (n:Int) (b:Str) (s id size:Int)=>(some (.one ⟨I.hid (zu l n∧n≤200000∧b.length≤100000),(.ret (.v (.one (.p (.int .i64 (I.hid ((wrtC l n b ⟨3,id,size,[]⟩)))))))),[.pack [.obj 53 [(.ptr 1 0),(.row 2),(.p (.int .i64 s))],.pack [.obj 50 [(.row 1),(.p (.int .i64 (I.hid ((wrtN l n b ⟨3,id,size,[]⟩)))))],.row .upl 67 (I.hid ((wrtL l n b ⟨3,id,size,[]⟩)))],.row .byte 5 (I.hid ((wrtB l n b ⟨3,id,size,[]⟩)))]]⟩):Option CT)) l n b s id size
  |_,_=>none
theorem WL:zo Tryz.prog 64 (rf alg):=by
  intro args hp r h
  unfold rf at h
  split at h
  · cases h;exact fun hn=>zfi _ _ _ _ _ _ hn
  · cases h
def yZ:Know Tryz.prog:=⟨64,rf,WL⟩
def yY:Know Tryz.prog:=⟨64,fun I=>zq I (rf I),zf WL⟩
theorem zkZ (l:List Upl) (n:Int) (b:Str) (s id:Int) (hneed:zu l n∧n≤200000∧b.length≤100000):Spc Tryz.prog 36 [.v (.one (.ptr 0 0)),.v (.one (.p (.int .i64 id)))] [.pack [.obj 53 [(.ptr 1 0),(.row 2),(.p (.int .i64 s))],.pack [.obj 50 [(.row 1),(.p (.int .i64 n))],.row .upl 67 l],.row .byte 5 b]] (.ret (.v (.one (.p (.int .i64 ((wrtC l n b ⟨4,id,0,[]⟩))))))) [.pack [.obj 53 [(.ptr 1 0),(.row 2),(.p (.int .i64 s))],.pack [.obj 50 [(.row 1),(.p (.int .i64 ((wrtN l n b ⟨4,id,0,[]⟩))))],.row .upl 67 ((wrtL l n b ⟨4,id,0,[]⟩))],.row .byte 5 ((wrtB l n b ⟨4,id,0,[]⟩))]]:=by
  refine spcG zi mixed Tryz.func36 (by kernel_rfl) { xG with keep:=some [0,1,4]} [ZU,ZT] (by kernel_rfl) ?_
  intro I X hI hX
  refine zh (.need (I.hid (α:=(Prop)) (And (okId (4:Int) id n) (And (zu l n) (And (LE.le n (200000:Int)) (And (LE.le (List.length ([]:Str)) 1000000) (LE.le (List.length b) 100000)))))) (.fin (.ret (.v (.one (.p (.int .i64 (I.hid (α:=Int) (wrtC l n b (Ent.mk (4:Int) id (0:Int) ([]:Str))))))))) [(.pack [(.obj 53 [(.ptr 1 0),(.row 2),(.p (.int .i64 s))]),(.pack [(.obj 50 [(.row 1),(.p (.int .i64 (I.hid (α:=Int) (wrtN l n b (Ent.mk (4:Int) id (0:Int) ([]:Str))))))]),(.row .upl 67 (I.hid (α:=(List Upl)) (wrtL l n b (Ent.mk (4:Int) id (0:Int) ([]:Str)))))]),(.row .byte 5 (I.hid (α:=Str) (wrtB l n b (Ent.mk (4:Int) id (0:Int) ([]:Str)))))])])) (by kernel_rfl) ?_
  simp only [zk]
  subst hI
  simp only [nrmA,nrmB,nrlB,reduceCtorEq,HO.pack.injEq,HO.obj.injEq]
  exact⟨fun h=>absurd h (by decide),hneed.1,hneed.2.1,by decide,hneed.2.2⟩
def Xc (I:Alg) (args:List D) (hp:List HO):Option CT:=match args,hp with
  |[.v (.one (.ptr 0 0)),.v (.one (.p (.int .i64 id)))],[.pack [.obj 53 [(.ptr 1 0),(.row 2),(.p (.int .i64 s))],.pack [.obj 50 [(.row 1),(.p (.int .i64 n))],.row .upl 67 l],.row .byte 5 b]]=>(fun(l:List Upl) (n:Int) (b:Str) (s id:Int)=>(some (.one ⟨I.hid (zu l n∧n≤200000∧b.length≤100000),(.ret (.v (.one (.p (.int .i64 (I.hid ((wrtC l n b ⟨4,id,0,[]⟩)))))))),[.pack [.obj 53 [(.ptr 1 0),(.row 2),(.p (.int .i64 s))],.pack [.obj 50 [(.row 1),(.p (.int .i64 (I.hid ((wrtN l n b ⟨4,id,0,[]⟩)))))],.row .upl 67 (I.hid ((wrtL l n b ⟨4,id,0,[]⟩)))],.row .byte 5 (I.hid ((wrtB l n b ⟨4,id,0,[]⟩)))]]⟩):Option CT)) l n b s id
  |_,_=>none
theorem za4:zo Tryz.prog 36 (Xc alg):=by
  intro args hp r h
  unfold Xc at h
  split at h
  · cases h;exact fun hn=>zkZ _ _ _ _ _ hn
  · cases h
def yg:Know Tryz.prog:=⟨36,Xc,za4⟩
def yc:Know Tryz.prog:=⟨36,fun I=>zq I (Xc I),zf za4⟩
theorem zkY (l:List Upl) (n:Int) (b:Str) (s m:Int) (hneed:b.length≤100000):Spc Tryz.prog 62 [.v (.one (.ptr 0 0)),.v (.one (.p (.int .i64 m)))] [.pack [.obj 53 [(.ptr 1 0),(.row 2),(.p (.int .i64 s))],.pack [.obj 50 [(.row 1),(.p (.int .i64 n))],.row .upl 67 l],.row .byte 5 b]] (.ret (.v (.one (.p (.bool ((decide (0≤m)&&decide (m≤100000 - b.length)))))))) [.pack [.obj 53 [(.ptr 1 0),(.row 2),(.p (.int .i64 s))],.pack [.obj 50 [(.row 1),(.p (.int .i64 n))],.row .upl 67 l],.row .byte 5 b]]:=by
  refine spcG zi mixed Tryz.func62 (by kernel_rfl) { xG with keep:=some [0,1,4]} [] (by kernel_rfl) ?_
  intro I X hI hX
  refine zh (let y0:HO:=.pack [(.obj 53 [(.ptr 1 0),(.row 2),(.p (.int .i64 s))]),(.pack [(.obj 50 [(.row 1),(.p (.int .i64 n))]),(.row .upl 67 l)]),(.row .byte 5 b)];let y1:=I.sub 100000 (I.len (α:=UInt8) b);.br (I.ile 0 m) (.need (I.inr Go.IntKind.i64 y1) (.fin (.ret (.v (.one (.p (.bool (I.ile m y1)))))) [y0])) (.fin (.ret (.v (.one (.p (.bool Bool.false))))) [y0])) (by kernel_rfl) ?_
  simp only [zk]
  subst hI
  simp only [nrmA,nrmB,nrlB,reduceCtorEq,HO.pack.injEq,HO.obj.injEq]
  (repeat' (first|refine And.intro ?_ ?_|intro _))<;>first|omega|exact True.intro|exact False.elim ‹False›|skip
  all_goals first
    |(rw [decide_eq_true (p:=0≤m) (by assumption),Bool.true_and])
    |(rw [decide_eq_false (p:=0≤m) (by assumption),Bool.false_and])
    |omega
def Xb (I:Alg) (args:List D) (hp:List HO):Option CT:=match args,hp with
  |[.v (.one (.ptr 0 0)),.v (.one (.p (.int .i64 m)))],[.pack [.obj 53 [(.ptr 1 0),(.row 2),(.p (.int .i64 s))],.pack [.obj 50 [(.row 1),(.p (.int .i64 n))],.row .upl 67 l],.row .byte 5 b]]=>(fun(l:List Upl) (n:Int) (b:Str) (s m:Int)=>(some (.one ⟨I.hid (b.length≤100000),(.ret (.v (.one (.p (.bool (I.hid ((decide (0≤m)&&decide (m≤100000 - b.length))))))))),[.pack [.obj 53 [(.ptr 1 0),(.row 2),(.p (.int .i64 s))],.pack [.obj 50 [(.row 1),(.p (.int .i64 n))],.row .upl 67 l],.row .byte 5 b]]⟩):Option CT)) l n b s m
  |_,_=>none
theorem za3:zo Tryz.prog 62 (Xb alg):=by
  intro args hp r h
  unfold Xb at h
  split at h
  · cases h;exact fun hn=>zkY _ _ _ _ _ hn
  · cases h
def wZ:Know Tryz.prog:=⟨62,Xb,za3⟩
def wY:Know Tryz.prog:=⟨62,fun I=>zq I (Xb I),zf za3⟩
theorem zkX (l:List Upl) (n:Int) (b:Str) (s:Int):Spc Tryz.prog 34 [.v (.one (.ptr 0 0))] [.pack [.obj 53 [(.ptr 1 0),(.row 2),(.p (.int .i64 s))],.pack [.obj 50 [(.row 1),(.p (.int .i64 n))],.row .upl 67 l],.row .byte 5 b]] (.ret (.tup [])) [.pack [.obj 53 [(.ptr 1 0),(.row 2),(.p (.int .i64 ((b.length:Int))))],.pack [.obj 50 [(.row 1),(.p (.int .i64 n))],.row .upl 67 l],.row .byte 5 b]]:=by
  refine spcG zi mixed Tryz.func34 (by kernel_rfl) { xG with keep:=some [0]} [] (by kernel_rfl) ?_
  intro I X hI hX
  refine zh (.fin (.ret (.tup [])) [(.pack [(.obj 53 [(.ptr 1 0),(.row 2),(.p (.int .i64 (I.len (α:=UInt8) b)))]),(.pack [(.obj 50 [(.row 1),(.p (.int .i64 n))]),(.row .upl 67 l)]),(.row .byte 5 b)])]) (by kernel_rfl) ?_
  simp only [zk]
  subst hI
  simp only [nrmA,nrmB,nrlB,reduceCtorEq,HO.pack.injEq,HO.obj.injEq]
  try trivial
def Xa (I:Alg) (args:List D) (hp:List HO):Option CT:=match args,hp with
  |[.v (.one (.ptr 0 0))],[.pack [.obj 53 [(.ptr 1 0),(.row 2),(.p (.int .i64 s))],.pack [.obj 50 [(.row 1),(.p (.int .i64 n))],.row .upl 67 l],.row .byte 5 b]]=>(fun(l:List Upl) (n:Int) (b:Str) (s:Int)=>(some (.one ⟨I.hid (True),(.ret (.tup [])),[.pack [.obj 53 [(.ptr 1 0),(.row 2),(.p (.int .i64 (I.hid ((b.length:Int)))))],.pack [.obj 50 [(.row 1),(.p (.int .i64 n))],.row .upl 67 l],.row .byte 5 b]]⟩):Option CT)) l n b s
  |_,_=>none
theorem za2:zo Tryz.prog 34 (Xa alg):=by
  intro args hp r h
  unfold Xa at h
  split at h
  · cases h;exact fun hn=>zkX _ _ _ _
  · cases h
def zK:Know Tryz.prog:=⟨34,Xa,za2⟩
def zJ:Know Tryz.prog:=⟨34,fun I=>zq I (Xa I),zf za2⟩
end Go.Proofs.YtcclfkakcgnacaaGreatDoor
namespace Go.Proofs.YtcclfkakcgnacaaGreatDoor
open Go Go.Sep Go.Ab
set_option maxRecDepth 100000
theorem zgr (c:Int):Spc Tryz.prog 33 [.v (.one (.p (.int .i64 c)))] [] (.ret (.v (.one (.p (.int .i64 ((wE c))))))) []:=by
  generalize hr:wE c=r
  unfold wE at hr
  refine spcG zi mixed Tryz.func33 (by kernel_rfl) { keep:=some [0,2,3,6,11]} [] (by kernel_rfl) ?_
  intro I X hI hX
  refine zh (.br (I.ieq c 10) (.fin (.ret (.v (.one (.p (.int .i64 404))))) []) (.br (I.ieq c 17) (.fin (.ret (.v (.one (.p (.int .i64 409))))) []) (.br (I.ieq c 19) (.fin (.ret (.v (.one (.p (.int .i64 409))))) []) (.br (I.ieq c 4) (.fin (.ret (.v (.one (.p (.int .i64 413))))) []) (.br (I.ieq c 8) (.fin (.ret (.v (.one (.p (.int .i64 507))))) []) (.br (I.ieq c 16) (.fin (.ret (.v (.one (.p (.int .i64 507))))) []) (.fin (.ret (.v (.one (.p (.int .i64 400))))) []))))))) (by kernel_rfl) ?_
  simp only [zk]
  subst hI
  simp only [nrmA,nrmB,nrlB,reduceCtorEq,V0.agg.injEq]
  (repeat' (first|refine And.intro ?_ ?_|intro _))<;>first|omega|exact True.intro|exact False.elim ‹False›|skip
  all_goals first
    |(rw [← hr];(repeat(first|rewrite [if_pos (by first|omega|assumption|(simp only [*,or_self,or_true,true_or,or_false,false_or,not_true_eq_false,not_false_eq_true,Bool.false_eq_true,Bool.true_eq_false,and_self,and_true,true_and];done)|(simp only [*];omega)|(simp [*];done)|(simp [*];omega))]|rewrite [if_neg (by first|omega|assumption|(simp only [*,or_self,or_true,true_or,or_false,false_or,not_true_eq_false,not_false_eq_true,Bool.false_eq_true,Bool.true_eq_false,and_self,and_true,true_and];done)|(simp only [*];omega)|(simp [*];done)|(simp [*];omega))]));first|rfl|omega)
def qG (I:Alg) (args:List D) (hp:List HO):Option CT:=match args,hp with
  |[.v (.one (.p (.int .i64 c)))],[]=>(fun(c:Int)=>(some (.one ⟨I.hid (True),(.ret (.v (.one (.p (.int .i64 (I.hid ((wE c)))))))),[]⟩):Option CT)) c
  |_,_=>none
theorem Uy:zo Tryz.prog 33 (qG alg):=by
  intro args hp r h
  unfold qG at h
  split at h
  · cases h;exact fun hn=>zgr _
  · cases h
def zC:Know Tryz.prog:=⟨33,qG,Uy⟩
def zB:Know Tryz.prog:=⟨33,fun I=>zq I (qG I),zf Uy⟩
theorem zg8 (m t:Str) (mi:Int) (f:List Fld) (le:Int) (nm:Str) (hneed:FOk f∧nm.length≤1000000):Spc Tryz.prog 31 [.v (.agg [(.p (.str m)),(.p (.str t)),(.p (.int .i64 mi)),(.p (.list .fld f)),(.p (.int .i64 le))]),.v (.one (.p (.str nm)))] [] (.ret (.tup [(.one (.p (.int .i64 ((zA f nm))))),(.one (.p (.bool ((xq f nm)))))])) []:=by
  obtain⟨hf,hn⟩:=hneed
  generalize hr1:zA f nm=r1
  generalize hr2:xq f nm=r2
  unfold zA at hr1
  unfold xq at hr2
  refine spcG zi mixed Tryz.func31 (by kernel_rfl) { keep:=some [0,1,2,4,5,6,7,8,9]} [zT,zS,zM,zL] (by kernel_rfl) ?_
  intro I X hI hX
  refine zh (let y0:=I.hid (α:=Int) (Prod.fst (numA (I.hid (α:=Str) (Prod.fst (oneF (valsF f nm)))) (10:Int) (9:Int)));let y1:=I.hid (α:=Int) (Prod.snd (oneF (valsF f nm)));.need (I.hid (α:=(Prop)) (And (LE.le (List.length f) 1000) (And (LE.le (List.length nm) 1000000) (∀ (f_1:Fld),f_1 ∈ f→List.length f_1.name≤1000000∧List.length f_1.value≤1000000)))) (.br (I.ieq y1 10) (.fin (.ret (.tup [(.one (.p (.int .i64 (Neg.neg (1:Int))))),(.one (.p (.bool Bool.true)))])) []) (.need (I.hid (α:=(Prop)) True) (.br (I.hid (α:=Bool) (Prod.snd (numA (I.hid (α:=Str) (Prod.fst (oneF (valsF f nm)))) (10:Int) (9:Int)))) (.fin (.ret (.tup [(.one (.p (.int .i64 y0))),(.one (.p (.bool (I.ieq y1 0))))])) []) (.fin (.ret (.tup [(.one (.p (.int .i64 y0))),(.one (.p (.bool Bool.false)))])) []))))) (by kernel_rfl) ?_
  simp only [zk]
  subst hI
  unfold oneT at *
  simp only [nrmA,nrmB,nrlB,reduceCtorEq,V0.agg.injEq,List.cons.injEq]
  generalize oneF (valsF f nm)=oc at *
  obtain⟨ov,oc⟩:=oc
  simp only at *
  generalize numA ov 10 9=na at *
  obtain⟨nv,nb⟩:=na
  simp only at *
  subst hr1 hr2
  (repeat' (first|refine And.intro ?_ ?_|intro _))<;>first|omega|exact True.intro|exact False.elim ‹False›|skip
  all_goals first
    |exact hf.1
    |exact hn
    |exact hf.2
    |(exact(hf.2 _ ‹_›).1)
    |(exact(hf.2 _ ‹_›).2)
    |(cases nb<;>simp_all;done)
    |(by_cases h0:oc=0<;>simp_all;done)
def qN (I:Alg) (args:List D) (hp:List HO):Option CT:=match args,hp with
  |[.v (.agg [(.p (.str m)),(.p (.str t)),(.p (.int .i64 mi)),(.p (.list .fld f)),(.p (.int .i64 le))]),.v (.one (.p (.str nm)))],[]=>(fun(m t:Str) (mi:Int) (f:List Fld) (le:Int) (nm:Str)=>(some (.one ⟨I.hid (FOk f∧nm.length≤1000000),(.ret (.tup [(.one (.p (.int .i64 (I.hid ((zA f nm)))))),(.one (.p (.bool (I.hid ((xq f nm))))))])),[]⟩):Option CT)) m t mi f le nm
  |_,_=>none
theorem UQ:zo Tryz.prog 31 (qN alg):=by
  intro args hp r h
  unfold qN at h
  split at h
  · cases h;exact fun hn=>zg8 _ _ _ _ _ _ hn
  · cases h
def zF:Know Tryz.prog:=⟨31,qN,UQ⟩
def zD:Know Tryz.prog:=⟨31,fun I=>zq I (qN I),zf UQ⟩
def cfgR:Cfg:= { sl:=[⟨32,1,.fld,some 58⟩]}
theorem znW (st:Int) (v:List Str) (hneed:v.length≤1000):Spc Tryz.prog 30 [.v (.one (.p (.int .i64 st))),.v (.one (.p (.list .str v)))] [] (.ret (.v (.agg [(.p (.int .i64 st)),(.p (.list .fld ((resT::prs v)))),(.p (.list .byte ([])))]))) []:=by
  refine spcG zi mixed Tryz.func30 (by kernel_rfl) { cfgR with keep:=some [0,1,4,5,6]} [] (by kernel_rfl) ?_
  intro I X hI hX
  refine zh (.code 0 [1,1,0,1,0] ⟨[(6,(.v (.one (.p (.int .i64 0))))),(5,(.v (.one (.ptr 2 0)))),(4,(.v (.one (.ptr 0 0)))),(0,(.v (.one (.p (.int .i64 st))))),(1,(.v (.one (.p (.list .str v)))))],[(.obj 32 [(.p (.int .i64 0)),.nilS,.nilS]),(.row .fld 58 ([(Fld.mk ([84,117,115,45,82,101,115,117,109,97,98,108,101]:Str) ([49,46,48,46,48]:Str))]:List Fld)),(.obj 32 [(.p (.int .i64 st)),(.row 1),.nilS])],34,none⟩) (by kernel_rfl) ?_
  simp only [zk]
  refine zG hI zi mixed [] hX [0,1,4,5,6] (fun(g:Nat × List Fld)=>match g with|(j,l)=>2 * j≤v.length∧l.length=j∧prs v=l++prs (v.drop (2 * j))) (fun(g:Nat × List Fld)=>match g with|(j,l)=>⟨[(0,.v (.one (.p (.int .i64 st)))),(1,.v (.one (.p (.list .str v)))),(4,.v (.one (.ptr 0 0))),(5,.v (.one (.ptr 1 0))),(6,.v (.one (.p (.int .i64 ((2 * (j:Int)))))))],[.pack [.obj 32 [(.p (.int .i64 0)),(.row 1),.nilS],.row .fld 58 ([])],.pack [.obj 32 [(.p (.int .i64 st)),(.row 1),.nilS],.row .fld 58 ((resT::l))]],34,none⟩) (fun(g:Nat × List Fld)=>match g with|(j,l)=>v.length - 2 * j) (0,[]) (by kernel_rfl) (by kernel_rfl) ?_ ?_
  · exact⟨by omega,rfl,rfl⟩
  rintro⟨j,l⟩ ⟨h1,h2,h3⟩ A hA
  simp only at hA
  refine zh (let y0:=I.add (HMul.hMul (2:Int) (Nat.cast j)) 1;let y1:HO:=.pack [(.obj 32 [(.p (.int .i64 st)),(.row 1),.nilS]),(.row .fld 58 (I.app (α:=Fld) (resT::l) ([(Fld.mk (I.get (α:=Str) v ([]:Str) (HMul.hMul (2:Int) (Nat.cast j))) (I.get (α:=Str) v ([]:Str) y0))]:List Fld)))];let y2:=I.few (I.add (I.len (α:=Fld) (resT::l)) (I.len (α:=Fld) ([(Fld.mk (I.get (α:=Str) v ([]:Str) (HMul.hMul (2:Int) (Nat.cast j))) (I.get (α:=Str) v ([]:Str) y0))]:List Fld))) 100000000;let y3:=I.add (HMul.hMul (2:Int) (Nat.cast j)) 2;let y4:HO:=.pack [(.obj 32 [(.p (.int .i64 0)),(.row 1),.nilS]),(.row .fld 58 ([]:List Fld))];let y5:=I.inb (HMul.hMul (2:Int) (Nat.cast j)) (I.len (α:=Str) v);.need (I.inr Go.IntKind.i64 y0) (.br (I.ilt y0 (I.len (α:=Str) v)) (.need y5 (.need y5 (.need (I.inr Go.IntKind.i64 y0) (.need (I.inb y0 (I.len (α:=Str) v)) (.need (I.inb y0 (I.len (α:=Str) v)) (.both (.need y2 (.need (I.inr Go.IntKind.i64 y3) (.need (A ⟨[(0,(.v (.one (.p (.int .i64 st))))),(1,(.v (.one (.p (.list .str v))))),(4,(.v (.one (.ptr 0 0)))),(5,(.v (.one (.ptr 1 0)))),(6,(.v (.one (.p (.int .i64 y3)))))],[y4,y1],34,none⟩) .qed))) (.need y2 (.need (I.inr Go.IntKind.i64 y3) (.need (A ⟨[(0,(.v (.one (.p (.int .i64 st))))),(1,(.v (.one (.p (.list .str v))))),(4,(.v (.one (.ptr 0 0)))),(5,(.v (.one (.ptr 1 0)))),(6,(.v (.one (.p (.int .i64 y3)))))],[y4,y1],34,none⟩) .qed))))))))) (.fin (.ret (.v (.agg [(.p (.int .i64 st)),(.p (.list .fld (resT::l))),(.p (.list .byte ([]:Str)))]))) []))) (by kernel_rfl) ?_
  simp only [zk]
  subst hI
  simp only [nrmA,nrmB,nrlB,reduceCtorEq,V0.agg.injEq,HO.pack.injEq,HO.obj.injEq]
  have e1:(2 * (j:Int)).toNat=2 * j:=by omega
  have e2:(2 * (j:Int)+1).toNat=2 * j+1:=by omega
  rw [e1,e2]
  have hstep:2 * j+1<v.length→prs (v.drop (2 * j))=⟨v.getD (2 * j) [],v.getD (2 * j+1) []⟩::prs (v.drop (2 * (j+1))):=fun h=>by
    rw [List.drop_eq_getElem_cons (by omega:2 * j<v.length),List.drop_eq_getElem_cons h,prs]
    simp [show 2 * j<v.length by omega,h,Nat.mul_add]
  have hstop: ¬ 2 * j+1<v.length→l=prs v:=fun h=>by
    rw [h3]
    have:(v.drop (2 * j)).length≤1:=by rw [List.length_drop];omega
    match hq:v.drop (2 * j),this with
    |[],_=>simp [prs]
    |[_],_=>simp [prs]
  generalize v.getD (2 * j) []=x at *
  generalize v.getD (2 * j+1) []=y at *
  have hgo:2 * j+1<v.length→_:=fun h=>hA (j+1,l++[⟨x,y⟩]) ⟨by simp only;omega,by simp only [List.length_append,List.length_cons,List.length_nil];omega,by rw [h3,hstep h];simp⟩ (by simp only;omega)
  simp only at hgo
  (repeat' (first|refine And.intro ?_ ?_|intro _))<;>first|omega|exact True.intro|exact False.elim ‹False›|skip
  all_goals first
    |(simp only [List.length_cons,List.length_nil];omega)
    |exact hstop (by omega)
    |exact hgo (by omega)
def Qq (I:Alg) (args:List D) (hp:List HO):Option CT:=match args,hp with
  |[.v (.one (.p (.int .i64 st))),.v (.one (.p (.list .str v)))],[]=>(fun(st:Int) (v:List Str)=>(some (.one ⟨I.hid (v.length≤1000),(.ret (.v (.agg [(.p (.int .i64 st)),(.p (.list .fld (I.hid ((resT::prs v))))),(.p (.list .byte (I.hid ([]))))]))),[]⟩):Option CT)) st v
  |_,_=>none
theorem zgD:zo Tryz.prog 30 (Qq alg):=by
  intro args hp r h
  unfold Qq at h
  split at h
  · cases h;exact fun hn=>znW _ _ hn
  · cases h
def yw:Know Tryz.prog:=⟨30,Qq,zgD⟩
def yu:Know Tryz.prog:=⟨30,fun I=>zq I (Qq I),zf zgD⟩
theorem zn7 (n:Int) (hneed:n= -1):Spc Tryz.prog 21 [.v (.one (.p (.int .i64 n)))] [] (.ret (.v (.one (.p (.str ([45,49])))))) []:=by
  subst hneed
  refine spcG zi mixed Tryz.func21 (by kernel_rfl) { keep:=some [0,2]} [zm7,zm6] (by kernel_rfl) ?_
  intro I X hI hX
  refine zh (let y0:=([48,49,50,51,52,53,54,55,56,57]:Str);let y1:=I.add (I.rem (Neg.neg (1:Int)) 10) 1;let y2:=I.cut (α:=UInt8) y0 (I.rem (Neg.neg (1:Int)) 10) y1;let y3:=I.hid (α:=Str) (decS (I.quo (Neg.neg (1:Int)) 10));let y4:=I.hid (α:=Str) (decS (I.sub 0 (Neg.neg (1:Int))));.br (I.ilt (Neg.neg (1:Int)) 0) (.need (I.inr Go.IntKind.i64 (I.sub 0 (Neg.neg (1:Int)))) (.need (I.hid (α:=(Prop)) (And (LE.le (0:Int) (I.sub 0 (Neg.neg (1:Int)))) (LT.lt (I.sub 0 (Neg.neg (1:Int))) (1000000000:Int)))) (.need (I.few (I.add (I.len (α:=UInt8) ([45]:Str)) (I.len (α:=UInt8) y4)) 1000000000) (.fin (.ret (.v (.one (.p (.str (I.app (α:=UInt8) ([45]:Str) y4)))))) [])))) (.br (I.ilt (Neg.neg (1:Int)) 10) (.need (I.inr Go.IntKind.i64 (I.add (Neg.neg (1:Int)) 1)) (.need (I.cutb (-1) (I.add (Neg.neg (1:Int)) 1) (I.len (α:=UInt8) y0)) (.fin (.ret (.v (.one (.p (.str (I.cut (α:=UInt8) y0 (-1) (I.add (Neg.neg (1:Int)) 1))))))) []))) (.need (I.nne 10) (.need (I.inr Go.IntKind.i64 (I.quo (Neg.neg (1:Int)) 10)) (.need (I.nne 10) (.need (I.nne 10) (.need (I.inr Go.IntKind.i64 y1) (.need (I.cutb (I.rem (Neg.neg (1:Int)) 10) y1 (I.len (α:=UInt8) y0)) (.need (I.hid (α:=(Prop)) (And (LE.le (0:Int) (I.quo (Neg.neg (1:Int)) 10)) (LT.lt (I.quo (Neg.neg (1:Int)) 10) (1000000000:Int)))) (.need (I.few (I.add (I.len (α:=UInt8) y3) (I.len (α:=UInt8) y2)) 1000000000) (.fin (.ret (.v (.one (.p (.str (I.app (α:=UInt8) y3 y2)))))) []))))))))))) (by kernel_rfl) ?_
  simp only [zk]
  subst hI
  simp only [nrmA,nrmB,nrlB,reduceCtorEq,V0.agg.injEq]
  (repeat' (first|refine And.intro ?_ ?_|intro _))<;>first|omega|exact True.intro|exact False.elim ‹False›|skip
  all_goals first|omega|rfl|decide+kernel|trace_state
def QK (I:Alg) (args:List D) (hp:List HO):Option CT:=match args,hp with
  |[.v (.one (.p (.int .i64 n)))],[]=>(fun(n:Int)=>(some (.br (I.hid (decide (0≤n))) (.one ⟨I.hid (0≤n∧n<1000000000),(.ret (.v (.one (.p (.str (I.hid (decS n))))))),[]⟩) (.one ⟨I.hid (n= -1),(.ret (.v (.one (.p (.str (I.hid ([45,49]))))))),[]⟩)):Option CT)) n
  |_,_=>none
theorem zhb:zo Tryz.prog 21 (QK alg):=by
  intro args hp r h
  unfold QK at h
  split at h
  · cases h;exact⟨fun _ hn=>num_ _ hn,fun _ hn=>zn7 _ hn⟩
  · cases h
def yA:Know Tryz.prog:=⟨21,QK,zhb⟩
def yx:Know Tryz.prog:=⟨21,fun I=>zq I (QK I),zf zhb⟩
end Go.Proofs.YtcclfkakcgnacaaGreatDoor
