/- Texts of this proof, one behind the other: SplA SplB JrnL JrnA JrnB JrnC JrnG JrnP StoL StoA SplC SplS SplD StoB StoN Num TusL TusA. -/
import Derived.Lib.ItoaNum
import Derived.Test.YtcclfkakcgnacaaGreatDoorMc
set_option linter.all false
namespace Go.Proofs.YtcclfkakcgnacaaGreatDoor
open Go Go.Sep Go.Ab
set_option maxRecDepth 100000
theorem zmx (a b:Int) (m y:Str) (t d:Int):Spc Tryz.prog 98 [.v (.agg [(.p (.int .i64 a)),(.p (.int .i64 b)),(.p (.str m)),(.p (.list .byte y)),(.p (.int .i64 t))]),.v (.one (.ptr 0 0))] [.pack [.obj 3 [(.p (.int .i64 d))]]] (.ret (.v (.one (.p (.bool ((a == d))))))) [.pack [.obj 3 [(.p (.int .i64 d))]]]:=by
  refine spcG zi mixed Tryz.func98 (by kernel_rfl) { keep:=some [0,1,2,3]} [] (by kernel_rfl) ?_
  intro I X hI hX
  refine zh (.fin (.ret (.v (.one (.p (.bool (I.ieq a d)))))) [(.pack [(.obj 3 [(.p (.int .i64 d))])])]) (by kernel_rfl) ?_
  simp only [zk]
  subst hI
  simp only [nrmA,nrmB,nrlB,reduceCtorEq,HO.pack.injEq,HO.obj.injEq]
def VB (I:Alg) (args:List D) (hp:List HO):Option CT:=match args,hp with
  |[.v (.agg [(.p (.int .i64 a)),(.p (.int .i64 b)),(.p (.str m)),(.p (.list .byte y)),(.p (.int .i64 t))]),.v (.one (.ptr 0 0))],[.pack [.obj 3 [(.p (.int .i64 d))]]]=>(fun(a b:Int) (m y:Str) (t d:Int)=>(some (.one ⟨I.hid (True),(.ret (.v (.one (.p (.bool (I.hid ((a == d)))))))),[.pack [.obj 3 [(.p (.int .i64 d))]]]⟩):Option CT)) a b m y t d
  |_,_=>none
theorem zdF:zo Tryz.prog 98 (VB alg):=by
  intro args hp r h
  unfold VB at h
  split at h
  · cases h;exact fun hn=>zmx _ _ _ _ _ _
  · cases h
def VA:Know Tryz.prog:=⟨98,VB,zdF⟩
def zdE:Know Tryz.prog:=⟨98,fun I=>zq I (VB I),zf zdF⟩
def ixU (l:List Upl) (id:Int):Int:=if atU l id<l.length then(atU l id:Int) else -1
theorem zaC {l:List Upl} {id:Int} {i:Nat} (h:i<l.length) (hp:i≤atU l id):(if(l.getD i upl0).id=id then atU l id=i else i+1≤atU l id):=by
  rw [show l.getD i upl0=l[i] by simp [h]]
  split
  · rename_i he
    rcases Nat.lt_or_ge i (atU l id) with h1|h1
    · have:=List.not_of_lt_findIdx (p:=fun u:Upl=>u.id == id) (xs:=l) (i:=i) h1
      simp [he] at this
    · omega
  · rename_i he
    rcases Nat.lt_or_ge i (atU l id) with h1|h1
    · omega
    · have e:atU l id=i:=by omega
      have h2:=YS (l:=l) (id:=id) (by omega)
      rw [wV (by omega)] at h2
      simp only [e] at h2
      exact absurd h2 he
theorem znV (l:List Upl) (d:Int) (hneed:l.length≤1000000):Spc Tryz.prog 97 [.v (.one (.p (.list .upl l))),.v (.one (.fn 98 [.ptr 0 0]))] [.pack [.obj 3 [(.p (.int .i64 d))]]] (.ret (.v (.one (.p (.int .i64 ((ixU l d))))))) [.pack [.obj 3 [(.p (.int .i64 d))]]]:=by
  refine spcG zi mixed Tryz.func97 (by kernel_rfl) { keep:=some [0,1,4,5,7,8]} [VA] (by kernel_rfl) ?_
  intro I X hI hX
  refine zh (.code 0 [1,0,1,0] ⟨[(8,(.v (.one (.p (.int .i64 0))))),(7,(.v (.one (.p (.int .i64 (I.len (α:=Upl) l)))))),(4,(.v (.one (.p (.int .i64 0))))),(0,(.v (.one (.p (.list .upl l))))),(1,(.v (.one (.fn 98 [(.ptr 0 0)]))))],[(.pack [(.obj 3 [(.p (.int .i64 d))])])],19,none⟩) (by kernel_rfl) ?_
  simp only [zk]
  refine zG hI zi mixed [VA] hX [0,1,7,8] (fun(i:Nat)=>i≤l.length∧i≤atU l d) (fun(i:Nat)=>⟨[(0,.v (.one (.p (.list .upl l)))),(1,.v (.one (.fn 98 [.ptr 0 0]))),(7,.v (.one (.p (.int .i64 ((I.len (α:=Upl) l)))))),(8,.v (.one (.p (.int .i64 i))))],[.pack [.obj 3 [(.p (.int .i64 d))]]],19,none⟩) (fun(i:Nat)=>l.length - i) 0 (by kernel_rfl) (by kernel_rfl) ?_ ?_
  · exact⟨Nat.zero_le _,Nat.zero_le _⟩
  rintro i ⟨h1,h2⟩ A hA
  refine zh (let y0:HO:=.pack [(.obj 3 [(.p (.int .i64 d))])];let y1:=I.inb (Nat.cast i) (I.len (α:=Upl) l);.br (I.ilt (Nat.cast i) (I.len (α:=Upl) l)) (.need y1 (.need y1 (.need (I.hid (α:=(Prop)) True) (.br (I.hid (α:=Bool) (BEq.beq (Upl.id (I.get (α:=Upl) l (Upl.mk (0:Int) (0:Int) ([]:Str) ([]:Str) (0:Int)) (Nat.cast i))) d)) (.fin (.ret (.v (.one (.p (.int .i64 (Nat.cast i)))))) [y0]) (.need (I.inr Go.IntKind.i64 (I.add (Nat.cast i) 1)) (.need (A ⟨[(0,(.v (.one (.p (.list .upl l))))),(1,(.v (.one (.fn 98 [(.ptr 0 0)])))),(7,(.v (.one (.p (.int .i64 (I.len (α:=Upl) l)))))),(8,(.v (.one (.p (.int .i64 (I.add (Nat.cast i) 1))))))],[y0],19,none⟩) .qed)))))) (.fin (.ret (.v (.one (.p (.int .i64 (Neg.neg (1:Int))))))) [y0])) (by kernel_rfl) ?_
  simp only [zk]
  subst hI
  simp only [nrmA,nrmB]
  have hx:=fun h=>zaC (l:=l) (id:=d) (i:=i) h h2
  have hle:=ZJ l d
  have e0:(⟨0,0,[],[],0⟩:Upl)=upl0:=rfl
  simp only [e0]
  unfold ixU
  (repeat' (first|refine And.intro ?_ ?_|intro _))<;>first|omega|exact True.intro|exact False.elim ‹False›|skip
  all_goals first
    |(have h3:=hx (by omega);rw [if_pos (by assumption)] at h3;rw [if_pos (by omega),h3])
    |(have h3:=hx (by omega);rw [if_neg (by assumption)] at h3;exact hA (i+1) ⟨by omega,h3⟩ (by omega))
    |(rw [if_neg (by omega)])
def Qn (I:Alg) (args:List D) (hp:List HO):Option CT:=match args,hp with
  |[.v (.one (.p (.list .upl l))),.v (.one (.fn 98 [.ptr 0 0]))],[.pack [.obj 3 [(.p (.int .i64 d))]]]=>(fun(l:List Upl) (d:Int)=>(some (.one ⟨I.hid (l.length≤1000000),(.ret (.v (.one (.p (.int .i64 (I.hid ((ixU l d)))))))),[.pack [.obj 3 [(.p (.int .i64 d))]]]⟩):Option CT)) l d
  |_,_=>none
theorem zgs:zo Tryz.prog 97 (Qn alg):=by
  intro args hp r h
  unfold Qn at h
  split at h
  · cases h;exact fun hn=>znV _ _ hn
  · cases h
def XW:Know Tryz.prog:=⟨97,Qn,zgs⟩
def XV:Know Tryz.prog:=⟨97,fun I=>zq I (Qn I),zf zgs⟩
def Zb:Cfg:= { sl:=[⟨90,0,.upl,some 67⟩,⟨50,0,.upl,some 67⟩]}
theorem ZC {l:List Upl} {id:Int} (h:atU l id<l.length):ixU l id=(atU l id:Int):=by unfold ixU;rw [if_pos h]
theorem ZE {l:List Upl} {id:Int} (h: ¬ atU l id<l.length):ixU l id= -1:=by unfold ixU;rw [if_neg h]
theorem zn1 (l:List Upl) (n id:Int) (hneed:l.length≤1000000∧atU l id<l.length):Spc Tryz.prog 66 [.v (.one (.ptr 0 0)),.v (.one (.p (.int .i64 id)))] [.obj 90 [(.row 1),(.p (.int .i64 n))],.row .upl 67 l] (.ret (.tup [(.one (.ept .upl 1 ((atU l id:Int)) 0)),(.one (.p (.int .i64 0)))])) [.obj 90 [(.row 1),(.p (.int .i64 n))],.row .upl 67 l]:=by
  obtain⟨h1,h2⟩:=hneed
  refine spcG zi mixed Tryz.func66 (by kernel_rfl) { flat:=true,keep:=some [0,1,3,4,5,6]} [VA,zdE,XW,XV] (by kernel_rfl) ?_
  intro I X hI hX
  refine zh (let y0:HO:=.obj 90 [(.row 1),(.p (.int .i64 n))];.need (I.hid (α:=(Prop)) (LE.le (List.length l) 1000000)) (.br (I.ilt (I.hid (α:=Int) (ixU l id)) 0) (.fin (.ret (.tup [(.one (.p (.val (.pointer .none)))),(.one (.p (.int .i64 10)))])) [y0,(.row .upl 67 l)]) (.need (I.inb (I.hid (α:=Int) (ixU l id)) (I.len (α:=Upl) l)) (.fin (.ret (.tup [(.one (.ept .upl 1 (I.hid (α:=Int) (ixU l id)) 0)),(.one (.p (.int .i64 0)))])) [y0,(.row .upl 67 l)])))) (by kernel_rfl) ?_
  simp only [zk]
  subst hI
  simp only [nrmA,nrmB,ZC h2]
  (repeat' (first|refine And.intro ?_ ?_|intro _))<;>first|omega|exact True.intro|exact False.elim ‹False›|skip
theorem zn0 (l:List Upl) (n id:Int) (hneed:l.length≤1000000∧¬ atU l id<l.length):Spc Tryz.prog 66 [.v (.one (.ptr 0 0)),.v (.one (.p (.int .i64 id)))] [.obj 90 [(.row 1),(.p (.int .i64 n))],.row .upl 67 l] (.ret (.tup [(.one (.p (.val (.pointer none)))),(.one (.p (.int .i64 10)))])) [.obj 90 [(.row 1),(.p (.int .i64 n))],.row .upl 67 l]:=by
  obtain⟨h1,h2⟩:=hneed
  refine spcG zi mixed Tryz.func66 (by kernel_rfl) { flat:=true,keep:=some [0,1,3,4,5,6]} [VA,zdE,XW,XV] (by kernel_rfl) ?_
  intro I X hI hX
  refine zh (let y0:HO:=.obj 90 [(.row 1),(.p (.int .i64 n))];.need (I.hid (α:=(Prop)) (LE.le (List.length l) 1000000)) (.br (I.ilt (I.hid (α:=Int) (ixU l id)) 0) (.fin (.ret (.tup [(.one (.p (.val (.pointer .none)))),(.one (.p (.int .i64 10)))])) [y0,(.row .upl 67 l)]) (.need (I.inb (I.hid (α:=Int) (ixU l id)) (I.len (α:=Upl) l)) (.fin (.ret (.tup [(.one (.ept .upl 1 (I.hid (α:=Int) (ixU l id)) 0)),(.one (.p (.int .i64 0)))])) [y0,(.row .upl 67 l)])))) (by kernel_rfl) ?_
  simp only [zk]
  subst hI
  simp only [nrmA,nrmB,ZE h2]
  (repeat' (first|refine And.intro ?_ ?_|intro _))<;>first|omega|exact True.intro|exact False.elim ‹False›|skip
def zdX (I:Alg) (args:List D) (hp:List HO):Option CT:=match args,hp with
  |[.v (.one (.ptr 0 0)),.v (.one (.p (.int .i64 id)))],[.obj 90 [(.row 1),(.p (.int .i64 n))],.row .upl 67 l]=>(fun(l:List Upl) (n id:Int)=>(some (.br (I.hid (decide (atU l id<l.length))) (.one ⟨I.hid (l.length≤1000000∧atU l id<l.length),(.ret (.tup [(.one (.ept .upl 1 (I.hid ((atU l id:Int))) 0)),(.one (.p (.int .i64 0)))])),[.obj 90 [(.row 1),(.p (.int .i64 n))],.row .upl 67 l]⟩) (.one ⟨I.hid (l.length≤1000000∧¬ atU l id<l.length),(.ret (.tup [(.one (.p (.val (.pointer none)))),(.one (.p (.int .i64 10)))])),[.obj 90 [(.row 1),(.p (.int .i64 n))],.row .upl 67 l]⟩)):Option CT)) l n id
  |_,_=>none
theorem zj8:zo Tryz.prog 66 (zdX alg):=by
  intro args hp r h
  unfold zdX at h
  split at h
  · cases h;exact⟨fun _ hn=>zn1 _ _ _ hn,fun _ hn=>zn0 _ _ _ hn⟩
  · cases h
def SQ:Know Tryz.prog:=⟨66,zdX,zj8⟩
def SN:Know Tryz.prog:=⟨66,fun I=>zq I (zdX I),zf zj8⟩
theorem zgG (l:List Upl) (n:Int) (hneed:yI l≤1000000∧l.length≤1000000):Spc Tryz.prog 103 [.v (.one (.ptr 0 0))] [.obj 90 [(.row 1),(.p (.int .i64 n))],.row .upl 67 l] (.ret (.v (.one (.p (.int .i64 ((yI l))))))) [.obj 90 [(.row 1),(.p (.int .i64 n))],.row .upl 67 l]:=by
  obtain⟨hu,hl⟩:=hneed
  refine spcG zi mixed Tryz.func103 (by kernel_rfl) { flat:=true,keep:=some [0,2,3,5,9,10,11]} [] (by kernel_rfl) ?_
  intro I X hI hX
  refine zh (.code 0 [1,1,0,1,0] ⟨[(11,(.v (.one (.p (.int .i64 0))))),(10,(.v (.one (.p (.int .i64 (I.len (α:=Upl) l)))))),(9,(.v (.one (.row 1)))),(3,(.v (.one (.p (.int .i64 0))))),(2,(.v (.one (.p (.int .i64 0))))),(0,(.v (.one (.ptr 0 0))))],[(.obj 90 [(.row 1),(.p (.int .i64 n))]),(.row .upl 67 l)],22,none⟩) (by kernel_rfl) ?_
  simp only [zk]
  refine zG hI zi mixed [] hX [0,3,9,10,11] (fun(g:Nat × Int)=>match g with|(i,a)=>i≤l.length∧0≤a∧a+yI (l.drop i)=yI l) (fun(g:Nat × Int)=>match g with|(i,a)=>⟨[(0,.v (.one (.ptr 0 0))),(3,.v (.one (.p (.int .i64 a)))),(9,.v (.one (.row 1))),(10,.v (.one (.p (.int .i64 ((I.len (α:=Upl) l)))))),(11,.v (.one (.p (.int .i64 i))))],[.obj 90 [(.row 1),(.p (.int .i64 n))],.row .upl 67 l],22,none⟩) (fun(g:Nat × Int)=>match g with|(i,a)=>l.length - i) (0,0) (by kernel_rfl) (by kernel_rfl) ?_ ?_
  · exact⟨Nat.zero_le _,Int.le_refl _,by simp⟩
  rintro⟨i,a⟩ ⟨h1,h2,h3⟩ A hA
  simp only at hA
  refine zh (let y0:=I.add a (I.len (α:=UInt8) (Upl.bytes (I.get (α:=Upl) l (Upl.mk (0:Int) (0:Int) ([]:Str) ([]:Str) (0:Int)) (Nat.cast i))));let y1:=I.inb (Nat.cast i) (I.len (α:=Upl) l);let y2:HO:=.obj 90 [(.row 1),(.p (.int .i64 n))];.br (I.ilt (Nat.cast i) (I.len (α:=Upl) l)) (.need y1 (.need y1 (.need (I.inr Go.IntKind.i64 y0) (.need (I.inr Go.IntKind.i64 (I.add (Nat.cast i) 1)) (.need (A ⟨[(0,(.v (.one (.ptr 0 0)))),(3,(.v (.one (.p (.int .i64 y0))))),(9,(.v (.one (.row 1)))),(10,(.v (.one (.p (.int .i64 (I.len (α:=Upl) l)))))),(11,(.v (.one (.p (.int .i64 (I.add (Nat.cast i) 1))))))],[y2,(.row .upl 67 l)],22,none⟩) .qed))))) (.fin (.ret (.v (.one (.p (.int .i64 a))))) [y2,(.row .upl 67 l)])) (by kernel_rfl) ?_
  simp only [zk]
  subst hI
  simp only [nrmA,nrmB]
  have hd:i<l.length→yI (l.drop i)=(l.getD i ⟨0,0,[],[],0⟩).bytes.length+yI (l.drop (i+1)):=fun h=>by
    rw [List.drop_eq_getElem_cons h];simp [yI,h]
  have hn:=uq (l.drop (i+1))
  have hn0: ¬ i<l.length→yI (l.drop i)=0:=fun h=>by rw [List.drop_of_length_le (by omega)];rfl
  generalize l.getD i ⟨0,0,[],[],0⟩=x at *
  (repeat' (first|refine And.intro ?_ ?_|intro _))<;>first|omega|exact True.intro|exact False.elim ‹False›|skip
  all_goals first
    |(have:=hd (by omega);omega)
    |(have:=hd (by omega);refine hA (i+1,_) ⟨by simp only;omega,by simp only;omega,by simp only;omega⟩ (by simp only;omega))
    |(have:=hn0 (by omega);simp only [show a=yI l by omega])
def Xe (I:Alg) (args:List D) (hp:List HO):Option CT:=match args,hp with
  |[.v (.one (.ptr 0 0))],[.obj 90 [(.row 1),(.p (.int .i64 n))],.row .upl 67 l]=>(fun(l:List Upl) (n:Int)=>(some (.one ⟨I.hid (yI l≤1000000∧l.length≤1000000),(.ret (.v (.one (.p (.int .i64 (I.hid ((yI l)))))))),[.obj 90 [(.row 1),(.p (.int .i64 n))],.row .upl 67 l]⟩):Option CT)) l n
  |_,_=>none
theorem za8:zo Tryz.prog 103 (Xe alg):=by
  intro args hp r h
  unfold Xe at h
  split at h
  · cases h;exact fun hn=>zgG _ _ hn
  · cases h
def zgF:Know Tryz.prog:=⟨103,Xe,za8⟩
def zgE:Know Tryz.prog:=⟨103,fun I=>zq I (Xe I),zf za8⟩
theorem zmF (l:List Upl) (n:Int) (hneed:yI l≤1000000∧l.length≤1000000):Spc Tryz.prog 103 [.v (.one (.ptr 0 0))] [.pack [.obj 90 [(.row 1),(.p (.int .i64 n))],.row .upl 67 l]] (.ret (.v (.one (.p (.int .i64 ((yI l))))))) [.pack [.obj 90 [(.row 1),(.p (.int .i64 n))],.row .upl 67 l]]:=
  Spc.packed (ex:=[]) (zgG l n hneed) rfl (by simp) rfl
def VO (I:Alg) (args:List D) (hp:List HO):Option CT:=match args,hp with
  |[.v (.one (.ptr 0 0))],[.pack [.obj 90 [(.row 1),(.p (.int .i64 n))],.row .upl 67 l]]=>(fun(l:List Upl) (n:Int)=>(some (.one ⟨I.hid (yI l≤1000000∧l.length≤1000000),(.ret (.v (.one (.p (.int .i64 (I.hid ((yI l)))))))),[.pack [.obj 90 [(.row 1),(.p (.int .i64 n))],.row .upl 67 l]]⟩):Option CT)) l n
  |_,_=>none
theorem zdR:zo Tryz.prog 103 (VO alg):=by
  intro args hp r h
  unfold VO at h
  split at h
  · cases h;exact fun hn=>zmF _ _ hn
  · cases h
def zi7:Know Tryz.prog:=⟨103,VO,zdR⟩
def zi6:Know Tryz.prog:=⟨103,fun I=>zq I (VO I),zf zdR⟩
theorem zon (n:Int) (hneed:0≤n∧n≤1000000):Spc Tryz.prog 132 [.v (.one .nilS),.v (.one (.p (.int .i64 n)))] [] (.ret (.v (.one (.row 0)))) [.row .byte 5 ([])]:=by
  refine spcG zi mixed Tryz.func132 (by kernel_rfl) { cut:=[0],keep:=some [0,1,4]} [] (by kernel_rfl) ?_
  intro I X hI hX
  refine zh (let y0:=I.rep (α:=UInt8) (I.sub n (I.sub 0 0)) (I.i2b 0);.br (I.ilt n 0) (.fin (.pan (.ifc 9 .false [(.str ([99,97,110,110,111,116,32,98,101,32,110,101,103,97,116,105,118,101]:Str))])) []) (.need (I.inr Go.IntKind.i64 (I.sub 0 0)) (.need (I.inr Go.IntKind.i64 (I.sub n (I.sub 0 0))) (.br (I.ilt 0 (I.sub n (I.sub 0 0))) (.need (I.cutb 0 0 0) (.need (I.inr Go.IntKind.u8 0) (.need (I.nng (I.sub n (I.sub 0 0))) (.need (I.few (I.sub n (I.sub 0 0)) 1000000) (.need (I.cutb 0 0 (I.len (α:=UInt8) y0)) (.need (I.same (α:=Int) 0 0) (.fin (.ret (.v (.one (.row 0)))) [(.row .byte 5 (I.cut (α:=UInt8) y0 0 0))]))))))) (.fin (.ret (.v (.one (.row 0)))) [(.row .byte 5 ([]:Str))]))))) (by kernel_rfl) ?_
  simp only [zk]
  subst hI
  simp only [nrmA,nrmB,nrlB,reduceCtorEq]
  simp only [List.length_replicate,List.take_zero]
  (repeat' (first|refine And.intro ?_ ?_|intro _))<;>first|omega|exact True.intro|exact False.elim ‹False›|skip
  all_goals trivial
def zak (I:Alg) (args:List D) (hp:List HO):Option CT:=match args,hp with
  |[.v (.one .nilS),.v (.one (.p (.int .i64 n)))],[]=>(fun(n:Int)=>(some (.one ⟨I.hid (0≤n∧n≤1000000),(.ret (.v (.one (.row 0)))),[.row .byte 5 (I.hid ([]))]⟩):Option CT)) n
  |_,_=>none
theorem zhH:zo Tryz.prog 132 (zak alg):=by
  intro args hp r h
  unfold zak at h
  split at h
  · cases h;exact fun hn=>zon _ hn
  · cases h
def zcT:Know Tryz.prog:=⟨132,zak,zhH⟩
def zcS:Know Tryz.prog:=⟨132,fun I=>zq I (zak I),zf zhH⟩
theorem zbV {ls:List Str} {i:Nat} (h:i<ls.length):(ls.take (i+1)).flatten=(ls.take i).flatten++ls.getD i []:=by
  rw [List.take_succ_eq_append_getElem h,List.flatten_append];simp [h]
theorem zan (ls:List Str) (i:Nat):(ls.take i).flatten.length≤ls.flatten.length:=by
  have:=congrArg (fun l:List Str=>l.flatten.length) (List.take_append_drop i ls)
  simp only [List.flatten_append,List.length_append] at this
  omega
theorem zlY (ls:List Str) (hneed:ls.flatten.length≤1000000∧ls.length≤1000):Spc Tryz.prog 104 [.v (.one (.p (.list .bytes ls)))] [] (.ret (.v (.one (.row 0)))) [.row .byte 5 ls.flatten]:=by
  obtain⟨hl,hk⟩:=hneed
  refine spcG zi mixed Tryz.func104 (by kernel_rfl) { nils:=[132],keep:=some [0,2,3,5,6,8,9,10,11,25,26,27]} [zcT,zcS] (by kernel_rfl) ?_
  intro I X hI hX
  refine zh (.code 0 [1,1,0,1,0] ⟨[(11,(.v (.one (.p (.int .i64 0))))),(10,(.v (.one (.p (.int .i64 (I.len (α:=Str) ls)))))),(9,(.v (.one (.p (.list .bytes ls))))),(3,(.v (.one (.p (.int .i64 0))))),(2,(.v (.one .nilS))),(0,(.v (.one (.p (.list .bytes ls)))))],[],36,none⟩) (by kernel_rfl) ?_
  simp only [zk]
  refine zG hI zi mixed [zcT,zcS] hX [0,3,9,10,11] (fun(g:Nat × Int)=>match g with|(i,a)=>i≤ls.length∧a=(ls.take i).flatten.length) (fun(g:Nat × Int)=>match g with|(i,a)=>⟨[(0,.v (.one (.p (.list .bytes ls)))),(3,.v (.one (.p (.int .i64 a)))),(9,.v (.one (.p (.list .bytes ls)))),(10,.v (.one (.p (.int .i64 ((I.len (α:=List UInt8) ls)))))),(11,.v (.one (.p (.int .i64 i))))],[],36,none⟩) (fun(g:Nat × Int)=>match g with|(i,a)=>ls.length - i) (0,0) (by kernel_rfl) (by kernel_rfl) ?_ ?_
  · exact⟨Nat.zero_le _,by simp⟩
  rintro⟨i,a⟩ ⟨h1,h2⟩ A hA
  simp only at hA
  refine zh (let y0:=I.add a (I.len (α:=UInt8) (I.get (α:=Str) ls ([]:Str) (Nat.cast i)));let y1:=I.inb (Nat.cast i) (I.len (α:=Str) ls);.br (I.ilt (Nat.cast i) (I.len (α:=Str) ls)) (.need y1 (.need y1 (.need (I.inr Go.IntKind.i64 y0) (.br (I.ilt y0 0) (.fin (.pan (.ifc 9 .false [(.str ([108,101,110,32,111,117,116,32,111,102,32,114,97,110,103,101]:Str))])) []) (.need (I.inr Go.IntKind.i64 (I.add (Nat.cast i) 1)) (.need (A ⟨[(0,(.v (.one (.p (.list .bytes ls))))),(3,(.v (.one (.p (.int .i64 y0))))),(9,(.v (.one (.p (.list .bytes ls))))),(10,(.v (.one (.p (.int .i64 (I.len (α:=Str) ls)))))),(11,(.v (.one (.p (.int .i64 (I.add (Nat.cast i) 1))))))],[],36,none⟩) .qed)))))) (.need (I.hid (α:=(Prop)) (And (LE.le (0:Int) a) (LE.le a (1000000:Int)))) (.code 1 [1,1,1,1,0,1,0] ⟨[(27,(.v (.one (.p (.int .i64 0))))),(26,(.v (.one (.p (.int .i64 (I.len (α:=Str) ls)))))),(25,(.v (.one (.p (.list .bytes ls))))),(6,(.v (.one (.row 0)))),(0,(.v (.one (.p (.list .bytes ls))))),(3,(.v (.one (.p (.int .i64 a))))),(9,(.v (.one (.p (.list .bytes ls))))),(10,(.v (.one (.p (.int .i64 (I.len (α:=Str) ls)))))),(11,(.v (.one (.p (.int .i64 (Nat.cast i))))))],[(.row .byte 5 (I.hid (α:=Str) ([]:Str)))],36,none⟩))) (by kernel_rfl) ?_
  simp only [zk]
  have hx:i<ls.length→_:=zbV (ls:=ls) (i:=i)
  have hy:=zan ls (i+1)
  have hz:=zan ls i
  refine⟨fun c1=> ?_,fun c1=>⟨?_,?_⟩⟩
  · subst hI
    simp only [nrmA,nrmB] at c1
    simp only [nrmA,nrmB]
    have hx:=congrArg List.length (hx (by omega))
    rw [List.length_append] at hx
    generalize ls.getD i []=x at *
    (repeat' (first|refine And.intro ?_ ?_|intro _))<;>first|omega|exact True.intro|exact False.elim ‹False›|skip
    exact hA (i+1,_) ⟨by simp only;omega,by simp only;omega⟩ (by simp only;omega)
  · subst hI
    simp only [nrmA,nrmB]
    omega
  · have hi:i=ls.length:=by
      subst hI
      simp only [nrmA,nrmB] at c1
      omega
    have hil:(I.hid ([]:Str))=[]:=by subst hI;rfl
    rw [hil]
    refine zG hI zi mixed [zcT,zcS] hX [6,25,26,27] (fun(g:Nat × Str)=>match g with|(j,o)=>j≤ls.length∧o=(ls.take j).flatten) (fun(g:Nat × Str)=>match g with|(j,o)=>⟨[(6,.v (.one (.row 0))),(25,.v (.one (.p (.list .bytes ls)))),(26,.v (.one (.p (.int .i64 ((I.len (α:=List UInt8) ls)))))),(27,.v (.one (.p (.int .i64 j))))],[.row .byte 5 o],36,none⟩) (fun(g:Nat × Str)=>match g with|(j,o)=>ls.length - j) (0,[]) (by kernel_rfl) (by kernel_rfl) ?_ ?_
    · exact⟨Nat.zero_le _,rfl⟩
    rintro⟨j,o⟩ ⟨k1,k2⟩ B hB
    simp only at hB
    refine zh (let y0:=I.get (α:=Str) ls ([]:Str) (Nat.cast j);let y1:=I.inb (Nat.cast j) (I.len (α:=Str) ls);.br (I.ilt (Nat.cast j) (I.len (α:=Str) ls)) (.need y1 (.need y1 (.need (I.few (I.add (I.len (α:=UInt8) o) (I.len (α:=UInt8) y0)) 140737488355328) (.need (I.inr Go.IntKind.i64 (I.add (Nat.cast j) 1)) (.need (B ⟨[(6,(.v (.one (.row 0)))),(25,(.v (.one (.p (.list .bytes ls))))),(26,(.v (.one (.p (.int .i64 (I.len (α:=Str) ls)))))),(27,(.v (.one (.p (.int .i64 (I.add (Nat.cast j) 1))))))],[(.row .byte 5 (I.app (α:=UInt8) o y0))],36,none⟩) .qed))))) (.fin (.ret (.v (.one (.row 0)))) [(.row .byte 5 o)])) (by kernel_rfl) ?_
    simp only [zk]
    subst hI
    simp only [nrmA,nrmB,nrlB,reduceCtorEq]
    have hx:j<ls.length→_:=zbV (ls:=ls) (i:=j)
    have hy:=zan ls (j+1)
    have hz:=zan ls j
    have hw: ¬ j<ls.length→o=ls.flatten:=fun h=>by rw [k2,List.take_of_length_le (by omega)]
    rw [k2] at hw ⊢
    refine⟨fun c=> ?_,fun c=>hw (by omega)⟩
    have hx:=hx (by omega)
    rw [← hx]
    have hx2:=congrArg List.length hx
    rw [List.length_append] at hx2
    generalize ls.getD j []=x at *
    (repeat' (first|refine And.intro ?_ ?_|intro _))<;>first|omega|exact True.intro|exact False.elim ‹False›|skip
    exact hB (j+1,(ls.take (j+1)).flatten) ⟨by simp only;omega,rfl⟩ (by simp only;omega)
def XI (I:Alg) (args:List D) (hp:List HO):Option CT:=match args,hp with
  |[.v (.one (.p (.list .bytes ls)))],[]=>(fun(ls:List Str)=>(some (.one ⟨I.hid (ls.flatten.length≤1000000∧ls.length≤1000),(.ret (.v (.one (.row 0)))),[.row .byte 5 ls.flatten]⟩):Option CT)) ls
  |_,_=>none
theorem zb3:zo Tryz.prog 104 (XI alg):=by
  intro args hp r h
  unfold XI at h
  split at h
  · cases h;exact fun hn=>zlY _ hn
  · cases h
def zib:Know Tryz.prog:=⟨104,XI,zb3⟩
def zia:Know Tryz.prog:=⟨104,fun I=>zq I (XI I),zf zb3⟩
theorem vN {l:List Upl} {n:Int} (h:zu l n):l.length≤1000000∧yI l≤1000000:=by
  have:=h.cnt;have:=h.tot;omega
theorem zjc (l:List Upl) (n size:Int) (m:Str) (hneed:zu l n∧n≤1000000∧m.length≤1000000):Spc Tryz.prog 71 [.v (.one (.ptr 0 0)),.v (.one (.p (.int .i64 size))),.v (.one (.p (.str m)))] [.pack [.obj 90 [(.row 1),(.p (.int .i64 n))],.row .upl 67 l]] (.ret (.tup [(.one (.p (.int .i64 ((creI l n size m))))),(.one (.p (.int .i64 ((creC l size m)))))])) [.pack [.obj 90 [(.row 1),(.p (.int .i64 ((creN l n size m))))],.row .upl 67 ((creL l n size m))]]:=by
  obtain⟨hs,hn,hm⟩:=hneed
  have hc:=hs.cnt
  have h0:=hs.n0
  generalize hi:creI l n size m=ri
  generalize he:creC l size m=re
  generalize hl:creL l n size m=rl
  generalize hN:creN l n size m=rn
  refine spcG zi mixed Tryz.func71 (by kernel_rfl) { Zb with keep:=some [0,1,2,6,7]} [WV,WU,zjS,zjR] (by kernel_rfl) ?_
  intro I X hI hX
  refine zh (let y0:HO:=.pack [(.obj 90 [(.row 1),(.p (.int .i64 n))]),(.row .upl 67 l)];let y1:HO:=.pack [(.obj 90 [(.row 1),(.p (.int .i64 (I.add n 1)))]),(.row .upl 67 (I.app (α:=Upl) l ([(Upl.mk (I.add n 1) size m ([]:Str) (0:Int))]:List Upl)))];let y2:=I.few (I.add (I.len (α:=Upl) l) (I.len (α:=Upl) ([(Upl.mk (I.add n 1) size m ([]:Str) (0:Int))]:List Upl))) 100000000;.br (I.ilt size (Neg.neg (1:Int))) (.fin (.ret (.tup [(.one (.p (.int .i64 0))),(.one (.p (.int .i64 1)))])) [y0]) (.br (I.ilt 2000 size) (.fin (.ret (.tup [(.one (.p (.int .i64 0))),(.one (.p (.int .i64 4)))])) [y0]) (.br (I.ilt 100 (I.len (α:=UInt8) m)) (.fin (.ret (.tup [(.one (.p (.int .i64 0))),(.one (.p (.int .i64 4)))])) [y0]) (.need (I.hid (α:=(Prop)) (LE.le (List.length m) 1000000)) (.br (I.bnot (I.hid (α:=Bool) (tZ m))) (.fin (.ret (.tup [(.one (.p (.int .i64 0))),(.one (.p (.int .i64 3)))])) [y0]) (.need (I.hid (α:=(Prop)) True) (.br (I.bnot (I.seq (I.hid (α:=Str) (Go.Lib.trimS m ([32,9]:Str))) m)) (.fin (.ret (.tup [(.one (.p (.int .i64 0))),(.one (.p (.int .i64 3)))])) [y0]) (.br (I.ieq (I.len (α:=Upl) l) 12) (.fin (.ret (.tup [(.one (.p (.int .i64 0))),(.one (.p (.int .i64 8)))])) [y0]) (.need (I.inr Go.IntKind.i64 (I.add n 1)) (.both (.need y2 (.fin (.ret (.tup [(.one (.p (.int .i64 (I.add n 1)))),(.one (.p (.int .i64 0)))])) [y1])) (.both (.need y2 (.fin (.ret (.tup [(.one (.p (.int .i64 (I.add n 1)))),(.one (.p (.int .i64 0)))])) [y1])) (.need y2 (.fin (.ret (.tup [(.one (.p (.int .i64 (I.add n 1)))),(.one (.p (.int .i64 0)))])) [y1]))))))))))))) (by kernel_rfl) ?_
  simp only [zk]
  subst hI
  simp only [nrmA,nrmB,nrlB,reduceCtorEq,HO.pack.injEq,HO.obj.injEq]
  unfold creI at hi
  unfold creL at hl
  unfold creN at hN
  rw [he] at hi hl hN
  unfold creC at he
  simp only [List.length_cons,List.length_nil]
  (repeat' (first|refine And.intro ?_ ?_|intro _))<;>first|omega|exact True.intro|exact False.elim ‹False›|skip
  all_goals((repeat(first|rewrite [if_pos (by first|omega|assumption|(simp only [*,or_self,or_true,true_or,or_false,false_or,not_true_eq_false,not_false_eq_true,Bool.false_eq_true,Bool.true_eq_false,and_self,and_true,true_and];done)|(simp only [*];omega)|(simp [*];done)|(simp [*];omega))] at he|rewrite [if_neg (by first|omega|assumption|(simp only [*,or_self,or_true,true_or,or_false,false_or,not_true_eq_false,not_false_eq_true,Bool.false_eq_true,Bool.true_eq_false,and_self,and_true,true_and];done)|(simp only [*];omega)|(simp [*];done)|(simp [*];omega))] at he));subst he;((repeat(first|rewrite [if_pos (by first|omega|assumption|(simp only [*,or_self,or_true,true_or,or_false,false_or,not_true_eq_false,not_false_eq_true,Bool.false_eq_true,Bool.true_eq_false,and_self,and_true,true_and];done)|(simp only [*];omega)|(simp [*];done)|(simp [*];omega))] at hi|rewrite [if_neg (by first|omega|assumption|(simp only [*,or_self,or_true,true_or,or_false,false_or,not_true_eq_false,not_false_eq_true,Bool.false_eq_true,Bool.true_eq_false,and_self,and_true,true_and];done)|(simp only [*];omega)|(simp [*];done)|(simp [*];omega))] at hi)));((repeat(first|rewrite [if_pos (by first|omega|assumption|(simp only [*,or_self,or_true,true_or,or_false,false_or,not_true_eq_false,not_false_eq_true,Bool.false_eq_true,Bool.true_eq_false,and_self,and_true,true_and];done)|(simp only [*];omega)|(simp [*];done)|(simp [*];omega))] at hl|rewrite [if_neg (by first|omega|assumption|(simp only [*,or_self,or_true,true_or,or_false,false_or,not_true_eq_false,not_false_eq_true,Bool.false_eq_true,Bool.true_eq_false,and_self,and_true,true_and];done)|(simp only [*];omega)|(simp [*];done)|(simp [*];omega))] at hl)));((repeat(first|rewrite [if_pos (by first|omega|assumption|(simp only [*,or_self,or_true,true_or,or_false,false_or,not_true_eq_false,not_false_eq_true,Bool.false_eq_true,Bool.true_eq_false,and_self,and_true,true_and];done)|(simp only [*];omega)|(simp [*];done)|(simp [*];omega))] at hN|rewrite [if_neg (by first|omega|assumption|(simp only [*,or_self,or_true,true_or,or_false,false_or,not_true_eq_false,not_false_eq_true,Bool.false_eq_true,Bool.true_eq_false,and_self,and_true,true_and];done)|(simp only [*];omega)|(simp [*];done)|(simp [*];omega))] at hN)));subst hi;subst hl;subst hN;first|rfl|omega)
def ZY (I:Alg) (args:List D) (hp:List HO):Option CT:=match args,hp with
  |[.v (.one (.ptr 0 0)),.v (.one (.p (.int .i64 size))),.v (.one (.p (.str m)))],[.pack [.obj 90 [(.row 1),(.p (.int .i64 n))],.row .upl 67 l]]=>(fun(l:List Upl) (n size:Int) (m:Str)=>(some (.one ⟨I.hid (zu l n∧n≤1000000∧m.length≤1000000),(.ret (.tup [(.one (.p (.int .i64 (I.hid ((creI l n size m)))))),(.one (.p (.int .i64 (I.hid ((creC l size m))))))])),[.pack [.obj 90 [(.row 1),(.p (.int .i64 (I.hid ((creN l n size m)))))],.row .upl 67 (I.hid ((creL l n size m)))]]⟩):Option CT)) l n size m
  |_,_=>none
theorem SL:zo Tryz.prog 71 (ZY alg):=by
  intro args hp r h
  unfold ZY at h
  split at h
  · cases h;exact fun hn=>zjc _ _ _ _ hn
  · cases h
def zfm:Know Tryz.prog:=⟨71,ZY,SL⟩
def zfl:Know Tryz.prog:=⟨71,fun I=>zq I (ZY I),zf SL⟩
theorem zjf (l:List Upl) (n id off:Int) (b:Str) (hneed:zu l n∧b.length≤1000000):Spc Tryz.prog 72 [.v (.one (.ptr 0 0)),.v (.one (.p (.int .i64 id))),.v (.one (.p (.int .i64 off))),.v (.one (.p (.list .byte b)))] [.pack [.obj 90 [(.row 1),(.p (.int .i64 n))],.row .upl 67 l]] (.ret (.v (.one (.p (.int .i64 ((appC l id off b))))))) [.pack [.obj 90 [(.row 1),(.p (.int .i64 n))],.row .upl 67 ((appL l id off b))]]:=by
  obtain⟨hs,hb⟩:=hneed
  have hf:=vN hs
  generalize he:appC l id off b=re
  generalize hl:appL l id off b=rl
  refine spcG zi mixed Tryz.func72 (by kernel_rfl) { Zb with bare:=[66,103],keep:=some [0,1,2,3,8,9,10,11]} [SQ,SN,zgF,zgE,zi7,zi6,zib,zia] (by kernel_rfl) ?_
  intro I X hI hX
  refine zh (let y0:=I.get (α:=Upl) l (Upl.mk (0:Int) (0:Int) ([]:Str) ([]:Str) (0:Int)) (I.hid (α:=Int) (Nat.cast (atU l id)));let y1:=I.inb (I.hid (α:=Int) (Nat.cast (atU l id))) (I.len (α:=Upl) l);let y2:HO:=.pack [(.obj 90 [(.row 1),(.p (.int .i64 n))]),(.row .upl 67 l)];let y3:HO:=.pack [(.obj 90 [(.row 1),(.p (.int .i64 n))]),(.row .upl 67 (I.set (α:=Upl) l (I.hid (α:=Int) (Nat.cast (atU l id))) (Upl.mk (Upl.id y0) (Upl.size y0) (Upl.note y0) (List.flatten ([(Upl.bytes y0),b]:List (Str))) (Upl.sent y0))))];let y4:=I.hid (α:=(Prop)) (And (LE.le (List.length (List.flatten ([(Upl.bytes y0),b]:List (Str)))) 1000000) (LE.le (List.length ([(Upl.bytes y0),b]:List (Str))) 1000));let y5:=I.len (α:=UInt8) (Upl.bytes y0);let y6:=I.sub 6000 (I.hid (α:=Int) (yI l));let y7:=I.hid (α:=(Prop)) (And (LE.le (yI l) (1000000:Int)) (LE.le (List.length l) 1000000));.br (I.hid (α:=Bool) (Decidable.decide (LT.lt (atU l id) (List.length l)))) (.need (I.hid (α:=(Prop)) (And (LE.le (List.length l) 1000000) (LT.lt (atU l id) (List.length l)))) (.br (I.bnot (I.ieq 0 0)) (.fin (.ret (.v (.one (.p (.int .i64 0))))) [y2]) (.need y1 (.br (I.bnot (I.ieq (Upl.sent y0) 0)) (.fin (.ret (.v (.one (.p (.int .i64 19))))) [y2]) (.need y1 (.br (I.bnot (I.ieq off y5)) (.fin (.ret (.v (.one (.p (.int .i64 17))))) [y2]) (.need y1 (.need (I.inr Go.IntKind.i64 (I.sub 2000 y5)) (.br (I.ilt (I.sub 2000 y5) (I.len (α:=UInt8) b)) (.fin (.ret (.v (.one (.p (.int .i64 4))))) [y2]) (.need y1 (.br (I.ile 0 (Upl.size y0)) (.need y1 (.need y1 (.need (I.inr Go.IntKind.i64 (I.sub (Upl.size y0) y5)) (.br (I.ilt (I.sub (Upl.size y0) y5) (I.len (α:=UInt8) b)) (.fin (.ret (.v (.one (.p (.int .i64 4))))) [y2]) (.need y7 (.need (I.inr Go.IntKind.i64 y6) (.br (I.ilt y6 (I.len (α:=UInt8) b)) (.fin (.ret (.v (.one (.p (.int .i64 16))))) [y2]) (.need y1 (.need y4 (.need y1 (.fin (.ret (.v (.one (.p (.int .i64 0))))) [y3]))))))))))) (.need y7 (.need (I.inr Go.IntKind.i64 y6) (.br (I.ilt y6 (I.len (α:=UInt8) b)) (.fin (.ret (.v (.one (.p (.int .i64 16))))) [y2]) (.need y1 (.need y4 (.need y1 (.fin (.ret (.v (.one (.p (.int .i64 0))))) [y3])))))))))))))))))) (.need (I.hid (α:=(Prop)) (And (LE.le (List.length l) 1000000) (Not (LT.lt (atU l id) (List.length l))))) (.br (I.bnot (I.ieq 10 0)) (.fin (.ret (.v (.one (.p (.int .i64 10))))) [y2]) (.stop 0)))) (by kernel_rfl) ?_
  simp only [zk]
  subst hI
  simp only [nrmA,nrmB,nrlB,reduceCtorEq,HO.pack.injEq,HO.obj.injEq]
  unfold appL at hl
  rw [he] at hl
  unfold appC at he
  unfold yJ upl0 at he hl
  simp only [List.flatten_cons,List.flatten_nil,List.append_nil,List.length_append,List.length_cons,List.length_nil]
  have hx:atU l id<l.length→_:=fun h=>hs.each _ (vG h)
  unfold yJ upl0 at hx
  generalize l.getD (atU l id) ⟨0,0,[],[],0⟩=x at *
  have hu0:=uq l
  have hb1:=fun h=>(hx h).bl
  have hb2:=fun h=>(hx h).s1
  have hb3:=fun h=>(hx h).s2
  (repeat' (first|refine And.intro ?_ ?_|intro _))<;>first|omega|exact True.intro|exact False.elim ‹False›|skip
  all_goals first
    |(have:=hb1 (by omega);have:=hb2 (by omega);have:=hb3 (by omega);omega)
    |exact hf.1
    |exact hf.2
    |((repeat(first|rewrite [if_pos (by first|omega|assumption|(simp only [*,or_self,or_true,true_or,or_false,false_or,not_true_eq_false,not_false_eq_true,Bool.false_eq_true,Bool.true_eq_false,and_self,and_true,true_and];done)|(simp only [*];omega)|(simp [*];done)|(simp [*];omega))] at he|rewrite [if_neg (by first|omega|assumption|(simp only [*,or_self,or_true,true_or,or_false,false_or,not_true_eq_false,not_false_eq_true,Bool.false_eq_true,Bool.true_eq_false,and_self,and_true,true_and];done)|(simp only [*];omega)|(simp [*];done)|(simp [*];omega))] at he));subst he;((repeat(first|rewrite [if_pos (by first|omega|assumption|(simp only [*,or_self,or_true,true_or,or_false,false_or,not_true_eq_false,not_false_eq_true,Bool.false_eq_true,Bool.true_eq_false,and_self,and_true,true_and];done)|(simp only [*];omega)|(simp [*];done)|(simp [*];omega))] at hl|rewrite [if_neg (by first|omega|assumption|(simp only [*,or_self,or_true,true_or,or_false,false_or,not_true_eq_false,not_false_eq_true,Bool.false_eq_true,Bool.true_eq_false,and_self,and_true,true_and];done)|(simp only [*];omega)|(simp [*];done)|(simp [*];omega))] at hl)));subst hl;first|rfl|omega)
def Z4 (I:Alg) (args:List D) (hp:List HO):Option CT:=match args,hp with
  |[.v (.one (.ptr 0 0)),.v (.one (.p (.int .i64 id))),.v (.one (.p (.int .i64 off))),.v (.one (.p (.list .byte b)))],[.pack [.obj 90 [(.row 1),(.p (.int .i64 n))],.row .upl 67 l]]=>(fun(l:List Upl) (n id off:Int) (b:Str)=>(some (.one ⟨I.hid (zu l n∧b.length≤1000000),(.ret (.v (.one (.p (.int .i64 (I.hid ((appC l id off b)))))))),[.pack [.obj 90 [(.row 1),(.p (.int .i64 n))],.row .upl 67 (I.hid ((appL l id off b)))]]⟩):Option CT)) l n id off b
  |_,_=>none
theorem SS:zo Tryz.prog 72 (Z4 alg):=by
  intro args hp r h
  unfold Z4 at h
  split at h
  · cases h;exact fun hn=>zjf _ _ _ _ _ hn
  · cases h
def zfo:Know Tryz.prog:=⟨72,Z4,SS⟩
def zfn:Know Tryz.prog:=⟨72,fun I=>zq I (Z4 I),zf SS⟩
end Go.Proofs.YtcclfkakcgnacaaGreatDoor
namespace Go.Proofs.YtcclfkakcgnacaaGreatDoor
open Go Go.Sep Go.Ab
set_option maxRecDepth 100000
theorem zgL (l:List Upl) (n id size:Int) (hneed:zu l n):Spc Tryz.prog 73 [.v (.one (.ptr 0 0)),.v (.one (.p (.int .i64 id))),.v (.one (.p (.int .i64 size)))] [.pack [.obj 90 [(.row 1),(.p (.int .i64 n))],.row .upl 67 l]] (.ret (.v (.one (.p (.int .i64 ((decC l id size))))))) [.pack [.obj 90 [(.row 1),(.p (.int .i64 n))],.row .upl 67 ((decL l id size))]]:=by
  have hs:=hneed
  have hf:=vN hs
  generalize he:decC l id size=re
  generalize hl:decL l id size=rl
  refine spcG zi mixed Tryz.func73 (by kernel_rfl) { Zb with bare:=[66],keep:=some [0,1,2,6,7,8]} [SQ,SN] (by kernel_rfl) ?_
  intro I X hI hX
  refine zh (let y0:=I.get (α:=Upl) l (Upl.mk (0:Int) (0:Int) ([]:Str) ([]:Str) (0:Int)) (I.hid (α:=Int) (Nat.cast (atU l id)));let y1:HO:=.pack [(.obj 90 [(.row 1),(.p (.int .i64 n))]),(.row .upl 67 l)];let y2:=I.inb (I.hid (α:=Int) (Nat.cast (atU l id))) (I.len (α:=Upl) l);.br (I.hid (α:=Bool) (Decidable.decide (LT.lt (atU l id) (List.length l)))) (.need (I.hid (α:=(Prop)) (And (LE.le (List.length l) 1000000) (LT.lt (atU l id) (List.length l)))) (.br (I.bnot (I.ieq 0 0)) (.fin (.ret (.v (.one (.p (.int .i64 0))))) [y1]) (.need y2 (.br (I.ile 0 (Upl.size y0)) (.fin (.ret (.v (.one (.p (.int .i64 18))))) [y1]) (.br (I.ilt size 0) (.fin (.ret (.v (.one (.p (.int .i64 1))))) [y1]) (.br (I.ilt 2000 size) (.fin (.ret (.v (.one (.p (.int .i64 4))))) [y1]) (.need y2 (.br (I.ilt size (I.len (α:=UInt8) (Upl.bytes y0))) (.fin (.ret (.v (.one (.p (.int .i64 4))))) [y1]) (.need y2 (.fin (.ret (.v (.one (.p (.int .i64 0))))) [(.pack [(.obj 90 [(.row 1),(.p (.int .i64 n))]),(.row .upl 67 (I.set (α:=Upl) l (I.hid (α:=Int) (Nat.cast (atU l id))) (Upl.mk (Upl.id y0) size (Upl.note y0) (Upl.bytes y0) (Upl.sent y0))))])])))))))))) (.need (I.hid (α:=(Prop)) (And (LE.le (List.length l) 1000000) (Not (LT.lt (atU l id) (List.length l))))) (.br (I.bnot (I.ieq 10 0)) (.fin (.ret (.v (.one (.p (.int .i64 10))))) [y1]) (.stop 0)))) (by kernel_rfl) ?_
  simp only [zk]
  subst hI
  simp only [nrmA,nrmB,nrlB,reduceCtorEq,HO.pack.injEq,HO.obj.injEq]
  unfold decL at hl
  rw [he] at hl
  unfold decC at he
  unfold yJ upl0 at he hl
  generalize l.getD (atU l id) ⟨0,0,[],[],0⟩=x at *
  (repeat' (first|refine And.intro ?_ ?_|intro _))<;>first|omega|exact True.intro|exact False.elim ‹False›|skip
  all_goals first
    |exact hf.1
    |((repeat(first|rewrite [if_pos (by first|omega|assumption|(simp only [*,or_self,or_true,true_or,or_false,false_or,not_true_eq_false,not_false_eq_true,Bool.false_eq_true,Bool.true_eq_false,and_self,and_true,true_and];done)|(simp only [*];omega)|(simp [*];done)|(simp [*];omega))] at he|rewrite [if_neg (by first|omega|assumption|(simp only [*,or_self,or_true,true_or,or_false,false_or,not_true_eq_false,not_false_eq_true,Bool.false_eq_true,Bool.true_eq_false,and_self,and_true,true_and];done)|(simp only [*];omega)|(simp [*];done)|(simp [*];omega))] at he));subst he;((repeat(first|rewrite [if_pos (by first|omega|assumption|(simp only [*,or_self,or_true,true_or,or_false,false_or,not_true_eq_false,not_false_eq_true,Bool.false_eq_true,Bool.true_eq_false,and_self,and_true,true_and];done)|(simp only [*];omega)|(simp [*];done)|(simp [*];omega))] at hl|rewrite [if_neg (by first|omega|assumption|(simp only [*,or_self,or_true,true_or,or_false,false_or,not_true_eq_false,not_false_eq_true,Bool.false_eq_true,Bool.true_eq_false,and_self,and_true,true_and];done)|(simp only [*];omega)|(simp [*];done)|(simp [*];omega))] at hl)));subst hl;first|rfl|omega)
def qK (I:Alg) (args:List D) (hp:List HO):Option CT:=match args,hp with
  |[.v (.one (.ptr 0 0)),.v (.one (.p (.int .i64 id))),.v (.one (.p (.int .i64 size)))],[.pack [.obj 90 [(.row 1),(.p (.int .i64 n))],.row .upl 67 l]]=>(fun(l:List Upl) (n id size:Int)=>(some (.one ⟨I.hid (zu l n),(.ret (.v (.one (.p (.int .i64 (I.hid ((decC l id size)))))))),[.pack [.obj 90 [(.row 1),(.p (.int .i64 n))],.row .upl 67 (I.hid ((decL l id size)))]]⟩):Option CT)) l n id size
  |_,_=>none
theorem UI:zo Tryz.prog 73 (qK alg):=by
  intro args hp r h
  unfold qK at h
  split at h
  · cases h;exact fun hn=>zgL _ _ _ _ hn
  · cases h
def zcr:Know Tryz.prog:=⟨73,qK,UI⟩
def zcq:Know Tryz.prog:=⟨73,fun I=>zq I (qK I),zf UI⟩
theorem zl9 (a b:Int) (m y:Str) (t:Int):Spc Tryz.prog 107 [.v (.agg [(.p (.int .i64 a)),(.p (.int .i64 b)),(.p (.str m)),(.p (.list .byte y)),(.p (.int .i64 t))])] [] (.ret (.v (.one (.p (.bool ((b == (y.length:Int)))))))) []:=by
  refine spcG zi mixed Tryz.func107 (by kernel_rfl) { keep:=some [0,1,2]} [] (by kernel_rfl) ?_
  intro I X hI hX
  refine zh (.fin (.ret (.v (.one (.p (.bool (I.ieq b (I.len (α:=UInt8) y))))))) []) (by kernel_rfl) ?_
  simp only [zk]
  subst hI
  simp only [nrmA,nrmB]
  try trivial
def Vo (I:Alg) (args:List D) (hp:List HO):Option CT:=match args,hp with
  |[.v (.agg [(.p (.int .i64 a)),(.p (.int .i64 b)),(.p (.str m)),(.p (.list .byte y)),(.p (.int .i64 t))])],[]=>(fun(a b:Int) (m y:Str) (t:Int)=>(some (.one ⟨I.hid (True),(.ret (.v (.one (.p (.bool (I.hid ((b == (y.length:Int))))))))),[]⟩):Option CT)) a b m y t
  |_,_=>none
theorem zdj:zo Tryz.prog 107 (Vo alg):=by
  intro args hp r h
  unfold Vo at h
  split at h
  · cases h;exact fun hn=>zl9 _ _ _ _ _
  · cases h
def ziG:Know Tryz.prog:=⟨107,Vo,zdj⟩
def ziF:Know Tryz.prog:=⟨107,fun I=>zq I (Vo I),zf zdj⟩
theorem zk7 (l:List Upl) (n id:Int) (hneed:zu l n):Spc Tryz.prog 75 [.v (.one (.ptr 0 0)),.v (.one (.p (.int .i64 id)))] [.pack [.obj 90 [(.row 1),(.p (.int .i64 n))],.row .upl 67 l]] (.ret (.v (.one (.p (.int .i64 ((begC l id))))))) [.pack [.obj 90 [(.row 1),(.p (.int .i64 n))],.row .upl 67 ((begL l id))]]:=by
  have hs:=hneed
  have hf:=vN hs
  generalize he:begC l id=re
  generalize hl:begL l id=rl
  refine spcG zi mixed Tryz.func75 (by kernel_rfl) { Zb with bare:=[66],keep:=some [0,1,4,5,6]} [SQ,SN,ziG,ziF] (by kernel_rfl) ?_
  intro I X hI hX
  refine zh (let y0:=I.get (α:=Upl) l (Upl.mk (0:Int) (0:Int) ([]:Str) ([]:Str) (0:Int)) (I.hid (α:=Int) (Nat.cast (atU l id)));let y1:HO:=.pack [(.obj 90 [(.row 1),(.p (.int .i64 n))]),(.row .upl 67 l)];let y2:=I.inb (I.hid (α:=Int) (Nat.cast (atU l id))) (I.len (α:=Upl) l);.br (I.hid (α:=Bool) (Decidable.decide (LT.lt (atU l id) (List.length l)))) (.need (I.hid (α:=(Prop)) (And (LE.le (List.length l) 1000000) (LT.lt (atU l id) (List.length l)))) (.br (I.bnot (I.ieq 0 0)) (.fin (.ret (.v (.one (.p (.int .i64 0))))) [y1]) (.need y2 (.br (I.bnot (I.ieq (Upl.sent y0) 0)) (.fin (.ret (.v (.one (.p (.int .i64 19))))) [y1]) (.need y2 (.need (I.hid (α:=(Prop)) True) (.br (I.bnot (I.hid (α:=Bool) (BEq.beq (Upl.size y0) (Nat.cast (List.length (Upl.bytes y0)))))) (.fin (.ret (.v (.one (.p (.int .i64 14))))) [y1]) (.need y2 (.fin (.ret (.v (.one (.p (.int .i64 0))))) [(.pack [(.obj 90 [(.row 1),(.p (.int .i64 n))]),(.row .upl 67 (I.set (α:=Upl) l (I.hid (α:=Int) (Nat.cast (atU l id))) (Upl.mk (Upl.id y0) (Upl.size y0) (Upl.note y0) (Upl.bytes y0) (1:Int))))])]))))))))) (.need (I.hid (α:=(Prop)) (And (LE.le (List.length l) 1000000) (Not (LT.lt (atU l id) (List.length l))))) (.br (I.bnot (I.ieq 10 0)) (.fin (.ret (.v (.one (.p (.int .i64 10))))) [y1]) (.stop 0)))) (by kernel_rfl) ?_
  simp only [zk]
  subst hI
  simp only [nrmA,nrmB,nrlB,reduceCtorEq,HO.pack.injEq,HO.obj.injEq]
  unfold begL at hl
  rw [he] at hl
  unfold begC at he
  unfold yJ upl0 at he hl
  generalize l.getD (atU l id) ⟨0,0,[],[],0⟩=x at *
  (repeat' (first|refine And.intro ?_ ?_|intro _))<;>first|omega|exact True.intro|exact False.elim ‹False›|skip
  all_goals first
    |exact hf.1
    |((repeat(first|rewrite [if_pos (by first|omega|assumption|(simp only [*,or_self,or_true,true_or,or_false,false_or,not_true_eq_false,not_false_eq_true,Bool.false_eq_true,Bool.true_eq_false,and_self,and_true,true_and];done)|(simp only [*];omega)|(simp [*];done)|(simp [*];omega))] at he|rewrite [if_neg (by first|omega|assumption|(simp only [*,or_self,or_true,true_or,or_false,false_or,not_true_eq_false,not_false_eq_true,Bool.false_eq_true,Bool.true_eq_false,and_self,and_true,true_and];done)|(simp only [*];omega)|(simp [*];done)|(simp [*];omega))] at he));subst he;((repeat(first|rewrite [if_pos (by first|omega|assumption|(simp only [*,or_self,or_true,true_or,or_false,false_or,not_true_eq_false,not_false_eq_true,Bool.false_eq_true,Bool.true_eq_false,and_self,and_true,true_and];done)|(simp only [*];omega)|(simp [*];done)|(simp [*];omega))] at hl|rewrite [if_neg (by first|omega|assumption|(simp only [*,or_self,or_true,true_or,or_false,false_or,not_true_eq_false,not_false_eq_true,Bool.false_eq_true,Bool.true_eq_false,and_self,and_true,true_and];done)|(simp only [*];omega)|(simp [*];done)|(simp [*];omega))] at hl)));subst hl;first|rfl|omega)
def Xg (I:Alg) (args:List D) (hp:List HO):Option CT:=match args,hp with
  |[.v (.one (.ptr 0 0)),.v (.one (.p (.int .i64 id)))],[.pack [.obj 90 [(.row 1),(.p (.int .i64 n))],.row .upl 67 l]]=>(fun(l:List Upl) (n id:Int)=>(some (.one ⟨I.hid (zu l n),(.ret (.v (.one (.p (.int .i64 (I.hid ((begC l id)))))))),[.pack [.obj 90 [(.row 1),(.p (.int .i64 n))],.row .upl 67 (I.hid ((begL l id)))]]⟩):Option CT)) l n id
  |_,_=>none
theorem zba:zo Tryz.prog 75 (Xg alg):=by
  intro args hp r h
  unfold Xg at h
  split at h
  · cases h;exact fun hn=>zk7 _ _ _ hn
  · cases h
def zgN:Know Tryz.prog:=⟨75,Xg,zba⟩
def zgM:Know Tryz.prog:=⟨75,fun I=>zq I (Xg I),zf zba⟩
theorem znZ (l:List Upl) (n id:Int) (hneed:zu l n):Spc Tryz.prog 76 [.v (.one (.ptr 0 0)),.v (.one (.p (.int .i64 id)))] [.pack [.obj 90 [(.row 1),(.p (.int .i64 n))],.row .upl 67 l]] (.ret (.v (.one (.p (.int .i64 ((endC l id))))))) [.pack [.obj 90 [(.row 1),(.p (.int .i64 n))],.row .upl 67 ((endL l id))]]:=by
  have hs:=hneed
  have hf:=vN hs
  generalize he:endC l id=re
  generalize hl:endL l id=rl
  refine spcG zi mixed Tryz.func76 (by kernel_rfl) { Zb with bare:=[66],keep:=some [0,1,4,5,6]} [SQ,SN] (by kernel_rfl) ?_
  intro I X hI hX
  refine zh (let y2:=I.hid (α:=Int) (Nat.cast (atU l id));let y0:=I.get (α:=Upl) l (Upl.mk (0:Int) (0:Int) ([]:Str) ([]:Str) (0:Int)) y2;let y1:HO:=.pack [(.obj 90 [(.row 1),(.p (.int .i64 n))]),(.row .upl 67 l)];.br (I.hid (α:=Bool) (Decidable.decide (LT.lt (atU l id) (List.length l)))) (.need (I.hid (α:=(Prop)) (And (LE.le (List.length l) 1000000) (LT.lt (atU l id) (List.length l)))) (.br (I.bnot (I.ieq 0 0)) (.fin (.ret (.v (.one (.p (.int .i64 0))))) [y1]) (.need (I.inb y2 (I.len (α:=Upl) l)) (.br (I.bnot (I.ieq (Upl.sent y0) 1)) (.fin (.ret (.v (.one (.p (.int .i64 19))))) [y1]) (.need (I.inb y2 (I.len (α:=Upl) l)) (.fin (.ret (.v (.one (.p (.int .i64 0))))) [(.pack [(.obj 90 [(.row 1),(.p (.int .i64 n))]),(.row .upl 67 (I.set (α:=Upl) l y2 (Upl.mk (Upl.id y0) (Upl.size y0) (Upl.note y0) (Upl.bytes y0) (2:Int))))])])))))) (.need (I.hid (α:=(Prop)) (And (LE.le (List.length l) 1000000) (Not (LT.lt (atU l id) (List.length l))))) (.br (I.bnot (I.ieq 10 0)) (.fin (.ret (.v (.one (.p (.int .i64 10))))) [y1]) (.stop 0)))) (by kernel_rfl) ?_
  simp only [zk]
  subst hI
  simp only [nrmA,nrmB,nrlB,reduceCtorEq,HO.pack.injEq,HO.obj.injEq]
  unfold endL at hl
  rw [he] at hl
  unfold endC at he
  unfold yJ upl0 at he hl
  generalize l.getD (atU l id) ⟨0,0,[],[],0⟩=x at *
  (repeat' (first|refine And.intro ?_ ?_|intro _))<;>first|omega|exact True.intro|exact False.elim ‹False›|skip
  all_goals first
    |exact hf.1
    |((repeat(first|rewrite [if_pos (by first|omega|assumption|(simp only [*,or_self,or_true,true_or,or_false,false_or,not_true_eq_false,not_false_eq_true,Bool.false_eq_true,Bool.true_eq_false,and_self,and_true,true_and];done)|(simp only [*];omega)|(simp [*];done)|(simp [*];omega))] at he|rewrite [if_neg (by first|omega|assumption|(simp only [*,or_self,or_true,true_or,or_false,false_or,not_true_eq_false,not_false_eq_true,Bool.false_eq_true,Bool.true_eq_false,and_self,and_true,true_and];done)|(simp only [*];omega)|(simp [*];done)|(simp [*];omega))] at he));subst he;((repeat(first|rewrite [if_pos (by first|omega|assumption|(simp only [*,or_self,or_true,true_or,or_false,false_or,not_true_eq_false,not_false_eq_true,Bool.false_eq_true,Bool.true_eq_false,and_self,and_true,true_and];done)|(simp only [*];omega)|(simp [*];done)|(simp [*];omega))] at hl|rewrite [if_neg (by first|omega|assumption|(simp only [*,or_self,or_true,true_or,or_false,false_or,not_true_eq_false,not_false_eq_true,Bool.false_eq_true,Bool.true_eq_false,and_self,and_true,true_and];done)|(simp only [*];omega)|(simp [*];done)|(simp [*];omega))] at hl)));subst hl;first|rfl|omega)
def Qv (I:Alg) (args:List D) (hp:List HO):Option CT:=match args,hp with
  |[.v (.one (.ptr 0 0)),.v (.one (.p (.int .i64 id)))],[.pack [.obj 90 [(.row 1),(.p (.int .i64 n))],.row .upl 67 l]]=>(fun(l:List Upl) (n id:Int)=>(some (.one ⟨I.hid (zu l n),(.ret (.v (.one (.p (.int .i64 (I.hid ((endC l id)))))))),[.pack [.obj 90 [(.row 1),(.p (.int .i64 n))],.row .upl 67 (I.hid ((endL l id)))]]⟩):Option CT)) l n id
  |_,_=>none
theorem zgK:zo Tryz.prog 76 (Qv alg):=by
  intro args hp r h
  unfold Qv at h
  split at h
  · cases h;exact fun hn=>znZ _ _ _ hn
  · cases h
def zk6:Know Tryz.prog:=⟨76,Qv,zgK⟩
def zk5:Know Tryz.prog:=⟨76,fun I=>zq I (Qv I),zf zgK⟩
theorem zmG (l:List Upl) (n:Int) (hneed:0≤n∧n≤1000000):Spc Tryz.prog 18 [.v (.one (.ptr 0 0))] [.pack [.obj 90 [(.row 1),(.p (.int .i64 n))],.row .upl 67 l]] (.ret (.v (.one (.p (.int .i64 ((n+1))))))) [.pack [.obj 90 [(.row 1),(.p (.int .i64 n))],.row .upl 67 l]]:=by
  refine spcG zi mixed Tryz.func18 (by kernel_rfl) { Zb with keep:=some [0,2]} [] (by kernel_rfl) ?_
  intro I X hI hX
  refine zh (.need (I.inr Go.IntKind.i64 (I.add n 1)) (.fin (.ret (.v (.one (.p (.int .i64 (I.add n 1)))))) [(.pack [(.obj 90 [(.row 1),(.p (.int .i64 n))]),(.row .upl 67 l)])])) (by kernel_rfl) ?_
  simp only [zk]
  subst hI
  simp only [nrmA,nrmB]
  (repeat' (first|refine And.intro ?_ ?_|intro _))<;>first|omega|exact True.intro|exact False.elim ‹False›|skip
def VP (I:Alg) (args:List D) (hp:List HO):Option CT:=match args,hp with
  |[.v (.one (.ptr 0 0))],[.pack [.obj 90 [(.row 1),(.p (.int .i64 n))],.row .upl 67 l]]=>(fun(l:List Upl) (n:Int)=>(some (.one ⟨I.hid (0≤n∧n≤1000000),(.ret (.v (.one (.p (.int .i64 (I.hid ((n+1)))))))),[.pack [.obj 90 [(.row 1),(.p (.int .i64 n))],.row .upl 67 l]]⟩):Option CT)) l n
  |_,_=>none
theorem zdS:zo Tryz.prog 18 (VP alg):=by
  intro args hp r h
  unfold VP at h
  split at h
  · cases h;exact fun hn=>zmG _ _ hn
  · cases h
def zi9:Know Tryz.prog:=⟨18,VP,zdS⟩
def zi8:Know Tryz.prog:=⟨18,fun I=>zq I (VP I),zf zdS⟩
theorem znX:Spc Tryz.prog 25 [] [] (.ret (.v (.one (.ptr 0 0)))) [.pack [.obj 90 [(.row 1),(.p (.int .i64 0))],.row .upl 67 ([])]]:=by
  refine spcG zi mixed Tryz.func25 (by kernel_rfl) { Zb with keep:=some [0]} [] (by kernel_rfl) ?_
  intro I X hI hX
  refine zh (.fin (.ret (.v (.one (.ptr 0 0)))) [(.pack [(.obj 90 [(.row 1),(.p (.int .i64 0))]),(.row .upl 67 ([]:List Upl))])]) (by kernel_rfl) ?_
  simp only [zk]
  trivial
def Qr (I:Alg) (args:List D) (hp:List HO):Option CT:=match args,hp with
  |[],[]=>(fun(_:Unit)=>(some (.one ⟨I.hid (True),(.ret (.v (.one (.ptr 0 0)))),[.pack [.obj 90 [(.row 1),(.p (.int .i64 0))],.row .upl 67 (I.hid ([]))]]⟩):Option CT)) ()
  |_,_=>none
theorem zgH:zo Tryz.prog 25 (Qr alg):=by
  intro args hp r h
  unfold Qr at h
  split at h
  · cases h;exact fun hn=>znX
  · cases h
def zk4:Know Tryz.prog:=⟨25,Qr,zgH⟩
def zk3:Know Tryz.prog:=⟨25,fun I=>zq I (Qr I),zf zgH⟩
def getB (l:List Upl) (id:Int):Bool:=decide (atU l id<l.length)
def getU (l:List Upl) (id:Int):Upl:=if atU l id<l.length then yJ l id else upl0
theorem zj7 (l:List Upl) (n id:Int) (hneed:zu l n):Spc Tryz.prog 41 [.v (.one (.ptr 0 0)),.v (.one (.p (.int .i64 id)))] [.obj 90 [(.row 1),(.p (.int .i64 n))],.row .upl 67 l] (.ret (.tup [(.agg [(.p (.int .i64 ((getU l id).id))),(.p (.int .i64 ((getU l id).size))),(.p (.str ((getU l id).note))),(.p (.list .byte ((getU l id).bytes))),(.p (.int .i64 ((getU l id).sent)))]),(.one (.p (.bool ((getB l id)))))])) [.obj 90 [(.row 1),(.p (.int .i64 n))],.row .upl 67 l]:=by
  have hs:=hneed
  have hf:=vN hs
  generalize he:getU l id=re
  obtain⟨a,b,c,d,e⟩:=re
  generalize hl:getB l id=rl
  refine spcG zi mixed Tryz.func41 (by kernel_rfl) { Zb with flat:=true,bare:=[66],keep:=some [0,1,4,5,6,7,8]} [zeW,zeV,SQ,SN] (by kernel_rfl) ?_
  intro I X hI hX
  refine zh (let y0:=I.get (α:=Upl) l (Upl.mk (0:Int) (0:Int) ([]:Str) ([]:Str) (0:Int)) (I.hid (α:=Int) (Nat.cast (atU l id)));let y1:HO:=.obj 90 [(.row 1),(.p (.int .i64 n))];let y2:=I.inb (I.hid (α:=Int) (Nat.cast (atU l id))) (I.len (α:=Upl) l);.br (I.hid (α:=Bool) (Decidable.decide (LT.lt (atU l id) (List.length l)))) (.need (I.hid (α:=(Prop)) (And (LE.le (List.length l) 1000000) (LT.lt (atU l id) (List.length l)))) (.br (I.bnot (I.ieq 0 0)) (.fin (.ret (.tup [(.agg [(.p (.int .i64 0)),(.p (.int .i64 0)),(.p (.str ([]:Str))),(.p (.list .byte ([]:Str))),(.p (.int .i64 0))]),(.one (.p (.bool Bool.false)))])) [y1,(.row .upl 67 l)]) (.need y2 (.need y2 (.need (I.hid (α:=(Prop)) (LE.le (List.length (Upl.bytes y0)) 100000000)) (.fin (.ret (.tup [(.agg [(.p (.int .i64 (Upl.id y0))),(.p (.int .i64 (Upl.size y0))),(.p (.str (Upl.note y0))),(.p (.list .byte (Upl.bytes y0))),(.p (.int .i64 (Upl.sent y0)))]),(.one (.p (.bool Bool.true)))])) [y1,(.row .upl 67 l)])))))) (.need (I.hid (α:=(Prop)) (And (LE.le (List.length l) 1000000) (Not (LT.lt (atU l id) (List.length l))))) (.br (I.bnot (I.ieq 10 0)) (.fin (.ret (.tup [(.agg [(.p (.int .i64 0)),(.p (.int .i64 0)),(.p (.str ([]:Str))),(.p (.list .byte ([]:Str))),(.p (.int .i64 0))]),(.one (.p (.bool Bool.false)))])) [y1,(.row .upl 67 l)]) (.stop 0)))) (by kernel_rfl) ?_
  simp only [zk]
  subst hI
  simp only [nrmA,nrmB,nrlB,reduceCtorEq]
  unfold getU at he
  unfold getB at hl
  unfold yJ upl0 at he
  have hx:atU l id<l.length→_:=fun h=>(hs.each _ (vG h)).bl
  unfold yJ upl0 at hx
  generalize l.getD (atU l id) ⟨0,0,[],[],0⟩=x at *
  by_cases h:atU l id<l.length
  · rw [if_pos h] at he
    rw [decide_eq_true h] at hl
    subst he;subst hl
    have hx:=hx h
    (repeat' (first|refine And.intro ?_ ?_|intro _))<;>first|omega|exact True.intro|exact False.elim ‹False›|skip
    all_goals first|exact hf.1|rfl
  · rw [if_neg h] at he
    rw [decide_eq_false h] at hl
    cases he;subst hl
    (repeat' (first|refine And.intro ?_ ?_|intro _))<;>first|omega|exact True.intro|exact False.elim ‹False›|skip
    all_goals first|exact hf.1|rfl|assumption
def VR (I:Alg) (args:List D) (hp:List HO):Option CT:=match args,hp with
  |[.v (.one (.ptr 0 0)),.v (.one (.p (.int .i64 id)))],[.obj 90 [(.row 1),(.p (.int .i64 n))],.row .upl 67 l]=>(fun(l:List Upl) (n id:Int)=>(some (.one ⟨I.hid (zu l n),(.ret (.tup [(.agg [(.p (.int .i64 (I.hid ((getU l id).id)))),(.p (.int .i64 (I.hid ((getU l id).size)))),(.p (.str (I.hid ((getU l id).note)))),(.p (.list .byte (I.hid ((getU l id).bytes)))),(.p (.int .i64 (I.hid ((getU l id).sent))))]),(.one (.p (.bool (I.hid ((getB l id))))))])),[.obj 90 [(.row 1),(.p (.int .i64 n))],.row .upl 67 l]⟩):Option CT)) l n id
  |_,_=>none
theorem zdU:zo Tryz.prog 41 (VR alg):=by
  intro args hp r h
  unfold VR at h
  split at h
  · cases h;exact fun hn=>zj7 _ _ _ hn
  · cases h
def ZX:Know Tryz.prog:=⟨41,VR,zdU⟩
def ZW:Know Tryz.prog:=⟨41,fun I=>zq I (VR I),zf zdU⟩
theorem znY (l:List Upl) (n id:Int) (hneed:zu l n):Spc Tryz.prog 41 [.v (.one (.ptr 0 0)),.v (.one (.p (.int .i64 id)))] [.pack [.obj 90 [(.row 1),(.p (.int .i64 n))],.row .upl 67 l]] (.ret (.tup [(.agg [(.p (.int .i64 ((getU l id).id))),(.p (.int .i64 ((getU l id).size))),(.p (.str ((getU l id).note))),(.p (.list .byte ((getU l id).bytes))),(.p (.int .i64 ((getU l id).sent)))]),(.one (.p (.bool ((getB l id)))))])) [.pack [.obj 90 [(.row 1),(.p (.int .i64 n))],.row .upl 67 l]]:=
  Spc.packed (ex:=[]) (zj7 l n id hneed) rfl (by simp) rfl
def Qu (I:Alg) (args:List D) (hp:List HO):Option CT:=match args,hp with
  |[.v (.one (.ptr 0 0)),.v (.one (.p (.int .i64 id)))],[.pack [.obj 90 [(.row 1),(.p (.int .i64 n))],.row .upl 67 l]]=>(fun(l:List Upl) (n id:Int)=>(some (.one ⟨I.hid (zu l n),(.ret (.tup [(.agg [(.p (.int .i64 (I.hid ((getU l id).id)))),(.p (.int .i64 (I.hid ((getU l id).size)))),(.p (.str (I.hid ((getU l id).note)))),(.p (.list .byte (I.hid ((getU l id).bytes)))),(.p (.int .i64 (I.hid ((getU l id).sent))))]),(.one (.p (.bool (I.hid ((getB l id))))))])),[.pack [.obj 90 [(.row 1),(.p (.int .i64 n))],.row .upl 67 l]]⟩):Option CT)) l n id
  |_,_=>none
theorem zgJ:zo Tryz.prog 41 (Qu alg):=by
  intro args hp r h
  unfold Qu at h
  split at h
  · cases h;exact fun hn=>znY _ _ _ hn
  · cases h
def X3:Know Tryz.prog:=⟨41,Qu,zgJ⟩
def X0:Know Tryz.prog:=⟨41,fun I=>zq I (Qu I),zf zgJ⟩
theorem zlM {l:List Upl} (h:l.Pairwise fun a b=>a.id<b.id) {i:Nat} (hi:i<l.length):getU l (l.getD i ⟨0,0,[],[],0⟩).id=l.getD i ⟨0,0,[],[],0⟩:=by
  have e:l.getD i ⟨0,0,[],[],0⟩=l[i]:=by simp [hi]
  have ha:=zou h hi
  rw [e,getU,ha,if_pos hi,yJ,ha]
  simp [hi]
theorem zgI (l:List Upl) (n:Int) (hneed:zu l n):Spc Tryz.prog 15 [.v (.one (.ptr 0 0))] [.obj 90 [(.row 1),(.p (.int .i64 n))],.row .upl 67 l] (.ret (.v (.one (.row 2)))) [.obj 90 [(.row 1),(.p (.int .i64 n))],.row .upl 67 l,.row .upl 67 l]:=by
  have hs:=hneed
  have hf:=vN hs
  refine spcG zi mixed Tryz.func15 (by kernel_rfl) { Zb with flat:=true,bare:=[41],nr:=[3],keep:=some [0,2,3,5,6,11,12,13]} [ZX,ZW,X3,X0] (by kernel_rfl) ?_
  intro I X hI hX
  refine zh (.code 0 [1,1,0,1,0] ⟨[(13,(.v (.one (.p (.int .i64 0))))),(12,(.v (.one (.p (.int .i64 (I.len (α:=Upl) l)))))),(11,(.v (.one (.row 1)))),(3,(.v (.one (.row 2)))),(2,(.v (.one .nilS))),(0,(.v (.one (.ptr 0 0))))],[(.obj 90 [(.row 1),(.p (.int .i64 n))]),(.row .upl 67 l),(.row .upl 67 ([]:List Upl))],30,none⟩) (by kernel_rfl) ?_
  simp only [zk]
  refine zG hI zi mixed [ZX,ZW,X3,X0] hX [0,3,11,12,13] (fun(g:Nat × List Upl)=>match g with|(i,o)=>i≤l.length∧o=l.take i) (fun(g:Nat × List Upl)=>match g with|(i,o)=>⟨[(0,.v (.one (.ptr 0 0))),(3,.v (.one (.row 2))),(11,.v (.one (.row 1))),(12,.v (.one (.p (.int .i64 ((I.len (α:=Upl) l)))))),(13,.v (.one (.p (.int .i64 i))))],[.obj 90 [(.row 1),(.p (.int .i64 n))],.row .upl 67 l,.row .upl 67 o],30,none⟩) (fun(g:Nat × List Upl)=>match g with|(i,o)=>l.length - i) (0,[]) (by kernel_rfl) (by kernel_rfl) ?_ ?_
  · exact⟨Nat.zero_le _,rfl⟩
  rintro⟨i,o⟩ ⟨h1,h2⟩ A hA
  simp only at hA
  refine zh (let y0:=I.get (α:=Upl) l (Upl.mk (0:Int) (0:Int) ([]:Str) ([]:Str) (0:Int)) (Nat.cast i);let y1:=I.hid (α:=Str) (Upl.bytes (getU l (Upl.id y0)));let y2:=I.hid (α:=Int) (Upl.size (getU l (Upl.id y0)));let y3:=I.hid (α:=Str) (Upl.note (getU l (Upl.id y0)));let y4:=I.hid (α:=Int) (Upl.sent (getU l (Upl.id y0)));let y5:=I.hid (α:=Int) (Upl.id (getU l (Upl.id y0)));let y6:=I.inb (Nat.cast i) (I.len (α:=Upl) l);let y7:HO:=.obj 90 [(.row 1),(.p (.int .i64 n))];.br (I.ilt (Nat.cast i) (I.len (α:=Upl) l)) (.need y6 (.need y6 (.need (I.hid (α:=(Prop)) (zu l n)) (.need (I.few (I.add (I.len (α:=Upl) o) (I.len (α:=Upl) ([(Upl.mk y5 y2 y3 y1 y4)]:List Upl))) 100000000) (.need (I.inr Go.IntKind.i64 (I.add (Nat.cast i) 1)) (.need (A ⟨[(0,(.v (.one (.ptr 0 0)))),(3,(.v (.one (.row 2)))),(11,(.v (.one (.row 1)))),(12,(.v (.one (.p (.int .i64 (I.len (α:=Upl) l)))))),(13,(.v (.one (.p (.int .i64 (I.add (Nat.cast i) 1))))))],[y7,(.row .upl 67 l),(.row .upl 67 (I.app (α:=Upl) o ([(Upl.mk y5 y2 y3 y1 y4)]:List Upl)))],30,none⟩) .qed)))))) (.fin (.ret (.v (.one (.row 2)))) [y7,(.row .upl 67 l),(.row .upl 67 o)])) (by kernel_rfl) ?_
  simp only [zk]
  subst hI
  simp only [nrmA,nrmB,nrlB,reduceCtorEq]
  have hx:i<l.length→_:=zlM hs.srt
  have hy:i<l.length→l.take (i+1)=l.take i++[l.getD i ⟨0,0,[],[],0⟩]:=fun h=>by rw [List.take_succ_eq_append_getElem h];simp [h]
  have hw: ¬ i<l.length→o=l:=fun h=>by rw [h2,List.take_of_length_le (by omega)]
  have hol:o.length≤i:=by rw [h2,List.length_take];omega
  refine⟨fun c=> ?_,fun c=>hw (by omega)⟩
  rw [hx (by omega)]
  have hy:=hy (by omega)
  generalize l.getD i ⟨0,0,[],[],0⟩=x at *
  simp only [List.length_cons,List.length_nil]
  (repeat' (first|refine And.intro ?_ ?_|intro _))<;>first|omega|exact True.intro|exact False.elim ‹False›|skip
  all_goals first
    |exact hs
    |exact hA (i+1,_) ⟨by simp only;omega,by simp only;rw [hy,h2]⟩ (by simp only;omega)
def Xf (I:Alg) (args:List D) (hp:List HO):Option CT:=match args,hp with
  |[.v (.one (.ptr 0 0))],[.obj 90 [(.row 1),(.p (.int .i64 n))],.row .upl 67 l]=>(fun(l:List Upl) (n:Int)=>(some (.one ⟨I.hid (zu l n),(.ret (.v (.one (.row 2)))),[.obj 90 [(.row 1),(.p (.int .i64 n))],.row .upl 67 l,.row .upl 67 l]⟩):Option CT)) l n
  |_,_=>none
theorem za9:zo Tryz.prog 15 (Xf alg):=by
  intro args hp r h
  unfold Xf at h
  split at h
  · cases h;exact fun hn=>zgI _ _ hn
  · cases h
def vP:Know Tryz.prog:=⟨15,Xf,za9⟩
def vO:Know Tryz.prog:=⟨15,fun I=>zq I (Xf I),zf za9⟩
theorem zmH (l:List Upl) (n:Int) (hneed:zu l n):Spc Tryz.prog 15 [.v (.one (.ptr 0 0))] [.pack [.obj 90 [(.row 1),(.p (.int .i64 n))],.row .upl 67 l]] (.ret (.v (.one (.row 1)))) [.pack [.obj 90 [(.row 1),(.p (.int .i64 n))],.row .upl 67 l],.row .upl 67 l]:=
  Spc.packed (os':=[_,_]) (ex:=[_]) (zgI l n hneed) rfl (by simp) rfl
def VQ (I:Alg) (args:List D) (hp:List HO):Option CT:=match args,hp with
  |[.v (.one (.ptr 0 0))],[.pack [.obj 90 [(.row 1),(.p (.int .i64 n))],.row .upl 67 l]]=>(fun(l:List Upl) (n:Int)=>(some (.one ⟨I.hid (zu l n),(.ret (.v (.one (.row 1)))),[.pack [.obj 90 [(.row 1),(.p (.int .i64 n))],.row .upl 67 l],.row .upl 67 l]⟩):Option CT)) l n
  |_,_=>none
theorem zdT:zo Tryz.prog 15 (VQ alg):=by
  intro args hp r h
  unfold VQ at h
  split at h
  · cases h;exact fun hn=>zmH _ _ hn
  · cases h
def tH:Know Tryz.prog:=⟨15,VQ,zdT⟩
def tC:Know Tryz.prog:=⟨15,fun I=>zq I (VQ I),zf zdT⟩
theorem zmJ (l:List Upl) (n:Int) (hneed:zu l n):Spc Tryz.prog 115 [.v (.one (.ptr 0 0))] [.pack [.obj 90 [(.row 1),(.p (.int .i64 n))],.row .upl 67 l]] (.ret (.v (.one (.ptr 1 0)))) [.pack [.obj 90 [(.row 1),(.p (.int .i64 n))],.row .upl 67 l],.pack [.obj 90 [(.row 1),(.p (.int .i64 n))],.row .upl 67 l]]:=by
  refine spcG zi mixed Tryz.func115 (by kernel_rfl) { Zb with keep:=some [0,2]} [vP,vO,tH,tC] (by kernel_rfl) ?_
  intro I X hI hX
  refine zh (let y0:HO:=.pack [(.obj 90 [(.row 1),(.p (.int .i64 n))]),(.row .upl 67 l)];.both (.need (I.hid (α:=(Prop)) (zu l n)) (.fin (.ret (.v (.one (.ptr 1 0)))) [y0,y0])) (.need (I.hid (α:=(Prop)) (zu l n)) (.fin (.ret (.v (.one (.ptr 1 0)))) [y0,y0]))) (by kernel_rfl) ?_
  simp only [zk]
  subst hI
  simp only [nrmA,nrmB,nrlB,reduceCtorEq,HO.pack.injEq,HO.obj.injEq]
  exact⟨hneed,hneed⟩
def VT (I:Alg) (args:List D) (hp:List HO):Option CT:=match args,hp with
  |[.v (.one (.ptr 0 0))],[.pack [.obj 90 [(.row 1),(.p (.int .i64 n))],.row .upl 67 l]]=>(fun(l:List Upl) (n:Int)=>(some (.one ⟨I.hid (zu l n),(.ret (.v (.one (.ptr 1 0)))),[.pack [.obj 90 [(.row 1),(.p (.int .i64 n))],.row .upl 67 l],.pack [.obj 90 [(.row 1),(.p (.int .i64 n))],.row .upl 67 l]]⟩):Option CT)) l n
  |_,_=>none
theorem zdW:zo Tryz.prog 115 (VT alg):=by
  intro args hp r h
  unfold VT at h
  split at h
  · cases h;exact fun hn=>zmJ _ _ hn
  · cases h
def zje:Know Tryz.prog:=⟨115,VT,zdW⟩
def zjd:Know Tryz.prog:=⟨115,fun I=>zq I (VT I),zf zdW⟩
theorem zmv (a b:Int) (m y:Str) (t d:Int):Spc Tryz.prog 106 [.v (.agg [(.p (.int .i64 a)),(.p (.int .i64 b)),(.p (.str m)),(.p (.list .byte y)),(.p (.int .i64 t))]),.v (.one (.ptr 0 0))] [.pack [.obj 3 [(.p (.int .i64 d))]]] (.ret (.v (.one (.p (.bool ((a == d))))))) [.pack [.obj 3 [(.p (.int .i64 d))]]]:=by
  refine spcG zi mixed Tryz.func106 (by kernel_rfl) { keep:=some [0,1,2,3]} [] (by kernel_rfl) ?_
  intro I X hI hX
  refine zh (.fin (.ret (.v (.one (.p (.bool (I.ieq a d)))))) [(.pack [(.obj 3 [(.p (.int .i64 d))])])]) (by kernel_rfl) ?_
  simp only [zk]
  subst hI
  simp only [nrmA,nrmB,nrlB,reduceCtorEq,HO.pack.injEq,HO.obj.injEq]
def Vy (I:Alg) (args:List D) (hp:List HO):Option CT:=match args,hp with
  |[.v (.agg [(.p (.int .i64 a)),(.p (.int .i64 b)),(.p (.str m)),(.p (.list .byte y)),(.p (.int .i64 t))]),.v (.one (.ptr 0 0))],[.pack [.obj 3 [(.p (.int .i64 d))]]]=>(fun(a b:Int) (m y:Str) (t d:Int)=>(some (.one ⟨I.hid (True),(.ret (.v (.one (.p (.bool (I.hid ((a == d)))))))),[.pack [.obj 3 [(.p (.int .i64 d))]]]⟩):Option CT)) a b m y t d
  |_,_=>none
theorem zdC:zo Tryz.prog 106 (Vy alg):=by
  intro args hp r h
  unfold Vy at h
  split at h
  · cases h;exact fun hn=>zmv _ _ _ _ _ _
  · cases h
def Y8:Know Tryz.prog:=⟨106,Vy,zdC⟩
def ziX:Know Tryz.prog:=⟨106,fun I=>zq I (Vy I),zf zdC⟩
theorem zmu (l:List Upl) (d:Int) (hneed:l.length≤1000000):Spc Tryz.prog 97 [.v (.one (.p (.list .upl l))),.v (.one (.fn 106 [.ptr 0 0]))] [.pack [.obj 3 [(.p (.int .i64 d))]]] (.ret (.v (.one (.p (.int .i64 ((ixU l d))))))) [.pack [.obj 3 [(.p (.int .i64 d))]]]:=by
  refine spcG zi mixed Tryz.func97 (by kernel_rfl) { keep:=some [0,1,4,5,7,8]} [Y8,XW,XV] (by kernel_rfl) ?_
  intro I X hI hX
  refine zh (.code 0 [1,0,1,0] ⟨[(8,(.v (.one (.p (.int .i64 0))))),(7,(.v (.one (.p (.int .i64 (I.len (α:=Upl) l)))))),(4,(.v (.one (.p (.int .i64 0))))),(0,(.v (.one (.p (.list .upl l))))),(1,(.v (.one (.fn 106 [(.ptr 0 0)]))))],[(.pack [(.obj 3 [(.p (.int .i64 d))])])],19,none⟩) (by kernel_rfl) ?_
  simp only [zk]
  refine zG hI zi mixed [Y8,XW,XV] hX [0,1,7,8] (fun(i:Nat)=>i≤l.length∧i≤atU l d) (fun(i:Nat)=>⟨[(0,.v (.one (.p (.list .upl l)))),(1,.v (.one (.fn 106 [.ptr 0 0]))),(7,.v (.one (.p (.int .i64 ((I.len (α:=Upl) l)))))),(8,.v (.one (.p (.int .i64 i))))],[.pack [.obj 3 [(.p (.int .i64 d))]]],19,none⟩) (fun(i:Nat)=>l.length - i) 0 (by kernel_rfl) (by kernel_rfl) ?_ ?_
  · exact⟨Nat.zero_le _,Nat.zero_le _⟩
  rintro i ⟨h1,h2⟩ A hA
  refine zh (let y0:HO:=.pack [(.obj 3 [(.p (.int .i64 d))])];let y1:=I.inb (Nat.cast i) (I.len (α:=Upl) l);.br (I.ilt (Nat.cast i) (I.len (α:=Upl) l)) (.need y1 (.need y1 (.need (I.hid (α:=(Prop)) True) (.br (I.hid (α:=Bool) (BEq.beq (Upl.id (I.get (α:=Upl) l (Upl.mk (0:Int) (0:Int) ([]:Str) ([]:Str) (0:Int)) (Nat.cast i))) d)) (.fin (.ret (.v (.one (.p (.int .i64 (Nat.cast i)))))) [y0]) (.need (I.inr Go.IntKind.i64 (I.add (Nat.cast i) 1)) (.need (A ⟨[(0,(.v (.one (.p (.list .upl l))))),(1,(.v (.one (.fn 106 [(.ptr 0 0)])))),(7,(.v (.one (.p (.int .i64 (I.len (α:=Upl) l)))))),(8,(.v (.one (.p (.int .i64 (I.add (Nat.cast i) 1))))))],[y0],19,none⟩) .qed)))))) (.fin (.ret (.v (.one (.p (.int .i64 (Neg.neg (1:Int))))))) [y0])) (by kernel_rfl) ?_
  simp only [zk]
  subst hI
  simp only [nrmA,nrmB]
  have hx:=fun h=>zaC (l:=l) (id:=d) (i:=i) h h2
  have hle:=ZJ l d
  have e0:(⟨0,0,[],[],0⟩:Upl)=upl0:=rfl
  simp only [e0]
  unfold ixU
  (repeat' (first|refine And.intro ?_ ?_|intro _))<;>first|omega|exact True.intro|exact False.elim ‹False›|skip
  all_goals first
    |(have h3:=hx (by omega);rw [if_pos (by assumption)] at h3;rw [if_pos (by omega),h3])
    |(have h3:=hx (by omega);rw [if_neg (by assumption)] at h3;exact hA (i+1) ⟨by omega,h3⟩ (by omega))
    |(rw [if_neg (by omega)])
def Vx (I:Alg) (args:List D) (hp:List HO):Option CT:=match args,hp with
  |[.v (.one (.p (.list .upl l))),.v (.one (.fn 106 [.ptr 0 0]))],[.pack [.obj 3 [(.p (.int .i64 d))]]]=>(fun(l:List Upl) (d:Int)=>(some (.one ⟨I.hid (l.length≤1000000),(.ret (.v (.one (.p (.int .i64 (I.hid ((ixU l d)))))))),[.pack [.obj 3 [(.p (.int .i64 d))]]]⟩):Option CT)) l d
  |_,_=>none
theorem zdB:zo Tryz.prog 97 (Vx alg):=by
  intro args hp r h
  unfold Vx at h
  split at h
  · cases h;exact fun hn=>zmu _ _ hn
  · cases h
def zdA:Know Tryz.prog:=⟨97,Vx,zdB⟩
def zdz:Know Tryz.prog:=⟨97,fun I=>zq I (Vx I),zf zdB⟩
def notU (d:Int) (u:Upl):Bool:= !(u.id == d)
theorem zmw (l:List Upl) (d:Int) (hneed:l.length≤1000000):Spc Tryz.prog 105 [.v (.one (.row 0)),.v (.one (.fn 106 [.ptr 1 0]))] [.row .upl 67 l,.pack [.obj 3 [(.p (.int .i64 d))]]] (.ret (.v (.one (.row 2)))) [.gone,.pack [.obj 3 [(.p (.int .i64 d))]],.row .upl 67 ((l.filter (notU d)))]:=by
  refine spcG zi mixed Tryz.func105 (by kernel_rfl) { mv:=[0],cut:=[4],keep:=some [0,1,4,5,6,7]} [Y8,XW,XV,zdA,zdz] (by kernel_rfl) ?_
  intro I X hI hX
  refine zh (let y0:=I.add (I.hid (α:=Int) (ixU l d)) 1;let y1:HO:=.pack [(.obj 3 [(.p (.int .i64 d))])];.need (I.hid (α:=(Prop)) (LE.le (List.length l) 1000000)) (.br (I.ieq (I.hid (α:=Int) (ixU l d)) (Neg.neg (1:Int))) (.fin (.ret (.v (.one (.row 2)))) [.gone,y1,(.row .upl 67 l)]) (.need (I.inr Go.IntKind.i64 y0) (.code 0 [1,1,1,0,1,0] ⟨[(6,(.v (.one (.p (.int .i64 y0))))),(5,(.v (.one (.p (.int .i64 (I.hid (α:=Int) (ixU l d))))))),(4,(.v (.one .nilS))),(0,(.v (.one (.row 0)))),(1,(.v (.one (.fn 106 [(.ptr 1 0)]))))],[(.row .upl 67 l),y1],42,none⟩)))) (by kernel_rfl) ?_
  simp only [zk]
  have hfd: ∀ i,i≤atU l d→(l.take i).filter (notU d)=l.take i:=fun i hi=>List.filter_eq_self.2 fun u hu=>by
    obtain⟨j,hj⟩:=List.getElem?_of_mem hu
    rw [List.getElem?_take] at hj
    split at hj
    · rename_i hji
      obtain⟨hjl,he⟩:=List.getElem?_eq_some_iff.1 hj
      have:=List.not_of_lt_findIdx (p:=fun u:Upl=>u.id == d) (xs:=l) (i:=j) (by unfold atU at hi;omega)
      rw [← he]
      simpa [notU] using this
    · cases hj
  by_cases hk:atU l d<l.length
  · have hix:=ZC hk
    have e1:I.hid (ixU l d)=((atU l d:Nat):Int):=by subst hI;exact hix
    have e2:I.add ((atU l d:Nat):Int) 1=((atU l d+1:Nat):Int):=by subst hI;rfl
    rw [e1,e2]
    have hst:(l.take (atU l d+1)).filter (notU d)=l.take (atU l d):=by
      rw [List.take_succ_eq_append_getElem hk,List.filter_append,hfd _ (Nat.le_refl _)]
      have:=YS hk
      rw [wV hk] at this
      simp [notU,this]
    have hu0:=YS hk
    generalize atU l d=k at *
    refine⟨by subst hI;exact hneed,fun h=> ?_,fun _=>⟨by subst hI;rw [WB,zaf,zah];omega,?_⟩⟩
    · subst hI
      simp only [nrmA,nrmB] at h
      omega
    refine zG hI zi mixed [Y8,XW,XV,zdA,zdz] hX [0,1,5,6] (fun(g:Nat × Nat × List Upl)=>match g with|(i,j,c)=>i<j∧j≤l.length∧c.length=l.length∧c.take i=(l.take j).filter (notU d)∧c.drop j=l.drop j) (fun(g:Nat × Nat × List Upl)=>match g with|(i,j,c)=>⟨[(0,.v (.one (.row 2))),(1,.v (.one (.fn 106 [.ptr 1 0]))),(5,.v (.one (.p (.int .i64 i)))),(6,.v (.one (.p (.int .i64 j))))],[.gone,.pack [.obj 3 [(.p (.int .i64 d))]],.row .upl 67 c],42,none⟩) (fun(g:Nat × Nat × List Upl)=>match g with|(i,j,c)=>l.length - j) (k,k+1,l) (by kernel_rfl) (by kernel_rfl) ?_ ?_
    · exact⟨by omega,by omega,rfl,hst.symm,rfl⟩
    rintro⟨i,j,c⟩ ⟨h1,h2,h3,h4,h5⟩ A hA
    simp only at hA h1 h2 h3 h4 h5
    refine zh (let y0:=I.get (α:=Upl) c (Upl.mk (0:Int) (0:Int) ([]:Str) ([]:Str) (0:Int)) (Nat.cast j);let y1:=I.rep (α:=Upl) (I.sub (I.len (α:=Upl) c) (Int.ofNat i)) (Upl.mk (0:Int) (0:Int) ([]:Str) ([]:Str) (0:Int));let y2:HO:=.pack [(.obj 3 [(.p (.int .i64 d))])];let y3:=I.cutb (Int.ofNat i) (I.len (α:=Upl) c) (I.len (α:=Upl) c);let y4:=I.cut (α:=Upl) c (I.len (α:=Upl) c) (I.len (α:=Upl) c);let y5:=I.inr Go.IntKind.i64 (I.add (Nat.cast j) 1);let y6:=I.inb (Nat.cast j) (I.len (α:=Upl) c);let y7:=I.inb (Nat.cast i) (I.len (α:=Upl) c);let y8:=I.cut (α:=Upl) c 0 (Int.ofNat i);.br (I.ilt (Nat.cast j) (I.len (α:=Upl) c)) (.need y6 (.need y6 (.need (I.hid (α:=(Prop)) True) (.br (I.bnot (I.hid (α:=Bool) (BEq.beq (Upl.id y0) d))) (.need y7 (.need y7 (.need (I.inr Go.IntKind.i64 (I.add (Nat.cast i) 1)) (.need y5 (.need (A ⟨[(0,(.v (.one (.row 2)))),(1,(.v (.one (.fn 106 [(.ptr 1 0)])))),(5,(.v (.one (.p (.int .i64 (I.add (Nat.cast i) 1)))))),(6,(.v (.one (.p (.int .i64 (I.add (Nat.cast j) 1))))))],[.gone,y2,(.row .upl 67 (I.set (α:=Upl) c (Nat.cast i) (Upl.mk (Upl.id y0) (Upl.size y0) (Upl.note y0) (Upl.bytes y0) (Upl.sent y0))))],42,none⟩) .qed))))) (.need y5 (.need (A ⟨[(0,(.v (.one (.row 2)))),(1,(.v (.one (.fn 106 [(.ptr 1 0)])))),(5,(.v (.one (.p (.int .i64 (Nat.cast i)))))),(6,(.v (.one (.p (.int .i64 (I.add (Nat.cast j) 1))))))],[.gone,y2,(.row .upl 67 c)],42,none⟩) .qed)))))) (.need y3 (.need y3 (.need (I.cutb 0 (Int.ofNat i) (I.len (α:=Upl) (I.app (α:=Upl) y8 (I.app (α:=Upl) y1 y4)))) (.need (I.same (α:=Int) 0 0) (.fin (.ret (.v (.one (.row 2)))) [.gone,y2,(.row .upl 67 (I.cut (α:=Upl) (I.app (α:=Upl) y8 (I.app (α:=Upl) y1 y4)) 0 (Int.ofNat i)))])))))) (by kernel_rfl) ?_
    simp only [zk]
    subst hI
    simp only [nrmA,nrmB,nrlB,reduceCtorEq]
    have hx:j<l.length→c.getD j ⟨0,0,[],[],0⟩=l.getD j ⟨0,0,[],[],0⟩:=fun h=>by
      have e:=congrArg (fun m:List Upl=>m[0]?) h5
      simp only [List.getElem?_drop,Nat.add_zero] at e
      simp only [List.getD_eq_getElem?_getD,e]
    have hf:j<l.length→(l.take (j+1)).filter (notU d)=(l.take j).filter (notU d)++(if notU d (l.getD j ⟨0,0,[],[],0⟩) then [l.getD j ⟨0,0,[],[],0⟩] else []):=fun h=>by
      rw [List.take_succ_eq_append_getElem h,List.filter_append]
      simp [h,List.filter_cons]
    have hdr: ∀ c':List Upl,c'.drop j=l.drop j→c'.drop (j+1)=l.drop (j+1):=fun c' h=>by
      have:=congrArg (List.drop 1) h
      simpa [List.drop_drop] using this
    have hend: ¬ j<l.length→c.take i=l.filter (notU d):=fun h=>by rw [h4,List.take_of_length_le (by omega)]
    rw [show(c.length:Int)=(l.length:Int) by rw [h3]]
    have hset: ∀ u:Upl,i<c.length→(c.set i u).take (i+1)=c.take i++[u]:=fun u h=>by
      rw [List.take_succ_eq_append_getElem (by rw [List.length_set];exact h),List.getElem_set_self,List.take_set_of_le (Nat.le_refl _)]
    have hsd: ∀ u:Upl,(c.set i u).drop j=l.drop j:=fun u=>by rw [List.drop_set_of_lt h1,h5]
    refine⟨fun c1=> ?_,fun c1=> ?_⟩
    · have hj:j<l.length:=by omega
      rw [hx hj]
      have hf:=hf hj
      generalize l.getD j ⟨0,0,[],[],0⟩=x at *
      (repeat' (first|refine And.intro ?_ ?_|intro _))<;>first|omega|exact True.intro|exact False.elim ‹False›|skip
      · rename_i hne
        refine hA (i+1,j+1,c.set i x) ⟨by simp only;omega,by simp only;omega,by simp only [List.length_set];exact h3,?_,hdr _ (hsd x)⟩ (by simp only;omega)
        simp only
        rw [hset x (by omega),hf,if_pos (by simp [notU,hne]),h4]
      · rename_i heq
        refine hA (i,j+1,c) ⟨by simp only;omega,by simp only;omega,h3,?_,hdr _ h5⟩ (by simp only;omega)
        simp only
        rw [hf,if_neg (by simp [notU,heq]),List.append_nil,h4]
    · have he:=hend (by omega)
      have hl:(c.take i).length=i:=by rw [List.length_take];omega
      (repeat' (first|refine And.intro ?_ ?_|intro _))<;>first|omega|exact True.intro|exact False.elim ‹False›|skip
      all_goals first
        |(simp only [List.length_append,List.length_take,List.length_replicate];omega)
        |(rw [List.take_append_of_le_length (by omega),List.take_take,Nat.min_self,he])
  · have hix:=ZE hk
    have e1:I.hid (ixU l d)=(-1:Int):=by subst hI;exact hix
    rw [e1]
    have hall:l.filter (notU d)=l:=by
      have:=hfd l.length (by have:=ZJ l d;omega)
      rwa [List.take_length] at this
    rw [hall]
    refine⟨by subst hI;exact hneed,fun _=>⟨trivial,rfl⟩,fun h=> ?_⟩
    subst hI
    simp [alg] at h
def Vz (I:Alg) (args:List D) (hp:List HO):Option CT:=match args,hp with
  |[.v (.one (.row 0)),.v (.one (.fn 106 [.ptr 1 0]))],[.row .upl 67 l,.pack [.obj 3 [(.p (.int .i64 d))]]]=>(fun(l:List Upl) (d:Int)=>(some (.one ⟨I.hid (l.length≤1000000),(.ret (.v (.one (.row 2)))),[.gone,.pack [.obj 3 [(.p (.int .i64 d))]],.row .upl 67 (I.hid ((l.filter (notU d))))]⟩):Option CT)) l d
  |_,_=>none
theorem zdD:zo Tryz.prog 105 (Vz alg):=by
  intro args hp r h
  unfold Vz at h
  split at h
  · cases h;exact fun hn=>zmw _ _ hn
  · cases h
def ziZ:Know Tryz.prog:=⟨105,Vz,zdD⟩
def ziY:Know Tryz.prog:=⟨105,fun I=>zq I (Vz I),zf zdD⟩
theorem zmI (l:List Upl) (n id:Int) (hneed:zu l n):Spc Tryz.prog 74 [.v (.one (.ptr 0 0)),.v (.one (.p (.int .i64 id)))] [.pack [.obj 90 [(.row 1),(.p (.int .i64 n))],.row .upl 67 l]] (.ret (.v (.one (.p (.int .i64 ((droC l id))))))) [.pack [.obj 90 [(.row 1),(.p (.int .i64 n))],.row .upl 67 ((droL l id))]]:=by
  have hs:=hneed
  have hf:=vN hs
  have hfl:l.filter (notU id)=droL l id:=zhS hs.srt id
  generalize he:droC l id=re
  generalize hl:droL l id=rl at hfl
  refine spcG zi mixed Tryz.func74 (by kernel_rfl) { Zb with bare:=[66],keep:=some [0,1,3,4,6]} [SQ,SN,Y8,ziX,ziZ,ziY] (by kernel_rfl) ?_
  intro I X hI hX
  refine zh (let y0:HO:=.pack [(.obj 90 [(.row 1),(.p (.int .i64 n))]),(.row .upl 67 (I.hid (α:=(List Upl)) (List.filter (notU id) l)))];let y1:HO:=.pack [(.obj 90 [(.row 1),(.p (.int .i64 n))]),(.row .upl 67 l)];let y2:=I.hid (α:=(Prop)) (LE.le (List.length l) 1000000);.br (I.hid (α:=Bool) (Decidable.decide (LT.lt (atU l id) (List.length l)))) (.need (I.hid (α:=(Prop)) (And (LE.le (List.length l) 1000000) (LT.lt (atU l id) (List.length l)))) (.br (I.bnot (I.ieq 0 0)) (.fin (.ret (.v (.one (.p (.int .i64 0))))) [y1]) (.need y2 (.fin (.ret (.v (.one (.p (.int .i64 0))))) [y0])))) (.need (I.hid (α:=(Prop)) (And (LE.le (List.length l) 1000000) (Not (LT.lt (atU l id) (List.length l))))) (.br (I.bnot (I.ieq 10 0)) (.fin (.ret (.v (.one (.p (.int .i64 10))))) [y1]) (.need y2 (.fin (.ret (.v (.one (.p (.int .i64 0))))) [y0]))))) (by kernel_rfl) ?_
  simp only [zk]
  subst hI
  simp only [nrmA,nrmB,nrlB,reduceCtorEq,HO.pack.injEq,HO.obj.injEq]
  unfold droC at he
  (repeat' (first|refine And.intro ?_ ?_|intro _))<;>first|omega|exact True.intro|exact False.elim ‹False›|skip
  all_goals first
    |exact hf.1
    |exact hfl
    |((repeat(first|rewrite [if_pos (by first|omega|assumption|(simp only [*,or_self,or_true,true_or,or_false,false_or,not_true_eq_false,not_false_eq_true,Bool.false_eq_true,Bool.true_eq_false,and_self,and_true,true_and];done)|(simp only [*];omega)|(simp [*];done)|(simp [*];omega))] at he|rewrite [if_neg (by first|omega|assumption|(simp only [*,or_self,or_true,true_or,or_false,false_or,not_true_eq_false,not_false_eq_true,Bool.false_eq_true,Bool.true_eq_false,and_self,and_true,true_and];done)|(simp only [*];omega)|(simp [*];done)|(simp [*];omega))] at he));subst he;rfl)
    |(rw [← hl];unfold droL;rw [List.eraseIdx_of_length_le (by omega)])
def VS (I:Alg) (args:List D) (hp:List HO):Option CT:=match args,hp with
  |[.v (.one (.ptr 0 0)),.v (.one (.p (.int .i64 id)))],[.pack [.obj 90 [(.row 1),(.p (.int .i64 n))],.row .upl 67 l]]=>(fun(l:List Upl) (n id:Int)=>(some (.one ⟨I.hid (zu l n),(.ret (.v (.one (.p (.int .i64 (I.hid ((droC l id)))))))),[.pack [.obj 90 [(.row 1),(.p (.int .i64 n))],.row .upl 67 (I.hid ((droL l id)))]]⟩):Option CT)) l n id
  |_,_=>none
theorem zdV:zo Tryz.prog 74 (VS alg):=by
  intro args hp r h
  unfold VS at h
  split at h
  · cases h;exact fun hn=>zmI _ _ _ hn
  · cases h
def zjb:Know Tryz.prog:=⟨74,VS,zdV⟩
def zja:Know Tryz.prog:=⟨74,fun I=>zq I (VS I),zf zdV⟩
end Go.Proofs.YtcclfkakcgnacaaGreatDoor
namespace Go.Jrn
open Go Go.Ab
def sevF:Nat→Nat→Str
  |0,u=>[UInt8.ofNat u]
  |f+1,u=>if u<128 then [UInt8.ofNat u] else UInt8.ofNat (u % 128+128)::sevF f (u / 128)
def sev (u:Nat):Str:=sevF 9 u
theorem za5: ∀ (f u:Nat),u<128 ^ (f+1)→∀ g,f≤g→sevF g u=sevF f u
  | 0,u,h,g,_=>by
    cases g with
    |zero=>rfl
    |succ g=>simp only [sevF];rw [if_pos (by simpa using h)]
  | f +1,u,h,g,hg=>by
    cases g with
    |zero=>omega
    | succ g=>
      rw [sevF,sevF]
      split
      · rfl
      · rw [za5 f (u / 128) (by rw [Nat.div_lt_iff_lt_mul (by omega)];rw [Nat.pow_succ] at h;exact h) g (by omega)]
theorem UF {u:Nat} (h:u<128):sev u=[UInt8.ofNat u]:=by rw [sev,sevF,if_pos h]
theorem zgz {u:Nat} (h:128≤u) (hu:u<128 ^ 9):sev u=UInt8.ofNat (u % 128+128)::sev (u / 128):=by
  rw [sev,sevF,if_neg (by omega),sev,za5 8 (u / 128) (Nat.lt_of_le_of_lt (Nat.div_le_self _ _) hu) 9 (by omega)]
theorem wu (u:Nat):1≤(sev u).length∧(sev u).length≤10:=by
  have h: ∀ f u,1≤(sevF f u).length∧(sevF f u).length≤f+1:=by
    intro f
    induction f with
    |zero=>intro u;exact⟨Nat.le_refl _,Nat.le_refl _⟩
    | succ f ih=>
      intro u
      rw [sevF]
      split
      · simp
      · have:=ih (u / 128);simp;omega
  exact h 9 u
def numF (i u:Nat):Str→Int × Str × Bool
  |[]=>(0,[],false)
  | c::r=>if 5≤i then(0,[],false) else
    if c.toNat<128 then((u+c.toNat * 128 ^ i:Nat) - 1,r,decide (i=0∨0<c.toNat)) else numF (i+1) (u+c.toNat % 128 * 128 ^ i) r
def num (b:Str):Int × Str × Bool:=numF 0 0 b
def few (n:Int):Bool:=decide (-1≤n)&&decide (n<1073741824)
def mayM (e:Ent):Bool:=decide (1≤e.kind)&&decide (e.kind≤6)&&few e.id&&few e.n&&decide (e.text.length<1048576)
def enc3 (e:Ent):Str:=sev (e.kind+1).toNat++sev (e.id+1).toNat++sev (e.n+1).toNat++e.text
def encB (e:Ent):Str:=sev ((enc3 e).length+1)++enc3 e
def encM (e:Ent):Str:=if mayM e then encB e else []
def encC (e:Ent):Int:=if mayM e then 0 else 1
def three (b:Str):Option (Int × Int × Int × Str):=
  match num b with
  | (k,r,true)=>(match num r with
    | (i,r,true)=>(match num r with
      |(n,r,true)=>some (k,i,n,r)
      |_=>none)
    |_=>none)
  |_=>none
def oneX (b:Str):Ent × Str × Bool:=
  match num b with
  | (n,r,true)=>if n<0∨(r.length:Int)<n then(⟨0,0,0,[]⟩,[],false) else
    match three (r.take n.toNat) with
    |some (k,i,m,t)=>(⟨k,i,m,t⟩,r.drop n.toNat,mayM ⟨k,i,m,t⟩)
    |none=>(⟨0,0,0,[]⟩,[],false)
  |_=>(⟨0,0,0,[]⟩,[],false)
def oneM (b:Str):Option (Ent × Str):=if(oneX b).2.2 then some ((oneX b).1,(oneX b).2.1) else none
def decF:Nat→Str→List Ent × Str
  |0,b=>([],b)
  | f+1,b=>match oneM b with
    |some (e,r)=>(e::(decF f r).1,(decF f r).2)
    |none=>([],b)
def dec (b:Str):List Ent × Str:=decF b.length b
end Go.Jrn
namespace Go.Proofs.YtcclfkakcgnacaaGreatDoor
open Go Go.Sep Go.Ab Go.Jrn
set_option maxRecDepth 100000
theorem zn5: ∀ u:Nat,u<256→IntKind.u8.wrap ((BitVec.ofInt IntKind.u8.bits (u:Int)|||BitVec.ofInt IntKind.u8.bits 128).toNat:Int)=((u % 128+128:Nat):Int):=by decide+kernel
theorem wrap_u8 (u:Nat):IntKind.u8.wrap (u:Int)=((u % 256:Nat):Int):=by
  unfold IntKind.wrap
  simp only [show IntKind.u8.signed=false by decide,show IntKind.u8.bits=8 by decide,Bool.false_and,Bool.false_eq_true,if_false]
  show(u:Int) % 256=_
  omega
theorem wrap_i64 (u:Int) (h: -9223372036854775808≤u∧u≤9223372036854775807):IntKind.i64.wrap u=u:=zcg (k:=.i64) (by rw [WB,zaf,zah];exact h)
theorem wrap_u64 (u:Int) (h:0≤u∧u≤9223372036854775807):IntKind.u64.wrap u=u:=zcg (k:=.u64) (by
  rw [WB,show IntKind.u64.min=0 by decide,show IntKind.u64.max=18446744073709551615 by decide];omega)
theorem shr7 (u:Nat):(u:Int).fdiv (2 ^ min (Int.toNat 7) 64)=((u / 128:Nat):Int):=by
  show(u:Int).fdiv 128=_
  rw [Int.fdiv_eq_ediv_of_nonneg _ (by decide)]
  omega
theorem put_ (l:Str) (n:Int) (hneed: -1≤n∧n<34359738368∧l.length≤50000000):Spc Tryz.prog 142 [.v (.one (.row 0)),.v (.one (.p (.int .i64 n)))] [.row .byte 5 l] (.ret (.v (.one (.row 1)))) [.gone,.row .byte 5 ((l++sev (n+1).toNat))]:=by
  refine spcG zi mixed Tryz.func142 (by kernel_rfl) { mv:=[0],keep:=some [0,1,4,5]} [] (by kernel_rfl) ?_
  intro I X hI hX
  refine zh (.need (I.inr Go.IntKind.i64 (I.add n 1)) (.code 0 [1,1,0,0] ⟨[(5,(.v (.one (.p (.int .u64 (I.wrap Go.IntKind.u64 (I.add n 1))))))),(4,(.v (.one .nilS))),(0,(.v (.one (.row 0)))),(1,(.v (.one (.p (.int .i64 n)))))],[(.row .byte 5 l)],24,none⟩)) (by kernel_rfl) ?_
  simp only [zk]
  refine⟨(by rw [hI];simp only [nrmA,nrmB];omega),?_⟩
  refine zG hI zi mixed [] hX [0,5] (fun(g:Str × Int)=>match g with|(m,u)=>0≤u∧u<68719476736∧m++sev u.toNat=l++sev (n+1).toNat) (fun(g:Str × Int)=>match g with|(m,u)=>⟨[(0,.v (.one (.row 1))),(5,.v (.one (.p (.int .u64 u))))],[.gone,.row .byte 5 m],24,none⟩) (fun(g:Str × Int)=>match g with|(m,u)=>u.toNat) (l,I.wrap .u64 (I.add n 1)) (by kernel_rfl) (by kernel_rfl) ?_ ?_
  · subst hI
    simp only
    simp only [nrmA,nrmB]
    rw [wrap_u64 _ (by omega)]
    exact⟨by omega,by omega,rfl⟩
  rintro⟨m,u⟩ ⟨h0,h1,h2⟩ A hA
  obtain⟨u,rfl⟩:=Int.eq_ofNat_of_zero_le h0
  simp only [Int.toNat_natCast] at h2
  simp only at hA
  generalize hu':(u:Int)=u' at *
  refine zh (let y0:=I.bits Go.BinOp.or Go.IntKind.u8 (I.wrap Go.IntKind.u8 u') 128;.br (I.ile 128 u') (.need (I.inr Go.IntKind.u8 y0) (.need (I.few (I.add (I.len (α:=UInt8) m) (I.len (α:=UInt8) ([(I.i2b y0)]:Str))) 140737488355328) (.need (I.nng 7) (.need (I.few 7 64) (.need (I.few 7 (Nat.cast (Go.IntKind.bits Go.IntKind.u64))) (.need (A ⟨[(0,(.v (.one (.row 1)))),(5,(.v (.one (.p (.int .u64 (I.shr u' 7))))))],[.gone,(.row .byte 5 (I.app (α:=UInt8) m ([(I.i2b y0)]:Str)))],24,none⟩) .qed)))))) (.need (I.inr Go.IntKind.u8 (I.wrap Go.IntKind.u8 u')) (.need (I.few (I.add (I.len (α:=UInt8) m) (I.len (α:=UInt8) ([(I.i2b (I.wrap Go.IntKind.u8 u'))]:Str))) 140737488355328) (.fin (.ret (.v (.one (.row 1)))) [.gone,(.row .byte 5 (I.app (α:=UInt8) m ([(I.i2b (I.wrap Go.IntKind.u8 u'))]:Str)))])))) (by kernel_rfl) ?_
  simp only [zk]
  subst hI hu'
  simp only [nrmA,nrmB]
  have hml:=congrArg List.length h2
  have hs1:=wu u
  have hs2:=wu (n+1).toNat
  simp only [List.length_append] at hml
  have hu8:u % 256 % 128=u % 128:=by omega
  rw [wrap_u8 u,zn5 _ (by omega),shr7,hu8,Int.toNat_natCast,Int.toNat_natCast]
  have h64:((IntKind.u64.bits:Nat):Int)=64:=by decide
  simp only [List.length_cons,List.length_nil,h64]
  (repeat' (first|refine And.intro ?_ ?_|intro _))<;>first|omega|exact True.intro|exact False.elim ‹False›|skip
  · have hb:=zgz (u:=u) (by omega) (by omega)
    refine hA (m++[UInt8.ofNat (u % 128+128)],(u / 128:Nat)) ⟨by omega,by omega,?_⟩ (by simp only;omega)
    rw [Int.toNat_natCast,← h2,hb,List.append_assoc];rfl
  · rw [← h2,UF (by omega),show u % 256=u by omega]
def zd0 (I:Alg) (args:List D) (hp:List HO):Option CT:=match args,hp with
  |[.v (.one (.row 0)),.v (.one (.p (.int .i64 n)))],[.row .byte 5 l]=>(fun(l:Str) (n:Int)=>(some (.one ⟨I.hid (-1≤n∧n<34359738368∧l.length≤50000000),(.ret (.v (.one (.row 1)))),[.gone,.row .byte 5 (I.hid ((l++sev (n+1).toNat)))]⟩):Option CT)) l n
  |_,_=>none
theorem zkd:zo Tryz.prog 142 (zd0 alg):=by
  intro args hp r h
  unfold zd0 at h
  split at h
  · cases h;exact fun hn=>put_ _ _ hn
  · cases h
def zkc:Know Tryz.prog:=⟨142,zd0,zkd⟩
def zkb:Know Tryz.prog:=⟨142,fun I=>zq I (zd0 I),zf zkd⟩
theorem zmB (n:Int) (hneed: -1≤n∧n<34359738368):Spc Tryz.prog 124 [.v (.one (.p (.int .i64 n)))] [] (.ret (.v (.one (.row 0)))) [.row .byte 5 ((sev (n+1).toNat))]:=by
  refine spcG zi mixed Tryz.func124 (by kernel_rfl) { nr:=[3],keep:=some [0,2,3]} [] (by kernel_rfl) ?_
  intro I X hI hX
  refine zh (.need (I.inr Go.IntKind.i64 (I.add n 1)) (.code 0 [1,1,1,0,0] ⟨[(0,(.v (.one (.p (.int .i64 (I.add n 1)))))),(3,(.v (.one (.row 0)))),(2,(.v (.one .nilS)))],[(.row .byte 5 ([]:Str))],22,none⟩)) (by kernel_rfl) ?_
  simp only [zk]
  refine⟨(by rw [hI];simp only [nrmA,nrmB];omega),?_⟩
  refine zG hI zi mixed [] hX [0,3] (fun(g:Str × Int)=>match g with|(m,u)=>0≤u∧u<68719476736∧m++sev u.toNat=sev (n+1).toNat) (fun(g:Str × Int)=>match g with|(m,u)=>⟨[(0,.v (.one (.p (.int .i64 u)))),(3,.v (.one (.row 0)))],[.row .byte 5 m],22,none⟩) (fun(g:Str × Int)=>match g with|(m,u)=>u.toNat) ([],I.add n 1) (by kernel_rfl) (by kernel_rfl) ?_ ?_
  · subst hI
    simp only
    simp only [nrmA,nrmB]
    exact⟨by omega,by omega,rfl⟩
  rintro⟨m,u⟩ ⟨h0,h1,h2⟩ A hA
  obtain⟨u,rfl⟩:=Int.eq_ofNat_of_zero_le h0
  simp only [Int.toNat_natCast] at h2
  simp only at hA
  generalize hu':(u:Int)=u' at *
  refine zh (let y0:=I.wrap Go.IntKind.u8 (I.add (I.rem u' 128) 128);.br (I.ile 128 u') (.need (I.nne 128) (.need (I.inr Go.IntKind.i64 (I.add (I.rem u' 128) 128)) (.need (I.inr Go.IntKind.u8 y0) (.need (I.few (I.add (I.len (α:=UInt8) m) (I.len (α:=UInt8) ([(I.i2b y0)]:Str))) 140737488355328) (.need (I.nne 128) (.need (I.inr Go.IntKind.i64 (I.quo u' 128)) (.need (A ⟨[(0,(.v (.one (.p (.int .i64 (I.quo u' 128)))))),(3,(.v (.one (.row 0))))],[(.row .byte 5 (I.app (α:=UInt8) m ([(I.i2b y0)]:Str)))],22,none⟩) .qed))))))) (.need (I.inr Go.IntKind.u8 (I.wrap Go.IntKind.u8 u')) (.need (I.few (I.add (I.len (α:=UInt8) m) (I.len (α:=UInt8) ([(I.i2b (I.wrap Go.IntKind.u8 u'))]:Str))) 140737488355328) (.fin (.ret (.v (.one (.row 0)))) [(.row .byte 5 (I.app (α:=UInt8) m ([(I.i2b (I.wrap Go.IntKind.u8 u'))]:Str)))])))) (by kernel_rfl) ?_
  simp only [zk]
  subst hI hu'
  simp only [nrmA,nrmB]
  have hml:=congrArg List.length h2
  have hs1:=wu u
  have hs2:=wu (n+1).toNat
  simp only [List.length_append] at hml
  have e1:(u:Int).tmod 128+128=((u % 128+128:Nat):Int):=by rw [Int.tmod_eq_emod_of_nonneg (by omega)];omega
  have e2:(u:Int).tdiv 128=((u / 128:Nat):Int):=by rw [Int.tdiv_eq_ediv_of_nonneg (by omega)];omega
  rw [e1,e2,wrap_u8,wrap_u8,Int.toNat_natCast,Int.toNat_natCast,show(u % 128+128) % 256=u % 128+128 by omega]
  simp only [List.length_cons,List.length_nil]
  (repeat' (first|refine And.intro ?_ ?_|intro _))<;>first|omega|exact True.intro|exact False.elim ‹False›|skip
  · have hb:=zgz (u:=u) (by omega) (by omega)
    refine hA (m++[UInt8.ofNat (u % 128+128)],(u / 128:Nat)) ⟨by omega,by omega,?_⟩ (by simp only;omega)
    rw [Int.toNat_natCast,← h2,hb,List.append_assoc];rfl
  · rw [← h2,UF (by omega),show u % 256=u by omega]
def VI (I:Alg) (args:List D) (hp:List HO):Option CT:=match args,hp with
  |[.v (.one (.p (.int .i64 n)))],[]=>(fun(n:Int)=>(some (.one ⟨I.hid (-1≤n∧n<34359738368),(.ret (.v (.one (.row 0)))),[.row .byte 5 (I.hid ((sev (n+1).toNat)))]⟩):Option CT)) n
  |_,_=>none
theorem zdJ:zo Tryz.prog 124 (VI alg):=by
  intro args hp r h
  unfold VI at h
  split at h
  · cases h;exact fun hn=>zmB _ hn
  · cases h
def zi3:Know Tryz.prog:=⟨124,VI,zdJ⟩
def zi2:Know Tryz.prog:=⟨124,fun I=>zq I (VI I),zf zdJ⟩
theorem few_ (n:Int):Spc Tryz.prog 128 [.v (.one (.p (.int .i64 n)))] [] (.ret (.v (.one (.p (.bool (few n)))))) []:=by
  refine spcG zi mixed Tryz.func128 (by kernel_rfl) { keep:=some [0,2]} [] (by kernel_rfl) ?_
  intro I X hI hX
  refine zh (.br (I.ile (Neg.neg (1:Int)) n) (.fin (.ret (.v (.one (.p (.bool (I.ilt n 1073741824)))))) []) (.fin (.ret (.v (.one (.p (.bool Bool.false))))) [])) (by kernel_rfl) ?_
  simp only [zk]
  subst hI
  simp only [nrmA,nrmB]
  unfold few
  (repeat' (first|refine And.intro ?_ ?_|intro _))<;>first|omega|exact True.intro|exact False.elim ‹False›|skip
  · simp [*]
  · simp [*]
def zeM (I:Alg) (args:List D) (hp:List HO):Option CT:=match args,hp with
  |[.v (.one (.p (.int .i64 n)))],[]=>(fun(n:Int)=>(some (.one ⟨I.hid (True),(.ret (.v (.one (.p (.bool (I.hid (few n))))))),[]⟩):Option CT)) n
  |_,_=>none
theorem zkr:zo Tryz.prog 128 (zeM alg):=by
  intro args hp r h
  unfold zeM at h
  split at h
  · cases h;exact fun hn=>few_ _
  · cases h
def znt:Know Tryz.prog:=⟨128,zeM,zkr⟩
def zns:Know Tryz.prog:=⟨128,fun I=>zq I (zeM I),zf zkr⟩
theorem may_ (k i n:Int) (t:Str):Spc Tryz.prog 100 [.v (.agg [(.p (.int .i64 k)),(.p (.int .i64 i)),(.p (.int .i64 n)),(.p (.list .byte t))])] [] (.ret (.v (.one (.p (.bool (mayM ⟨k,i,n,t⟩)))))) []:=by
  refine spcG zi mixed Tryz.func100 (by kernel_rfl) { keep:=some [0,1,2,3]} [znt,zns] (by kernel_rfl) ?_
  intro I X hI hX
  refine zh (.br (I.ile 1 k) (.br (I.ile k 6) (.need (I.hid (α:=(Prop)) True) (.br (I.hid (α:=Bool) (Go.Jrn.few i)) (.need (I.hid (α:=(Prop)) True) (.br (I.hid (α:=Bool) (Go.Jrn.few n)) (.fin (.ret (.v (.one (.p (.bool (I.ilt (I.len (α:=UInt8) t) 1048576)))))) []) (.fin (.ret (.v (.one (.p (.bool Bool.false))))) []))) (.fin (.ret (.v (.one (.p (.bool Bool.false))))) []))) (.fin (.ret (.v (.one (.p (.bool Bool.false))))) [])) (.fin (.ret (.v (.one (.p (.bool Bool.false))))) [])) (by kernel_rfl) ?_
  simp only [zk]
  subst hI
  simp only [nrmA,nrmB]
  unfold mayM
  (repeat' (first|refine And.intro ?_ ?_|intro _))<;>first|omega|exact True.intro|exact False.elim ‹False›|skip
  all_goals simp [*]<;>omega
def zef (I:Alg) (args:List D) (hp:List HO):Option CT:=match args,hp with
  |[.v (.agg [(.p (.int .i64 k)),(.p (.int .i64 i)),(.p (.int .i64 n)),(.p (.list .byte t))])],[]=>(fun(k i n:Int) (t:Str)=>(some (.one ⟨I.hid (True),(.ret (.v (.one (.p (.bool (I.hid (mayM ⟨k,i,n,t⟩))))))),[]⟩):Option CT)) k i n t
  |_,_=>none
theorem zkk:zo Tryz.prog 100 (zef alg):=by
  intro args hp r h
  unfold zef at h
  split at h
  · cases h;exact fun hn=>may_ _ _ _ _
  · cases h
def zkj:Know Tryz.prog:=⟨100,zef,zkk⟩
def zki:Know Tryz.prog:=⟨100,fun I=>zq I (zef I),zf zkk⟩
end Go.Proofs.YtcclfkakcgnacaaGreatDoor
namespace Go.Proofs.YtcclfkakcgnacaaGreatDoor
open Go Go.Sep Go.Ab Go.Jrn
set_option maxRecDepth 100000
def pre3 (k i n:Int):Nat→Str
  |0=>[]
  |1=>sev (k+1).toNat
  |2=>sev (k+1).toNat++sev (i+1).toNat
  |_=>sev (k+1).toNat++sev (i+1).toNat++sev (n+1).toNat
theorem zlW (k i n:Int) (t:Str):Spc Tryz.prog 116 [.v (.agg [(.p (.int .i64 k)),(.p (.int .i64 i)),(.p (.int .i64 n)),(.p (.list .byte t))])] [] (.ret (.tup [(.one (.row 0)),(.one (.p (.int .i64 (encC ⟨k,i,n,t⟩))))])) [.row .byte 5 ((encM ⟨k,i,n,t⟩))]:=by
  refine spcG zi mixed Tryz.func116 (by kernel_rfl) { nr:=[4],own:=[142],keep:=some [0,1,2,3,4,6,16,17,18]} [zkc,zkb,zkj,zki] (by kernel_rfl) ?_
  intro I X hI hX
  refine zh (.need (I.hid (α:=(Prop)) True) (.br (I.bnot (I.hid (α:=Bool) (Go.Jrn.mayM (Ent.mk k i n t)))) (.fin (.ret (.tup [(.one (.row 0)),(.one (.p (.int .i64 1)))])) [(.row .byte 5 ([]:Str))]) (.code 0 [1,1,1,0,1,0] ⟨[(18,(.v (.one (.p (.int .i64 0))))),(17,(.v (.one (.p (.int .i64 (I.len (α:=Int) ([k,i,n]:List Int))))))),(16,(.v (.one (.row 2)))),(4,(.v (.one (.row 1)))),(3,(.v (.one (.p (.int .i64 0))))),(2,(.v (.one .nilS))),(1,(.v (.one (.ptr 0 0)))),(0,(.v (.agg [(.p (.int .i64 k)),(.p (.int .i64 i)),(.p (.int .i64 n)),(.p (.list .byte t))])))],[(.obj 101 [(.p (.int .i64 k)),(.p (.int .i64 i)),(.p (.int .i64 n)),(.p (.list .byte t))]),(.row .byte 5 ([]:Str)),(.row .int 3 ([k,i,n]:List Int))],35,none⟩))) (by kernel_rfl) ?_
  simp only [zk]
  refine⟨(by rw [hI];trivial),fun hm=> ?_,fun hm=> ?_⟩
  · subst hI
    simp only [nrmA,nrmB,nrlB,reduceCtorEq] at hm
    simp only [nrmA,nrmB,nrlB,reduceCtorEq]
    simp only [encC,encM,hm,Bool.false_eq_true,if_false]
    exact⟨trivial,trivial⟩
  rw [hI] at hm;simp only [nrmA,nrmB] at hm
  have hmay:=hm
  simp only [mayM,few,Bool.and_eq_true,decide_eq_true_eq] at hmay
  obtain⟨⟨⟨⟨m1,m2⟩,m3,m4⟩,m5,m6⟩,m7⟩:=hmay
  simp only [encC,encM,hm,if_true]
  generalize hr:encB ⟨k,i,n,t⟩=r
  refine zG hI zi mixed [zkc,zkb,zkj,zki] hX [1,4,16,17,18] (fun(g:Nat × Str)=>match g with|(j,m)=>j≤3∧m=pre3 k i n j) (fun(g:Nat × Str)=>match g with|(j,m)=>⟨[(1,.v (.one (.ptr 0 0))),(4,.v (.one (.row 1))),(16,.v (.one (.row 2))),(17,.v (.one (.p (.int .i64 ((I.len (α:=Int) [k,i,n])))))),(18,.v (.one (.p (.int .i64 j))))],[.pack [.obj 101 [(.p (.int .i64 k)),(.p (.int .i64 i)),(.p (.int .i64 n)),(.p (.list .byte t))]],.row .byte 5 m,.row .int 3 ([k,i,n])],35,none⟩) (fun(g:Nat × Str)=>match g with|(j,m)=>3 - j) (0,[]) (by kernel_rfl) (by kernel_rfl) ?_ ?_
  · exact⟨Nat.zero_le _,rfl⟩
  rintro⟨j,m⟩ ⟨hj,hjm⟩ A hA
  simp only at hA
  refine zh (let y0:=I.len (α:=UInt8) (I.app (α:=UInt8) m t);let y1:=I.len (α:=Int) ([k,i,n]:List Int);let y2:=I.get (α:=Int) ([k,i,n]:List Int) 0 (Nat.cast j);let y3:=I.hid (α:=Str) (HAppend.hAppend ([]:Str) (Go.Jrn.sev (Int.toNat (HAdd.hAdd y0 (1:Int)))));.br (I.ilt (Nat.cast j) y1) (.need (I.inb (Nat.cast j) y1) (.need (I.inb (Nat.cast j) y1) (.need (I.hid (α:=(Prop)) (And (LE.le (Neg.neg (1:Int)) y2) (And (LT.lt y2 (34359738368:Int)) (LE.le (List.length m) 50000000)))) (.need (I.inr Go.IntKind.i64 (I.add (Nat.cast j) 1)) (.need (A ⟨[(1,(.v (.one (.ptr 0 0)))),(4,(.v (.one (.row 1)))),(16,(.v (.one (.row 2)))),(17,(.v (.one (.p (.int .i64 y1))))),(18,(.v (.one (.p (.int .i64 (I.add (Nat.cast j) 1))))))],[(.pack [(.obj 101 [(.p (.int .i64 k)),(.p (.int .i64 i)),(.p (.int .i64 n)),(.p (.list .byte t))])]),(.row .byte 5 (I.hid (α:=Str) (HAppend.hAppend m (Go.Jrn.sev (Int.toNat (HAdd.hAdd y2 (1:Int))))))),(.row .int 3 ([k,i,n]:List Int))],35,none⟩) .qed))))) (.need (I.few (I.add (I.len (α:=UInt8) m) (I.len (α:=UInt8) t)) 140737488355328) (.need (I.hid (α:=(Prop)) (And (LE.le (Neg.neg (1:Int)) y0) (And (LT.lt y0 (34359738368:Int)) (LE.le (List.length ([]:Str)) 50000000)))) (.need (I.few (I.add (I.len (α:=UInt8) y3) y0) 140737488355328) (.fin (.ret (.tup [(.one (.row 0)),(.one (.p (.int .i64 0)))])) [(.row .byte 5 (I.app (α:=UInt8) y3 (I.app (α:=UInt8) m t)))]))))) (by kernel_rfl) ?_
  simp only [zk]
  subst hI
  simp only [nrmA,nrmB,nrlB,reduceCtorEq]
  have l1:=wu (k+1).toNat
  have l2:=wu (i+1).toNat
  have l3:=wu (n+1).toNat
  simp only [List.length_cons,List.length_nil]
  rcases(show j=0∨j=1∨j=2∨j=3 by omega) with rfl|rfl|rfl|rfl
  · have hb:=hA (1,sev (k+1).toNat) ⟨by omega,rfl⟩ (by simp only;omega)
    subst hjm
    (repeat' (first|refine And.intro ?_ ?_|intro _))<;>first|omega|exact True.intro|exact False.elim ‹False›|skip
    · simp only [List.getD_cons_zero];omega
    · simp only [List.getD_cons_zero];omega
    · simp only [pre3,List.length_nil];omega
    · exact hb
  · have hb:=hA (2,sev (k+1).toNat++sev (i+1).toNat) ⟨by omega,rfl⟩ (by simp only;omega)
    subst hjm
    (repeat' (first|refine And.intro ?_ ?_|intro _))<;>first|omega|exact True.intro|exact False.elim ‹False›|skip
    · simp only [List.getD_cons_zero,List.getD_cons_succ];omega
    · simp only [List.getD_cons_zero,List.getD_cons_succ];omega
    · simp only [pre3];omega
    · exact hb
  · have hb:=hA (3,sev (k+1).toNat++sev (i+1).toNat++sev (n+1).toNat) ⟨by omega,rfl⟩ (by simp only;omega)
    subst hjm
    (repeat' (first|refine And.intro ?_ ?_|intro _))<;>first|omega|exact True.intro|exact False.elim ‹False›|skip
    · simp only [List.getD_cons_zero,List.getD_cons_succ];omega
    · simp only [List.getD_cons_zero,List.getD_cons_succ];omega
    · simp only [pre3,List.length_append];omega
    · exact hb
  · have hm3:(m++t).length≤1048606:=by rw [hjm];simp only [pre3,List.length_append];omega
    have hml:m.length≤30:=by rw [hjm];simp only [pre3,List.length_append];omega
    have l4:=wu (((m++t).length:Nat)+1:Int).toNat
    (repeat' (first|refine And.intro ?_ ?_|intro _))<;>first|omega|exact True.intro|exact False.elim ‹False›|skip
    · simp only [List.nil_append];omega
    · rw [← hr,hjm]
      simp only [encB,enc3,pre3,List.nil_append]
      rfl
def XD (I:Alg) (args:List D) (hp:List HO):Option CT:=match args,hp with
  |[.v (.agg [(.p (.int .i64 k)),(.p (.int .i64 i)),(.p (.int .i64 n)),(.p (.list .byte t))])],[]=>(fun(k i n:Int) (t:Str)=>(some (.one ⟨I.hid (True),(.ret (.tup [(.one (.row 0)),(.one (.p (.int .i64 (I.hid (encC ⟨k,i,n,t⟩)))))])),[.row .byte 5 (I.hid ((encM ⟨k,i,n,t⟩)))]⟩):Option CT)) k i n t
  |_,_=>none
theorem zb0:zo Tryz.prog 116 (XD alg):=by
  intro args hp r h
  unfold XD at h
  split at h
  · cases h;exact fun hn=>zlW _ _ _ _
  · cases h
def zh2:Know Tryz.prog:=⟨116,XD,zb0⟩
def zh1:Know Tryz.prog:=⟨116,fun I=>zq I (XD I),zf zb0⟩
theorem zlX {e:Ent} (h: ¬ mayM e=true):encM e=[]∧encC e=1:=by simp [encM,encC,h]
theorem zeg (k i n:Int) (t:Str):mayM ⟨k,i,n,t⟩=true↔(1≤k∧k≤6∧ -1≤i∧i<1073741824∧ -1≤n∧n<1073741824∧t.length<1048576):=by
  simp only [mayM,few,Bool.and_eq_true,decide_eq_true_eq,and_assoc]
theorem zcX (k i n:Int) (t:Str):Spc Tryz.prog 92 [.v (.agg [(.p (.int .i64 k)),(.p (.int .i64 i)),(.p (.int .i64 n)),(.p (.list .byte t))])] [] (.ret (.tup [(.one (.row 0)),(.one (.p (.int .i64 (encC ⟨k,i,n,t⟩))))])) [.row .byte 5 ((encM ⟨k,i,n,t⟩))]:=by
  refine spcG zi mixed Tryz.func92 (by kernel_rfl) { nr:=[4],keep:=some [0,1,2,3,4]} [zi3,zi2] (by kernel_rfl) ?_
  intro I X hI hX
  refine zh (let y1:=I.hid (α:=Str) (Go.Jrn.sev (Int.toNat (HAdd.hAdd k (1:Int))));let y2:=I.hid (α:=Str) (Go.Jrn.sev (Int.toNat (HAdd.hAdd i (1:Int))));let y3:=I.hid (α:=Str) (Go.Jrn.sev (Int.toNat (HAdd.hAdd n (1:Int))));let y0:=I.len (α:=UInt8) (I.app (α:=UInt8) (I.app (α:=UInt8) (I.app (α:=UInt8) y1 y2) y3) t);let y4:=I.hid (α:=Str) (Go.Jrn.sev (Int.toNat (HAdd.hAdd y0 (1:Int))));.br (I.ilt k 1) (.fin (.ret (.tup [(.one (.row 0)),(.one (.p (.int .i64 1)))])) [(.row .byte 5 ([]:Str))]) (.br (I.ilt 6 k) (.fin (.ret (.tup [(.one (.row 0)),(.one (.p (.int .i64 1)))])) [(.row .byte 5 ([]:Str))]) (.br (I.ilt i (Neg.neg (1:Int))) (.fin (.ret (.tup [(.one (.row 0)),(.one (.p (.int .i64 1)))])) [(.row .byte 5 ([]:Str))]) (.br (I.ile 1073741824 i) (.fin (.ret (.tup [(.one (.row 0)),(.one (.p (.int .i64 1)))])) [(.row .byte 5 ([]:Str))]) (.br (I.ilt n (Neg.neg (1:Int))) (.fin (.ret (.tup [(.one (.row 0)),(.one (.p (.int .i64 1)))])) [(.row .byte 5 ([]:Str))]) (.br (I.ile 1073741824 n) (.fin (.ret (.tup [(.one (.row 0)),(.one (.p (.int .i64 1)))])) [(.row .byte 5 ([]:Str))]) (.br (I.ile 1048576 (I.len (α:=UInt8) t)) (.fin (.ret (.tup [(.one (.row 0)),(.one (.p (.int .i64 1)))])) [(.row .byte 5 ([]:Str))]) (.need (I.hid (α:=(Prop)) (And (LE.le (Neg.neg (1:Int)) k) (LT.lt k (34359738368:Int)))) (.need (I.hid (α:=(Prop)) (And (LE.le (Neg.neg (1:Int)) i) (LT.lt i (34359738368:Int)))) (.need (I.few (I.add (I.len (α:=UInt8) y1) (I.len (α:=UInt8) y2)) 140737488355328) (.need (I.hid (α:=(Prop)) (And (LE.le (Neg.neg (1:Int)) n) (LT.lt n (34359738368:Int)))) (.need (I.few (I.add (I.len (α:=UInt8) (I.app (α:=UInt8) y1 y2)) (I.len (α:=UInt8) y3)) 140737488355328) (.need (I.few (I.add (I.len (α:=UInt8) (I.app (α:=UInt8) (I.app (α:=UInt8) y1 y2) y3)) (I.len (α:=UInt8) t)) 140737488355328) (.need (I.hid (α:=(Prop)) (And (LE.le (Neg.neg (1:Int)) y0) (LT.lt y0 (34359738368:Int)))) (.need (I.few (I.add (I.len (α:=UInt8) y4) y0) 140737488355328) (.fin (.ret (.tup [(.one (.row 0)),(.one (.p (.int .i64 0)))])) [(.row .byte 5 (I.app (α:=UInt8) y4 (I.app (α:=UInt8) (I.app (α:=UInt8) (I.app (α:=UInt8) y1 y2) y3) t)))])))))))))))))))) (by kernel_rfl) ?_
  simp only [zk]
  have hno: ¬ (1≤k∧k≤6∧ -1≤i∧i<1073741824∧ -1≤n∧n<1073741824∧t.length<1048576)→encM ⟨k,i,n,t⟩=[]∧encC ⟨k,i,n,t⟩=1:=fun h=>zlX (fun h'=>h ((zeg k i n t).1 h'))
  have hyes:(1≤k∧k≤6∧ -1≤i∧i<1073741824∧ -1≤n∧n<1073741824∧t.length<1048576)→encM ⟨k,i,n,t⟩=encB ⟨k,i,n,t⟩∧encC ⟨k,i,n,t⟩=0:=fun h=>by
    have:=(zeg k i n t).2 h
    simp [encM,encC,this]
  generalize encM ⟨k,i,n,t⟩=r1 at *
  generalize encC ⟨k,i,n,t⟩=r2 at *
  have l1:=wu (k+1).toNat
  have l2:=wu (i+1).toNat
  have l3:=wu (n+1).toNat
  subst hI
  simp only [nrmA,nrmB,nrlB,reduceCtorEq]
  have l4:t.length<1048576→1≤k∧k≤6→(enc3 ⟨k,i,n,t⟩).length≤1048606:=fun h _=>by simp only [enc3,List.length_append];omega
  have l5:=wu (((sev (k+1).toNat++sev (i+1).toNat++sev (n+1).toNat++t).length:Nat)+1:Int).toNat
  simp only [List.length_append] at l5 ⊢
  (repeat' (first|refine And.intro ?_ ?_|intro _))<;>first|omega|exact True.intro|exact False.elim ‹False›|skip
  all_goals first
    |exact(hno (by omega)).2.symm
    |exact(hno (by omega)).1.symm
    |exact(hyes (by omega)).2.symm
    |skip
  rw [(hyes (by omega)).1]
  simp only [encB,enc3,List.length_append]
  rfl
def tV (I:Alg) (args:List D) (hp:List HO):Option CT:=match args,hp with
  |[.v (.agg [(.p (.int .i64 k)),(.p (.int .i64 i)),(.p (.int .i64 n)),(.p (.list .byte t))])],[]=>(fun(k i n:Int) (t:Str)=>(some (.one ⟨I.hid (True),(.ret (.tup [(.one (.row 0)),(.one (.p (.int .i64 (I.hid (encC ⟨k,i,n,t⟩)))))])),[.row .byte 5 (I.hid ((encM ⟨k,i,n,t⟩)))]⟩):Option CT)) k i n t
  |_,_=>none
theorem XC:zo Tryz.prog 92 (tV alg):=by
  intro args hp r h
  unfold tV at h
  split at h
  · cases h;exact fun hn=>zcX _ _ _ _
  · cases h
def zat:Know Tryz.prog:=⟨92,tV,XC⟩
def zas:Know Tryz.prog:=⟨92,fun I=>zq I (tV I),zf XC⟩
end Go.Proofs.YtcclfkakcgnacaaGreatDoor
namespace Go.Proofs.YtcclfkakcgnacaaGreatDoor
open Go Go.Sep Go.Ab Go.Jrn
set_option maxRecDepth 100000
end Go.Proofs.YtcclfkakcgnacaaGreatDoor
namespace Go.Proofs.YtcclfkakcgnacaaGreatDoor
open Go Go.Sep Go.Ab
set_option maxRecDepth 100000
def cfgL:Cfg:= { sl:=[⟨104,0,.byte,some 5⟩]}
def tJ (b:Str) (n:Int):Bool:=decide (0≤n∧n≤100000 - (b.length:Int))
def wrC (b x:Str):Int:=if b.length+x.length≤100000 then 0 else 16
def wrB (b x:Str):Str:=if b.length+x.length≤100000 then b++x else b
theorem zoi:Spc Tryz.prog 26 [] [] (.ret (.v (.one (.ptr 0 0)))) [.pack [.obj 104 [(.row 1),(.p (.int .i64 0))],.row .byte 5 ([])]]:=by
  refine spcG zi mixed Tryz.func26 (by kernel_rfl) { cfgL with keep:=some [0]} [] (by kernel_rfl) ?_
  intro I X hI hX
  refine zh (.fin (.ret (.v (.one (.ptr 0 0)))) [(.pack [(.obj 104 [(.row 1),(.p (.int .i64 0))]),(.row .byte 5 ([]:Str))])]) (by kernel_rfl) ?_
  simp only [zk]
  trivial
def zac (I:Alg) (args:List D) (hp:List HO):Option CT:=match args,hp with
  |[],[]=>(fun(_:Unit)=>(some (.one ⟨I.hid (True),(.ret (.v (.one (.ptr 0 0)))),[.pack [.obj 104 [(.row 1),(.p (.int .i64 0))],.row .byte 5 (I.hid ([]))]]⟩):Option CT)) ()
  |_,_=>none
theorem zhu:zo Tryz.prog 26 (zac alg):=by
  intro args hp r h
  unfold zac at h
  split at h
  · cases h;exact fun hn=>zoi
  · cases h
def zlw:Know Tryz.prog:=⟨26,zac,zhu⟩
def zlv:Know Tryz.prog:=⟨26,fun I=>zq I (zac I),zf zhu⟩
theorem znT (b:Str) (s:Int):Spc Tryz.prog 39 [.v (.one (.ptr 0 0))] [.pack [.obj 104 [(.row 1),(.p (.int .i64 s))],.row .byte 5 b]] (.ret (.v (.one (.p (.int .i64 s))))) [.pack [.obj 104 [(.row 1),(.p (.int .i64 s))],.row .byte 5 b]]:=by
  refine spcG zi mixed Tryz.func39 (by kernel_rfl) { cfgL with keep:=some [0,2]} [] (by kernel_rfl) ?_
  intro I X hI hX
  refine zh (.fin (.ret (.v (.one (.p (.int .i64 s))))) [(.pack [(.obj 104 [(.row 1),(.p (.int .i64 s))]),(.row .byte 5 b)])]) (by kernel_rfl) ?_
  simp only [zk]
  trivial
def Ql (I:Alg) (args:List D) (hp:List HO):Option CT:=match args,hp with
  |[.v (.one (.ptr 0 0))],[.pack [.obj 104 [(.row 1),(.p (.int .i64 s))],.row .byte 5 b]]=>(fun(b:Str) (s:Int)=>(some (.one ⟨I.hid (True),(.ret (.v (.one (.p (.int .i64 s))))),[.pack [.obj 104 [(.row 1),(.p (.int .i64 s))],.row .byte 5 b]]⟩):Option CT)) b s
  |_,_=>none
theorem zgo:zo Tryz.prog 39 (Ql alg):=by
  intro args hp r h
  unfold Ql at h
  split at h
  · cases h;exact fun hn=>znT _ _
  · cases h
def zkT:Know Tryz.prog:=⟨39,Ql,zgo⟩
def zkS:Know Tryz.prog:=⟨39,fun I=>zq I (Ql I),zf zgo⟩
theorem bytes_ (b:Str) (s:Int) (hneed:b.length≤100000000):Spc Tryz.prog 38 [.v (.one (.ptr 0 0))] [.pack [.obj 104 [(.row 1),(.p (.int .i64 s))],.row .byte 5 b]] (.ret (.v (.one (.row 1)))) [.pack [.obj 104 [(.row 1),(.p (.int .i64 s))],.row .byte 5 b],.row .byte 5 b]:=by
  refine spcG zi mixed Tryz.func38 (by kernel_rfl) { cfgL with keep:=some [0,2]} [zeW,zeV] (by kernel_rfl) ?_
  intro I X hI hX
  refine zh (.need (I.hid (α:=(Prop)) (LE.le (List.length b) 100000000)) (.fin (.ret (.v (.one (.row 1)))) [(.pack [(.obj 104 [(.row 1),(.p (.int .i64 s))]),(.row .byte 5 b)]),(.row .byte 5 b)])) (by kernel_rfl) ?_
  simp only [zk]
  subst hI
  simp only [nrmA,nrmB]
  exact hneed
def Uj (I:Alg) (args:List D) (hp:List HO):Option CT:=match args,hp with
  |[.v (.one (.ptr 0 0))],[.pack [.obj 104 [(.row 1),(.p (.int .i64 s))],.row .byte 5 b]]=>(fun(b:Str) (s:Int)=>(some (.one ⟨I.hid (b.length≤100000000),(.ret (.v (.one (.row 1)))),[.pack [.obj 104 [(.row 1),(.p (.int .i64 s))],.row .byte 5 b],.row .byte 5 b]⟩):Option CT)) b s
  |_,_=>none
theorem ze1:zo Tryz.prog 38 (Uj alg):=by
  intro args hp r h
  unfold Uj at h
  split at h
  · cases h;exact fun hn=>bytes_ _ _ hn
  · cases h
def zjV:Know Tryz.prog:=⟨38,Uj,ze1⟩
def zjU:Know Tryz.prog:=⟨38,fun I=>zq I (Uj I),zf ze1⟩
theorem znS (b:Str) (s:Int):Spc Tryz.prog 69 [.v (.one (.ptr 0 0))] [.pack [.obj 104 [(.row 1),(.p (.int .i64 s))],.row .byte 5 b]] (.ret (.tup [])) [.pack [.obj 104 [(.row 1),(.p (.int .i64 ((b.length:Int))))],.row .byte 5 b]]:=by
  refine spcG zi mixed Tryz.func69 (by kernel_rfl) { cfgL with keep:=some [0]} [] (by kernel_rfl) ?_
  intro I X hI hX
  refine zh (.fin (.ret (.tup [])) [(.pack [(.obj 104 [(.row 1),(.p (.int .i64 (I.len (α:=UInt8) b)))]),(.row .byte 5 b)])]) (by kernel_rfl) ?_
  simp only [zk]
  subst hI
  simp only [nrmA,nrmB,nrlB,reduceCtorEq,HO.pack.injEq,HO.obj.injEq]
def Qk (I:Alg) (args:List D) (hp:List HO):Option CT:=match args,hp with
  |[.v (.one (.ptr 0 0))],[.pack [.obj 104 [(.row 1),(.p (.int .i64 s))],.row .byte 5 b]]=>(fun(b:Str) (s:Int)=>(some (.one ⟨I.hid (True),(.ret (.tup [])),[.pack [.obj 104 [(.row 1),(.p (.int .i64 (I.hid ((b.length:Int)))))],.row .byte 5 b]]⟩):Option CT)) b s
  |_,_=>none
theorem zgn:zo Tryz.prog 69 (Qk alg):=by
  intro args hp r h
  unfold Qk at h
  split at h
  · cases h;exact fun hn=>znS _ _
  · cases h
def zkR:Know Tryz.prog:=⟨69,Qk,zgn⟩
def zkQ:Know Tryz.prog:=⟨69,fun I=>zq I (Qk I),zf zgn⟩
theorem zn2 (b:Str) (s n:Int) (hneed:b.length≤100000000):Spc Tryz.prog 114 [.v (.one (.ptr 0 0)),.v (.one (.p (.int .i64 n)))] [.pack [.obj 104 [(.row 1),(.p (.int .i64 s))],.row .byte 5 b]] (.ret (.v (.one (.p (.bool ((tJ b n))))))) [.pack [.obj 104 [(.row 1),(.p (.int .i64 s))],.row .byte 5 b]]:=by
  refine spcG zi mixed Tryz.func114 (by kernel_rfl) { cfgL with keep:=some [0,1,4]} [] (by kernel_rfl) ?_
  intro I X hI hX
  refine zh (let y0:HO:=.pack [(.obj 104 [(.row 1),(.p (.int .i64 s))]),(.row .byte 5 b)];let y1:=I.sub 100000 (I.len (α:=UInt8) b);.br (I.ile 0 n) (.need (I.inr Go.IntKind.i64 y1) (.fin (.ret (.v (.one (.p (.bool (I.ile n y1)))))) [y0])) (.fin (.ret (.v (.one (.p (.bool Bool.false))))) [y0])) (by kernel_rfl) ?_
  simp only [zk]
  subst hI
  simp only [nrmA,nrmB,nrlB,reduceCtorEq]
  unfold tJ
  exact⟨fun h=>⟨by omega,decide_eq_decide.2 (by omega)⟩,fun h=>(decide_eq_false (by omega)).symm⟩
def Qy (I:Alg) (args:List D) (hp:List HO):Option CT:=match args,hp with
  |[.v (.one (.ptr 0 0)),.v (.one (.p (.int .i64 n)))],[.pack [.obj 104 [(.row 1),(.p (.int .i64 s))],.row .byte 5 b]]=>(fun(b:Str) (s n:Int)=>(some (.one ⟨I.hid (b.length≤100000000),(.ret (.v (.one (.p (.bool (I.hid ((tJ b n)))))))),[.pack [.obj 104 [(.row 1),(.p (.int .i64 s))],.row .byte 5 b]]⟩):Option CT)) b s n
  |_,_=>none
theorem zgR:zo Tryz.prog 114 (Qy alg):=by
  intro args hp r h
  unfold Qy at h
  split at h
  · cases h;exact fun hn=>zn2 _ _ _ hn
  · cases h
def zgQ:Know Tryz.prog:=⟨114,Qy,zgR⟩
def zgP:Know Tryz.prog:=⟨114,fun I=>zq I (Qy I),zf zgR⟩
theorem zl8 (b x:Str) (s:Int) (hneed:b.length≤100000∧x.length≤100000000):Spc Tryz.prog 117 [.v (.one (.ptr 0 0)),.v (.one (.p (.list .byte x)))] [.pack [.obj 104 [(.row 1),(.p (.int .i64 s))],.row .byte 5 b]] (.ret (.v (.one (.p (.int .i64 ((wrC b x))))))) [.pack [.obj 104 [(.row 1),(.p (.int .i64 s))],.row .byte 5 ((wrB b x))]]:=by
  refine spcG zi mixed Tryz.func117 (by kernel_rfl) { cfgL with keep:=some [0,1,4]} [zgQ,zgP] (by kernel_rfl) ?_
  intro I X hI hX
  refine zh (let y0:HO:=.obj 104 [(.row 1),(.p (.int .i64 s))];.need (I.hid (α:=(Prop)) (LE.le (List.length b) 100000000)) (.br (I.bnot (I.hid (α:=Bool) (tJ b (I.len (α:=UInt8) x)))) (.fin (.ret (.v (.one (.p (.int .i64 16))))) [(.pack [y0,(.row .byte 5 b)])]) (.need (I.few (I.add (I.len (α:=UInt8) b) (I.len (α:=UInt8) x)) 140737488355328) (.fin (.ret (.v (.one (.p (.int .i64 0))))) [(.pack [y0,(.row .byte 5 (I.app (α:=UInt8) b x))])])))) (by kernel_rfl) ?_
  simp only [zk]
  subst hI
  have hr:tJ b (x.length:Int)=decide (b.length+x.length≤100000):=by unfold tJ;exact decide_eq_decide.2 (by omega)
  simp only [nrmA,nrmB,nrlB,reduceCtorEq,HO.pack.injEq,HO.obj.injEq]
  rw [hr]
  by_cases hc:b.length+x.length≤100000
  · simp only [wrC,wrB,if_pos hc,decide_eq_true hc]
    simp only [nrmA,nrmB,nrlB,reduceCtorEq]
    exact⟨by omega,fun h=>h.elim,fun _=>by omega⟩
  · simp only [wrC,wrB,if_neg hc,decide_eq_false hc]
    simp only [nrmA,nrmB,nrlB,reduceCtorEq]
    exact⟨by omega,fun _=>trivial,fun h=>h.elim⟩
def Vm (I:Alg) (args:List D) (hp:List HO):Option CT:=match args,hp with
  |[.v (.one (.ptr 0 0)),.v (.one (.p (.list .byte x)))],[.pack [.obj 104 [(.row 1),(.p (.int .i64 s))],.row .byte 5 b]]=>(fun(b x:Str) (s:Int)=>(some (.one ⟨I.hid (b.length≤100000∧x.length≤100000000),(.ret (.v (.one (.p (.int .i64 (I.hid ((wrC b x)))))))),[.pack [.obj 104 [(.row 1),(.p (.int .i64 s))],.row .byte 5 (I.hid ((wrB b x)))]]⟩):Option CT)) b x s
  |_,_=>none
theorem zdi:zo Tryz.prog 117 (Vm alg):=by
  intro args hp r h
  unfold Vm at h
  split at h
  · cases h;exact fun hn=>zl8 _ _ _ hn
  · cases h
def ziD:Know Tryz.prog:=⟨117,Vm,zdi⟩
def ziC:Know Tryz.prog:=⟨117,fun I=>zq I (Vm I),zf zdi⟩
end Go.Proofs.YtcclfkakcgnacaaGreatDoor
namespace Go.Jrn
open Go Go.Ab
theorem zeP {e:Ent} (h:mayM e=true):(encB e).length≤e.text.length+50:=by
  have h0:=wu ((enc3 e).length+1)
  have h1:=wu (e.kind+1).toNat
  have h2:=wu (e.id+1).toNat
  have h3:=wu (e.n+1).toNat
  simp only [encB,enc3,List.length_append] at h0 ⊢;omega
end Go.Jrn
namespace Go.Proofs.YtcclfkakcgnacaaGreatDoor
open Go Go.Sep Go.Ab Go.Jrn
def Zm (l:List Upl) (n:Int) (e:Ent):Int:=
  if e.kind=1 then(if creC l e.n e.text=0∧¬ n+1=e.id then 20 else creC l e.n e.text)
  else if e.kind=2 then appC l e.id (getU l e.id).bytes.length e.text
  else if e.kind=3 then decC l e.id e.n
  else if e.kind=4 then droC l e.id
  else if e.kind=5 then begC l e.id
  else endC l e.id
def YH (l:List Upl) (n:Int) (e:Ent):List Upl:=
  if e.kind=1 then creL l n e.n e.text
  else if e.kind=2 then appL l e.id (getU l e.id).bytes.length e.text
  else if e.kind=3 then decL l e.id e.n
  else if e.kind=4 then droL l e.id
  else if e.kind=5 then begL l e.id
  else endL l e.id
def Zw (l:List Upl) (n:Int) (e:Ent):Int:=if e.kind=1 then creN l n e.n e.text else n
theorem zle {l:List Upl} {n:Int} (h:zu l n) (e:Ent):zu (YH l n e) (Zw l n e):=by
  unfold YH Zw
  split
  · exact znA h _ _
  split
  · exact znK h _ _ _
  split
  · exact zny h _ _
  split
  · exact znw h _
  split
  · exact znI h _
  · exact znu h _
theorem zjo (l:List Upl) (n:Int) (e:Ent):n≤Zw l n e∧Zw l n e≤n+1:=by
  unfold Zw creN
  split
  · split<;>omega
  · omega
def wrtC (l:List Upl) (n:Int) (b:Str) (e:Ent):Int:=
  if ¬ Zm l n e=0 then Zm l n e else if ¬ encC e=0 then encC e else wrC b (encM e)
def wrtL (l:List Upl) (n:Int) (b:Str) (e:Ent):List Upl:=if wrtC l n b e=0 then YH l n e else l
def wrtN (l:List Upl) (n:Int) (b:Str) (e:Ent):Int:=if wrtC l n b e=0 then Zw l n e else n
def wrtB (l:List Upl) (n:Int) (b:Str) (e:Ent):Str:=if wrtC l n b e=0 then b++encB e else b
theorem zdh {l:List Upl} {n:Int} (h:zu l n) (b:Str) (e:Ent):zu (wrtL l n b e) (wrtN l n b e):=by
  unfold wrtL wrtN
  split
  · exact zle h e
  · exact h
theorem zf4 (l:List Upl) (n:Int) (b:Str) (e:Ent):n≤wrtN l n b e∧wrtN l n b e≤n+1:=by
  have:=zjo l n e
  unfold wrtN
  split<;>omega
theorem ziB {l:List Upl} {n:Int} {b:Str} {e:Ent} (h:wrtC l n b e=0):Zm l n e=0∧mayM e=true∧b.length+(encB e).length≤100000:=by
  unfold wrtC at h
  split at h
  · rename_i h1;exact absurd h h1
  rename_i h1
  split at h
  · rename_i h2;exact absurd h h2
  rename_i h2
  have hm:mayM e=true:=by
    unfold encC at h2
    cases hm:mayM e with
    |true=>rfl
    |false=>rw [hm] at h2;simp at h2
  unfold wrC at h
  split at h
  · rename_i h3
    refine⟨Decidable.not_not.1 h1,hm,?_⟩
    unfold encM at h3
    rw [if_pos hm] at h3
    exact h3
  · cases h
theorem Vl {l:List Upl} {n:Int} {b:Str} (e:Ent) (h:b.length≤100000):(wrtB l n b e).length≤100000:=by
  unfold wrtB
  split
  · rename_i h1
    rw [List.length_append];exact(ziB h1).2.2
  · exact h
end Go.Proofs.YtcclfkakcgnacaaGreatDoor
namespace Go.Proofs.YtcclfkakcgnacaaGreatDoor
open Go Go.Sep Go.Ab Go.Jrn
set_option maxRecDepth 100000
def TF:Cfg:= { sl:=[⟨90,0,.upl,some 67⟩,⟨104,0,.byte,some 5⟩]}
theorem zkU:Spc Tryz.prog 8 [] [] (.ret (.v (.one (.ptr 0 0)))) [.pack [.obj 48 [(.ptr 1 0),(.ptr 2 0)],.pack [.obj 90 [(.row 1),(.p (.int .i64 0))],.row .upl 67 ([])],.pack [.obj 104 [(.row 1),(.p (.int .i64 0))],.row .byte 5 ([])]]]:=by
  refine spcG zi mixed Tryz.func8 (by kernel_rfl) { TF with keep:=some [0]} [zk4,zk3,zlw,zlv] (by kernel_rfl) ?_
  intro I X hI hX
  refine zh (.need (I.hid (α:=(Prop)) True) (.need (I.hid (α:=(Prop)) True) (.fin (.ret (.v (.one (.ptr 0 0)))) [(.pack [(.obj 48 [(.ptr 1 0),(.ptr 2 0)]),(.pack [(.obj 90 [(.row 1),(.p (.int .i64 0))]),(.row .upl 67 (I.hid (α:=(List Upl)) ([]:List Upl)))]),(.pack [(.obj 104 [(.row 1),(.p (.int .i64 0))]),(.row .byte 5 (I.hid (α:=Str) ([]:Str)))])])]))) (by kernel_rfl) ?_
  simp only [zk]
  subst hI
  exact⟨trivial,trivial,trivial,rfl⟩
def Y5 (I:Alg) (args:List D) (hp:List HO):Option CT:=match args,hp with
  |[],[]=>(fun(_:Unit)=>(some (.one ⟨I.hid (True),(.ret (.v (.one (.ptr 0 0)))),[.pack [.obj 48 [(.ptr 1 0),(.ptr 2 0)],.pack [.obj 90 [(.row 1),(.p (.int .i64 0))],.row .upl 67 (I.hid ([]))],.pack [.obj 104 [(.row 1),(.p (.int .i64 0))],.row .byte 5 (I.hid ([]))]]]⟩):Option CT)) ()
  |_,_=>none
theorem zaX:zo Tryz.prog 8 (Y5 alg):=by
  intro args hp r h
  unfold Y5 at h
  split at h
  · cases h;exact fun hn=>zkU
  · cases h
def vM:Know Tryz.prog:=⟨8,Y5,zaX⟩
def vK:Know Tryz.prog:=⟨8,fun I=>zq I (Y5 I),zf zaX⟩
set_option maxHeartbeats 4000000 in
theorem zms (l:List Upl) (n k i m:Int) (t:Str) (hneed:zu l n∧n≤1000000∧t.length≤1000000):Spc Tryz.prog 49 [.v (.one (.ptr 0 0)),.v (.agg [(.p (.int .i64 k)),(.p (.int .i64 i)),(.p (.int .i64 m)),(.p (.list .byte t))])] [.pack [.obj 90 [(.row 1),(.p (.int .i64 n))],.row .upl 67 l]] (.ret (.v (.one (.p (.int .i64 ((Zm l n ⟨k,i,m,t⟩))))))) [.pack [.obj 90 [(.row 1),(.p (.int .i64 ((Zw l n ⟨k,i,m,t⟩))))],.row .upl 67 ((YH l n ⟨k,i,m,t⟩))]]:=by
  obtain⟨hs,hn,ht⟩:=hneed
  generalize hc:Zm l n ⟨k,i,m,t⟩=c
  generalize hl:YH l n ⟨k,i,m,t⟩=l'
  generalize hN:Zw l n ⟨k,i,m,t⟩=n'
  refine spcG zi mixed Tryz.func49 (by kernel_rfl) { TF with keep:=some [0,1,3,4,5,6,7,10]} [zfm,zfl,zfo,zfn,zcr,zcq,zgN,zgM,zk6,zk5,ZX,ZW,X3,X0,zjb,zja] (by kernel_rfl) ?_
  intro I X hI hX
  refine zh (let y0:HO:=.pack [(.obj 90 [(.row 1),(.p (.int .i64 (I.hid (α:=Int) (creN l n m t))))]),(.row .upl 67 (I.hid (α:=(List Upl)) (creL l n m t)))];let y1:HO:=.obj 90 [(.row 1),(.p (.int .i64 n))];let y2:=I.len (α:=UInt8) (I.hid (α:=Str) (Upl.bytes (getU l i)));.br (I.ieq k 1) (.need (I.hid (α:=(Prop)) (And (zu l n) (And (LE.le n (1000000:Int)) (LE.le (List.length t) 1000000)))) (.br (I.ieq (I.hid (α:=Int) (creC l m t)) 0) (.br (I.bnot (I.ieq (I.hid (α:=Int) (creI l n m t)) i)) (.fin (.ret (.v (.one (.p (.int .i64 20))))) [y0]) (.fin (.ret (.v (.one (.p (.int .i64 (I.hid (α:=Int) (creC l m t))))))) [y0])) (.fin (.ret (.v (.one (.p (.int .i64 (I.hid (α:=Int) (creC l m t))))))) [y0]))) (.br (I.ieq k 2) (.need (I.hid (α:=(Prop)) (zu l n)) (.need (I.hid (α:=(Prop)) (And (zu l n) (LE.le (List.length t) 1000000))) (.fin (.ret (.v (.one (.p (.int .i64 (I.hid (α:=Int) (appC l i y2 t))))))) [(.pack [y1,(.row .upl 67 (I.hid (α:=(List Upl)) (appL l i y2 t)))])]))) (.br (I.ieq k 3) (.need (I.hid (α:=(Prop)) (zu l n)) (.fin (.ret (.v (.one (.p (.int .i64 (I.hid (α:=Int) (decC l i m))))))) [(.pack [y1,(.row .upl 67 (I.hid (α:=(List Upl)) (decL l i m)))])])) (.br (I.ieq k 4) (.need (I.hid (α:=(Prop)) (zu l n)) (.fin (.ret (.v (.one (.p (.int .i64 (I.hid (α:=Int) (droC l i))))))) [(.pack [y1,(.row .upl 67 (I.hid (α:=(List Upl)) (droL l i)))])])) (.br (I.ieq k 5) (.need (I.hid (α:=(Prop)) (zu l n)) (.fin (.ret (.v (.one (.p (.int .i64 (I.hid (α:=Int) (begC l i))))))) [(.pack [y1,(.row .upl 67 (I.hid (α:=(List Upl)) (begL l i)))])])) (.need (I.hid (α:=(Prop)) (zu l n)) (.fin (.ret (.v (.one (.p (.int .i64 (I.hid (α:=Int) (endC l i))))))) [(.pack [y1,(.row .upl 67 (I.hid (α:=(List Upl)) (endL l i)))])]))))))) (by kernel_rfl) ?_
  simp only [zk]
  subst hI
  simp only [nrmA,nrmB,nrlB,reduceCtorEq,HO.pack.injEq,HO.obj.injEq]
  unfold Zm at hc
  unfold YH at hl
  unfold Zw at hN
  simp only at hc hl hN
  have hci:creC l m t=0→creI l n m t=n+1:=fun h=>by unfold creI;rw [if_pos h]
  (repeat' (first|refine And.intro ?_ ?_|intro _))<;>first|omega|exact True.intro|exact False.elim ‹False›|skip
  all_goals first
    |exact hs
    |exact hn
    |exact ht
    |exact⟨hs,hn,ht⟩
    |exact⟨hs,ht⟩
    |(have:=hci (by assumption);((repeat(first|rewrite [if_pos (by first|omega|assumption|(simp only [*,or_self,or_true,true_or,or_false,false_or,not_true_eq_false,not_false_eq_true,Bool.false_eq_true,Bool.true_eq_false,and_self,and_true,true_and];done)|(simp only [*];omega)|(simp [*];done)|(simp [*];omega))] at hc|rewrite [if_neg (by first|omega|assumption|(simp only [*,or_self,or_true,true_or,or_false,false_or,not_true_eq_false,not_false_eq_true,Bool.false_eq_true,Bool.true_eq_false,and_self,and_true,true_and];done)|(simp only [*];omega)|(simp [*];done)|(simp [*];omega))] at hc)));subst hc;((repeat(first|rewrite [if_pos (by first|omega|assumption|(simp only [*,or_self,or_true,true_or,or_false,false_or,not_true_eq_false,not_false_eq_true,Bool.false_eq_true,Bool.true_eq_false,and_self,and_true,true_and];done)|(simp only [*];omega)|(simp [*];done)|(simp [*];omega))] at hl|rewrite [if_neg (by first|omega|assumption|(simp only [*,or_self,or_true,true_or,or_false,false_or,not_true_eq_false,not_false_eq_true,Bool.false_eq_true,Bool.true_eq_false,and_self,and_true,true_and];done)|(simp only [*];omega)|(simp [*];done)|(simp [*];omega))] at hl)));subst hl;((repeat(first|rewrite [if_pos (by first|omega|assumption|(simp only [*,or_self,or_true,true_or,or_false,false_or,not_true_eq_false,not_false_eq_true,Bool.false_eq_true,Bool.true_eq_false,and_self,and_true,true_and];done)|(simp only [*];omega)|(simp [*];done)|(simp [*];omega))] at hN|rewrite [if_neg (by first|omega|assumption|(simp only [*,or_self,or_true,true_or,or_false,false_or,not_true_eq_false,not_false_eq_true,Bool.false_eq_true,Bool.true_eq_false,and_self,and_true,true_and];done)|(simp only [*];omega)|(simp [*];done)|(simp [*];omega))] at hN)));subst hN;first|rfl|omega)
    |(((repeat(first|rewrite [if_pos (by first|omega|assumption|(simp only [*,or_self,or_true,true_or,or_false,false_or,not_true_eq_false,not_false_eq_true,Bool.false_eq_true,Bool.true_eq_false,and_self,and_true,true_and];done)|(simp only [*];omega)|(simp [*];done)|(simp [*];omega))] at hc|rewrite [if_neg (by first|omega|assumption|(simp only [*,or_self,or_true,true_or,or_false,false_or,not_true_eq_false,not_false_eq_true,Bool.false_eq_true,Bool.true_eq_false,and_self,and_true,true_and];done)|(simp only [*];omega)|(simp [*];done)|(simp [*];omega))] at hc)));subst hc;((repeat(first|rewrite [if_pos (by first|omega|assumption|(simp only [*,or_self,or_true,true_or,or_false,false_or,not_true_eq_false,not_false_eq_true,Bool.false_eq_true,Bool.true_eq_false,and_self,and_true,true_and];done)|(simp only [*];omega)|(simp [*];done)|(simp [*];omega))] at hl|rewrite [if_neg (by first|omega|assumption|(simp only [*,or_self,or_true,true_or,or_false,false_or,not_true_eq_false,not_false_eq_true,Bool.false_eq_true,Bool.true_eq_false,and_self,and_true,true_and];done)|(simp only [*];omega)|(simp [*];done)|(simp [*];omega))] at hl)));subst hl;((repeat(first|rewrite [if_pos (by first|omega|assumption|(simp only [*,or_self,or_true,true_or,or_false,false_or,not_true_eq_false,not_false_eq_true,Bool.false_eq_true,Bool.true_eq_false,and_self,and_true,true_and];done)|(simp only [*];omega)|(simp [*];done)|(simp [*];omega))] at hN|rewrite [if_neg (by first|omega|assumption|(simp only [*,or_self,or_true,true_or,or_false,false_or,not_true_eq_false,not_false_eq_true,Bool.false_eq_true,Bool.true_eq_false,and_self,and_true,true_and];done)|(simp only [*];omega)|(simp [*];done)|(simp [*];omega))] at hN)));subst hN;first|rfl|omega)
def Vw (I:Alg) (args:List D) (hp:List HO):Option CT:=match args,hp with
  |[.v (.one (.ptr 0 0)),.v (.agg [(.p (.int .i64 k)),(.p (.int .i64 i)),(.p (.int .i64 m)),(.p (.list .byte t))])],[.pack [.obj 90 [(.row 1),(.p (.int .i64 n))],.row .upl 67 l]]=>(fun(l:List Upl) (n k i m:Int) (t:Str)=>(some (.one ⟨I.hid (zu l n∧n≤1000000∧t.length≤1000000),(.ret (.v (.one (.p (.int .i64 (I.hid ((Zm l n ⟨k,i,m,t⟩)))))))),[.pack [.obj 90 [(.row 1),(.p (.int .i64 (I.hid ((Zw l n ⟨k,i,m,t⟩)))))],.row .upl 67 (I.hid ((YH l n ⟨k,i,m,t⟩)))]]⟩):Option CT)) l n k i m t
  |_,_=>none
theorem zdy:zo Tryz.prog 49 (Vw alg):=by
  intro args hp r h
  unfold Vw at h
  split at h
  · cases h;exact fun hn=>zms _ _ _ _ _ _ hn
  · cases h
def ziV:Know Tryz.prog:=⟨49,Vw,zdy⟩
def ziU:Know Tryz.prog:=⟨49,fun I=>zq I (Vw I),zf zdy⟩
set_option maxHeartbeats 4000000 in
theorem zgq (l:List Upl) (n:Int) (b:Str) (s k i m:Int) (t:Str) (hneed:zu l n∧n≤200000∧t.length≤1000000∧b.length≤100000):Spc Tryz.prog 89 [.v (.one (.ptr 0 0)),.v (.agg [(.p (.int .i64 k)),(.p (.int .i64 i)),(.p (.int .i64 m)),(.p (.list .byte t))])] [.pack [.obj 48 [(.ptr 1 0),(.ptr 2 0)],.pack [.obj 90 [(.row 1),(.p (.int .i64 n))],.row .upl 67 l],.pack [.obj 104 [(.row 1),(.p (.int .i64 s))],.row .byte 5 b]]] (.ret (.v (.one (.p (.int .i64 ((wrtC l n b ⟨k,i,m,t⟩))))))) [.pack [.obj 48 [(.ptr 1 0),(.ptr 2 0)],.pack [.obj 90 [(.row 1),(.p (.int .i64 ((wrtN l n b ⟨k,i,m,t⟩))))],.row .upl 67 ((wrtL l n b ⟨k,i,m,t⟩))],.pack [.obj 104 [(.row 1),(.p (.int .i64 s))],.row .byte 5 ((wrtB l n b ⟨k,i,m,t⟩))]]]:=by
  obtain⟨hs,hn,ht,hb⟩:=hneed
  generalize hc:wrtC l n b ⟨k,i,m,t⟩=c
  generalize hl:wrtL l n b ⟨k,i,m,t⟩=l'
  generalize hN:wrtN l n b ⟨k,i,m,t⟩=n'
  generalize hB:wrtB l n b ⟨k,i,m,t⟩=b'
  refine spcG zi mixed Tryz.func89 (by kernel_rfl) { TF with keep:=some [0,1,3,4,5,6,7,8]} [zje,zjd,zh2,zh1,ziD,ziC,ziV,ziU] (by kernel_rfl) ?_
  intro I X hI hX
  refine zh (let y0:=I.hid (α:=Str) (Go.Jrn.encM (Ent.mk k i m t));let y6:HO:=.obj 48 [(.ptr 1 0),(.ptr 2 0)];let y1:HO:=.pack [y6,(.pack [(.obj 90 [(.row 1),(.p (.int .i64 n))]),(.row .upl 67 l)]),(.pack [(.obj 104 [(.row 1),(.p (.int .i64 s))]),(.row .byte 5 b)])];let y2:=I.hid (α:=(Prop)) (And (zu l n) (And (LE.le n (1000000:Int)) (LE.le (List.length t) 1000000)));let y3:HO:=.pack [(.obj 104 [(.row 1),(.p (.int .i64 s))]),(.row .byte 5 (I.hid (α:=Str) (wrB b y0)))];let y4:=I.hid (α:=Int) (Zm l n (Ent.mk k i m t));let y5:=I.hid (α:=Int) (Go.Jrn.encC (Ent.mk k i m t));.need (I.hid (α:=(Prop)) (zu l n)) (.need y2 (.br (I.bnot (I.ieq y4 0)) (.fin (.ret (.v (.one (.p (.int .i64 y4))))) [y1]) (.need (I.hid (α:=(Prop)) True) (.br (I.bnot (I.ieq y5 0)) (.fin (.ret (.v (.one (.p (.int .i64 y5))))) [y1]) (.need (I.hid (α:=(Prop)) (And (LE.le (List.length b) 100000) (LE.le (List.length y0) 100000000))) (.br (I.bnot (I.ieq (I.hid (α:=Int) (wrC b y0)) 0)) (.fin (.ret (.v (.one (.p (.int .i64 (I.hid (α:=Int) (wrC b y0))))))) [(.pack [y6,(.pack [(.obj 90 [(.row 1),(.p (.int .i64 n))]),(.row .upl 67 l)]),y3])]) (.need y2 (.fin (.ret (.v (.one (.p (.int .i64 y4))))) [(.pack [y6,(.pack [(.obj 90 [(.row 1),(.p (.int .i64 (I.hid (α:=Int) (Zw l n (Ent.mk k i m t)))))]),(.row .upl 67 (I.hid (α:=(List Upl)) (YH l n (Ent.mk k i m t))))]),y3])]))))))))) (by kernel_rfl) ?_
  simp only [zk]
  subst hI
  simp only [nrmA,nrmB,nrlB,reduceCtorEq,HO.pack.injEq,HO.obj.injEq]
  have hel:(encM ⟨k,i,m,t⟩).length≤2000000:=by
    unfold encM
    split
    · rename_i h
      have:=zeP h
      simp only at this
      omega
    · simp
  generalize he:(⟨k,i,m,t⟩:Ent)=e at *
  have hem:encC e=0→encM e=encB e:=fun h=>by
    unfold encC at h
    unfold encM
    split at h
    · rename_i h2;rw [if_pos h2]
    · cases h
  have hw0: ∀ x:Str,wrC b x=0→wrB b x=b++x:=fun x h=>by
    unfold wrC at h
    unfold wrB
    split at h
    · rename_i h2;rw [if_pos h2]
    · cases h
  have hw1: ∀ x:Str,¬ wrC b x=0→wrB b x=b:=fun x h=>by
    unfold wrC at h
    unfold wrB
    split at h
    · exact absurd rfl h
    · rename_i h2;rw [if_neg h2]
  unfold wrtL at hl
  unfold wrtN at hN
  unfold wrtB at hB
  rw [hc] at hl hN hB
  unfold wrtC at hc
  (repeat' (first|refine And.intro ?_ ?_|intro _))<;>first|omega|exact True.intro|exact False.elim ‹False›|skip
  all_goals first
    |exact hs
    |(((repeat(first|rewrite [if_pos (by first|omega|assumption|(simp only [*,or_self,or_true,true_or,or_false,false_or,not_true_eq_false,not_false_eq_true,Bool.false_eq_true,Bool.true_eq_false,and_self,and_true,true_and];done)|(simp only [*];omega)|(simp [*];done)|(simp [*];omega))] at hc|rewrite [if_neg (by first|omega|assumption|(simp only [*,or_self,or_true,true_or,or_false,false_or,not_true_eq_false,not_false_eq_true,Bool.false_eq_true,Bool.true_eq_false,and_self,and_true,true_and];done)|(simp only [*];omega)|(simp [*];done)|(simp [*];omega))] at hc)));subst hc;((repeat(first|rewrite [if_pos (by first|omega|assumption|(simp only [*,or_self,or_true,true_or,or_false,false_or,not_true_eq_false,not_false_eq_true,Bool.false_eq_true,Bool.true_eq_false,and_self,and_true,true_and];done)|(simp only [*];omega)|(simp [*];done)|(simp [*];omega))] at hl|rewrite [if_neg (by first|omega|assumption|(simp only [*,or_self,or_true,true_or,or_false,false_or,not_true_eq_false,not_false_eq_true,Bool.false_eq_true,Bool.true_eq_false,and_self,and_true,true_and];done)|(simp only [*];omega)|(simp [*];done)|(simp [*];omega))] at hl)));subst hl;((repeat(first|rewrite [if_pos (by first|omega|assumption|(simp only [*,or_self,or_true,true_or,or_false,false_or,not_true_eq_false,not_false_eq_true,Bool.false_eq_true,Bool.true_eq_false,and_self,and_true,true_and];done)|(simp only [*];omega)|(simp [*];done)|(simp [*];omega))] at hN|rewrite [if_neg (by first|omega|assumption|(simp only [*,or_self,or_true,true_or,or_false,false_or,not_true_eq_false,not_false_eq_true,Bool.false_eq_true,Bool.true_eq_false,and_self,and_true,true_and];done)|(simp only [*];omega)|(simp [*];done)|(simp [*];omega))] at hN)));subst hN;((repeat(first|rewrite [if_pos (by first|omega|assumption|(simp only [*,or_self,or_true,true_or,or_false,false_or,not_true_eq_false,not_false_eq_true,Bool.false_eq_true,Bool.true_eq_false,and_self,and_true,true_and];done)|(simp only [*];omega)|(simp [*];done)|(simp [*];omega))] at hB|rewrite [if_neg (by first|omega|assumption|(simp only [*,or_self,or_true,true_or,or_false,false_or,not_true_eq_false,not_false_eq_true,Bool.false_eq_true,Bool.true_eq_false,and_self,and_true,true_and];done)|(simp only [*];omega)|(simp [*];done)|(simp [*];omega))] at hB)));subst hB;first|rfl|omega|exact hw1 _ (by assumption)|(rw [hw0 _ (by assumption),hem (by assumption)]))
def qF (I:Alg) (args:List D) (hp:List HO):Option CT:=match args,hp with
  |[.v (.one (.ptr 0 0)),.v (.agg [(.p (.int .i64 k)),(.p (.int .i64 i)),(.p (.int .i64 m)),(.p (.list .byte t))])],[.pack [.obj 48 [(.ptr 1 0),(.ptr 2 0)],.pack [.obj 90 [(.row 1),(.p (.int .i64 n))],.row .upl 67 l],.pack [.obj 104 [(.row 1),(.p (.int .i64 s))],.row .byte 5 b]]]=>(fun(l:List Upl) (n:Int) (b:Str) (s k i m:Int) (t:Str)=>(some (.one ⟨I.hid (zu l n∧n≤200000∧t.length≤1000000∧b.length≤100000),(.ret (.v (.one (.p (.int .i64 (I.hid ((wrtC l n b ⟨k,i,m,t⟩)))))))),[.pack [.obj 48 [(.ptr 1 0),(.ptr 2 0)],.pack [.obj 90 [(.row 1),(.p (.int .i64 (I.hid ((wrtN l n b ⟨k,i,m,t⟩)))))],.row .upl 67 (I.hid ((wrtL l n b ⟨k,i,m,t⟩)))],.pack [.obj 104 [(.row 1),(.p (.int .i64 s))],.row .byte 5 (I.hid ((wrtB l n b ⟨k,i,m,t⟩)))]]]⟩):Option CT)) l n b s k i m t
  |_,_=>none
theorem Ux:zo Tryz.prog 89 (qF alg):=by
  intro args hp r h
  unfold qF at h
  split at h
  · cases h;exact fun hn=>zgq _ _ _ _ _ _ _ _ hn
  · cases h
def qE:Know Tryz.prog:=⟨89,qF,Ux⟩
def qC:Know Tryz.prog:=⟨89,fun I=>zq I (qF I),zf Ux⟩
theorem zfd (l:List Upl) (n:Int) (b:Str) (s size:Int) (t:Str) (hneed:zu l n∧n≤200000∧t.length≤1000000∧b.length≤100000):Spc Tryz.prog 81 [.v (.one (.ptr 0 0)),.v (.one (.p (.int .i64 size))),.v (.one (.p (.str t)))] [.pack [.obj 48 [(.ptr 1 0),(.ptr 2 0)],.pack [.obj 90 [(.row 1),(.p (.int .i64 n))],.row .upl 67 l],.pack [.obj 104 [(.row 1),(.p (.int .i64 s))],.row .byte 5 b]]] (.ret (.tup [(.one (.p (.int .i64 ((if wrtC l n b ⟨1,n+1,size,t⟩=0 then n+1 else 0))))),(.one (.p (.int .i64 ((wrtC l n b ⟨1,n+1,size,t⟩)))))])) [.pack [.obj 48 [(.ptr 1 0),(.ptr 2 0)],.pack [.obj 90 [(.row 1),(.p (.int .i64 ((wrtN l n b ⟨1,n+1,size,t⟩))))],.row .upl 67 ((wrtL l n b ⟨1,n+1,size,t⟩))],.pack [.obj 104 [(.row 1),(.p (.int .i64 s))],.row .byte 5 ((wrtB l n b ⟨1,n+1,size,t⟩))]]]:=by
  have hn0:=hneed.1.n0
  refine spcG zi mixed Tryz.func81 (by kernel_rfl) { TF with keep:=some [0,1,2,6,7,8,9]} [zi9,zi8,qE,qC] (by kernel_rfl) ?_
  intro I X hI hX
  refine zh (let y0:HO:=.pack [(.obj 48 [(.ptr 1 0),(.ptr 2 0)]),(.pack [(.obj 90 [(.row 1),(.p (.int .i64 (I.hid (α:=Int) (wrtN l n b (Ent.mk (1:Int) (I.hid (α:=Int) (HAdd.hAdd n (1:Int))) size t)))))]),(.row .upl 67 (I.hid (α:=(List Upl)) (wrtL l n b (Ent.mk (1:Int) (I.hid (α:=Int) (HAdd.hAdd n (1:Int))) size t))))]),(.pack [(.obj 104 [(.row 1),(.p (.int .i64 s))]),(.row .byte 5 (I.hid (α:=Str) (wrtB l n b (Ent.mk (1:Int) (I.hid (α:=Int) (HAdd.hAdd n (1:Int))) size t))))])];let y1:=I.hid (α:=Int) (wrtC l n b (Ent.mk (1:Int) (I.hid (α:=Int) (HAdd.hAdd n (1:Int))) size t));.need (I.hid (α:=(Prop)) (And (LE.le (0:Int) n) (LE.le n (1000000:Int)))) (.need (I.hid (α:=(Prop)) (And (zu l n) (And (LE.le n (200000:Int)) (And (LE.le (List.length t) 1000000) (LE.le (List.length b) 100000))))) (.br (I.bnot (I.ieq y1 0)) (.fin (.ret (.tup [(.one (.p (.int .i64 0))),(.one (.p (.int .i64 y1)))])) [y0]) (.fin (.ret (.tup [(.one (.p (.int .i64 (I.hid (α:=Int) (HAdd.hAdd n (1:Int)))))),(.one (.p (.int .i64 0)))])) [y0])))) (by kernel_rfl) ?_
  simp only [zk]
  subst hI
  simp only [nrmA,nrmB,nrlB,reduceCtorEq,HO.pack.injEq,HO.obj.injEq]
  exact⟨⟨hn0,by omega⟩,hneed,fun h=>(if_neg h).symm,fun h=>⟨(if_pos h).symm,h.symm⟩⟩
def sQ (I:Alg) (args:List D) (hp:List HO):Option CT:=match args,hp with
  |[.v (.one (.ptr 0 0)),.v (.one (.p (.int .i64 size))),.v (.one (.p (.str t)))],[.pack [.obj 48 [(.ptr 1 0),(.ptr 2 0)],.pack [.obj 90 [(.row 1),(.p (.int .i64 n))],.row .upl 67 l],.pack [.obj 104 [(.row 1),(.p (.int .i64 s))],.row .byte 5 b]]]=>(fun(l:List Upl) (n:Int) (b:Str) (s size:Int) (t:Str)=>(some (.one ⟨I.hid (zu l n∧n≤200000∧t.length≤1000000∧b.length≤100000),(.ret (.tup [(.one (.p (.int .i64 (I.hid ((if wrtC l n b ⟨1,n+1,size,t⟩=0 then n+1 else 0)))))),(.one (.p (.int .i64 (I.hid ((wrtC l n b ⟨1,n+1,size,t⟩))))))])),[.pack [.obj 48 [(.ptr 1 0),(.ptr 2 0)],.pack [.obj 90 [(.row 1),(.p (.int .i64 (I.hid ((wrtN l n b ⟨1,n+1,size,t⟩)))))],.row .upl 67 (I.hid ((wrtL l n b ⟨1,n+1,size,t⟩)))],.pack [.obj 104 [(.row 1),(.p (.int .i64 s))],.row .byte 5 (I.hid ((wrtB l n b ⟨1,n+1,size,t⟩)))]]]⟩):Option CT)) l n b s size t
  |_,_=>none
theorem WH:zo Tryz.prog 81 (sQ alg):=by
  intro args hp r h
  unfold sQ at h
  split at h
  · cases h;exact fun hn=>zfd _ _ _ _ _ _ hn
  · cases h
def za0:Know Tryz.prog:=⟨81,sQ,WH⟩
def zaZ:Know Tryz.prog:=⟨81,fun I=>zq I (sQ I),zf WH⟩
def apG (l:List Upl) (id off:Int):Bool:=getB l id&&(decide ((getU l id).sent=0)&& !decide (off=(getU l id).bytes.length))
def apE (id:Int) (x:Str):Ent:=⟨2,id,0,x⟩
theorem zfe (l:List Upl) (n:Int) (b:Str) (s id off:Int) (x:Str) (hneed:zu l n∧n≤200000∧x.length≤1000000∧b.length≤100000):Spc Tryz.prog 87 [.v (.one (.ptr 0 0)),.v (.one (.p (.int .i64 id))),.v (.one (.p (.int .i64 off))),.v (.one (.p (.list .byte x)))] [.pack [.obj 48 [(.ptr 1 0),(.ptr 2 0)],.pack [.obj 90 [(.row 1),(.p (.int .i64 n))],.row .upl 67 l],.pack [.obj 104 [(.row 1),(.p (.int .i64 s))],.row .byte 5 b]]] (.ret (.v (.one (.p (.int .i64 ((if apG l id off then 17 else wrtC l n b ⟨2,id,0,x⟩))))))) [.pack [.obj 48 [(.ptr 1 0),(.ptr 2 0)],.pack [.obj 90 [(.row 1),(.p (.int .i64 ((if apG l id off then n else wrtN l n b ⟨2,id,0,x⟩))))],.row .upl 67 ((if apG l id off then l else wrtL l n b ⟨2,id,0,x⟩))],.pack [.obj 104 [(.row 1),(.p (.int .i64 s))],.row .byte 5 ((if apG l id off then b else wrtB l n b ⟨2,id,0,x⟩))]]]:=by
  generalize hg:apG l id off=g
  refine spcG zi mixed Tryz.func87 (by kernel_rfl) { TF with keep:=some [0,1,2,3,8,9,10]} [ZX,ZW,X3,X0,qE,qC] (by kernel_rfl) ?_
  intro I X hI hX
  refine zh (let y0:HO:=.pack [(.obj 48 [(.ptr 1 0),(.ptr 2 0)]),(.pack [(.obj 90 [(.row 1),(.p (.int .i64 (I.hid (α:=Int) (wrtN l n b (Ent.mk (2:Int) id (0:Int) x)))))]),(.row .upl 67 (I.hid (α:=(List Upl)) (wrtL l n b (Ent.mk (2:Int) id (0:Int) x))))]),(.pack [(.obj 104 [(.row 1),(.p (.int .i64 s))]),(.row .byte 5 (I.hid (α:=Str) (wrtB l n b (Ent.mk (2:Int) id (0:Int) x))))])];let y1:=I.hid (α:=(Prop)) (And (zu l n) (And (LE.le n (200000:Int)) (And (LE.le (List.length x) 1000000) (LE.le (List.length b) 100000))));let y2:=I.hid (α:=Int) (wrtC l n b (Ent.mk (2:Int) id (0:Int) x));.need (I.hid (α:=(Prop)) (zu l n)) (.br (I.hid (α:=Bool) (getB l id)) (.br (I.ieq (I.hid (α:=Int) (Upl.sent (getU l id))) 0) (.br (I.bnot (I.ieq off (I.len (α:=UInt8) (I.hid (α:=Str) (Upl.bytes (getU l id)))))) (.fin (.ret (.v (.one (.p (.int .i64 17))))) [(.pack [(.obj 48 [(.ptr 1 0),(.ptr 2 0)]),(.pack [(.obj 90 [(.row 1),(.p (.int .i64 n))]),(.row .upl 67 l)]),(.pack [(.obj 104 [(.row 1),(.p (.int .i64 s))]),(.row .byte 5 b)])])]) (.need y1 (.fin (.ret (.v (.one (.p (.int .i64 y2))))) [y0]))) (.need y1 (.fin (.ret (.v (.one (.p (.int .i64 y2))))) [y0]))) (.need y1 (.fin (.ret (.v (.one (.p (.int .i64 y2))))) [y0])))) (by kernel_rfl) ?_
  simp only [zk]
  subst hI
  simp only [nrmA,nrmB,nrlB,reduceCtorEq,HO.pack.injEq,HO.obj.injEq]
  (repeat' (first|refine And.intro ?_ ?_|intro _))<;>first|omega|exact True.intro|exact False.elim ‹False›|skip
  all_goals first
    |exact hneed.1
    |exact hneed
    |exact hneed.2.1
    |exact hneed.2.2.1
    |exact hneed.2.2.2
    |(have h:g=true:=(by rw [← hg];unfold apG;simp [*]);subst h;rfl)
    |(have h:g=false:=(by rw [← hg];unfold apG;simp [*]);subst h;rfl)
def sS (I:Alg) (args:List D) (hp:List HO):Option CT:=match args,hp with
  |[.v (.one (.ptr 0 0)),.v (.one (.p (.int .i64 id))),.v (.one (.p (.int .i64 off))),.v (.one (.p (.list .byte x)))],[.pack [.obj 48 [(.ptr 1 0),(.ptr 2 0)],.pack [.obj 90 [(.row 1),(.p (.int .i64 n))],.row .upl 67 l],.pack [.obj 104 [(.row 1),(.p (.int .i64 s))],.row .byte 5 b]]]=>(fun(l:List Upl) (n:Int) (b:Str) (s id off:Int) (x:Str)=>(some (.one ⟨I.hid (zu l n∧n≤200000∧x.length≤1000000∧b.length≤100000),(.ret (.v (.one (.p (.int .i64 (I.hid ((if apG l id off then 17 else wrtC l n b ⟨2,id,0,x⟩)))))))),[.pack [.obj 48 [(.ptr 1 0),(.ptr 2 0)],.pack [.obj 90 [(.row 1),(.p (.int .i64 (I.hid ((if apG l id off then n else wrtN l n b ⟨2,id,0,x⟩)))))],.row .upl 67 (I.hid ((if apG l id off then l else wrtL l n b ⟨2,id,0,x⟩)))],.pack [.obj 104 [(.row 1),(.p (.int .i64 s))],.row .byte 5 (I.hid ((if apG l id off then b else wrtB l n b ⟨2,id,0,x⟩)))]]]⟩):Option CT)) l n b s id off x
  |_,_=>none
theorem WI:zo Tryz.prog 87 (sS alg):=by
  intro args hp r h
  unfold sS at h
  split at h
  · cases h;exact fun hn=>zfe _ _ _ _ _ _ _ hn
  · cases h
def xX:Know Tryz.prog:=⟨87,sS,WI⟩
def xW:Know Tryz.prog:=⟨87,fun I=>zq I (sS I),zf WI⟩
theorem zcn (l:List Upl) (n:Int) (b:Str) (s id size:Int) (hneed:zu l n∧n≤200000∧b.length≤100000):Spc Tryz.prog 88 [.v (.one (.ptr 0 0)),.v (.one (.p (.int .i64 id))),.v (.one (.p (.int .i64 size)))] [.pack [.obj 48 [(.ptr 1 0),(.ptr 2 0)],.pack [.obj 90 [(.row 1),(.p (.int .i64 n))],.row .upl 67 l],.pack [.obj 104 [(.row 1),(.p (.int .i64 s))],.row .byte 5 b]]] (.ret (.v (.one (.p (.int .i64 ((wrtC l n b ⟨3,id,size,[]⟩))))))) [.pack [.obj 48 [(.ptr 1 0),(.ptr 2 0)],.pack [.obj 90 [(.row 1),(.p (.int .i64 ((wrtN l n b ⟨3,id,size,[]⟩))))],.row .upl 67 ((wrtL l n b ⟨3,id,size,[]⟩))],.pack [.obj 104 [(.row 1),(.p (.int .i64 s))],.row .byte 5 ((wrtB l n b ⟨3,id,size,[]⟩))]]]:=by
  refine spcG zi mixed Tryz.func88 (by kernel_rfl) { TF with keep:=some [0,1,2,6]} [qE,qC] (by kernel_rfl) ?_
  intro I X hI hX
  refine zh (.need (I.hid (α:=(Prop)) (And (zu l n) (And (LE.le n (200000:Int)) (And (LE.le (List.length ([]:Str)) 1000000) (LE.le (List.length b) 100000))))) (.fin (.ret (.v (.one (.p (.int .i64 (I.hid (α:=Int) (wrtC l n b (Ent.mk (3:Int) id size ([]:Str))))))))) [(.pack [(.obj 48 [(.ptr 1 0),(.ptr 2 0)]),(.pack [(.obj 90 [(.row 1),(.p (.int .i64 (I.hid (α:=Int) (wrtN l n b (Ent.mk (3:Int) id size ([]:Str))))))]),(.row .upl 67 (I.hid (α:=(List Upl)) (wrtL l n b (Ent.mk (3:Int) id size ([]:Str)))))]),(.pack [(.obj 104 [(.row 1),(.p (.int .i64 s))]),(.row .byte 5 (I.hid (α:=Str) (wrtB l n b (Ent.mk (3:Int) id size ([]:Str)))))])])])) (by kernel_rfl) ?_
  simp only [zk]
  subst hI
  simp only [nrmA,nrmB,nrlB,reduceCtorEq,HO.pack.injEq,HO.obj.injEq]
  exact⟨hneed.1,hneed.2.1,by decide,hneed.2.2⟩
def tq (I:Alg) (args:List D) (hp:List HO):Option CT:=match args,hp with
  |[.v (.one (.ptr 0 0)),.v (.one (.p (.int .i64 id))),.v (.one (.p (.int .i64 size)))],[.pack [.obj 48 [(.ptr 1 0),(.ptr 2 0)],.pack [.obj 90 [(.row 1),(.p (.int .i64 n))],.row .upl 67 l],.pack [.obj 104 [(.row 1),(.p (.int .i64 s))],.row .byte 5 b]]]=>(fun(l:List Upl) (n:Int) (b:Str) (s id size:Int)=>(some (.one ⟨I.hid (zu l n∧n≤200000∧b.length≤100000),(.ret (.v (.one (.p (.int .i64 (I.hid ((wrtC l n b ⟨3,id,size,[]⟩)))))))),[.pack [.obj 48 [(.ptr 1 0),(.ptr 2 0)],.pack [.obj 90 [(.row 1),(.p (.int .i64 (I.hid ((wrtN l n b ⟨3,id,size,[]⟩)))))],.row .upl 67 (I.hid ((wrtL l n b ⟨3,id,size,[]⟩)))],.pack [.obj 104 [(.row 1),(.p (.int .i64 s))],.row .byte 5 (I.hid ((wrtB l n b ⟨3,id,size,[]⟩)))]]]⟩):Option CT)) l n b s id size
  |_,_=>none
theorem Y7:zo Tryz.prog 88 (tq alg):=by
  intro args hp r h
  unfold tq at h
  split at h
  · cases h;exact fun hn=>zcn _ _ _ _ _ _ hn
  · cases h
def xB:Know Tryz.prog:=⟨88,tq,Y7⟩
def xA:Know Tryz.prog:=⟨88,fun I=>zq I (tq I),zf Y7⟩
theorem ziT (l:List Upl) (n:Int) (b:Str) (s id:Int) (hneed:zu l n∧n≤200000∧b.length≤100000):Spc Tryz.prog 58 [.v (.one (.ptr 0 0)),.v (.one (.p (.int .i64 id)))] [.pack [.obj 48 [(.ptr 1 0),(.ptr 2 0)],.pack [.obj 90 [(.row 1),(.p (.int .i64 n))],.row .upl 67 l],.pack [.obj 104 [(.row 1),(.p (.int .i64 s))],.row .byte 5 b]]] (.ret (.v (.one (.p (.int .i64 ((wrtC l n b ⟨4,id,0,[]⟩))))))) [.pack [.obj 48 [(.ptr 1 0),(.ptr 2 0)],.pack [.obj 90 [(.row 1),(.p (.int .i64 ((wrtN l n b ⟨4,id,0,[]⟩))))],.row .upl 67 ((wrtL l n b ⟨4,id,0,[]⟩))],.pack [.obj 104 [(.row 1),(.p (.int .i64 s))],.row .byte 5 ((wrtB l n b ⟨4,id,0,[]⟩))]]]:=by
  refine spcG zi mixed Tryz.func58 (by kernel_rfl) { TF with keep:=some [0,1,4]} [qE,qC] (by kernel_rfl) ?_
  intro I X hI hX
  refine zh (.need (I.hid (α:=(Prop)) (And (zu l n) (And (LE.le n (200000:Int)) (And (LE.le (List.length ([]:Str)) 1000000) (LE.le (List.length b) 100000))))) (.fin (.ret (.v (.one (.p (.int .i64 (I.hid (α:=Int) (wrtC l n b (Ent.mk (4:Int) id (0:Int) ([]:Str))))))))) [(.pack [(.obj 48 [(.ptr 1 0),(.ptr 2 0)]),(.pack [(.obj 90 [(.row 1),(.p (.int .i64 (I.hid (α:=Int) (wrtN l n b (Ent.mk (4:Int) id (0:Int) ([]:Str))))))]),(.row .upl 67 (I.hid (α:=(List Upl)) (wrtL l n b (Ent.mk (4:Int) id (0:Int) ([]:Str)))))]),(.pack [(.obj 104 [(.row 1),(.p (.int .i64 s))]),(.row .byte 5 (I.hid (α:=Str) (wrtB l n b (Ent.mk (4:Int) id (0:Int) ([]:Str)))))])])])) (by kernel_rfl) ?_
  simp only [zk]
  subst hI
  simp only [nrmA,nrmB,nrlB,reduceCtorEq,HO.pack.injEq,HO.obj.injEq]
  exact⟨hneed.1,hneed.2.1,by decide,hneed.2.2⟩
def ZQ (I:Alg) (args:List D) (hp:List HO):Option CT:=match args,hp with
  |[.v (.one (.ptr 0 0)),.v (.one (.p (.int .i64 id)))],[.pack [.obj 48 [(.ptr 1 0),(.ptr 2 0)],.pack [.obj 90 [(.row 1),(.p (.int .i64 n))],.row .upl 67 l],.pack [.obj 104 [(.row 1),(.p (.int .i64 s))],.row .byte 5 b]]]=>(fun(l:List Upl) (n:Int) (b:Str) (s id:Int)=>(some (.one ⟨I.hid (zu l n∧n≤200000∧b.length≤100000),(.ret (.v (.one (.p (.int .i64 (I.hid ((wrtC l n b ⟨4,id,0,[]⟩)))))))),[.pack [.obj 48 [(.ptr 1 0),(.ptr 2 0)],.pack [.obj 90 [(.row 1),(.p (.int .i64 (I.hid ((wrtN l n b ⟨4,id,0,[]⟩)))))],.row .upl 67 (I.hid ((wrtL l n b ⟨4,id,0,[]⟩)))],.pack [.obj 104 [(.row 1),(.p (.int .i64 s))],.row .byte 5 (I.hid ((wrtB l n b ⟨4,id,0,[]⟩)))]]]⟩):Option CT)) l n b s id
  |_,_=>none
theorem SG:zo Tryz.prog 58 (ZQ alg):=by
  intro args hp r h
  unfold ZQ at h
  split at h
  · cases h;exact fun hn=>ziT _ _ _ _ _ hn
  · cases h
def qm:Know Tryz.prog:=⟨58,ZQ,SG⟩
def ql:Know Tryz.prog:=⟨58,fun I=>zq I (ZQ I),zf SG⟩
theorem ziR (l:List Upl) (n:Int) (b:Str) (s:Int):Spc Tryz.prog 59 [.v (.one (.ptr 0 0))] [.pack [.obj 48 [(.ptr 1 0),(.ptr 2 0)],.pack [.obj 90 [(.row 1),(.p (.int .i64 n))],.row .upl 67 l],.pack [.obj 104 [(.row 1),(.p (.int .i64 s))],.row .byte 5 b]]] (.ret (.tup [])) [.pack [.obj 48 [(.ptr 1 0),(.ptr 2 0)],.pack [.obj 90 [(.row 1),(.p (.int .i64 n))],.row .upl 67 l],.pack [.obj 104 [(.row 1),(.p (.int .i64 ((b.length:Int))))],.row .byte 5 b]]]:=by
  refine spcG zi mixed Tryz.func59 (by kernel_rfl) { TF with keep:=some [0]} [zkR,zkQ] (by kernel_rfl) ?_
  intro I X hI hX
  refine zh (.need (I.hid (α:=(Prop)) True) (.fin (.ret (.tup [])) [(.pack [(.obj 48 [(.ptr 1 0),(.ptr 2 0)]),(.pack [(.obj 90 [(.row 1),(.p (.int .i64 n))]),(.row .upl 67 l)]),(.pack [(.obj 104 [(.row 1),(.p (.int .i64 (I.hid (α:=Int) (Nat.cast (List.length b)))))]),(.row .byte 5 b)])])])) (by kernel_rfl) ?_
  simp only [zk]
  subst hI
  simp only [nrmA,nrmB,nrlB,reduceCtorEq,HO.pack.injEq,HO.obj.injEq]
  try trivial
def ZO (I:Alg) (args:List D) (hp:List HO):Option CT:=match args,hp with
  |[.v (.one (.ptr 0 0))],[.pack [.obj 48 [(.ptr 1 0),(.ptr 2 0)],.pack [.obj 90 [(.row 1),(.p (.int .i64 n))],.row .upl 67 l],.pack [.obj 104 [(.row 1),(.p (.int .i64 s))],.row .byte 5 b]]]=>(fun(l:List Upl) (n:Int) (b:Str) (s:Int)=>(some (.one ⟨I.hid (True),(.ret (.tup [])),[.pack [.obj 48 [(.ptr 1 0),(.ptr 2 0)],.pack [.obj 90 [(.row 1),(.p (.int .i64 n))],.row .upl 67 l],.pack [.obj 104 [(.row 1),(.p (.int .i64 (I.hid ((b.length:Int)))))],.row .byte 5 b]]]⟩):Option CT)) l n b s
  |_,_=>none
theorem SC:zo Tryz.prog 59 (ZO alg):=by
  intro args hp r h
  unfold ZO at h
  split at h
  · cases h;exact fun hn=>ziR _ _ _ _
  · cases h
def yS:Know Tryz.prog:=⟨59,ZO,SC⟩
def yR:Know Tryz.prog:=⟨59,fun I=>zq I (ZO I),zf SC⟩
theorem zkV (l:List Upl) (n:Int) (b:Str) (s:Int) (hneed:b.length≤100000):Spc Tryz.prog 12 [.v (.one (.ptr 0 0))] [.pack [.obj 48 [(.ptr 1 0),(.ptr 2 0)],.pack [.obj 90 [(.row 1),(.p (.int .i64 n))],.row .upl 67 l],.pack [.obj 104 [(.row 1),(.p (.int .i64 s))],.row .byte 5 b]]] (.ret (.tup [(.one (.row 1)),(.one (.p (.int .i64 s)))])) [.pack [.obj 48 [(.ptr 1 0),(.ptr 2 0)],.pack [.obj 90 [(.row 1),(.p (.int .i64 n))],.row .upl 67 l],.pack [.obj 104 [(.row 1),(.p (.int .i64 s))],.row .byte 5 b]],.row .byte 5 b]:=by
  refine spcG zi mixed Tryz.func12 (by kernel_rfl) { TF with keep:=some [0,2,3]} [zkT,zkS,zjV,zjU] (by kernel_rfl) ?_
  intro I X hI hX
  refine zh (let y0:HO:=.pack [(.obj 48 [(.ptr 1 0),(.ptr 2 0)]),(.pack [(.obj 90 [(.row 1),(.p (.int .i64 n))]),(.row .upl 67 l)]),(.pack [(.obj 104 [(.row 1),(.p (.int .i64 s))]),(.row .byte 5 b)])];let y1:=I.hid (α:=(Prop)) (LE.le (List.length b) 100000000);.both (.both (.need y1 (.need (I.hid (α:=(Prop)) True) (.fin (.ret (.tup [(.one (.row 1)),(.one (.p (.int .i64 s)))])) [y0,(.row .byte 5 b)]))) (.need y1 (.need (I.hid (α:=(Prop)) True) (.fin (.ret (.tup [(.one (.row 1)),(.one (.p (.int .i64 s)))])) [y0,(.row .byte 5 b)])))) (.need y1 (.need (I.hid (α:=(Prop)) True) (.fin (.ret (.tup [(.one (.row 1)),(.one (.p (.int .i64 s)))])) [y0,(.row .byte 5 b)])))) (by kernel_rfl) ?_
  simp only [zk]
  subst hI
  simp only [nrmA,nrmB,nrlB,reduceCtorEq,HO.pack.injEq,HO.obj.injEq]
  (repeat' (first|refine And.intro ?_ ?_|intro _))<;>first|omega|exact True.intro|exact False.elim ‹False›|skip
def Y6 (I:Alg) (args:List D) (hp:List HO):Option CT:=match args,hp with
  |[.v (.one (.ptr 0 0))],[.pack [.obj 48 [(.ptr 1 0),(.ptr 2 0)],.pack [.obj 90 [(.row 1),(.p (.int .i64 n))],.row .upl 67 l],.pack [.obj 104 [(.row 1),(.p (.int .i64 s))],.row .byte 5 b]]]=>(fun(l:List Upl) (n:Int) (b:Str) (s:Int)=>(some (.one ⟨I.hid (b.length≤100000),(.ret (.tup [(.one (.row 1)),(.one (.p (.int .i64 s)))])),[.pack [.obj 48 [(.ptr 1 0),(.ptr 2 0)],.pack [.obj 90 [(.row 1),(.p (.int .i64 n))],.row .upl 67 l],.pack [.obj 104 [(.row 1),(.p (.int .i64 s))],.row .byte 5 b]],.row .byte 5 b]⟩):Option CT)) l n b s
  |_,_=>none
theorem zaY:zo Tryz.prog 12 (Y6 alg):=by
  intro args hp r h
  unfold Y6 at h
  split at h
  · cases h;exact fun hn=>zkV _ _ _ _ hn
  · cases h
def uD:Know Tryz.prog:=⟨12,Y6,zaY⟩
def uy:Know Tryz.prog:=⟨12,fun I=>zq I (Y6 I),zf zaY⟩
end Go.Proofs.YtcclfkakcgnacaaGreatDoor
namespace Go.Proofs.YtcclfkakcgnacaaGreatDoor
open Go Go.Sep Go.Ab
set_option maxRecDepth 100000
theorem hAt_ (l:List Upl) (n id:Int) (hneed:l.length≤1000000):Spc Tryz.prog 35 [.v (.one (.ptr 0 0)),.v (.one (.p (.int .i64 id)))] [.pack [.obj 50 [(.row 1),(.p (.int .i64 n))],.row .upl 67 l]] (.ret (.v (.one (.p (.int .i64 ((ixU l id))))))) [.pack [.obj 50 [(.row 1),(.p (.int .i64 n))],.row .upl 67 l]]:=by
  refine spcG zi mixed Tryz.func35 (by kernel_rfl) { Zb with keep:=some [0,1,4,5]} [] (by kernel_rfl) ?_
  intro I X hI hX
  refine zh (.code 0 [1,0,1,0] ⟨[(5,(.v (.one (.p (.int .i64 0))))),(4,(.v (.one (.p (.int .i64 0))))),(0,(.v (.one (.ptr 0 0)))),(1,(.v (.one (.p (.int .i64 id)))))],[(.pack [(.obj 50 [(.row 1),(.p (.int .i64 n))]),(.row .upl 67 l)])],26,none⟩) (by kernel_rfl) ?_
  simp only [zk]
  refine zG hI zi mixed [] hX [0,1,5] (fun(i:Nat)=>i≤l.length∧i≤atU l id) (fun(i:Nat)=>⟨[(0,.v (.one (.ptr 0 0))),(1,.v (.one (.p (.int .i64 id)))),(5,.v (.one (.p (.int .i64 i))))],[.pack [.obj 50 [(.row 1),(.p (.int .i64 n))],.row .upl 67 l]],26,none⟩) (fun(i:Nat)=>l.length - i) 0 (by kernel_rfl) (by kernel_rfl) ?_ ?_
  · exact⟨Nat.zero_le _,Nat.zero_le _⟩
  rintro i ⟨h1,h2⟩ A hA
  refine zh (let y0:HO:=.pack [(.obj 50 [(.row 1),(.p (.int .i64 n))]),(.row .upl 67 l)];let y1:=I.inb (Nat.cast i) (I.len (α:=Upl) l);.br (I.ilt (Nat.cast i) (I.len (α:=Upl) l)) (.need y1 (.need y1 (.br (I.ieq (Upl.id (I.get (α:=Upl) l (Upl.mk (0:Int) (0:Int) ([]:Str) ([]:Str) (0:Int)) (Nat.cast i))) id) (.fin (.ret (.v (.one (.p (.int .i64 (Nat.cast i)))))) [y0]) (.need (I.inr Go.IntKind.i64 (I.add (Nat.cast i) 1)) (.need (A ⟨[(0,(.v (.one (.ptr 0 0)))),(1,(.v (.one (.p (.int .i64 id))))),(5,(.v (.one (.p (.int .i64 (I.add (Nat.cast i) 1))))))],[y0],26,none⟩) .qed))))) (.fin (.ret (.v (.one (.p (.int .i64 (Neg.neg (1:Int))))))) [y0])) (by kernel_rfl) ?_
  simp only [zk]
  subst hI
  simp only [nrmA,nrmB,nrlB,reduceCtorEq]
  have hx:=fun h=>zaC (l:=l) (id:=id) (i:=i) h h2
  have hle:=ZJ l id
  have e0:(⟨0,0,[],[],0⟩:Upl)=upl0:=rfl
  simp only [e0]
  unfold ixU
  (repeat' (first|refine And.intro ?_ ?_|intro _))<;>first|omega|exact True.intro|exact False.elim ‹False›|skip
  all_goals first
    |(have h3:=hx (by omega);rw [if_pos (by assumption)] at h3;rw [if_pos (by omega),h3])
    |(have h3:=hx (by omega);rw [if_neg (by assumption)] at h3;exact hA (i+1) ⟨by omega,h3⟩ (by omega))
    |(rw [if_neg (by omega)])
def zeA (I:Alg) (args:List D) (hp:List HO):Option CT:=match args,hp with
  |[.v (.one (.ptr 0 0)),.v (.one (.p (.int .i64 id)))],[.pack [.obj 50 [(.row 1),(.p (.int .i64 n))],.row .upl 67 l]]=>(fun(l:List Upl) (n id:Int)=>(some (.one ⟨I.hid (l.length≤1000000),(.ret (.v (.one (.p (.int .i64 (I.hid ((ixU l id)))))))),[.pack [.obj 50 [(.row 1),(.p (.int .i64 n))],.row .upl 67 l]]⟩):Option CT)) l n id
  |_,_=>none
theorem zko:zo Tryz.prog 35 (zeA alg):=by
  intro args hp r h
  unfold zeA at h
  split at h
  · cases h;exact fun hn=>hAt_ _ _ _ hn
  · cases h
def xM:Know Tryz.prog:=⟨35,zeA,zko⟩
def xK:Know Tryz.prog:=⟨35,fun I=>zq I (zeA I),zf zko⟩
theorem zhC (l:List Upl) (n:Int) (hneed:yI l≤1000000∧l.length≤1000000):Spc Tryz.prog 127 [.v (.one (.ptr 0 0))] [.obj 50 [(.row 1),(.p (.int .i64 n))],.row .upl 67 l] (.ret (.v (.one (.p (.int .i64 ((yI l))))))) [.obj 50 [(.row 1),(.p (.int .i64 n))],.row .upl 67 l]:=by
  obtain⟨hu,hl⟩:=hneed
  refine spcG zi mixed Tryz.func127 (by kernel_rfl) { flat:=true,keep:=some [0,2,3,4]} [] (by kernel_rfl) ?_
  intro I X hI hX
  refine zh (.code 0 [1,1,0,1,0] ⟨[(4,(.v (.one (.p (.int .i64 0))))),(3,(.v (.one (.p (.int .i64 0))))),(2,(.v (.one (.p (.int .i64 0))))),(0,(.v (.one (.ptr 0 0))))],[(.obj 50 [(.row 1),(.p (.int .i64 n))]),(.row .upl 67 l)],26,none⟩) (by kernel_rfl) ?_
  simp only [zk]
  refine zG hI zi mixed [] hX [0,3,4] (fun(g:Nat × Int)=>match g with|(i,a)=>i≤l.length∧0≤a∧a+yI (l.drop i)=yI l) (fun(g:Nat × Int)=>match g with|(i,a)=>⟨[(0,.v (.one (.ptr 0 0))),(3,.v (.one (.p (.int .i64 a)))),(4,.v (.one (.p (.int .i64 i))))],[.obj 50 [(.row 1),(.p (.int .i64 n))],.row .upl 67 l],26,none⟩) (fun(g:Nat × Int)=>match g with|(i,a)=>l.length - i) (0,0) (by kernel_rfl) (by kernel_rfl) ?_ ?_
  · exact⟨Nat.zero_le _,Int.le_refl _,by simp⟩
  rintro⟨i,a⟩ ⟨h1,h2,h3⟩ A hA
  simp only at hA
  refine zh (let y0:=I.add a (I.len (α:=UInt8) (Upl.bytes (I.get (α:=Upl) l (Upl.mk (0:Int) (0:Int) ([]:Str) ([]:Str) (0:Int)) (Nat.cast i))));let y1:=I.inb (Nat.cast i) (I.len (α:=Upl) l);let y2:HO:=.obj 50 [(.row 1),(.p (.int .i64 n))];.br (I.ilt (Nat.cast i) (I.len (α:=Upl) l)) (.need y1 (.need y1 (.need (I.inr Go.IntKind.i64 y0) (.need (I.inr Go.IntKind.i64 (I.add (Nat.cast i) 1)) (.need (A ⟨[(0,(.v (.one (.ptr 0 0)))),(3,(.v (.one (.p (.int .i64 y0))))),(4,(.v (.one (.p (.int .i64 (I.add (Nat.cast i) 1))))))],[y2,(.row .upl 67 l)],26,none⟩) .qed))))) (.fin (.ret (.v (.one (.p (.int .i64 a))))) [y2,(.row .upl 67 l)])) (by kernel_rfl) ?_
  simp only [zk]
  subst hI
  simp only [nrmA,nrmB]
  have hd:i<l.length→yI (l.drop i)=(l.getD i ⟨0,0,[],[],0⟩).bytes.length+yI (l.drop (i+1)):=fun h=>by
    rw [List.drop_eq_getElem_cons h];simp [yI,h]
  have hn:=uq (l.drop (i+1))
  have hn0: ¬ i<l.length→yI (l.drop i)=0:=fun h=>by rw [List.drop_of_length_le (by omega)];rfl
  generalize l.getD i ⟨0,0,[],[],0⟩=x at *
  (repeat' (first|refine And.intro ?_ ?_|intro _))<;>first|omega|exact True.intro|exact False.elim ‹False›|skip
  all_goals first
    |(have:=hd (by omega);omega)
    |(have:=hd (by omega);refine hA (i+1,_) ⟨by simp only;omega,by simp only;omega,by simp only;omega⟩ (by simp only;omega))
    |(have:=hn0 (by omega);simp only [show a=yI l by omega])
def Xw (I:Alg) (args:List D) (hp:List HO):Option CT:=match args,hp with
  |[.v (.one (.ptr 0 0))],[.obj 50 [(.row 1),(.p (.int .i64 n))],.row .upl 67 l]=>(fun(l:List Upl) (n:Int)=>(some (.one ⟨I.hid (yI l≤1000000∧l.length≤1000000),(.ret (.v (.one (.p (.int .i64 (I.hid ((yI l)))))))),[.obj 50 [(.row 1),(.p (.int .i64 n))],.row .upl 67 l]⟩):Option CT)) l n
  |_,_=>none
theorem zbI:zo Tryz.prog 127 (Xw alg):=by
  intro args hp r h
  unfold Xw at h
  split at h
  · cases h;exact fun hn=>zhC _ _ hn
  · cases h
def zhB:Know Tryz.prog:=⟨127,Xw,zbI⟩
def zhA:Know Tryz.prog:=⟨127,fun I=>zq I (Xw I),zf zbI⟩
theorem znl (l:List Upl) (n:Int) (hneed:yI l≤1000000∧l.length≤1000000):Spc Tryz.prog 127 [.v (.one (.ptr 0 0))] [.pack [.obj 50 [(.row 1),(.p (.int .i64 n))],.row .upl 67 l]] (.ret (.v (.one (.p (.int .i64 ((yI l))))))) [.pack [.obj 50 [(.row 1),(.p (.int .i64 n))],.row .upl 67 l]]:=
  Spc.packed (ex:=[]) (zhC l n hneed) rfl (by simp) rfl
def Ua (I:Alg) (args:List D) (hp:List HO):Option CT:=match args,hp with
  |[.v (.one (.ptr 0 0))],[.pack [.obj 50 [(.row 1),(.p (.int .i64 n))],.row .upl 67 l]]=>(fun(l:List Upl) (n:Int)=>(some (.one ⟨I.hid (yI l≤1000000∧l.length≤1000000),(.ret (.v (.one (.p (.int .i64 (I.hid ((yI l)))))))),[.pack [.obj 50 [(.row 1),(.p (.int .i64 n))],.row .upl 67 l]]⟩):Option CT)) l n
  |_,_=>none
theorem zev:zo Tryz.prog 127 (Ua alg):=by
  intro args hp r h
  unfold Ua at h
  split at h
  · cases h;exact fun hn=>znl _ _ hn
  · cases h
def zjy:Know Tryz.prog:=⟨127,Ua,zev⟩
def zjx:Know Tryz.prog:=⟨127,fun I=>zq I (Ua I),zf zev⟩
theorem zjC (l:List Upl) (n size:Int) (m:Str) (hneed:zu l n∧n≤1000000∧m.length≤1000000):Spc Tryz.prog 119 [.v (.one (.ptr 0 0)),.v (.one (.p (.int .i64 size))),.v (.one (.p (.str m)))] [.pack [.obj 50 [(.row 1),(.p (.int .i64 n))],.row .upl 67 l]] (.ret (.tup [(.one (.p (.int .i64 ((creI l n size m))))),(.one (.p (.int .i64 ((creC l size m)))))])) [.pack [.obj 50 [(.row 1),(.p (.int .i64 ((creN l n size m))))],.row .upl 67 ((creL l n size m))]]:=by
  obtain⟨hs,hn,hm⟩:=hneed
  have hc:=hs.cnt
  have h0:=hs.n0
  generalize hi:creI l n size m=ri
  generalize he:creC l size m=re
  generalize hl:creL l n size m=rl
  generalize hN:creN l n size m=rn
  refine spcG zi mixed Tryz.func119 (by kernel_rfl) { Zb with keep:=some [0,1,2,6,7]} [yV,yU,zfb,zfa] (by kernel_rfl) ?_
  intro I X hI hX
  refine zh (let y0:HO:=.pack [(.obj 50 [(.row 1),(.p (.int .i64 n))]),(.row .upl 67 l)];let y1:HO:=.pack [(.obj 50 [(.row 1),(.p (.int .i64 (I.add n 1)))]),(.row .upl 67 (I.app (α:=Upl) l ([(Upl.mk (I.add n 1) size m ([]:Str) (0:Int))]:List Upl)))];let y2:=I.few (I.add (I.len (α:=Upl) l) (I.len (α:=Upl) ([(Upl.mk (I.add n 1) size m ([]:Str) (0:Int))]:List Upl))) 100000000;let y3:=I.hid (α:=(Prop)) (LE.le (List.length m) 1000000);.br (I.ilt size (Neg.neg (1:Int))) (.fin (.ret (.tup [(.one (.p (.int .i64 0))),(.one (.p (.int .i64 1)))])) [y0]) (.br (I.ilt 2000 size) (.fin (.ret (.tup [(.one (.p (.int .i64 0))),(.one (.p (.int .i64 4)))])) [y0]) (.br (I.ilt 100 (I.len (α:=UInt8) m)) (.fin (.ret (.tup [(.one (.p (.int .i64 0))),(.one (.p (.int .i64 4)))])) [y0]) (.need y3 (.br (I.bnot (I.hid (α:=Bool) (tZ m))) (.fin (.ret (.tup [(.one (.p (.int .i64 0))),(.one (.p (.int .i64 3)))])) [y0]) (.need y3 (.br (I.bnot (I.seq (I.hid (α:=Str) (Go.Lib.trimS m ([32,9]:Str))) m)) (.fin (.ret (.tup [(.one (.p (.int .i64 0))),(.one (.p (.int .i64 3)))])) [y0]) (.br (I.ile 12 (I.len (α:=Upl) l)) (.fin (.ret (.tup [(.one (.p (.int .i64 0))),(.one (.p (.int .i64 8)))])) [y0]) (.need (I.inr Go.IntKind.i64 (I.add n 1)) (.both (.need y2 (.fin (.ret (.tup [(.one (.p (.int .i64 (I.add n 1)))),(.one (.p (.int .i64 0)))])) [y1])) (.both (.need y2 (.fin (.ret (.tup [(.one (.p (.int .i64 (I.add n 1)))),(.one (.p (.int .i64 0)))])) [y1])) (.need y2 (.fin (.ret (.tup [(.one (.p (.int .i64 (I.add n 1)))),(.one (.p (.int .i64 0)))])) [y1]))))))))))))) (by kernel_rfl) ?_
  simp only [zk]
  subst hI
  simp only [nrmA,nrmB,nrlB,reduceCtorEq,HO.pack.injEq,HO.obj.injEq]
  unfold creI at hi
  unfold creL at hl
  unfold creN at hN
  rw [he] at hi hl hN
  unfold creC at he
  simp only [List.length_cons,List.length_nil]
  (repeat' (first|refine And.intro ?_ ?_|intro _))<;>first|omega|exact True.intro|exact False.elim ‹False›|skip
  all_goals((repeat(first|rewrite [if_pos (by first|omega|assumption|(simp only [*,or_self,or_true,true_or,or_false,false_or,not_true_eq_false,not_false_eq_true,Bool.false_eq_true,Bool.true_eq_false,and_self,and_true,true_and];done)|(simp only [*];omega)|(simp [*];done)|(simp [*];omega))] at he|rewrite [if_neg (by first|omega|assumption|(simp only [*,or_self,or_true,true_or,or_false,false_or,not_true_eq_false,not_false_eq_true,Bool.false_eq_true,Bool.true_eq_false,and_self,and_true,true_and];done)|(simp only [*];omega)|(simp [*];done)|(simp [*];omega))] at he));subst he;((repeat(first|rewrite [if_pos (by first|omega|assumption|(simp only [*,or_self,or_true,true_or,or_false,false_or,not_true_eq_false,not_false_eq_true,Bool.false_eq_true,Bool.true_eq_false,and_self,and_true,true_and];done)|(simp only [*];omega)|(simp [*];done)|(simp [*];omega))] at hi|rewrite [if_neg (by first|omega|assumption|(simp only [*,or_self,or_true,true_or,or_false,false_or,not_true_eq_false,not_false_eq_true,Bool.false_eq_true,Bool.true_eq_false,and_self,and_true,true_and];done)|(simp only [*];omega)|(simp [*];done)|(simp [*];omega))] at hi)));((repeat(first|rewrite [if_pos (by first|omega|assumption|(simp only [*,or_self,or_true,true_or,or_false,false_or,not_true_eq_false,not_false_eq_true,Bool.false_eq_true,Bool.true_eq_false,and_self,and_true,true_and];done)|(simp only [*];omega)|(simp [*];done)|(simp [*];omega))] at hl|rewrite [if_neg (by first|omega|assumption|(simp only [*,or_self,or_true,true_or,or_false,false_or,not_true_eq_false,not_false_eq_true,Bool.false_eq_true,Bool.true_eq_false,and_self,and_true,true_and];done)|(simp only [*];omega)|(simp [*];done)|(simp [*];omega))] at hl)));((repeat(first|rewrite [if_pos (by first|omega|assumption|(simp only [*,or_self,or_true,true_or,or_false,false_or,not_true_eq_false,not_false_eq_true,Bool.false_eq_true,Bool.true_eq_false,and_self,and_true,true_and];done)|(simp only [*];omega)|(simp [*];done)|(simp [*];omega))] at hN|rewrite [if_neg (by first|omega|assumption|(simp only [*,or_self,or_true,true_or,or_false,false_or,not_true_eq_false,not_false_eq_true,Bool.false_eq_true,Bool.true_eq_false,and_self,and_true,true_and];done)|(simp only [*];omega)|(simp [*];done)|(simp [*];omega))] at hN)));subst hi;subst hl;subst hN;first|rfl|omega)
def Yg (I:Alg) (args:List D) (hp:List HO):Option CT:=match args,hp with
  |[.v (.one (.ptr 0 0)),.v (.one (.p (.int .i64 size))),.v (.one (.p (.str m)))],[.pack [.obj 50 [(.row 1),(.p (.int .i64 n))],.row .upl 67 l]]=>(fun(l:List Upl) (n size:Int) (m:Str)=>(some (.one ⟨I.hid (zu l n∧n≤1000000∧m.length≤1000000),(.ret (.tup [(.one (.p (.int .i64 (I.hid ((creI l n size m)))))),(.one (.p (.int .i64 (I.hid ((creC l size m))))))])),[.pack [.obj 50 [(.row 1),(.p (.int .i64 (I.hid ((creN l n size m)))))],.row .upl 67 (I.hid ((creL l n size m)))]]⟩):Option CT)) l n size m
  |_,_=>none
theorem RD:zo Tryz.prog 119 (Yg alg):=by
  intro args hp r h
  unfold Yg at h
  split at h
  · cases h;exact fun hn=>zjC _ _ _ _ hn
  · cases h
def zfM:Know Tryz.prog:=⟨119,Yg,RD⟩
def zfL:Know Tryz.prog:=⟨119,fun I=>zq I (Yg I),zf RD⟩
theorem zjD (l:List Upl) (n id off:Int) (b:Str) (hneed:zu l n∧b.length≤1000000):Spc Tryz.prog 96 [.v (.one (.ptr 0 0)),.v (.one (.p (.int .i64 id))),.v (.one (.p (.int .i64 off))),.v (.one (.p (.list .byte b)))] [.pack [.obj 50 [(.row 1),(.p (.int .i64 n))],.row .upl 67 l]] (.ret (.v (.one (.p (.int .i64 ((appC l id off b))))))) [.pack [.obj 50 [(.row 1),(.p (.int .i64 n))],.row .upl 67 ((appL l id off b))]]:=by
  obtain⟨hs,hb⟩:=hneed
  have hf:=vN hs
  have hle:=ZJ l id
  generalize he:appC l id off b=re
  generalize hl:appL l id off b=rl
  refine spcG zi mixed Tryz.func96 (by kernel_rfl) { Zb with bare:=[127],keep:=some [0,1,2,3,8,9,10,11,12]} [xM,xK,zhB,zhA,zjy,zjx] (by kernel_rfl) ?_
  intro I X hI hX
  refine zh (let y0:=I.get (α:=Upl) l (Upl.mk (0:Int) (0:Int) ([]:Str) ([]:Str) (0:Int)) (I.hid (α:=Int) (ixU l id));let y1:=I.inb (I.hid (α:=Int) (ixU l id)) (I.len (α:=Upl) l);let y2:HO:=.pack [(.obj 50 [(.row 1),(.p (.int .i64 n))]),(.row .upl 67 l)];let y7:=I.len (α:=UInt8) (Upl.bytes y0);let y3:=I.add y7 (I.len (α:=UInt8) b);let y4:HO:=.pack [(.obj 50 [(.row 1),(.p (.int .i64 n))]),(.row .upl 67 (I.set (α:=Upl) l (I.hid (α:=Int) (ixU l id)) (Upl.mk (Upl.id y0) (Upl.size y0) (Upl.note y0) (I.app (α:=UInt8) (Upl.bytes y0) b) (Upl.sent y0))))];let y5:=I.add (I.hid (α:=Int) (yI l)) (I.len (α:=UInt8) b);let y6:=I.hid (α:=(Prop)) (And (LE.le (yI l) (1000000:Int)) (LE.le (List.length l) 1000000));.need (I.hid (α:=(Prop)) (LE.le (List.length l) 1000000)) (.br (I.ilt (I.hid (α:=Int) (ixU l id)) 0) (.fin (.ret (.v (.one (.p (.int .i64 10))))) [y2]) (.need y1 (.need y1 (.need y1 (.br (I.bnot (I.ieq (Upl.sent y0) 0)) (.fin (.ret (.v (.one (.p (.int .i64 19))))) [y2]) (.br (I.bnot (I.ieq off y7)) (.fin (.ret (.v (.one (.p (.int .i64 17))))) [y2]) (.need (I.inr Go.IntKind.i64 y3) (.br (I.ilt 2000 y3) (.fin (.ret (.v (.one (.p (.int .i64 4))))) [y2]) (.need y1 (.br (I.ile 0 (Upl.size y0)) (.need (I.inr Go.IntKind.i64 y3) (.need y1 (.br (I.ilt (Upl.size y0) y3) (.fin (.ret (.v (.one (.p (.int .i64 4))))) [y2]) (.need y6 (.need (I.inr Go.IntKind.i64 y5) (.br (I.ilt 6000 y5) (.fin (.ret (.v (.one (.p (.int .i64 16))))) [y2]) (.need y1 (.need (I.few y7 140737488355328) (.need (I.few y3 140737488355328) (.need y1 (.fin (.ret (.v (.one (.p (.int .i64 0))))) [y4]))))))))))) (.need y6 (.need (I.inr Go.IntKind.i64 y5) (.br (I.ilt 6000 y5) (.fin (.ret (.v (.one (.p (.int .i64 16))))) [y2]) (.need y1 (.need (I.few y7 140737488355328) (.need (I.few y3 140737488355328) (.need y1 (.fin (.ret (.v (.one (.p (.int .i64 0))))) [y4]))))))))))))))))))) (by kernel_rfl) ?_
  simp only [zk]
  subst hI
  simp only [nrmA,nrmB,nrlB,reduceCtorEq,HO.pack.injEq,HO.obj.injEq]
  unfold appL at hl
  rw [he] at hl
  unfold appC at he
  unfold yJ upl0 at he hl
  have hx:atU l id<l.length→_:=fun h=>hs.each _ (vG h)
  unfold yJ upl0 at hx
  have hu0:=uq l
  by_cases hk:atU l id<l.length
  · rw [ZC hk,Int.toNat_natCast]
    have hx:=hx hk
    generalize l.getD (atU l id) ⟨0,0,[],[],0⟩=x at *
    have hb1:=hx.bl
    have hb2:=hx.s1
    have hb3:=hx.s2
    (try simp only [List.nil_append,List.length_append,List.length_nil])
    (repeat' (first|refine And.intro ?_ ?_|intro _))<;>first|omega|exact True.intro|exact False.elim ‹False›|skip
    all_goals first
      |exact hf.1
      |exact hf.2
      |((repeat(first|rewrite [if_pos (by first|omega|assumption|(simp only [*,or_self,or_true,true_or,or_false,false_or,not_true_eq_false,not_false_eq_true,Bool.false_eq_true,Bool.true_eq_false,and_self,and_true,true_and];done)|(simp only [*];omega)|(simp [*];done)|(simp [*];omega))] at he|rewrite [if_neg (by first|omega|assumption|(simp only [*,or_self,or_true,true_or,or_false,false_or,not_true_eq_false,not_false_eq_true,Bool.false_eq_true,Bool.true_eq_false,and_self,and_true,true_and];done)|(simp only [*];omega)|(simp [*];done)|(simp [*];omega))] at he));subst he;((repeat(first|rewrite [if_pos (by first|omega|assumption|(simp only [*,or_self,or_true,true_or,or_false,false_or,not_true_eq_false,not_false_eq_true,Bool.false_eq_true,Bool.true_eq_false,and_self,and_true,true_and];done)|(simp only [*];omega)|(simp [*];done)|(simp [*];omega))] at hl|rewrite [if_neg (by first|omega|assumption|(simp only [*,or_self,or_true,true_or,or_false,false_or,not_true_eq_false,not_false_eq_true,Bool.false_eq_true,Bool.true_eq_false,and_self,and_true,true_and];done)|(simp only [*];omega)|(simp [*];done)|(simp [*];omega))] at hl)));subst hl;first|rfl|omega)
  · rw [ZE hk]
    (repeat' (first|refine And.intro ?_ ?_|intro _))<;>first|omega|exact True.intro|exact False.elim ‹False›|skip
    all_goals first
      |exact hf.1
      |exact hf.2
      |((repeat(first|rewrite [if_pos (by first|omega|assumption|(simp only [*,or_self,or_true,true_or,or_false,false_or,not_true_eq_false,not_false_eq_true,Bool.false_eq_true,Bool.true_eq_false,and_self,and_true,true_and];done)|(simp only [*];omega)|(simp [*];done)|(simp [*];omega))] at he|rewrite [if_neg (by first|omega|assumption|(simp only [*,or_self,or_true,true_or,or_false,false_or,not_true_eq_false,not_false_eq_true,Bool.false_eq_true,Bool.true_eq_false,and_self,and_true,true_and];done)|(simp only [*];omega)|(simp [*];done)|(simp [*];omega))] at he));subst he;((repeat(first|rewrite [if_pos (by first|omega|assumption|(simp only [*,or_self,or_true,true_or,or_false,false_or,not_true_eq_false,not_false_eq_true,Bool.false_eq_true,Bool.true_eq_false,and_self,and_true,true_and];done)|(simp only [*];omega)|(simp [*];done)|(simp [*];omega))] at hl|rewrite [if_neg (by first|omega|assumption|(simp only [*,or_self,or_true,true_or,or_false,false_or,not_true_eq_false,not_false_eq_true,Bool.false_eq_true,Bool.true_eq_false,and_self,and_true,true_and];done)|(simp only [*];omega)|(simp [*];done)|(simp [*];omega))] at hl)));subst hl;first|rfl|omega)
def Yh (I:Alg) (args:List D) (hp:List HO):Option CT:=match args,hp with
  |[.v (.one (.ptr 0 0)),.v (.one (.p (.int .i64 id))),.v (.one (.p (.int .i64 off))),.v (.one (.p (.list .byte b)))],[.pack [.obj 50 [(.row 1),(.p (.int .i64 n))],.row .upl 67 l]]=>(fun(l:List Upl) (n id off:Int) (b:Str)=>(some (.one ⟨I.hid (zu l n∧b.length≤1000000),(.ret (.v (.one (.p (.int .i64 (I.hid ((appC l id off b)))))))),[.pack [.obj 50 [(.row 1),(.p (.int .i64 n))],.row .upl 67 (I.hid ((appL l id off b)))]]⟩):Option CT)) l n id off b
  |_,_=>none
theorem RH:zo Tryz.prog 96 (Yh alg):=by
  intro args hp r h
  unfold Yh at h
  split at h
  · cases h;exact fun hn=>zjD _ _ _ _ _ hn
  · cases h
def RG:Know Tryz.prog:=⟨96,Yh,RH⟩
def RF:Know Tryz.prog:=⟨96,fun I=>zq I (Yh I),zf RH⟩
theorem zhE (l:List Upl) (n id size:Int) (hneed:zu l n):Spc Tryz.prog 120 [.v (.one (.ptr 0 0)),.v (.one (.p (.int .i64 id))),.v (.one (.p (.int .i64 size)))] [.pack [.obj 50 [(.row 1),(.p (.int .i64 n))],.row .upl 67 l]] (.ret (.v (.one (.p (.int .i64 ((decC l id size))))))) [.pack [.obj 50 [(.row 1),(.p (.int .i64 n))],.row .upl 67 ((decL l id size))]]:=by
  have hs:=hneed
  have hf:=vN hs
  have hle:=ZJ l id
  generalize he:decC l id size=re
  generalize hl:decL l id size=rl
  refine spcG zi mixed Tryz.func120 (by kernel_rfl) { Zb with keep:=some [0,1,2,6,7]} [xM,xK] (by kernel_rfl) ?_
  intro I X hI hX
  refine zh (let y0:=I.get (α:=Upl) l (Upl.mk (0:Int) (0:Int) ([]:Str) ([]:Str) (0:Int)) (I.hid (α:=Int) (ixU l id));let y1:=I.inb (I.hid (α:=Int) (ixU l id)) (I.len (α:=Upl) l);let y2:HO:=.pack [(.obj 50 [(.row 1),(.p (.int .i64 n))]),(.row .upl 67 l)];.need (I.hid (α:=(Prop)) (LE.le (List.length l) 1000000)) (.br (I.ilt (I.hid (α:=Int) (ixU l id)) 0) (.fin (.ret (.v (.one (.p (.int .i64 10))))) [y2]) (.need y1 (.need y1 (.br (I.ile 0 (Upl.size y0)) (.fin (.ret (.v (.one (.p (.int .i64 18))))) [y2]) (.br (I.ilt size 0) (.fin (.ret (.v (.one (.p (.int .i64 1))))) [y2]) (.br (I.ilt 2000 size) (.fin (.ret (.v (.one (.p (.int .i64 4))))) [y2]) (.need y1 (.need y1 (.br (I.ilt size (I.len (α:=UInt8) (Upl.bytes y0))) (.fin (.ret (.v (.one (.p (.int .i64 4))))) [y2]) (.need y1 (.need y1 (.fin (.ret (.v (.one (.p (.int .i64 0))))) [(.pack [(.obj 50 [(.row 1),(.p (.int .i64 n))]),(.row .upl 67 (I.set (α:=Upl) l (I.hid (α:=Int) (ixU l id)) (Upl.mk (Upl.id y0) size (Upl.note y0) (Upl.bytes y0) (Upl.sent y0))))])]))))))))))))) (by kernel_rfl) ?_
  simp only [zk]
  subst hI
  simp only [nrmA,nrmB,nrlB,reduceCtorEq,HO.pack.injEq,HO.obj.injEq]
  unfold decL at hl
  rw [he] at hl
  unfold decC at he
  unfold yJ upl0 at he hl
  by_cases hk:atU l id<l.length
  · rw [ZC hk,Int.toNat_natCast]
    generalize l.getD (atU l id) ⟨0,0,[],[],0⟩=x at *
    (repeat' (first|refine And.intro ?_ ?_|intro _))<;>first|omega|exact True.intro|exact False.elim ‹False›|skip
    all_goals first
      |exact hf.1
      |((repeat(first|rewrite [if_pos (by first|omega|assumption|(simp only [*,or_self,or_true,true_or,or_false,false_or,not_true_eq_false,not_false_eq_true,Bool.false_eq_true,Bool.true_eq_false,and_self,and_true,true_and];done)|(simp only [*];omega)|(simp [*];done)|(simp [*];omega))] at he|rewrite [if_neg (by first|omega|assumption|(simp only [*,or_self,or_true,true_or,or_false,false_or,not_true_eq_false,not_false_eq_true,Bool.false_eq_true,Bool.true_eq_false,and_self,and_true,true_and];done)|(simp only [*];omega)|(simp [*];done)|(simp [*];omega))] at he));subst he;((repeat(first|rewrite [if_pos (by first|omega|assumption|(simp only [*,or_self,or_true,true_or,or_false,false_or,not_true_eq_false,not_false_eq_true,Bool.false_eq_true,Bool.true_eq_false,and_self,and_true,true_and];done)|(simp only [*];omega)|(simp [*];done)|(simp [*];omega))] at hl|rewrite [if_neg (by first|omega|assumption|(simp only [*,or_self,or_true,true_or,or_false,false_or,not_true_eq_false,not_false_eq_true,Bool.false_eq_true,Bool.true_eq_false,and_self,and_true,true_and];done)|(simp only [*];omega)|(simp [*];done)|(simp [*];omega))] at hl)));subst hl;first|rfl|omega)
  · rw [ZE hk]
    (repeat' (first|refine And.intro ?_ ?_|intro _))<;>first|omega|exact True.intro|exact False.elim ‹False›|skip
    all_goals first
      |exact hf.1
      |((repeat(first|rewrite [if_pos (by first|omega|assumption|(simp only [*,or_self,or_true,true_or,or_false,false_or,not_true_eq_false,not_false_eq_true,Bool.false_eq_true,Bool.true_eq_false,and_self,and_true,true_and];done)|(simp only [*];omega)|(simp [*];done)|(simp [*];omega))] at he|rewrite [if_neg (by first|omega|assumption|(simp only [*,or_self,or_true,true_or,or_false,false_or,not_true_eq_false,not_false_eq_true,Bool.false_eq_true,Bool.true_eq_false,and_self,and_true,true_and];done)|(simp only [*];omega)|(simp [*];done)|(simp [*];omega))] at he));subst he;((repeat(first|rewrite [if_pos (by first|omega|assumption|(simp only [*,or_self,or_true,true_or,or_false,false_or,not_true_eq_false,not_false_eq_true,Bool.false_eq_true,Bool.true_eq_false,and_self,and_true,true_and];done)|(simp only [*];omega)|(simp [*];done)|(simp [*];omega))] at hl|rewrite [if_neg (by first|omega|assumption|(simp only [*,or_self,or_true,true_or,or_false,false_or,not_true_eq_false,not_false_eq_true,Bool.false_eq_true,Bool.true_eq_false,and_self,and_true,true_and];done)|(simp only [*];omega)|(simp [*];done)|(simp [*];omega))] at hl)));subst hl;first|rfl|omega)
def qX (I:Alg) (args:List D) (hp:List HO):Option CT:=match args,hp with
  |[.v (.one (.ptr 0 0)),.v (.one (.p (.int .i64 id))),.v (.one (.p (.int .i64 size)))],[.pack [.obj 50 [(.row 1),(.p (.int .i64 n))],.row .upl 67 l]]=>(fun(l:List Upl) (n id size:Int)=>(some (.one ⟨I.hid (zu l n),(.ret (.v (.one (.p (.int .i64 (I.hid ((decC l id size)))))))),[.pack [.obj 50 [(.row 1),(.p (.int .i64 n))],.row .upl 67 (I.hid ((decL l id size)))]]⟩):Option CT)) l n id size
  |_,_=>none
theorem Tc:zo Tryz.prog 120 (qX alg):=by
  intro args hp r h
  unfold qX at h
  split at h
  · cases h;exact fun hn=>zhE _ _ _ _ hn
  · cases h
def zcR:Know Tryz.prog:=⟨120,qX,Tc⟩
def zcQ:Know Tryz.prog:=⟨120,fun I=>zq I (qX I),zf Tc⟩
theorem zlJ (l:List Upl) (n id:Int) (hneed:zu l n):Spc Tryz.prog 122 [.v (.one (.ptr 0 0)),.v (.one (.p (.int .i64 id)))] [.pack [.obj 50 [(.row 1),(.p (.int .i64 n))],.row .upl 67 l]] (.ret (.v (.one (.p (.int .i64 ((begC l id))))))) [.pack [.obj 50 [(.row 1),(.p (.int .i64 n))],.row .upl 67 ((begL l id))]]:=by
  have hs:=hneed
  have hf:=vN hs
  have hle:=ZJ l id
  generalize he:begC l id=re
  generalize hl:begL l id=rl
  refine spcG zi mixed Tryz.func122 (by kernel_rfl) { Zb with keep:=some [0,1,4,5]} [xM,xK] (by kernel_rfl) ?_
  intro I X hI hX
  refine zh (let y0:=I.get (α:=Upl) l (Upl.mk (0:Int) (0:Int) ([]:Str) ([]:Str) (0:Int)) (I.hid (α:=Int) (ixU l id));let y1:=I.inb (I.hid (α:=Int) (ixU l id)) (I.len (α:=Upl) l);let y2:HO:=.pack [(.obj 50 [(.row 1),(.p (.int .i64 n))]),(.row .upl 67 l)];.need (I.hid (α:=(Prop)) (LE.le (List.length l) 1000000)) (.br (I.ilt (I.hid (α:=Int) (ixU l id)) 0) (.fin (.ret (.v (.one (.p (.int .i64 10))))) [y2]) (.need y1 (.need y1 (.br (I.bnot (I.ieq (Upl.sent y0) 0)) (.fin (.ret (.v (.one (.p (.int .i64 19))))) [y2]) (.need y1 (.need y1 (.need y1 (.need y1 (.br (I.bnot (I.ieq (Upl.size y0) (I.len (α:=UInt8) (Upl.bytes y0)))) (.fin (.ret (.v (.one (.p (.int .i64 14))))) [y2]) (.need y1 (.need y1 (.fin (.ret (.v (.one (.p (.int .i64 0))))) [(.pack [(.obj 50 [(.row 1),(.p (.int .i64 n))]),(.row .upl 67 (I.set (α:=Upl) l (I.hid (α:=Int) (ixU l id)) (Upl.mk (Upl.id y0) (Upl.size y0) (Upl.note y0) (Upl.bytes y0) (1:Int))))])]))))))))))))) (by kernel_rfl) ?_
  simp only [zk]
  subst hI
  simp only [nrmA,nrmB,nrlB,reduceCtorEq,HO.pack.injEq,HO.obj.injEq]
  unfold begL at hl
  rw [he] at hl
  unfold begC at he
  unfold yJ upl0 at he hl
  by_cases hk:atU l id<l.length
  · rw [ZC hk,Int.toNat_natCast]
    generalize l.getD (atU l id) ⟨0,0,[],[],0⟩=x at *
    (repeat' (first|refine And.intro ?_ ?_|intro _))<;>first|omega|exact True.intro|exact False.elim ‹False›|skip
    all_goals first
      |exact hf.1
      |((repeat(first|rewrite [if_pos (by first|omega|assumption|(simp only [*,or_self,or_true,true_or,or_false,false_or,not_true_eq_false,not_false_eq_true,Bool.false_eq_true,Bool.true_eq_false,and_self,and_true,true_and];done)|(simp only [*];omega)|(simp [*];done)|(simp [*];omega))] at he|rewrite [if_neg (by first|omega|assumption|(simp only [*,or_self,or_true,true_or,or_false,false_or,not_true_eq_false,not_false_eq_true,Bool.false_eq_true,Bool.true_eq_false,and_self,and_true,true_and];done)|(simp only [*];omega)|(simp [*];done)|(simp [*];omega))] at he));subst he;((repeat(first|rewrite [if_pos (by first|omega|assumption|(simp only [*,or_self,or_true,true_or,or_false,false_or,not_true_eq_false,not_false_eq_true,Bool.false_eq_true,Bool.true_eq_false,and_self,and_true,true_and];done)|(simp only [*];omega)|(simp [*];done)|(simp [*];omega))] at hl|rewrite [if_neg (by first|omega|assumption|(simp only [*,or_self,or_true,true_or,or_false,false_or,not_true_eq_false,not_false_eq_true,Bool.false_eq_true,Bool.true_eq_false,and_self,and_true,true_and];done)|(simp only [*];omega)|(simp [*];done)|(simp [*];omega))] at hl)));subst hl;first|rfl|omega)
  · rw [ZE hk]
    (repeat' (first|refine And.intro ?_ ?_|intro _))<;>first|omega|exact True.intro|exact False.elim ‹False›|skip
    all_goals first
      |exact hf.1
      |((repeat(first|rewrite [if_pos (by first|omega|assumption|(simp only [*,or_self,or_true,true_or,or_false,false_or,not_true_eq_false,not_false_eq_true,Bool.false_eq_true,Bool.true_eq_false,and_self,and_true,true_and];done)|(simp only [*];omega)|(simp [*];done)|(simp [*];omega))] at he|rewrite [if_neg (by first|omega|assumption|(simp only [*,or_self,or_true,true_or,or_false,false_or,not_true_eq_false,not_false_eq_true,Bool.false_eq_true,Bool.true_eq_false,and_self,and_true,true_and];done)|(simp only [*];omega)|(simp [*];done)|(simp [*];omega))] at he));subst he;((repeat(first|rewrite [if_pos (by first|omega|assumption|(simp only [*,or_self,or_true,true_or,or_false,false_or,not_true_eq_false,not_false_eq_true,Bool.false_eq_true,Bool.true_eq_false,and_self,and_true,true_and];done)|(simp only [*];omega)|(simp [*];done)|(simp [*];omega))] at hl|rewrite [if_neg (by first|omega|assumption|(simp only [*,or_self,or_true,true_or,or_false,false_or,not_true_eq_false,not_false_eq_true,Bool.false_eq_true,Bool.true_eq_false,and_self,and_true,true_and];done)|(simp only [*];omega)|(simp [*];done)|(simp [*];omega))] at hl)));subst hl;first|rfl|omega)
def Xy (I:Alg) (args:List D) (hp:List HO):Option CT:=match args,hp with
  |[.v (.one (.ptr 0 0)),.v (.one (.p (.int .i64 id)))],[.pack [.obj 50 [(.row 1),(.p (.int .i64 n))],.row .upl 67 l]]=>(fun(l:List Upl) (n id:Int)=>(some (.one ⟨I.hid (zu l n),(.ret (.v (.one (.p (.int .i64 (I.hid ((begC l id)))))))),[.pack [.obj 50 [(.row 1),(.p (.int .i64 n))],.row .upl 67 (I.hid ((begL l id)))]]⟩):Option CT)) l n id
  |_,_=>none
theorem zbK:zo Tryz.prog 122 (Xy alg):=by
  intro args hp r h
  unfold Xy at h
  split at h
  · cases h;exact fun hn=>zlJ _ _ _ hn
  · cases h
def zhG:Know Tryz.prog:=⟨122,Xy,zbK⟩
def zhF:Know Tryz.prog:=⟨122,fun I=>zq I (Xy I),zf zbK⟩
theorem zom (l:List Upl) (n id:Int) (hneed:zu l n):Spc Tryz.prog 123 [.v (.one (.ptr 0 0)),.v (.one (.p (.int .i64 id)))] [.pack [.obj 50 [(.row 1),(.p (.int .i64 n))],.row .upl 67 l]] (.ret (.v (.one (.p (.int .i64 ((endC l id))))))) [.pack [.obj 50 [(.row 1),(.p (.int .i64 n))],.row .upl 67 ((endL l id))]]:=by
  have hs:=hneed
  have hf:=vN hs
  have hle:=ZJ l id
  generalize he:endC l id=re
  generalize hl:endL l id=rl
  refine spcG zi mixed Tryz.func123 (by kernel_rfl) { Zb with keep:=some [0,1,4,5]} [xM,xK] (by kernel_rfl) ?_
  intro I X hI hX
  refine zh (let y0:=I.get (α:=Upl) l (Upl.mk (0:Int) (0:Int) ([]:Str) ([]:Str) (0:Int)) (I.hid (α:=Int) (ixU l id));let y1:=I.inb (I.hid (α:=Int) (ixU l id)) (I.len (α:=Upl) l);let y2:HO:=.obj 50 [(.row 1),(.p (.int .i64 n))];.need (I.hid (α:=(Prop)) (LE.le (List.length l) 1000000)) (.br (I.ilt (I.hid (α:=Int) (ixU l id)) 0) (.fin (.ret (.v (.one (.p (.int .i64 10))))) [(.pack [y2,(.row .upl 67 l)])]) (.need y1 (.need y1 (.br (I.bnot (I.ieq (Upl.sent y0) 1)) (.fin (.ret (.v (.one (.p (.int .i64 19))))) [(.pack [y2,(.row .upl 67 l)])]) (.need y1 (.need y1 (.fin (.ret (.v (.one (.p (.int .i64 0))))) [(.pack [y2,(.row .upl 67 (I.set (α:=Upl) l (I.hid (α:=Int) (ixU l id)) (Upl.mk (Upl.id y0) (Upl.size y0) (Upl.note y0) (Upl.bytes y0) (2:Int))))])])))))))) (by kernel_rfl) ?_
  simp only [zk]
  subst hI
  simp only [nrmA,nrmB,nrlB,reduceCtorEq,HO.pack.injEq,HO.obj.injEq]
  unfold endL at hl
  rw [he] at hl
  unfold endC at he
  unfold yJ upl0 at he hl
  by_cases hk:atU l id<l.length
  · rw [ZC hk,Int.toNat_natCast]
    generalize l.getD (atU l id) ⟨0,0,[],[],0⟩=x at *
    (repeat' (first|refine And.intro ?_ ?_|intro _))<;>first|omega|exact True.intro|exact False.elim ‹False›|skip
    all_goals first
      |exact hf.1
      |((repeat(first|rewrite [if_pos (by first|omega|assumption|(simp only [*,or_self,or_true,true_or,or_false,false_or,not_true_eq_false,not_false_eq_true,Bool.false_eq_true,Bool.true_eq_false,and_self,and_true,true_and];done)|(simp only [*];omega)|(simp [*];done)|(simp [*];omega))] at he|rewrite [if_neg (by first|omega|assumption|(simp only [*,or_self,or_true,true_or,or_false,false_or,not_true_eq_false,not_false_eq_true,Bool.false_eq_true,Bool.true_eq_false,and_self,and_true,true_and];done)|(simp only [*];omega)|(simp [*];done)|(simp [*];omega))] at he));subst he;((repeat(first|rewrite [if_pos (by first|omega|assumption|(simp only [*,or_self,or_true,true_or,or_false,false_or,not_true_eq_false,not_false_eq_true,Bool.false_eq_true,Bool.true_eq_false,and_self,and_true,true_and];done)|(simp only [*];omega)|(simp [*];done)|(simp [*];omega))] at hl|rewrite [if_neg (by first|omega|assumption|(simp only [*,or_self,or_true,true_or,or_false,false_or,not_true_eq_false,not_false_eq_true,Bool.false_eq_true,Bool.true_eq_false,and_self,and_true,true_and];done)|(simp only [*];omega)|(simp [*];done)|(simp [*];omega))] at hl)));subst hl;first|rfl|omega)
  · rw [ZE hk]
    (repeat' (first|refine And.intro ?_ ?_|intro _))<;>first|omega|exact True.intro|exact False.elim ‹False›|skip
    all_goals first
      |exact hf.1
      |((repeat(first|rewrite [if_pos (by first|omega|assumption|(simp only [*,or_self,or_true,true_or,or_false,false_or,not_true_eq_false,not_false_eq_true,Bool.false_eq_true,Bool.true_eq_false,and_self,and_true,true_and];done)|(simp only [*];omega)|(simp [*];done)|(simp [*];omega))] at he|rewrite [if_neg (by first|omega|assumption|(simp only [*,or_self,or_true,true_or,or_false,false_or,not_true_eq_false,not_false_eq_true,Bool.false_eq_true,Bool.true_eq_false,and_self,and_true,true_and];done)|(simp only [*];omega)|(simp [*];done)|(simp [*];omega))] at he));subst he;((repeat(first|rewrite [if_pos (by first|omega|assumption|(simp only [*,or_self,or_true,true_or,or_false,false_or,not_true_eq_false,not_false_eq_true,Bool.false_eq_true,Bool.true_eq_false,and_self,and_true,true_and];done)|(simp only [*];omega)|(simp [*];done)|(simp [*];omega))] at hl|rewrite [if_neg (by first|omega|assumption|(simp only [*,or_self,or_true,true_or,or_false,false_or,not_true_eq_false,not_false_eq_true,Bool.false_eq_true,Bool.true_eq_false,and_self,and_true,true_and];done)|(simp only [*];omega)|(simp [*];done)|(simp [*];omega))] at hl)));subst hl;first|rfl|omega)
def zaj (I:Alg) (args:List D) (hp:List HO):Option CT:=match args,hp with
  |[.v (.one (.ptr 0 0)),.v (.one (.p (.int .i64 id)))],[.pack [.obj 50 [(.row 1),(.p (.int .i64 n))],.row .upl 67 l]]=>(fun(l:List Upl) (n id:Int)=>(some (.one ⟨I.hid (zu l n),(.ret (.v (.one (.p (.int .i64 (I.hid ((endC l id)))))))),[.pack [.obj 50 [(.row 1),(.p (.int .i64 n))],.row .upl 67 (I.hid ((endL l id)))]]⟩):Option CT)) l n id
  |_,_=>none
theorem zhD:zo Tryz.prog 123 (zaj alg):=by
  intro args hp r h
  unfold zaj at h
  split at h
  · cases h;exact fun hn=>zom _ _ _ hn
  · cases h
def zlI:Know Tryz.prog:=⟨123,zaj,zhD⟩
def zlH:Know Tryz.prog:=⟨123,fun I=>zq I (zaj I),zf zhD⟩
theorem znm (l:List Upl) (n id:Int) (hneed:zu l n):Spc Tryz.prog 121 [.v (.one (.ptr 0 0)),.v (.one (.p (.int .i64 id)))] [.pack [.obj 50 [(.row 1),(.p (.int .i64 n))],.row .upl 67 l]] (.ret (.v (.one (.p (.int .i64 ((droC l id))))))) [.pack [.obj 50 [(.row 1),(.p (.int .i64 n))],.row .upl 67 ((droL l id))]]:=by
  have hs:=hneed
  have hf:=vN hs
  have hle:=ZJ l id
  have hcn:=hs.cnt
  generalize he:droC l id=re
  generalize hl:droL l id=rl
  refine spcG zi mixed Tryz.func121 (by kernel_rfl) { Zb with keep:=some [0,1,4,5,6]} [xM,xK] (by kernel_rfl) ?_
  intro I X hI hX
  refine zh (let y0:HO:=.pack [(.obj 50 [(.row 1),(.p (.int .i64 n))]),(.row .upl 67 (I.app (α:=Upl) (I.cut (α:=Upl) l 0 (I.hid (α:=Int) (ixU l id))) (I.cut (α:=Upl) l (I.add (I.hid (α:=Int) (ixU l id)) 1) (I.len (α:=Upl) l))))];let y1:=I.few (I.add (I.len (α:=Upl) (I.cut (α:=Upl) l 0 (I.hid (α:=Int) (ixU l id)))) (I.len (α:=Upl) (I.cut (α:=Upl) l (I.add (I.hid (α:=Int) (ixU l id)) 1) (I.len (α:=Upl) l)))) 100000000;let y2:=I.cutb (I.add (I.hid (α:=Int) (ixU l id)) 1) (I.len (α:=Upl) l) (I.len (α:=Upl) l);let y3:=I.few (I.len (α:=Upl) (I.cut (α:=Upl) l 0 (I.hid (α:=Int) (ixU l id)))) 100000000;let y4:=I.cutb 0 (I.hid (α:=Int) (ixU l id)) (I.len (α:=Upl) l);.need (I.hid (α:=(Prop)) (LE.le (List.length l) 1000000)) (.br (I.ilt (I.hid (α:=Int) (ixU l id)) 0) (.fin (.ret (.v (.one (.p (.int .i64 10))))) [(.pack [(.obj 50 [(.row 1),(.p (.int .i64 n))]),(.row .upl 67 l)])]) (.need (I.inr Go.IntKind.i64 (I.add (I.hid (α:=Int) (ixU l id)) 1)) (.both (.need y4 (.both (.need y3 (.need y2 (.need y1 (.fin (.ret (.v (.one (.p (.int .i64 0))))) [y0])))) (.need y2 (.need y3 (.need y1 (.fin (.ret (.v (.one (.p (.int .i64 0))))) [y0])))))) (.need y2 (.need y4 (.need y3 (.need y1 (.fin (.ret (.v (.one (.p (.int .i64 0))))) [y0]))))))))) (by kernel_rfl) ?_
  simp only [zk]
  subst hI
  simp only [nrmA,nrmB,nrlB,reduceCtorEq,HO.pack.injEq,HO.obj.injEq]
  unfold droC at he
  by_cases hk:atU l id<l.length
  · rw [ZC hk]
    have e1:((atU l id:Int)+1).toNat=atU l id+1:=by omega
    have e2:(l.drop (atU l id+1)).take (l.length - (atU l id+1))=l.drop (atU l id+1):=List.take_of_length_le (by rw [List.length_drop];exact Nat.le_refl _)
    have e3:l.take (atU l id)++l.drop (atU l id+1)=rl:=by rw [← hl];unfold droL;exact(List.eraseIdx_eq_take_drop_succ l _).symm
    rw [e1,e2,Int.toNat_natCast]
    simp only [List.length_take,List.length_drop]
    (repeat' (first|refine And.intro ?_ ?_|intro _))<;>first|omega|exact True.intro|exact False.elim ‹False›|skip
    all_goals first
      |exact hf.1
      |exact e3
      |((repeat(first|rewrite [if_pos (by first|omega|assumption|(simp only [*,or_self,or_true,true_or,or_false,false_or,not_true_eq_false,not_false_eq_true,Bool.false_eq_true,Bool.true_eq_false,and_self,and_true,true_and];done)|(simp only [*];omega)|(simp [*];done)|(simp [*];omega))] at he|rewrite [if_neg (by first|omega|assumption|(simp only [*,or_self,or_true,true_or,or_false,false_or,not_true_eq_false,not_false_eq_true,Bool.false_eq_true,Bool.true_eq_false,and_self,and_true,true_and];done)|(simp only [*];omega)|(simp [*];done)|(simp [*];omega))] at he));subst he;rfl)
  · rw [ZE hk]
    (repeat' (first|refine And.intro ?_ ?_|intro _))<;>first|omega|exact True.intro|exact False.elim ‹False›|skip
    all_goals first
      |exact hf.1
      |((repeat(first|rewrite [if_pos (by first|omega|assumption|(simp only [*,or_self,or_true,true_or,or_false,false_or,not_true_eq_false,not_false_eq_true,Bool.false_eq_true,Bool.true_eq_false,and_self,and_true,true_and];done)|(simp only [*];omega)|(simp [*];done)|(simp [*];omega))] at he|rewrite [if_neg (by first|omega|assumption|(simp only [*,or_self,or_true,true_or,or_false,false_or,not_true_eq_false,not_false_eq_true,Bool.false_eq_true,Bool.true_eq_false,and_self,and_true,true_and];done)|(simp only [*];omega)|(simp [*];done)|(simp [*];omega))] at he));subst he;rfl)
      |(rw [← hl];unfold droL;rw [List.eraseIdx_of_length_le (by omega)])
def Ub (I:Alg) (args:List D) (hp:List HO):Option CT:=match args,hp with
  |[.v (.one (.ptr 0 0)),.v (.one (.p (.int .i64 id)))],[.pack [.obj 50 [(.row 1),(.p (.int .i64 n))],.row .upl 67 l]]=>(fun(l:List Upl) (n id:Int)=>(some (.one ⟨I.hid (zu l n),(.ret (.v (.one (.p (.int .i64 (I.hid ((droC l id)))))))),[.pack [.obj 50 [(.row 1),(.p (.int .i64 n))],.row .upl 67 (I.hid ((droL l id)))]]⟩):Option CT)) l n id
  |_,_=>none
theorem zew:zo Tryz.prog 121 (Ub alg):=by
  intro args hp r h
  unfold Ub at h
  split at h
  · cases h;exact fun hn=>znm _ _ _ hn
  · cases h
def zjB:Know Tryz.prog:=⟨121,Ub,zew⟩
def zjA:Know Tryz.prog:=⟨121,fun I=>zq I (Ub I),zf zew⟩
theorem znB (l:List Upl) (hneed:l.length≤1000000∧∀ u ∈ l,u.bytes.length≤1000000):Spc Tryz.prog 118 [.v (.one (.row 0))] [.row .upl 67 l] (.ret (.v (.one (.row 1)))) [.row .upl 67 l,.row .upl 67 l]:=by
  obtain⟨hl,hb⟩:=hneed
  refine spcG zi mixed Tryz.func118 (by kernel_rfl) { nr:=[3],keep:=some [0,2,3,4,5,6]} [] (by kernel_rfl) ?_
  intro I X hI hX
  refine zh (.code 0 [1,1,0,1,0] ⟨[(4,(.v (.one (.p (.int .i64 0))))),(3,(.v (.one (.row 1)))),(2,(.v (.one .nilS))),(0,(.v (.one (.row 0))))],[(.row .upl 67 l),(.row .upl 67 ([]:List Upl))],30,none⟩) (by kernel_rfl) ?_
  simp only [zk]
  refine zG hI zi mixed [] hX [0,3,4] (fun(g:Nat × List Upl)=>match g with|(i,o)=>i≤l.length∧o=l.take i) (fun(g:Nat × List Upl)=>match g with|(i,o)=>⟨[(0,.v (.one (.row 0))),(3,.v (.one (.row 1))),(4,.v (.one (.p (.int .i64 i))))],[.row .upl 67 l,.row .upl 67 o],30,none⟩) (fun(g:Nat × List Upl)=>match g with|(i,o)=>l.length - i) (0,[]) (by kernel_rfl) (by kernel_rfl) ?_ ?_
  · exact⟨Nat.zero_le _,rfl⟩
  rintro⟨i,o⟩ ⟨h1,h2⟩ A hA
  simp only at hA
  refine zh (let y0:=I.get (α:=Upl) l (Upl.mk (0:Int) (0:Int) ([]:Str) ([]:Str) (0:Int)) (Nat.cast i);let y1:=I.inb (Nat.cast i) (I.len (α:=Upl) l);.br (I.ilt (Nat.cast i) (I.len (α:=Upl) l)) (.need y1 (.need y1 (.need y1 (.need y1 (.need (I.few (I.len (α:=UInt8) (Upl.bytes y0)) 140737488355328) (.need (I.few (I.add (I.len (α:=Upl) o) (I.len (α:=Upl) ([(Upl.mk (Upl.id y0) (Upl.size y0) (Upl.note y0) (Upl.bytes y0) (Upl.sent y0))]:List Upl))) 100000000) (.need (I.inr Go.IntKind.i64 (I.add (Nat.cast i) 1)) (.need (A ⟨[(0,(.v (.one (.row 0)))),(3,(.v (.one (.row 1)))),(4,(.v (.one (.p (.int .i64 (I.add (Nat.cast i) 1))))))],[(.row .upl 67 l),(.row .upl 67 (I.app (α:=Upl) o ([(Upl.mk (Upl.id y0) (Upl.size y0) (Upl.note y0) (Upl.bytes y0) (Upl.sent y0))]:List Upl)))],30,none⟩) .qed)))))))) (.fin (.ret (.v (.one (.row 1)))) [(.row .upl 67 l),(.row .upl 67 o)])) (by kernel_rfl) ?_
  simp only [zk]
  subst hI
  simp only [nrmA,nrmB,nrlB,reduceCtorEq]
  have hy:i<l.length→l.take (i+1)=l.take i++[l.getD i ⟨0,0,[],[],0⟩]:=fun h=>by rw [List.take_succ_eq_append_getElem h];simp [h]
  have hm:i<l.length→l.getD i ⟨0,0,[],[],0⟩ ∈ l:=fun h=>by rw [show l.getD i ⟨0,0,[],[],0⟩=l[i] by simp [h]];exact List.getElem_mem h
  have hw: ¬ i<l.length→o=l:=fun h=>by rw [h2,List.take_of_length_le (by omega)]
  have hol:o.length≤i:=by rw [h2,List.length_take];omega
  refine⟨fun c=> ?_,fun c=>hw (by omega)⟩
  have hy:=hy (by omega)
  have hm:=hb _ (hm (by omega))
  generalize l.getD i ⟨0,0,[],[],0⟩=x at *
  simp only [List.length_cons,List.length_nil]
  (repeat' (first|refine And.intro ?_ ?_|intro _))<;>first|omega|exact True.intro|exact False.elim ‹False›|skip
  all_goals first
    |exact hA (i+1,_) ⟨by simp only;omega,by simp only;rw [hy,h2]⟩ (by simp only;omega)
def Ug (I:Alg) (args:List D) (hp:List HO):Option CT:=match args,hp with
  |[.v (.one (.row 0))],[.row .upl 67 l]=>(fun(l:List Upl)=>(some (.one ⟨I.hid (l.length≤1000000∧∀ u ∈ l,u.bytes.length≤1000000),(.ret (.v (.one (.row 1)))),[.row .upl 67 l,.row .upl 67 l]⟩):Option CT)) l
  |_,_=>none
theorem zeU:zo Tryz.prog 118 (Ug alg):=by
  intro args hp r h
  unfold Ug at h
  split at h
  · cases h;exact fun hn=>znB _ hn
  · cases h
def zjP:Know Tryz.prog:=⟨118,Ug,zeU⟩
def zjO:Know Tryz.prog:=⟨118,fun I=>zq I (Ug I),zf zeU⟩
theorem znn (l:List Upl) (n:Int) (hneed:zu l n):Spc Tryz.prog 90 [.v (.one (.ptr 0 0))] [.pack [.obj 50 [(.row 1),(.p (.int .i64 n))],.row .upl 67 l]] (.ret (.v (.one (.ptr 1 0)))) [.pack [.obj 50 [(.row 1),(.p (.int .i64 n))],.row .upl 67 l],.pack [.obj 50 [(.row 1),(.p (.int .i64 n))],.row .upl 67 l]]:=by
  have hf:=vN hneed
  refine spcG zi mixed Tryz.func90 (by kernel_rfl) { Zb with keep:=some [0,2]} [zjP,zjO] (by kernel_rfl) ?_
  intro I X hI hX
  refine zh (let y0:HO:=.pack [(.obj 50 [(.row 1),(.p (.int .i64 n))]),(.row .upl 67 l)];let y1:=I.hid (α:=(Prop)) (And (LE.le (List.length l) 1000000) (∀ (u:Upl),u ∈ l→List.length u.bytes≤1000000));.both (.both (.need y1 (.fin (.ret (.v (.one (.ptr 1 0)))) [y0,y0])) (.need y1 (.fin (.ret (.v (.one (.ptr 1 0)))) [y0,y0]))) (.need y1 (.fin (.ret (.v (.one (.ptr 1 0)))) [y0,y0]))) (by kernel_rfl) ?_
  simp only [zk]
  subst hI
  simp only [nrmA,nrmB,nrlB,reduceCtorEq,HO.pack.injEq,HO.obj.injEq]
  have hb:l.length≤1000000∧∀ u ∈ l,u.bytes.length≤1000000:=⟨hf.1,fun u hu=>Nat.le_trans (hneed.each u hu).bl (by decide)⟩
  exact⟨⟨hb,hb⟩,hb⟩
def Uc (I:Alg) (args:List D) (hp:List HO):Option CT:=match args,hp with
  |[.v (.one (.ptr 0 0))],[.pack [.obj 50 [(.row 1),(.p (.int .i64 n))],.row .upl 67 l]]=>(fun(l:List Upl) (n:Int)=>(some (.one ⟨I.hid (zu l n),(.ret (.v (.one (.ptr 1 0)))),[.pack [.obj 50 [(.row 1),(.p (.int .i64 n))],.row .upl 67 l],.pack [.obj 50 [(.row 1),(.p (.int .i64 n))],.row .upl 67 l]]⟩):Option CT)) l n
  |_,_=>none
theorem zez:zo Tryz.prog 90 (Uc alg):=by
  intro args hp r h
  unfold Uc at h
  split at h
  · cases h;exact fun hn=>znn _ _ hn
  · cases h
def zey:Know Tryz.prog:=⟨90,Uc,zez⟩
def zex:Know Tryz.prog:=⟨90,fun I=>zq I (Uc I),zf zez⟩
end Go.Proofs.YtcclfkakcgnacaaGreatDoor
namespace Go.Proofs.YtcclfkakcgnacaaGreatDoor
open Go Go.Sep Go.Ab
set_option maxRecDepth 100000
theorem zf8 {a b:Upl} (h1:a.id=b.id) (h2:a.size=b.size) (h3:a.note=b.note) (h4:a.sent=b.sent) (h5:a.bytes=b.bytes):a=b:=by
  cases a;cases b;simp_all
theorem Xr {l m:List Upl} {i:Nat} (h1:i<l.length) (h2:i<m.length):(decide (l.drop i=m.drop i))=(decide (l.getD i ⟨0,0,[],[],0⟩=m.getD i ⟨0,0,[],[],0⟩)&&decide (l.drop (i+1)=m.drop (i+1))):=by
  have e1:l.getD i ⟨0,0,[],[],0⟩=l[i]:=by simp [h1]
  have e2:m.getD i ⟨0,0,[],[],0⟩=m[i]:=by simp [h2]
  rw [e1,e2,Bool.eq_iff_iff,Bool.and_eq_true,decide_eq_true_iff,decide_eq_true_iff,decide_eq_true_iff,List.drop_eq_getElem_cons h1,List.drop_eq_getElem_cons h2,List.cons.injEq]
set_option maxHeartbeats 4000000 in
theorem zmC (l m:List Upl) (hneed:l.length≤1000000∧m.length≤1000000):Spc Tryz.prog 14 [.v (.one (.row 0)),.v (.one (.row 1))] [.row .upl 67 l,.row .upl 67 m] (.ret (.v (.one (.p (.bool ((decide (l=m)))))))) [.row .upl 67 l,.row .upl 67 m]:=by
  obtain⟨hl,hm⟩:=hneed
  generalize hr:decide (l=m)=r
  refine spcG zi mixed Tryz.func14 (by kernel_rfl) { keep:=some [0,1,4,5]} [yF,yE] (by kernel_rfl) ?_
  intro I X hI hX
  refine zh (.br (I.bnot (I.ieq (I.len (α:=Upl) l) (I.len (α:=Upl) m))) (.fin (.ret (.v (.one (.p (.bool Bool.false))))) [(.row .upl 67 l),(.row .upl 67 m)]) (.code 0 [1,1,0,1,0] ⟨[(5,(.v (.one (.p (.int .i64 0))))),(4,(.v (.one (.p (.val (.bool .false)))))),(0,(.v (.one (.row 0)))),(1,(.v (.one (.row 1))))],[(.row .upl 67 l),(.row .upl 67 m)],81,none⟩)) (by kernel_rfl) ?_
  simp only [zk]
  refine⟨fun c1=> ?_,fun c1=> ?_⟩
  · subst hI
    simp only [nrmA,nrmB] at c1
    simp only [nrmA,nrmB]
    rw [← hr]
    exact(decide_eq_false fun e=>c1 (by rw [e])).symm
  have hlm:l.length=m.length:=by
    subst hI
    simp only [nrmA,nrmB] at c1
    omega
  refine zG hI zi mixed [yF,yE] hX [0,1,5] (fun(i:Nat)=>i≤l.length∧r=decide (l.drop i=m.drop i)) (fun(i:Nat)=>⟨[(0,.v (.one (.row 0))),(1,.v (.one (.row 1))),(5,.v (.one (.p (.int .i64 i))))],[.row .upl 67 l,.row .upl 67 m],81,none⟩) (fun(i:Nat)=>l.length - i) 0 (by kernel_rfl) (by kernel_rfl) ?_ ?_
  · exact⟨Nat.zero_le _,hr.symm⟩
  rintro i ⟨h1,h2⟩ A hA
  refine zh (let y0:=I.get (α:=Upl) l (Upl.mk (0:Int) (0:Int) ([]:Str) ([]:Str) (0:Int)) (Nat.cast i);let y1:=I.get (α:=Upl) m (Upl.mk (0:Int) (0:Int) ([]:Str) ([]:Str) (0:Int)) (Nat.cast i);let y2:=I.inb (Nat.cast i) (I.len (α:=Upl) l);let y3:=I.inb (Nat.cast i) (I.len (α:=Upl) m);.br (I.ilt (Nat.cast i) (I.len (α:=Upl) l)) (.need y2 (.need y2 (.need y3 (.need y3 (.br (I.bnot (I.ieq (Upl.id y0) (Upl.id y1))) (.fin (.ret (.v (.one (.p (.bool Bool.false))))) [(.row .upl 67 l),(.row .upl 67 m)]) (.need y2 (.need y2 (.need y3 (.need y3 (.br (I.bnot (I.ieq (Upl.size y0) (Upl.size y1))) (.fin (.ret (.v (.one (.p (.bool Bool.false))))) [(.row .upl 67 l),(.row .upl 67 m)]) (.need y2 (.need y2 (.need y3 (.need y3 (.br (I.bnot (I.seq (Upl.note y0) (Upl.note y1))) (.fin (.ret (.v (.one (.p (.bool Bool.false))))) [(.row .upl 67 l),(.row .upl 67 m)]) (.need y2 (.need y2 (.need y3 (.need y3 (.br (I.bnot (I.ieq (Upl.sent y0) (Upl.sent y1))) (.fin (.ret (.v (.one (.p (.bool Bool.false))))) [(.row .upl 67 l),(.row .upl 67 m)]) (.need y2 (.need y2 (.need y3 (.need y3 (.need (I.hid (α:=(Prop)) True) (.br (I.bnot (I.hid (α:=Bool) (BEq.beq (Upl.bytes y0) (Upl.bytes y1)))) (.fin (.ret (.v (.one (.p (.bool Bool.false))))) [(.row .upl 67 l),(.row .upl 67 m)]) (.need (I.inr Go.IntKind.i64 (I.add (Nat.cast i) 1)) (.need (A ⟨[(0,(.v (.one (.row 0)))),(1,(.v (.one (.row 1)))),(5,(.v (.one (.p (.int .i64 (I.add (Nat.cast i) 1))))))],[(.row .upl 67 l),(.row .upl 67 m)],81,none⟩) .qed)))))))))))))))))))))))))))) (.fin (.ret (.v (.one (.p (.bool Bool.true))))) [(.row .upl 67 l),(.row .upl 67 m)])) (by kernel_rfl) ?_
  simp only [zk]
  subst hI
  simp only [nrmA,nrmB,nrlB,reduceCtorEq]
  have hd:i<l.length→_:=fun h=>Xr (l:=l) (m:=m) (i:=i) h (by omega)
  have hend: ¬ i<l.length→r=true:=fun h=>by
    rw [h2,List.drop_of_length_le (by omega),List.drop_of_length_le (by omega)];simp
  generalize l.getD i ⟨0,0,[],[],0⟩=x at *
  generalize m.getD i ⟨0,0,[],[],0⟩=y at *
  have hx: ¬ x=y→i<l.length→r=false:=fun h hi=>by rw [h2,hd hi,decide_eq_false h,Bool.false_and]
  have hy:x=y→i<l.length→r=decide (l.drop (i+1)=m.drop (i+1)):=fun h hi=>by rw [h2,hd hi,decide_eq_true h,Bool.true_and]
  (repeat' (first|refine And.intro ?_ ?_|intro _))<;>first|omega|exact True.intro|exact False.elim ‹False›|skip
  all_goals first
    |(exact(hx (by rintro rfl;simp_all) (by omega)).symm)
    |(rw [hx (by rintro rfl;simp_all) (by omega)])
    |exact hA (i+1) ⟨by omega,hy (zf8 (by assumption) (by assumption) (by assumption) (by assumption) (by assumption)) (by omega)⟩ (by omega)
    |(rw [hend (by omega)])
    |omega
def VK (I:Alg) (args:List D) (hp:List HO):Option CT:=match args,hp with
  |[.v (.one (.row 0)),.v (.one (.row 1))],[.row .upl 67 l,.row .upl 67 m]=>(fun(l m:List Upl)=>(some (.one ⟨I.hid (l.length≤1000000∧m.length≤1000000),(.ret (.v (.one (.p (.bool (I.hid ((decide (l=m))))))))),[.row .upl 67 l,.row .upl 67 m]⟩):Option CT)) l m
  |_,_=>none
theorem zdO:zo Tryz.prog 14 (VK alg):=by
  intro args hp r h
  unfold VK at h
  split at h
  · cases h;exact fun hn=>zmC _ _ hn
  · cases h
def uj:Know Tryz.prog:=⟨14,VK,zdO⟩
def uh:Know Tryz.prog:=⟨14,fun I=>zq I (VK I),zf zdO⟩
set_option maxHeartbeats 4000000 in
theorem zk2 (l m:List Upl) (a b:Int) (hneed:l.length≤1000000∧m.length≤1000000∧0≤a∧a≤b∧b≤m.length):Spc Tryz.prog 14 [.v (.one (.row 0)),.v (.one (.sub .upl 1 a b))] [.row .upl 67 l,.row .upl 67 m] (.ret (.v (.one (.p (.bool ((decide (l=(m.drop a.toNat).take (b.toNat - a.toNat))))))))) [.row .upl 67 l,.row .upl 67 m]:=by
  obtain⟨hl,hml,ha,hab,hb⟩:=hneed
  obtain⟨a,rfl⟩: ∃ x:Nat,a=x:=⟨a.toNat,by omega⟩
  obtain⟨b,rfl⟩: ∃ x:Nat,b=x:=⟨b.toNat,by omega⟩
  have hq:((m.drop a).take (b - a)).length=b - a:=by rw [List.length_take,List.length_drop];omega
  have hqg: ∀ i,i<b - a→((m.drop a).take (b - a)).getD i ⟨0,0,[],[],0⟩=m.getD (a+i) ⟨0,0,[],[],0⟩:=fun i hi=>by
    simp only [List.getD_eq_getElem?_getD,List.getElem?_take,List.getElem?_drop,if_pos hi]
  obtain⟨q,hqe⟩: ∃ q,q=(m.drop a).take (b - a):=⟨_,rfl⟩
  rw [← hqe] at hq hqg
  generalize hr0:decide (l=(m.drop (a:Int).toNat).take ((b:Int).toNat - (a:Int).toNat))=r
  have hr:decide (l=q)=r:=by rw [← hr0];exact decide_eq_decide.2 (by rw [hqe,Int.toNat_natCast,Int.toNat_natCast])
  refine spcG zi mixed Tryz.func14 (by kernel_rfl) { keep:=some [0,1,4,5]} [yF,yE,uj,uh] (by kernel_rfl) ?_
  intro I X hI hX
  refine zh (.br (I.bnot (I.ieq (I.len (α:=Upl) l) (I.sub (Nat.cast b) (Nat.cast a)))) (.fin (.ret (.v (.one (.p (.bool Bool.false))))) [(.row .upl 67 l),(.row .upl 67 m)]) (.code 0 [1,1,0,1,0] ⟨[(5,(.v (.one (.p (.int .i64 0))))),(4,(.v (.one (.p (.val (.bool .false)))))),(0,(.v (.one (.row 0)))),(1,(.v (.one (.sub .upl 1 (Nat.cast a) (Nat.cast b)))))],[(.row .upl 67 l),(.row .upl 67 m)],81,none⟩)) (by kernel_rfl) ?_
  simp only [zk]
  refine⟨fun c1=> ?_,fun c1=> ?_⟩
  · subst hI
    simp only [nrmA,nrmB] at c1
    simp only [nrmA,nrmB]
    rw [← hr]
    exact(decide_eq_false fun e=>c1 (by rw [e,hq];omega)).symm
  have hlm:l.length=q.length:=by
    subst hI
    simp only [nrmA,nrmB] at c1
    omega
  refine zG hI zi mixed [yF,yE,uj,uh] hX [0,1,5] (fun(i:Nat)=>i≤l.length∧r=decide (l.drop i=q.drop i)) (fun(i:Nat)=>⟨[(0,.v (.one (.row 0))),(1,.v (.one (.sub .upl 1 (a:Int) (b:Int)))),(5,.v (.one (.p (.int .i64 i))))],[.row .upl 67 l,.row .upl 67 m],81,none⟩) (fun(i:Nat)=>l.length - i) 0 (by kernel_rfl) (by kernel_rfl) ?_ ?_
  · exact⟨Nat.zero_le _,hr.symm⟩
  rintro i ⟨h1,h2⟩ A hA
  refine zh (let y0:=I.get (α:=Upl) m (Upl.mk (0:Int) (0:Int) ([]:Str) ([]:Str) (0:Int)) (I.add (Nat.cast a) (Nat.cast i));let y1:=I.get (α:=Upl) l (Upl.mk (0:Int) (0:Int) ([]:Str) ([]:Str) (0:Int)) (Nat.cast i);let y2:=I.inb (Nat.cast i) (I.len (α:=Upl) l);let y3:=I.inb (I.add (Nat.cast a) (Nat.cast i)) (I.len (α:=Upl) m);let y4:=I.inb (Nat.cast i) (I.sub (Nat.cast b) (Nat.cast a));.br (I.ilt (Nat.cast i) (I.len (α:=Upl) l)) (.need y2 (.need y2 (.need y4 (.need y3 (.br (I.bnot (I.ieq (Upl.id y1) (Upl.id y0))) (.fin (.ret (.v (.one (.p (.bool Bool.false))))) [(.row .upl 67 l),(.row .upl 67 m)]) (.need y2 (.need y2 (.need y4 (.need y3 (.br (I.bnot (I.ieq (Upl.size y1) (Upl.size y0))) (.fin (.ret (.v (.one (.p (.bool Bool.false))))) [(.row .upl 67 l),(.row .upl 67 m)]) (.need y2 (.need y2 (.need y4 (.need y3 (.br (I.bnot (I.seq (Upl.note y1) (Upl.note y0))) (.fin (.ret (.v (.one (.p (.bool Bool.false))))) [(.row .upl 67 l),(.row .upl 67 m)]) (.need y2 (.need y2 (.need y4 (.need y3 (.br (I.bnot (I.ieq (Upl.sent y1) (Upl.sent y0))) (.fin (.ret (.v (.one (.p (.bool Bool.false))))) [(.row .upl 67 l),(.row .upl 67 m)]) (.need y2 (.need y2 (.need y4 (.need y3 (.need (I.hid (α:=(Prop)) True) (.br (I.bnot (I.hid (α:=Bool) (BEq.beq (Upl.bytes y1) (Upl.bytes y0)))) (.fin (.ret (.v (.one (.p (.bool Bool.false))))) [(.row .upl 67 l),(.row .upl 67 m)]) (.need (I.inr Go.IntKind.i64 (I.add (Nat.cast i) 1)) (.need (A ⟨[(0,(.v (.one (.row 0)))),(1,(.v (.one (.sub .upl 1 (Nat.cast a) (Nat.cast b))))),(5,(.v (.one (.p (.int .i64 (I.add (Nat.cast i) 1))))))],[(.row .upl 67 l),(.row .upl 67 m)],81,none⟩) .qed)))))))))))))))))))))))))))) (.fin (.ret (.v (.one (.p (.bool Bool.true))))) [(.row .upl 67 l),(.row .upl 67 m)])) (by kernel_rfl) ?_
  simp only [zk]
  subst hI
  simp only [nrmA,nrmB,nrlB,reduceCtorEq]
  have hd:i<l.length→_:=fun h=>Xr (l:=l) (m:=q) (i:=i) h (by omega)
  have hend: ¬ i<l.length→r=true:=fun h=>by
    rw [h2,List.drop_of_length_le (by omega),List.drop_of_length_le (by omega)];simp
  have hqi:i<l.length→q.getD i ⟨0,0,[],[],0⟩=m.getD (a+i) ⟨0,0,[],[],0⟩:=fun h=>hqg i (by omega)
  rw [show((a:Int)+(i:Int)).toNat=a+i by omega]
  generalize l.getD i ⟨0,0,[],[],0⟩=x at *
  generalize q.getD i ⟨0,0,[],[],0⟩=y0 at *
  generalize m.getD (a+i) ⟨0,0,[],[],0⟩=y at *
  have hx: ¬ x=y→i<l.length→r=false:=fun h hi=>by rw [h2,hd hi,hqi hi,decide_eq_false h,Bool.false_and]
  have hy:x=y→i<l.length→r=decide (l.drop (i+1)=q.drop (i+1)):=fun h hi=>by rw [h2,hd hi,hqi hi,decide_eq_true h,Bool.true_and]
  (repeat' (first|refine And.intro ?_ ?_|intro _))<;>first|omega|exact True.intro|exact False.elim ‹False›|skip
  all_goals first
    |(exact(hx (by rintro rfl;simp_all) (by omega)).symm)
    |(rw [hx (by rintro rfl;simp_all) (by omega)])
    |exact hA (i+1) ⟨by omega,hy (zf8 (by assumption) (by assumption) (by assumption) (by assumption) (by assumption)) (by omega)⟩ (by omega)
    |(rw [hend (by omega)])
    |omega
def Xd (I:Alg) (args:List D) (hp:List HO):Option CT:=match args,hp with
  |[.v (.one (.row 0)),.v (.one (.sub .upl 1 a b))],[.row .upl 67 l,.row .upl 67 m]=>(fun(l m:List Upl) (a b:Int)=>(some (.one ⟨I.hid (l.length≤1000000∧m.length≤1000000∧0≤a∧a≤b∧b≤m.length),(.ret (.v (.one (.p (.bool (I.hid ((decide (l=(m.drop a.toNat).take (b.toNat - a.toNat)))))))))),[.row .upl 67 l,.row .upl 67 m]⟩):Option CT)) l m a b
  |_,_=>none
theorem za7:zo Tryz.prog 14 (Xd alg):=by
  intro args hp r h
  unfold Xd at h
  split at h
  · cases h;exact fun hn=>zk2 _ _ _ _ hn
  · cases h
def uG:Know Tryz.prog:=⟨14,Xd,za7⟩
def uF:Know Tryz.prog:=⟨14,fun I=>zq I (Xd I),zf za7⟩
end Go.Proofs.YtcclfkakcgnacaaGreatDoor
namespace Go.Proofs.YtcclfkakcgnacaaGreatDoor
open Go Go.Sep Go.Ab
set_option maxRecDepth 100000
end Go.Proofs.YtcclfkakcgnacaaGreatDoor
namespace Go.Proofs.YtcclfkakcgnacaaGreatDoor
open Go Go.Sep Go.Ab Go.Jrn
set_option maxRecDepth 100000
structure Sto where
  l:List Upl
  n:Int
  b:Str
  s:Int
end Go.Proofs.YtcclfkakcgnacaaGreatDoor
namespace Go.Proofs.YtcclfkakcgnacaaGreatDoor
open Go Go.Sep Go.Ab Go.Jrn
set_option maxRecDepth 100000
theorem ziS (l:List Upl) (n:Int) (b:Str) (s m:Int) (hneed:b.length≤100000):Spc Tryz.prog 86 [.v (.one (.ptr 0 0)),.v (.one (.p (.int .i64 m)))] [.pack [.obj 48 [(.ptr 1 0),(.ptr 2 0)],.pack [.obj 90 [(.row 1),(.p (.int .i64 n))],.row .upl 67 l],.pack [.obj 104 [(.row 1),(.p (.int .i64 s))],.row .byte 5 b]]] (.ret (.v (.one (.p (.bool ((tJ b m))))))) [.pack [.obj 48 [(.ptr 1 0),(.ptr 2 0)],.pack [.obj 90 [(.row 1),(.p (.int .i64 n))],.row .upl 67 l],.pack [.obj 104 [(.row 1),(.p (.int .i64 s))],.row .byte 5 b]]]:=by
  refine spcG zi mixed Tryz.func86 (by kernel_rfl) { TF with keep:=some [0,1,4]} [zgQ,zgP] (by kernel_rfl) ?_
  intro I X hI hX
  refine zh (.need (I.hid (α:=(Prop)) (LE.le (List.length b) 100000000)) (.fin (.ret (.v (.one (.p (.bool (I.hid (α:=Bool) (tJ b m))))))) [(.pack [(.obj 48 [(.ptr 1 0),(.ptr 2 0)]),(.pack [(.obj 90 [(.row 1),(.p (.int .i64 n))]),(.row .upl 67 l)]),(.pack [(.obj 104 [(.row 1),(.p (.int .i64 s))]),(.row .byte 5 b)])])])) (by kernel_rfl) ?_
  simp only [zk]
  subst hI
  simp only [nrmA,nrmB,nrlB,reduceCtorEq,HO.pack.injEq,HO.obj.injEq]
  (repeat' (first|refine And.intro ?_ ?_|intro _))<;>first|omega|exact True.intro|exact False.elim ‹False›|skip
def ZP (I:Alg) (args:List D) (hp:List HO):Option CT:=match args,hp with
  |[.v (.one (.ptr 0 0)),.v (.one (.p (.int .i64 m)))],[.pack [.obj 48 [(.ptr 1 0),(.ptr 2 0)],.pack [.obj 90 [(.row 1),(.p (.int .i64 n))],.row .upl 67 l],.pack [.obj 104 [(.row 1),(.p (.int .i64 s))],.row .byte 5 b]]]=>(fun(l:List Upl) (n:Int) (b:Str) (s m:Int)=>(some (.one ⟨I.hid (b.length≤100000),(.ret (.v (.one (.p (.bool (I.hid ((tJ b m)))))))),[.pack [.obj 48 [(.ptr 1 0),(.ptr 2 0)],.pack [.obj 90 [(.row 1),(.p (.int .i64 n))],.row .upl 67 l],.pack [.obj 104 [(.row 1),(.p (.int .i64 s))],.row .byte 5 b]]]⟩):Option CT)) l n b s m
  |_,_=>none
theorem SE:zo Tryz.prog 86 (ZP alg):=by
  intro args hp r h
  unfold ZP at h
  split at h
  · cases h;exact fun hn=>ziS _ _ _ _ _ hn
  · cases h
def vC:Know Tryz.prog:=⟨86,ZP,SE⟩
def vz:Know Tryz.prog:=⟨86,fun I=>zq I (ZP I),zf SE⟩
end Go.Proofs.YtcclfkakcgnacaaGreatDoor
namespace Go.Proofs.YtcclfkakcgnacaaGreatDoor
open Go Go.Sep Go.Ab
set_option maxRecDepth 100000
def txtN (base:Nat):Nat→Nat→Str
  |0,_=>[]
  |f+1,n=>if n<base then [if n<10 then UInt8.ofNat (48+n) else UInt8.ofNat (87+n)] else txtN base f (n / base)++[if n % base<10 then UInt8.ofNat (48+n % base) else UInt8.ofNat (87+n % base)]
def dgN (d:Nat):UInt8:=if d<10 then UInt8.ofNat (48+d) else UInt8.ofNat (87+d)
theorem Zn {d:Nat} (h:d<10):(([48,49,50,51,52,53,54,55,56,57]:Str).drop d).take 1=[dgN d]:=(by decide+kernel: ∀ d:Fin 10,(([48,49,50,51,52,53,54,55,56,57]:Str).drop d.1).take 1=[dgN d.1]) ⟨d,h⟩
theorem yP {base f n:Nat} (h:n<base):txtN base (f+1) n=[dgN n]:=by rw [txtN,if_pos h];rfl
theorem wX {base f n:Nat} (h: ¬ n<base):txtN base (f+1) n=txtN base f (n / base)++[dgN (n % base)]:=by rw [txtN,if_neg h];rfl
theorem yQ (base:Nat): ∀ f n,(txtN base f n).length≤f
  |0,_=>Nat.le_refl _
  | f +1,n=>by
    rw [txtN]
    split
    · simp
    · have:=yQ base f (n / base)
      rw [List.length_append];simp;omega
theorem zoh (n:Int) (hneed:False):Spc Tryz.prog 21 [.v (.one (.p (.int .i64 n)))] [] (.ret (.v (.one (.p (.str ([])))))) []:=hneed.elim
def Q5 (I:Alg) (args:List D) (hp:List HO):Option CT:=match args,hp with
  |[.v (.one (.p (.int .i64 n)))],[]=>(fun(n:Int)=>(some (.one ⟨I.hid (False),(.ret (.v (.one (.p (.str (I.hid ([]))))))),[]⟩):Option CT)) n
  |_,_=>none
theorem zhm:zo Tryz.prog 21 (Q5 alg):=by
  intro args hp r h
  unfold Q5 at h
  split at h
  · cases h;exact fun hn=>zoh _ hn
  · cases h
def rX:Know Tryz.prog:=⟨21,Q5,zhm⟩
def qR:Know Tryz.prog:=⟨21,fun I=>zq I (Q5 I),zf zhm⟩
theorem zog (n:Int) (hneed:0≤n∧n<10):Spc Tryz.prog 21 [.v (.one (.p (.int .i64 n)))] [] (.ret (.v (.one (.p (.str (txtN 10 1 n.toNat)))))) []:=by
  generalize hr:txtN 10 1 n.toNat=r
  refine spcG zi mixed Tryz.func21 (by kernel_rfl) { keep:=some [0,2]} [rX,rX,qR] (by kernel_rfl) ?_
  intro I X hI hX
  refine zh (let y0:=([48,49,50,51,52,53,54,55,56,57]:Str);let y1:=I.cut (α:=UInt8) y0 (I.rem n 10) (I.add (I.rem n 10) 1);let y2:=I.len (α:=UInt8) (I.hid (α:=Str) ([]:Str));.br (I.ilt n 0) (.need (I.inr Go.IntKind.i64 (I.sub 0 n)) (.need (I.hid (α:=(Prop)) False) (.need (I.few (I.add (I.len (α:=UInt8) ([45]:Str)) y2) 1000000000) (.fin (.ret (.v (.one (.p (.str (I.app (α:=UInt8) ([45]:Str) (I.hid (α:=Str) ([]:Str)))))))) [])))) (.br (I.ilt n 10) (.need (I.inr Go.IntKind.i64 (I.add n 1)) (.need (I.cutb n (I.add n 1) (I.len (α:=UInt8) y0)) (.fin (.ret (.v (.one (.p (.str (I.cut (α:=UInt8) y0 n (I.add n 1))))))) []))) (.need (I.nne 10) (.need (I.inr Go.IntKind.i64 (I.quo n 10)) (.need (I.nne 10) (.need (I.nne 10) (.need (I.inr Go.IntKind.i64 (I.add (I.rem n 10) 1)) (.need (I.cutb (I.rem n 10) (I.add (I.rem n 10) 1) (I.len (α:=UInt8) y0)) (.need (I.hid (α:=(Prop)) False) (.need (I.few (I.add y2 (I.len (α:=UInt8) y1)) 1000000000) (.fin (.ret (.v (.one (.p (.str (I.app (α:=UInt8) (I.hid (α:=Str) ([]:Str)) y1)))))) []))))))))))) (by kernel_rfl) ?_
  simp only [zk]
  subst hI
  simp only [nrmA,nrmB]
  obtain⟨m,rfl⟩: ∃ m:Nat,n=m:=⟨n.toNat,by omega⟩
  rw [Int.toNat_natCast] at hr
  have e1:(m:Int).tdiv 10=((m / 10:Nat):Int):=by rw [Int.tdiv_eq_ediv_of_nonneg (by omega)];omega
  have e2:(m:Int).tmod 10=((m % 10:Nat):Int):=by rw [Int.tmod_eq_emod_of_nonneg (by omega)];omega
  have e3:m<10→(([48,49,50,51,52,53,54,55,56,57]:Str).drop m).take (((m:Int)+1).toNat - m)=r:=fun h=>by
    rw [show((m:Int)+1).toNat - m=1 by omega,Zn h,← hr,yP h]
  have e4:(([48,49,50,51,52,53,54,55,56,57]:Str).drop (m % 10)).take ((((m % 10:Nat):Int)+1).toNat - m % 10)=[dgN (m % 10)]:=by
    rw [show(((m % 10:Nat):Int)+1).toNat - m % 10=1 by omega,Zn (Nat.mod_lt _ (by decide))]
  have e5: ¬ m<10→txtN 10 0 (m / 10)++[dgN (m % 10)]=r:=fun h=>by rw [← hr,wX h]
  have hl:=yQ 10 0 (m / 10)
  have hl2:=yQ 10 0 (m % 10)
  have e6:0<0→txtN 10 0 (m % 10)=[dgN (m % 10)]:=fun h=>by first|exact absurd h (by decide)|exact yP (f:=0) (Nat.mod_lt _ (by decide))
  generalize hH:([48,49,50,51,52,53,54,55,56,57]:Str)=H at *
  have hHl:H.length=10:=by rw [← hH];rfl
  simp only [e1,e2,Int.toNat_natCast,e4,List.length_cons,List.length_nil]
  (repeat' (first|refine And.intro ?_ ?_|intro _))<;>first|omega|exact True.intro|exact False.elim ‹False›|skip
  all_goals first
    |exact e3 (by omega)
    |exact e5 (by omega)
    |(rw [e6 (by decide)];exact e5 (by omega))
    |(exfalso;omega)
def QZ (I:Alg) (args:List D) (hp:List HO):Option CT:=match args,hp with
  |[.v (.one (.p (.int .i64 n)))],[]=>(fun(n:Int)=>(some (.one ⟨I.hid (0≤n∧n<10),(.ret (.v (.one (.p (.str (I.hid (txtN 10 1 n.toNat))))))),[]⟩):Option CT)) n
  |_,_=>none
theorem zhl:zo Tryz.prog 21 (QZ alg):=by
  intro args hp r h
  unfold QZ at h
  split at h
  · cases h;exact fun hn=>zog _ hn
  · cases h
def qQ:Know Tryz.prog:=⟨21,QZ,zhl⟩
def Zz:Know Tryz.prog:=⟨21,fun I=>zq I (QZ I),zf zhl⟩
theorem zof (n:Int) (hneed:0≤n∧n<100):Spc Tryz.prog 21 [.v (.one (.p (.int .i64 n)))] [] (.ret (.v (.one (.p (.str (txtN 10 2 n.toNat)))))) []:=by
  generalize hr:txtN 10 2 n.toNat=r
  refine spcG zi mixed Tryz.func21 (by kernel_rfl) { keep:=some [0,2]} [qQ,rX,qR,qQ,Zz] (by kernel_rfl) ?_
  intro I X hI hX
  refine zh (let y0:=([48,49,50,51,52,53,54,55,56,57]:Str);let y1:=I.cut (α:=UInt8) y0 (I.rem n 10) (I.add (I.rem n 10) 1);let y2:=I.hid (α:=Str) (txtN 10 1 (Int.toNat (I.quo n 10)));let y3:=I.hid (α:=Str) (txtN 10 1 (Int.toNat (I.sub 0 n)));.br (I.ilt n 0) (.need (I.inr Go.IntKind.i64 (I.sub 0 n)) (.need (I.hid (α:=(Prop)) (And (LE.le (0:Int) (I.sub 0 n)) (LT.lt (I.sub 0 n) (10:Int)))) (.need (I.few (I.add (I.len (α:=UInt8) ([45]:Str)) (I.len (α:=UInt8) y3)) 1000000000) (.fin (.ret (.v (.one (.p (.str (I.app (α:=UInt8) ([45]:Str) y3)))))) [])))) (.br (I.ilt n 10) (.need (I.inr Go.IntKind.i64 (I.add n 1)) (.need (I.cutb n (I.add n 1) (I.len (α:=UInt8) y0)) (.fin (.ret (.v (.one (.p (.str (I.cut (α:=UInt8) y0 n (I.add n 1))))))) []))) (.need (I.nne 10) (.need (I.inr Go.IntKind.i64 (I.quo n 10)) (.need (I.nne 10) (.need (I.nne 10) (.need (I.inr Go.IntKind.i64 (I.add (I.rem n 10) 1)) (.need (I.cutb (I.rem n 10) (I.add (I.rem n 10) 1) (I.len (α:=UInt8) y0)) (.need (I.hid (α:=(Prop)) (And (LE.le (0:Int) (I.quo n 10)) (LT.lt (I.quo n 10) (10:Int)))) (.need (I.few (I.add (I.len (α:=UInt8) y2) (I.len (α:=UInt8) y1)) 1000000000) (.fin (.ret (.v (.one (.p (.str (I.app (α:=UInt8) y2 y1)))))) []))))))))))) (by kernel_rfl) ?_
  simp only [zk]
  subst hI
  simp only [nrmA,nrmB]
  obtain⟨m,rfl⟩: ∃ m:Nat,n=m:=⟨n.toNat,by omega⟩
  rw [Int.toNat_natCast] at hr
  have e1:(m:Int).tdiv 10=((m / 10:Nat):Int):=by rw [Int.tdiv_eq_ediv_of_nonneg (by omega)];omega
  have e2:(m:Int).tmod 10=((m % 10:Nat):Int):=by rw [Int.tmod_eq_emod_of_nonneg (by omega)];omega
  have e3:m<10→(([48,49,50,51,52,53,54,55,56,57]:Str).drop m).take (((m:Int)+1).toNat - m)=r:=fun h=>by
    rw [show((m:Int)+1).toNat - m=1 by omega,Zn h,← hr,yP h]
  have e4:(([48,49,50,51,52,53,54,55,56,57]:Str).drop (m % 10)).take ((((m % 10:Nat):Int)+1).toNat - m % 10)=[dgN (m % 10)]:=by
    rw [show(((m % 10:Nat):Int)+1).toNat - m % 10=1 by omega,Zn (Nat.mod_lt _ (by decide))]
  have e5: ¬ m<10→txtN 10 1 (m / 10)++[dgN (m % 10)]=r:=fun h=>by rw [← hr,wX h]
  have hl:=yQ 10 1 (m / 10)
  have hl2:=yQ 10 1 (m % 10)
  have e6:0<1→txtN 10 1 (m % 10)=[dgN (m % 10)]:=fun h=>by first|exact absurd h (by decide)|exact yP (f:=0) (Nat.mod_lt _ (by decide))
  generalize hH:([48,49,50,51,52,53,54,55,56,57]:Str)=H at *
  have hHl:H.length=10:=by rw [← hH];rfl
  simp only [e1,e2,Int.toNat_natCast,e4,List.length_cons,List.length_nil]
  (repeat' (first|refine And.intro ?_ ?_|intro _))<;>first|omega|exact True.intro|exact False.elim ‹False›|skip
  all_goals first
    |exact e3 (by omega)
    |exact e5 (by omega)
    |(rw [e6 (by decide)];exact e5 (by omega))
    |(exfalso;omega)
def QY (I:Alg) (args:List D) (hp:List HO):Option CT:=match args,hp with
  |[.v (.one (.p (.int .i64 n)))],[]=>(fun(n:Int)=>(some (.one ⟨I.hid (0≤n∧n<100),(.ret (.v (.one (.p (.str (I.hid (txtN 10 2 n.toNat))))))),[]⟩):Option CT)) n
  |_,_=>none
theorem zhk:zo Tryz.prog 21 (QY alg):=by
  intro args hp r h
  unfold QY at h
  split at h
  · cases h;exact fun hn=>zof _ hn
  · cases h
def Zy:Know Tryz.prog:=⟨21,QY,zhk⟩
def YM:Know Tryz.prog:=⟨21,fun I=>zq I (QY I),zf zhk⟩
theorem zoe (n:Int) (hneed:0≤n∧n<1000):Spc Tryz.prog 21 [.v (.one (.p (.int .i64 n)))] [] (.ret (.v (.one (.p (.str (txtN 10 3 n.toNat)))))) []:=by
  generalize hr:txtN 10 3 n.toNat=r
  refine spcG zi mixed Tryz.func21 (by kernel_rfl) { keep:=some [0,2]} [Zy,rX,qR,qQ,Zz,Zy,YM] (by kernel_rfl) ?_
  intro I X hI hX
  refine zh (let y0:=([48,49,50,51,52,53,54,55,56,57]:Str);let y1:=I.cut (α:=UInt8) y0 (I.rem n 10) (I.add (I.rem n 10) 1);let y2:=I.hid (α:=Str) (txtN 10 2 (Int.toNat (I.quo n 10)));let y3:=I.hid (α:=Str) (txtN 10 2 (Int.toNat (I.sub 0 n)));.br (I.ilt n 0) (.need (I.inr Go.IntKind.i64 (I.sub 0 n)) (.need (I.hid (α:=(Prop)) (And (LE.le (0:Int) (I.sub 0 n)) (LT.lt (I.sub 0 n) (100:Int)))) (.need (I.few (I.add (I.len (α:=UInt8) ([45]:Str)) (I.len (α:=UInt8) y3)) 1000000000) (.fin (.ret (.v (.one (.p (.str (I.app (α:=UInt8) ([45]:Str) y3)))))) [])))) (.br (I.ilt n 10) (.need (I.inr Go.IntKind.i64 (I.add n 1)) (.need (I.cutb n (I.add n 1) (I.len (α:=UInt8) y0)) (.fin (.ret (.v (.one (.p (.str (I.cut (α:=UInt8) y0 n (I.add n 1))))))) []))) (.need (I.nne 10) (.need (I.inr Go.IntKind.i64 (I.quo n 10)) (.need (I.nne 10) (.need (I.nne 10) (.need (I.inr Go.IntKind.i64 (I.add (I.rem n 10) 1)) (.need (I.cutb (I.rem n 10) (I.add (I.rem n 10) 1) (I.len (α:=UInt8) y0)) (.need (I.hid (α:=(Prop)) (And (LE.le (0:Int) (I.quo n 10)) (LT.lt (I.quo n 10) (100:Int)))) (.need (I.few (I.add (I.len (α:=UInt8) y2) (I.len (α:=UInt8) y1)) 1000000000) (.fin (.ret (.v (.one (.p (.str (I.app (α:=UInt8) y2 y1)))))) []))))))))))) (by kernel_rfl) ?_
  simp only [zk]
  subst hI
  simp only [nrmA,nrmB]
  obtain⟨m,rfl⟩: ∃ m:Nat,n=m:=⟨n.toNat,by omega⟩
  rw [Int.toNat_natCast] at hr
  have e1:(m:Int).tdiv 10=((m / 10:Nat):Int):=by rw [Int.tdiv_eq_ediv_of_nonneg (by omega)];omega
  have e2:(m:Int).tmod 10=((m % 10:Nat):Int):=by rw [Int.tmod_eq_emod_of_nonneg (by omega)];omega
  have e3:m<10→(([48,49,50,51,52,53,54,55,56,57]:Str).drop m).take (((m:Int)+1).toNat - m)=r:=fun h=>by
    rw [show((m:Int)+1).toNat - m=1 by omega,Zn h,← hr,yP h]
  have e4:(([48,49,50,51,52,53,54,55,56,57]:Str).drop (m % 10)).take ((((m % 10:Nat):Int)+1).toNat - m % 10)=[dgN (m % 10)]:=by
    rw [show(((m % 10:Nat):Int)+1).toNat - m % 10=1 by omega,Zn (Nat.mod_lt _ (by decide))]
  have e5: ¬ m<10→txtN 10 2 (m / 10)++[dgN (m % 10)]=r:=fun h=>by rw [← hr,wX h]
  have hl:=yQ 10 2 (m / 10)
  have hl2:=yQ 10 2 (m % 10)
  have e6:0<2→txtN 10 2 (m % 10)=[dgN (m % 10)]:=fun h=>by first|exact absurd h (by decide)|exact yP (f:=1) (Nat.mod_lt _ (by decide))
  generalize hH:([48,49,50,51,52,53,54,55,56,57]:Str)=H at *
  have hHl:H.length=10:=by rw [← hH];rfl
  simp only [e1,e2,Int.toNat_natCast,e4,List.length_cons,List.length_nil]
  (repeat' (first|refine And.intro ?_ ?_|intro _))<;>first|omega|exact True.intro|exact False.elim ‹False›|skip
  all_goals first
    |exact e3 (by omega)
    |exact e5 (by omega)
    |(rw [e6 (by decide)];exact e5 (by omega))
    |(exfalso;omega)
def QX (I:Alg) (args:List D) (hp:List HO):Option CT:=match args,hp with
  |[.v (.one (.p (.int .i64 n)))],[]=>(fun(n:Int)=>(some (.one ⟨I.hid (0≤n∧n<1000),(.ret (.v (.one (.p (.str (I.hid (txtN 10 3 n.toNat))))))),[]⟩):Option CT)) n
  |_,_=>none
theorem zhj:zo Tryz.prog 21 (QX alg):=by
  intro args hp r h
  unfold QX at h
  split at h
  · cases h;exact fun hn=>zoe _ hn
  · cases h
def YL:Know Tryz.prog:=⟨21,QX,zhj⟩
def Wi:Know Tryz.prog:=⟨21,fun I=>zq I (QX I),zf zhj⟩
theorem zod (n:Int) (hneed:0≤n∧n<10000):Spc Tryz.prog 21 [.v (.one (.p (.int .i64 n)))] [] (.ret (.v (.one (.p (.str (txtN 10 4 n.toNat)))))) []:=by
  generalize hr:txtN 10 4 n.toNat=r
  refine spcG zi mixed Tryz.func21 (by kernel_rfl) { keep:=some [0,2]} [YL,rX,qR,qQ,Zz,Zy,YM,YL,Wi] (by kernel_rfl) ?_
  intro I X hI hX
  refine zh (let y0:=([48,49,50,51,52,53,54,55,56,57]:Str);let y1:=I.cut (α:=UInt8) y0 (I.rem n 10) (I.add (I.rem n 10) 1);let y2:=I.hid (α:=Str) (txtN 10 3 (Int.toNat (I.quo n 10)));let y3:=I.hid (α:=Str) (txtN 10 3 (Int.toNat (I.sub 0 n)));.br (I.ilt n 0) (.need (I.inr Go.IntKind.i64 (I.sub 0 n)) (.need (I.hid (α:=(Prop)) (And (LE.le (0:Int) (I.sub 0 n)) (LT.lt (I.sub 0 n) (1000:Int)))) (.need (I.few (I.add (I.len (α:=UInt8) ([45]:Str)) (I.len (α:=UInt8) y3)) 1000000000) (.fin (.ret (.v (.one (.p (.str (I.app (α:=UInt8) ([45]:Str) y3)))))) [])))) (.br (I.ilt n 10) (.need (I.inr Go.IntKind.i64 (I.add n 1)) (.need (I.cutb n (I.add n 1) (I.len (α:=UInt8) y0)) (.fin (.ret (.v (.one (.p (.str (I.cut (α:=UInt8) y0 n (I.add n 1))))))) []))) (.need (I.nne 10) (.need (I.inr Go.IntKind.i64 (I.quo n 10)) (.need (I.nne 10) (.need (I.nne 10) (.need (I.inr Go.IntKind.i64 (I.add (I.rem n 10) 1)) (.need (I.cutb (I.rem n 10) (I.add (I.rem n 10) 1) (I.len (α:=UInt8) y0)) (.need (I.hid (α:=(Prop)) (And (LE.le (0:Int) (I.quo n 10)) (LT.lt (I.quo n 10) (1000:Int)))) (.need (I.few (I.add (I.len (α:=UInt8) y2) (I.len (α:=UInt8) y1)) 1000000000) (.fin (.ret (.v (.one (.p (.str (I.app (α:=UInt8) y2 y1)))))) []))))))))))) (by kernel_rfl) ?_
  simp only [zk]
  subst hI
  simp only [nrmA,nrmB]
  obtain⟨m,rfl⟩: ∃ m:Nat,n=m:=⟨n.toNat,by omega⟩
  rw [Int.toNat_natCast] at hr
  have e1:(m:Int).tdiv 10=((m / 10:Nat):Int):=by rw [Int.tdiv_eq_ediv_of_nonneg (by omega)];omega
  have e2:(m:Int).tmod 10=((m % 10:Nat):Int):=by rw [Int.tmod_eq_emod_of_nonneg (by omega)];omega
  have e3:m<10→(([48,49,50,51,52,53,54,55,56,57]:Str).drop m).take (((m:Int)+1).toNat - m)=r:=fun h=>by
    rw [show((m:Int)+1).toNat - m=1 by omega,Zn h,← hr,yP h]
  have e4:(([48,49,50,51,52,53,54,55,56,57]:Str).drop (m % 10)).take ((((m % 10:Nat):Int)+1).toNat - m % 10)=[dgN (m % 10)]:=by
    rw [show(((m % 10:Nat):Int)+1).toNat - m % 10=1 by omega,Zn (Nat.mod_lt _ (by decide))]
  have e5: ¬ m<10→txtN 10 3 (m / 10)++[dgN (m % 10)]=r:=fun h=>by rw [← hr,wX h]
  have hl:=yQ 10 3 (m / 10)
  have hl2:=yQ 10 3 (m % 10)
  have e6:0<3→txtN 10 3 (m % 10)=[dgN (m % 10)]:=fun h=>by first|exact absurd h (by decide)|exact yP (f:=2) (Nat.mod_lt _ (by decide))
  generalize hH:([48,49,50,51,52,53,54,55,56,57]:Str)=H at *
  have hHl:H.length=10:=by rw [← hH];rfl
  simp only [e1,e2,Int.toNat_natCast,e4,List.length_cons,List.length_nil]
  (repeat' (first|refine And.intro ?_ ?_|intro _))<;>first|omega|exact True.intro|exact False.elim ‹False›|skip
  all_goals first
    |exact e3 (by omega)
    |exact e5 (by omega)
    |(rw [e6 (by decide)];exact e5 (by omega))
    |(exfalso;omega)
def QW (I:Alg) (args:List D) (hp:List HO):Option CT:=match args,hp with
  |[.v (.one (.p (.int .i64 n)))],[]=>(fun(n:Int)=>(some (.one ⟨I.hid (0≤n∧n<10000),(.ret (.v (.one (.p (.str (I.hid (txtN 10 4 n.toNat))))))),[]⟩):Option CT)) n
  |_,_=>none
theorem zhi:zo Tryz.prog 21 (QW alg):=by
  intro args hp r h
  unfold QW at h
  split at h
  · cases h;exact fun hn=>zod _ hn
  · cases h
def Wh:Know Tryz.prog:=⟨21,QW,zhi⟩
def UY:Know Tryz.prog:=⟨21,fun I=>zq I (QW I),zf zhi⟩
theorem zoc (n:Int) (hneed:0≤n∧n<100000):Spc Tryz.prog 21 [.v (.one (.p (.int .i64 n)))] [] (.ret (.v (.one (.p (.str (txtN 10 5 n.toNat)))))) []:=by
  generalize hr:txtN 10 5 n.toNat=r
  refine spcG zi mixed Tryz.func21 (by kernel_rfl) { keep:=some [0,2]} [Wh,rX,qR,qQ,Zz,Zy,YM,YL,Wi,Wh,UY] (by kernel_rfl) ?_
  intro I X hI hX
  refine zh (let y0:=([48,49,50,51,52,53,54,55,56,57]:Str);let y1:=I.cut (α:=UInt8) y0 (I.rem n 10) (I.add (I.rem n 10) 1);let y2:=I.hid (α:=Str) (txtN 10 4 (Int.toNat (I.quo n 10)));let y3:=I.hid (α:=Str) (txtN 10 4 (Int.toNat (I.sub 0 n)));.br (I.ilt n 0) (.need (I.inr Go.IntKind.i64 (I.sub 0 n)) (.need (I.hid (α:=(Prop)) (And (LE.le (0:Int) (I.sub 0 n)) (LT.lt (I.sub 0 n) (10000:Int)))) (.need (I.few (I.add (I.len (α:=UInt8) ([45]:Str)) (I.len (α:=UInt8) y3)) 1000000000) (.fin (.ret (.v (.one (.p (.str (I.app (α:=UInt8) ([45]:Str) y3)))))) [])))) (.br (I.ilt n 10) (.need (I.inr Go.IntKind.i64 (I.add n 1)) (.need (I.cutb n (I.add n 1) (I.len (α:=UInt8) y0)) (.fin (.ret (.v (.one (.p (.str (I.cut (α:=UInt8) y0 n (I.add n 1))))))) []))) (.need (I.nne 10) (.need (I.inr Go.IntKind.i64 (I.quo n 10)) (.need (I.nne 10) (.need (I.nne 10) (.need (I.inr Go.IntKind.i64 (I.add (I.rem n 10) 1)) (.need (I.cutb (I.rem n 10) (I.add (I.rem n 10) 1) (I.len (α:=UInt8) y0)) (.need (I.hid (α:=(Prop)) (And (LE.le (0:Int) (I.quo n 10)) (LT.lt (I.quo n 10) (10000:Int)))) (.need (I.few (I.add (I.len (α:=UInt8) y2) (I.len (α:=UInt8) y1)) 1000000000) (.fin (.ret (.v (.one (.p (.str (I.app (α:=UInt8) y2 y1)))))) []))))))))))) (by kernel_rfl) ?_
  simp only [zk]
  subst hI
  simp only [nrmA,nrmB]
  obtain⟨m,rfl⟩: ∃ m:Nat,n=m:=⟨n.toNat,by omega⟩
  rw [Int.toNat_natCast] at hr
  have e1:(m:Int).tdiv 10=((m / 10:Nat):Int):=by rw [Int.tdiv_eq_ediv_of_nonneg (by omega)];omega
  have e2:(m:Int).tmod 10=((m % 10:Nat):Int):=by rw [Int.tmod_eq_emod_of_nonneg (by omega)];omega
  have e3:m<10→(([48,49,50,51,52,53,54,55,56,57]:Str).drop m).take (((m:Int)+1).toNat - m)=r:=fun h=>by
    rw [show((m:Int)+1).toNat - m=1 by omega,Zn h,← hr,yP h]
  have e4:(([48,49,50,51,52,53,54,55,56,57]:Str).drop (m % 10)).take ((((m % 10:Nat):Int)+1).toNat - m % 10)=[dgN (m % 10)]:=by
    rw [show(((m % 10:Nat):Int)+1).toNat - m % 10=1 by omega,Zn (Nat.mod_lt _ (by decide))]
  have e5: ¬ m<10→txtN 10 4 (m / 10)++[dgN (m % 10)]=r:=fun h=>by rw [← hr,wX h]
  have hl:=yQ 10 4 (m / 10)
  have hl2:=yQ 10 4 (m % 10)
  have e6:0<4→txtN 10 4 (m % 10)=[dgN (m % 10)]:=fun h=>by first|exact absurd h (by decide)|exact yP (f:=3) (Nat.mod_lt _ (by decide))
  generalize hH:([48,49,50,51,52,53,54,55,56,57]:Str)=H at *
  have hHl:H.length=10:=by rw [← hH];rfl
  simp only [e1,e2,Int.toNat_natCast,e4,List.length_cons,List.length_nil]
  (repeat' (first|refine And.intro ?_ ?_|intro _))<;>first|omega|exact True.intro|exact False.elim ‹False›|skip
  all_goals first
    |exact e3 (by omega)
    |exact e5 (by omega)
    |(rw [e6 (by decide)];exact e5 (by omega))
    |(exfalso;omega)
def QV (I:Alg) (args:List D) (hp:List HO):Option CT:=match args,hp with
  |[.v (.one (.p (.int .i64 n)))],[]=>(fun(n:Int)=>(some (.one ⟨I.hid (0≤n∧n<100000),(.ret (.v (.one (.p (.str (I.hid (txtN 10 5 n.toNat))))))),[]⟩):Option CT)) n
  |_,_=>none
theorem zhh:zo Tryz.prog 21 (QV alg):=by
  intro args hp r h
  unfold QV at h
  split at h
  · cases h;exact fun hn=>zoc _ hn
  · cases h
def UX:Know Tryz.prog:=⟨21,QV,zhh⟩
def QT:Know Tryz.prog:=⟨21,fun I=>zq I (QV I),zf zhh⟩
theorem zob (n:Int) (hneed:0≤n∧n<1000000):Spc Tryz.prog 21 [.v (.one (.p (.int .i64 n)))] [] (.ret (.v (.one (.p (.str (txtN 10 6 n.toNat)))))) []:=by
  generalize hr:txtN 10 6 n.toNat=r
  refine spcG zi mixed Tryz.func21 (by kernel_rfl) { keep:=some [0,2]} [UX,rX,qR,qQ,Zz,Zy,YM,YL,Wi,Wh,UY,UX,QT] (by kernel_rfl) ?_
  intro I X hI hX
  refine zh (let y0:=([48,49,50,51,52,53,54,55,56,57]:Str);let y1:=I.cut (α:=UInt8) y0 (I.rem n 10) (I.add (I.rem n 10) 1);let y2:=I.hid (α:=Str) (txtN 10 5 (Int.toNat (I.quo n 10)));let y3:=I.hid (α:=Str) (txtN 10 5 (Int.toNat (I.sub 0 n)));.br (I.ilt n 0) (.need (I.inr Go.IntKind.i64 (I.sub 0 n)) (.need (I.hid (α:=(Prop)) (And (LE.le (0:Int) (I.sub 0 n)) (LT.lt (I.sub 0 n) (100000:Int)))) (.need (I.few (I.add (I.len (α:=UInt8) ([45]:Str)) (I.len (α:=UInt8) y3)) 1000000000) (.fin (.ret (.v (.one (.p (.str (I.app (α:=UInt8) ([45]:Str) y3)))))) [])))) (.br (I.ilt n 10) (.need (I.inr Go.IntKind.i64 (I.add n 1)) (.need (I.cutb n (I.add n 1) (I.len (α:=UInt8) y0)) (.fin (.ret (.v (.one (.p (.str (I.cut (α:=UInt8) y0 n (I.add n 1))))))) []))) (.need (I.nne 10) (.need (I.inr Go.IntKind.i64 (I.quo n 10)) (.need (I.nne 10) (.need (I.nne 10) (.need (I.inr Go.IntKind.i64 (I.add (I.rem n 10) 1)) (.need (I.cutb (I.rem n 10) (I.add (I.rem n 10) 1) (I.len (α:=UInt8) y0)) (.need (I.hid (α:=(Prop)) (And (LE.le (0:Int) (I.quo n 10)) (LT.lt (I.quo n 10) (100000:Int)))) (.need (I.few (I.add (I.len (α:=UInt8) y2) (I.len (α:=UInt8) y1)) 1000000000) (.fin (.ret (.v (.one (.p (.str (I.app (α:=UInt8) y2 y1)))))) []))))))))))) (by kernel_rfl) ?_
  simp only [zk]
  subst hI
  simp only [nrmA,nrmB]
  obtain⟨m,rfl⟩: ∃ m:Nat,n=m:=⟨n.toNat,by omega⟩
  rw [Int.toNat_natCast] at hr
  have e1:(m:Int).tdiv 10=((m / 10:Nat):Int):=by rw [Int.tdiv_eq_ediv_of_nonneg (by omega)];omega
  have e2:(m:Int).tmod 10=((m % 10:Nat):Int):=by rw [Int.tmod_eq_emod_of_nonneg (by omega)];omega
  have e3:m<10→(([48,49,50,51,52,53,54,55,56,57]:Str).drop m).take (((m:Int)+1).toNat - m)=r:=fun h=>by
    rw [show((m:Int)+1).toNat - m=1 by omega,Zn h,← hr,yP h]
  have e4:(([48,49,50,51,52,53,54,55,56,57]:Str).drop (m % 10)).take ((((m % 10:Nat):Int)+1).toNat - m % 10)=[dgN (m % 10)]:=by
    rw [show(((m % 10:Nat):Int)+1).toNat - m % 10=1 by omega,Zn (Nat.mod_lt _ (by decide))]
  have e5: ¬ m<10→txtN 10 5 (m / 10)++[dgN (m % 10)]=r:=fun h=>by rw [← hr,wX h]
  have hl:=yQ 10 5 (m / 10)
  have hl2:=yQ 10 5 (m % 10)
  have e6:0<5→txtN 10 5 (m % 10)=[dgN (m % 10)]:=fun h=>by first|exact absurd h (by decide)|exact yP (f:=4) (Nat.mod_lt _ (by decide))
  generalize hH:([48,49,50,51,52,53,54,55,56,57]:Str)=H at *
  have hHl:H.length=10:=by rw [← hH];rfl
  simp only [e1,e2,Int.toNat_natCast,e4,List.length_cons,List.length_nil]
  (repeat' (first|refine And.intro ?_ ?_|intro _))<;>first|omega|exact True.intro|exact False.elim ‹False›|skip
  all_goals first
    |exact e3 (by omega)
    |exact e5 (by omega)
    |(rw [e6 (by decide)];exact e5 (by omega))
    |(exfalso;omega)
def QS (I:Alg) (args:List D) (hp:List HO):Option CT:=match args,hp with
  |[.v (.one (.p (.int .i64 n)))],[]=>(fun(n:Int)=>(some (.one ⟨I.hid (0≤n∧n<1000000),(.ret (.v (.one (.p (.str (I.hid (txtN 10 6 n.toNat))))))),[]⟩):Option CT)) n
  |_,_=>none
theorem zhg:zo Tryz.prog 21 (QS alg):=by
  intro args hp r h
  unfold QS at h
  split at h
  · cases h;exact fun hn=>zob _ hn
  · cases h
def QO:Know Tryz.prog:=⟨21,QS,zhg⟩
def zcD:Know Tryz.prog:=⟨21,fun I=>zq I (QS I),zf zhg⟩
theorem zoa (n:Int) (hneed:0≤n∧n<10000000):Spc Tryz.prog 21 [.v (.one (.p (.int .i64 n)))] [] (.ret (.v (.one (.p (.str (txtN 10 7 n.toNat)))))) []:=by
  generalize hr:txtN 10 7 n.toNat=r
  refine spcG zi mixed Tryz.func21 (by kernel_rfl) { keep:=some [0,2]} [QO,rX,qR,qQ,Zz,Zy,YM,YL,Wi,Wh,UY,UX,QT,QO,zcD] (by kernel_rfl) ?_
  intro I X hI hX
  refine zh (let y0:=([48,49,50,51,52,53,54,55,56,57]:Str);let y1:=I.cut (α:=UInt8) y0 (I.rem n 10) (I.add (I.rem n 10) 1);let y2:=I.hid (α:=Str) (txtN 10 6 (Int.toNat (I.quo n 10)));let y3:=I.hid (α:=Str) (txtN 10 6 (Int.toNat (I.sub 0 n)));.br (I.ilt n 0) (.need (I.inr Go.IntKind.i64 (I.sub 0 n)) (.need (I.hid (α:=(Prop)) (And (LE.le (0:Int) (I.sub 0 n)) (LT.lt (I.sub 0 n) (1000000:Int)))) (.need (I.few (I.add (I.len (α:=UInt8) ([45]:Str)) (I.len (α:=UInt8) y3)) 1000000000) (.fin (.ret (.v (.one (.p (.str (I.app (α:=UInt8) ([45]:Str) y3)))))) [])))) (.br (I.ilt n 10) (.need (I.inr Go.IntKind.i64 (I.add n 1)) (.need (I.cutb n (I.add n 1) (I.len (α:=UInt8) y0)) (.fin (.ret (.v (.one (.p (.str (I.cut (α:=UInt8) y0 n (I.add n 1))))))) []))) (.need (I.nne 10) (.need (I.inr Go.IntKind.i64 (I.quo n 10)) (.need (I.nne 10) (.need (I.nne 10) (.need (I.inr Go.IntKind.i64 (I.add (I.rem n 10) 1)) (.need (I.cutb (I.rem n 10) (I.add (I.rem n 10) 1) (I.len (α:=UInt8) y0)) (.need (I.hid (α:=(Prop)) (And (LE.le (0:Int) (I.quo n 10)) (LT.lt (I.quo n 10) (1000000:Int)))) (.need (I.few (I.add (I.len (α:=UInt8) y2) (I.len (α:=UInt8) y1)) 1000000000) (.fin (.ret (.v (.one (.p (.str (I.app (α:=UInt8) y2 y1)))))) []))))))))))) (by kernel_rfl) ?_
  simp only [zk]
  subst hI
  simp only [nrmA,nrmB]
  obtain⟨m,rfl⟩: ∃ m:Nat,n=m:=⟨n.toNat,by omega⟩
  rw [Int.toNat_natCast] at hr
  have e1:(m:Int).tdiv 10=((m / 10:Nat):Int):=by rw [Int.tdiv_eq_ediv_of_nonneg (by omega)];omega
  have e2:(m:Int).tmod 10=((m % 10:Nat):Int):=by rw [Int.tmod_eq_emod_of_nonneg (by omega)];omega
  have e3:m<10→(([48,49,50,51,52,53,54,55,56,57]:Str).drop m).take (((m:Int)+1).toNat - m)=r:=fun h=>by
    rw [show((m:Int)+1).toNat - m=1 by omega,Zn h,← hr,yP h]
  have e4:(([48,49,50,51,52,53,54,55,56,57]:Str).drop (m % 10)).take ((((m % 10:Nat):Int)+1).toNat - m % 10)=[dgN (m % 10)]:=by
    rw [show(((m % 10:Nat):Int)+1).toNat - m % 10=1 by omega,Zn (Nat.mod_lt _ (by decide))]
  have e5: ¬ m<10→txtN 10 6 (m / 10)++[dgN (m % 10)]=r:=fun h=>by rw [← hr,wX h]
  have hl:=yQ 10 6 (m / 10)
  have hl2:=yQ 10 6 (m % 10)
  have e6:0<6→txtN 10 6 (m % 10)=[dgN (m % 10)]:=fun h=>by first|exact absurd h (by decide)|exact yP (f:=5) (Nat.mod_lt _ (by decide))
  generalize hH:([48,49,50,51,52,53,54,55,56,57]:Str)=H at *
  have hHl:H.length=10:=by rw [← hH];rfl
  simp only [e1,e2,Int.toNat_natCast,e4,List.length_cons,List.length_nil]
  (repeat' (first|refine And.intro ?_ ?_|intro _))<;>first|omega|exact True.intro|exact False.elim ‹False›|skip
  all_goals first
    |exact e3 (by omega)
    |exact e5 (by omega)
    |(rw [e6 (by decide)];exact e5 (by omega))
    |(exfalso;omega)
def QN (I:Alg) (args:List D) (hp:List HO):Option CT:=match args,hp with
  |[.v (.one (.p (.int .i64 n)))],[]=>(fun(n:Int)=>(some (.one ⟨I.hid (0≤n∧n<10000000),(.ret (.v (.one (.p (.str (I.hid (txtN 10 7 n.toNat))))))),[]⟩):Option CT)) n
  |_,_=>none
theorem zhf:zo Tryz.prog 21 (QN alg):=by
  intro args hp r h
  unfold QN at h
  split at h
  · cases h;exact fun hn=>zoa _ hn
  · cases h
def zcC:Know Tryz.prog:=⟨21,QN,zhf⟩
def zhe:Know Tryz.prog:=⟨21,fun I=>zq I (QN I),zf zhf⟩
theorem zn9 (n:Int) (hneed:0≤n∧n<100000000):Spc Tryz.prog 21 [.v (.one (.p (.int .i64 n)))] [] (.ret (.v (.one (.p (.str (txtN 10 8 n.toNat)))))) []:=by
  generalize hr:txtN 10 8 n.toNat=r
  refine spcG zi mixed Tryz.func21 (by kernel_rfl) { keep:=some [0,2]} [zcC,rX,qR,qQ,Zz,Zy,YM,YL,Wi,Wh,UY,UX,QT,QO,zcD,zcC,zhe] (by kernel_rfl) ?_
  intro I X hI hX
  refine zh (let y0:=([48,49,50,51,52,53,54,55,56,57]:Str);let y1:=I.cut (α:=UInt8) y0 (I.rem n 10) (I.add (I.rem n 10) 1);let y2:=I.hid (α:=Str) (txtN 10 7 (Int.toNat (I.quo n 10)));let y3:=I.hid (α:=Str) (txtN 10 7 (Int.toNat (I.sub 0 n)));.br (I.ilt n 0) (.need (I.inr Go.IntKind.i64 (I.sub 0 n)) (.need (I.hid (α:=(Prop)) (And (LE.le (0:Int) (I.sub 0 n)) (LT.lt (I.sub 0 n) (10000000:Int)))) (.need (I.few (I.add (I.len (α:=UInt8) ([45]:Str)) (I.len (α:=UInt8) y3)) 1000000000) (.fin (.ret (.v (.one (.p (.str (I.app (α:=UInt8) ([45]:Str) y3)))))) [])))) (.br (I.ilt n 10) (.need (I.inr Go.IntKind.i64 (I.add n 1)) (.need (I.cutb n (I.add n 1) (I.len (α:=UInt8) y0)) (.fin (.ret (.v (.one (.p (.str (I.cut (α:=UInt8) y0 n (I.add n 1))))))) []))) (.need (I.nne 10) (.need (I.inr Go.IntKind.i64 (I.quo n 10)) (.need (I.nne 10) (.need (I.nne 10) (.need (I.inr Go.IntKind.i64 (I.add (I.rem n 10) 1)) (.need (I.cutb (I.rem n 10) (I.add (I.rem n 10) 1) (I.len (α:=UInt8) y0)) (.need (I.hid (α:=(Prop)) (And (LE.le (0:Int) (I.quo n 10)) (LT.lt (I.quo n 10) (10000000:Int)))) (.need (I.few (I.add (I.len (α:=UInt8) y2) (I.len (α:=UInt8) y1)) 1000000000) (.fin (.ret (.v (.one (.p (.str (I.app (α:=UInt8) y2 y1)))))) []))))))))))) (by kernel_rfl) ?_
  simp only [zk]
  subst hI
  simp only [nrmA,nrmB]
  obtain⟨m,rfl⟩: ∃ m:Nat,n=m:=⟨n.toNat,by omega⟩
  rw [Int.toNat_natCast] at hr
  have e1:(m:Int).tdiv 10=((m / 10:Nat):Int):=by rw [Int.tdiv_eq_ediv_of_nonneg (by omega)];omega
  have e2:(m:Int).tmod 10=((m % 10:Nat):Int):=by rw [Int.tmod_eq_emod_of_nonneg (by omega)];omega
  have e3:m<10→(([48,49,50,51,52,53,54,55,56,57]:Str).drop m).take (((m:Int)+1).toNat - m)=r:=fun h=>by
    rw [show((m:Int)+1).toNat - m=1 by omega,Zn h,← hr,yP h]
  have e4:(([48,49,50,51,52,53,54,55,56,57]:Str).drop (m % 10)).take ((((m % 10:Nat):Int)+1).toNat - m % 10)=[dgN (m % 10)]:=by
    rw [show(((m % 10:Nat):Int)+1).toNat - m % 10=1 by omega,Zn (Nat.mod_lt _ (by decide))]
  have e5: ¬ m<10→txtN 10 7 (m / 10)++[dgN (m % 10)]=r:=fun h=>by rw [← hr,wX h]
  have hl:=yQ 10 7 (m / 10)
  have hl2:=yQ 10 7 (m % 10)
  have e6:0<7→txtN 10 7 (m % 10)=[dgN (m % 10)]:=fun h=>by first|exact absurd h (by decide)|exact yP (f:=6) (Nat.mod_lt _ (by decide))
  generalize hH:([48,49,50,51,52,53,54,55,56,57]:Str)=H at *
  have hHl:H.length=10:=by rw [← hH];rfl
  simp only [e1,e2,Int.toNat_natCast,e4,List.length_cons,List.length_nil]
  (repeat' (first|refine And.intro ?_ ?_|intro _))<;>first|omega|exact True.intro|exact False.elim ‹False›|skip
  all_goals first
    |exact e3 (by omega)
    |exact e5 (by omega)
    |(rw [e6 (by decide)];exact e5 (by omega))
    |(exfalso;omega)
def QM (I:Alg) (args:List D) (hp:List HO):Option CT:=match args,hp with
  |[.v (.one (.p (.int .i64 n)))],[]=>(fun(n:Int)=>(some (.one ⟨I.hid (0≤n∧n<100000000),(.ret (.v (.one (.p (.str (I.hid (txtN 10 8 n.toNat))))))),[]⟩):Option CT)) n
  |_,_=>none
theorem zhd:zo Tryz.prog 21 (QM alg):=by
  intro args hp r h
  unfold QM at h
  split at h
  · cases h;exact fun hn=>zn9 _ hn
  · cases h
def zhc:Know Tryz.prog:=⟨21,QM,zhd⟩
def zlo:Know Tryz.prog:=⟨21,fun I=>zq I (QM I),zf zhd⟩
theorem zn8 (n:Int) (hneed:0≤n∧n<1000000000):Spc Tryz.prog 21 [.v (.one (.p (.int .i64 n)))] [] (.ret (.v (.one (.p (.str (txtN 10 9 n.toNat)))))) []:=by
  generalize hr:txtN 10 9 n.toNat=r
  refine spcG zi mixed Tryz.func21 (by kernel_rfl) { keep:=some [0,2]} [zhc,rX,qR,qQ,Zz,Zy,YM,YL,Wi,Wh,UY,UX,QT,QO,zcD,zcC,zhe,zhc,zlo] (by kernel_rfl) ?_
  intro I X hI hX
  refine zh (let y0:=([48,49,50,51,52,53,54,55,56,57]:Str);let y1:=I.cut (α:=UInt8) y0 (I.rem n 10) (I.add (I.rem n 10) 1);let y2:=I.hid (α:=Str) (txtN 10 8 (Int.toNat (I.quo n 10)));let y3:=I.hid (α:=Str) (txtN 10 8 (Int.toNat (I.sub 0 n)));.br (I.ilt n 0) (.need (I.inr Go.IntKind.i64 (I.sub 0 n)) (.need (I.hid (α:=(Prop)) (And (LE.le (0:Int) (I.sub 0 n)) (LT.lt (I.sub 0 n) (100000000:Int)))) (.need (I.few (I.add (I.len (α:=UInt8) ([45]:Str)) (I.len (α:=UInt8) y3)) 1000000000) (.fin (.ret (.v (.one (.p (.str (I.app (α:=UInt8) ([45]:Str) y3)))))) [])))) (.br (I.ilt n 10) (.need (I.inr Go.IntKind.i64 (I.add n 1)) (.need (I.cutb n (I.add n 1) (I.len (α:=UInt8) y0)) (.fin (.ret (.v (.one (.p (.str (I.cut (α:=UInt8) y0 n (I.add n 1))))))) []))) (.need (I.nne 10) (.need (I.inr Go.IntKind.i64 (I.quo n 10)) (.need (I.nne 10) (.need (I.nne 10) (.need (I.inr Go.IntKind.i64 (I.add (I.rem n 10) 1)) (.need (I.cutb (I.rem n 10) (I.add (I.rem n 10) 1) (I.len (α:=UInt8) y0)) (.need (I.hid (α:=(Prop)) (And (LE.le (0:Int) (I.quo n 10)) (LT.lt (I.quo n 10) (100000000:Int)))) (.need (I.few (I.add (I.len (α:=UInt8) y2) (I.len (α:=UInt8) y1)) 1000000000) (.fin (.ret (.v (.one (.p (.str (I.app (α:=UInt8) y2 y1)))))) []))))))))))) (by kernel_rfl) ?_
  simp only [zk]
  subst hI
  simp only [nrmA,nrmB]
  obtain⟨m,rfl⟩: ∃ m:Nat,n=m:=⟨n.toNat,by omega⟩
  rw [Int.toNat_natCast] at hr
  have e1:(m:Int).tdiv 10=((m / 10:Nat):Int):=by rw [Int.tdiv_eq_ediv_of_nonneg (by omega)];omega
  have e2:(m:Int).tmod 10=((m % 10:Nat):Int):=by rw [Int.tmod_eq_emod_of_nonneg (by omega)];omega
  have e3:m<10→(([48,49,50,51,52,53,54,55,56,57]:Str).drop m).take (((m:Int)+1).toNat - m)=r:=fun h=>by
    rw [show((m:Int)+1).toNat - m=1 by omega,Zn h,← hr,yP h]
  have e4:(([48,49,50,51,52,53,54,55,56,57]:Str).drop (m % 10)).take ((((m % 10:Nat):Int)+1).toNat - m % 10)=[dgN (m % 10)]:=by
    rw [show(((m % 10:Nat):Int)+1).toNat - m % 10=1 by omega,Zn (Nat.mod_lt _ (by decide))]
  have e5: ¬ m<10→txtN 10 8 (m / 10)++[dgN (m % 10)]=r:=fun h=>by rw [← hr,wX h]
  have hl:=yQ 10 8 (m / 10)
  have hl2:=yQ 10 8 (m % 10)
  have e6:0<8→txtN 10 8 (m % 10)=[dgN (m % 10)]:=fun h=>by first|exact absurd h (by decide)|exact yP (f:=7) (Nat.mod_lt _ (by decide))
  generalize hH:([48,49,50,51,52,53,54,55,56,57]:Str)=H at *
  have hHl:H.length=10:=by rw [← hH];rfl
  simp only [e1,e2,Int.toNat_natCast,e4,List.length_cons,List.length_nil]
  (repeat' (first|refine And.intro ?_ ?_|intro _))<;>first|omega|exact True.intro|exact False.elim ‹False›|skip
  all_goals first
    |exact e3 (by omega)
    |exact e5 (by omega)
    |(rw [e6 (by decide)];exact e5 (by omega))
    |(exfalso;omega)
theorem zel: ∀ (k n:Nat),n<10 ^ (k+1)→Lib.decDigits n=txtN 10 (k+1) n
  | 0,n,h=>by
    rw [Lib.decDigits,dif_pos (by omega),yP (by omega)]
    unfold dgN
    rw [if_pos (by omega)]
  | k +1,n,h=>by
    rw [Lib.decDigits]
    by_cases hn:n<10
    · rw [dif_pos hn,yP hn]
      unfold dgN
      rw [if_pos hn]
    · rw [dif_neg hn,wX hn,zel k (n / 10) (by rw [Nat.pow_succ] at h;omega)]
      unfold dgN
      rw [if_pos (Nat.mod_lt _ (by decide))]
def decS (n:Int):Str:=txtN 10 9 n.toNat
theorem zju {n:Int} (h0:0≤n) (h1:n<1000000000):Lib.itoa n=decS n:=by
  unfold Lib.itoa decS
  rw [if_neg (by omega),zel 8 n.toNat (by omega)]
theorem zW (n:Int):(decS n).length≤9:=yQ 10 9 _
theorem zoj (n:Int) (hneed:0≤n∧n<1000000000):Spc Tryz.prog 77 [.v (.one (.p (.int .i64 n)))] [] (.ret (.v (.one (.p (.str (decS n)))))) []:=by
  refine Spc.of_below ⟨_,Tryz.func77,by kernel_rfl,by kernel_rfl⟩ fun S bs w vs hW hM=> ?_
  obtain⟨v,r,rfl⟩: ∃ v r,vs=v::r:=by cases vs with|nil=>exact hM.elim|cons v r=>exact⟨v,r,rfl⟩
  obtain⟨h1,hM⟩:=hM
  obtain rfl:r=[]:=by cases r with|nil=>rfl|cons v r=>exact hM.elim
  cases h1 with
  | int _ _=>
    refine⟨.string (Sep.S (decS n)),.str _ (by have:=zW n;unfold maxLen;omega),?_⟩
    rw [← zju hneed.1 hneed.2]
    refine(Tryz.strconv_Itoa n (by omega) (by omega) w (by first|exact hW|exact hW.1)).mono fun e w' h=> ?_
    obtain⟨he,k,os,rfl⟩:=h
    refine⟨he,?_⟩
    exact⟨rfl,rfl,rfl,(show w.heap.size≤(w.heap++os).size by rw [Array.size_append];omega),fun j hj=>show(w.heap++os)[j]? =w.heap[j]? from Array.getElem?_append_left hj⟩
def zad (I:Alg) (args:List D) (hp:List HO):Option CT:=match args,hp with
  |[.v (.one (.p (.int .i64 n)))],[]=>(fun(n:Int)=>(some (.one ⟨I.hid (0≤n∧n<1000000000),(.ret (.v (.one (.p (.str (I.hid (decS n))))))),[]⟩):Option CT)) n
  |_,_=>none
theorem zhv:zo Tryz.prog 77 (zad alg):=by
  intro args hp r h
  unfold zad at h
  split at h
  · cases h;exact fun hn=>zoj _ hn
  · cases h
def zly:Know Tryz.prog:=⟨77,zad,zhv⟩
def zlx:Know Tryz.prog:=⟨77,fun I=>zq I (zad I),zf zhv⟩
theorem num_ (n:Int) (hneed:0≤n∧n<1000000000):Spc Tryz.prog 21 [.v (.one (.p (.int .i64 n)))] [] (.ret (.v (.one (.p (.str (decS n)))))) []:=zn8 n hneed
def zd9 (I:Alg) (args:List D) (hp:List HO):Option CT:=match args,hp with
  |[.v (.one (.p (.int .i64 n)))],[]=>(fun(n:Int)=>(some (.one ⟨I.hid (0≤n∧n<1000000000),(.ret (.v (.one (.p (.str (I.hid (decS n))))))),[]⟩):Option CT)) n
  |_,_=>none
theorem zkg:zo Tryz.prog 21 (zd9 alg):=by
  intro args hp r h
  unfold zd9 at h
  split at h
  · cases h;exact fun hn=>num_ _ hn
  · cases h
def zm7:Know Tryz.prog:=⟨21,zd9,zkg⟩
def zm6:Know Tryz.prog:=⟨21,fun I=>zq I (zd9 I),zf zkg⟩
end Go.Proofs.YtcclfkakcgnacaaGreatDoor
namespace Go.Proofs.YtcclfkakcgnacaaGreatDoor
open Go Go.Sep Go.Ab
def xQ:Str:=[47,102,105,108,101,115]
def yT:Str:=[47,102,105,108,101,115,47]
def verS:Str:=[49,46,48,46,48]
def zlk:Str:=[79,80,84,73,79,78,83]
def zft:Str:=[80,79,83,84]
def Si:Str:=[72,69,65,68]
def Yx:Str:=[80,65,84,67,72]
def Sl:Str:=[68,69,76,69,84,69]
def XT:Str:=[116,117,115,45,114,101,115,117,109,97,98,108,101]
def zI:Str:=[117,112,108,111,97,100,45,108,101,110,103,116,104]
def YE:Str:=[117,112,108,111,97,100,45,100,101,102,101,114,45,108,101,110,103,116,104]
def xU:Str:=[117,112,108,111,97,100,45,109,101,116,97,100,97,116,97]
def uw:Str:=[117,112,108,111,97,100,45,111,102,102,115,101,116]
def Wv:Str:=[99,111,110,116,101,110,116,45,116,121,112,101]
def octS:Str:=[97,112,112,108,105,99,97,116,105,111,110,47,111,102,102,115,101,116,43,111,99,116,101,116,45,115,116,114,101,97,109]
def zmf:Str:=[84,117,115,45,82,101,115,117,109,97,98,108,101]
def zaR:Str:=[84,117,115,45,86,101,114,115,105,111,110]
def zkF:Str:=[84,117,115,45,77,97,120,45,83,105,122,101]
def zkH:Str:=[84,117,115,45,69,120,116,101,110,115,105,111,110]
def zkG:Str:=[99,114,101,97,116,105,111,110,44,99,114,101,97,116,105,111,110,45,100,101,102,101,114,45,108,101,110,103,116,104,44,116,101,114,109,105,110,97,116,105,111,110]
def locN:Str:=[76,111,99,97,116,105,111,110]
def qh:Str:=[85,112,108,111,97,100,45,79,102,102,115,101,116]
def zmd:Str:=[85,112,108,111,97,100,45,76,101,110,103,116,104]
def zme:Str:=[85,112,108,111,97,100,45,68,101,102,101,114,45,76,101,110,103,116,104]
def zmc:Str:=[85,112,108,111,97,100,45,77,101,116,97,100,97,116,97]
def znG:Str:=[67,97,99,104,101,45,67,111,110,116,114,111,108]
def zm8:Str:=[110,111,45,115,116,111,114,101]
def oneT (f:List Fld) (n:Str):Str × Int:=oneF (valsF f n)
def xq (f:List Fld) (n:Str):Bool:=decide ((oneT f n).2=10)||(decide ((oneT f n).2=0)&&(numA (oneT f n).1 10 9).2)
def zA (f:List Fld) (n:Str):Int:=if(oneT f n).2=10 then -1 else(numA (oneT f n).1 10 9).1
def uT (f:List Fld):Bool:=decide ((oneT f YE).2=10)||(decide ((oneT f YE).2=0)&&decide ((oneT f YE).1=[49]))
def Yy (f:List Fld):Bool:=decide ((oneT f YE).2=0)
def wE (c:Int):Int:=if c=10 then 404 else if c=17∨c=19 then 409 else if c=4 then 413 else if c=8∨c=16 then 507 else 400
def wsS (q:Sto) (e:Ent):Sto:=⟨wrtL q.l q.n q.b e,wrtN q.l q.n q.b e,wrtB q.l q.n q.b e,q.s⟩
def wsC (q:Sto) (e:Ent):Int:=wrtC q.l q.n q.b e
def syS (q:Sto):Sto:= { q with s:=(q.b.length:Int)}
def creE (q:Sto) (n:Int) (t:Str):Ent:=⟨1,q.n+1,n,t⟩
structure TA where
  st:Int
  fs:List Fld
  q:Sto
def yM (q:Sto) (f:List Fld):TA:=
  if xq f zI=false then⟨400,[],q⟩
  else if uT f=false then⟨400,[],q⟩
  else if decide (0≤zA f zI)=Yy f then⟨400,[],q⟩
  else if(oneT f xU).2=9 then⟨400,[],q⟩
  else if wsC q (creE q (zA f zI) (oneT f xU).1)≠0 then⟨wE (wsC q (creE q (zA f zI) (oneT f xU).1)),[],q⟩
  else⟨201,[⟨locN,yT++decS (q.n+1)⟩],syS (wsS q (creE q (zA f zI) (oneT f xU).1))⟩
def idB (t:Str):Bool:=Lib.hasPrefix t yT&&((numA (t.drop 7) 10 9).2&&decide (decS (numA (t.drop 7) 10 9).1=t.drop 7))
def idV (t:Str):Int:=(numA (t.drop 7) 10 9).1
def uplB (q:Sto) (t:Str):Bool:=idB t&&getB q.l (idV t)
def lenF (u:Upl):Fld:=if u.size<0 then⟨zme,[49]⟩ else⟨zmd,decS u.size⟩
def Yr (u:Upl):List Fld:=[⟨qh,decS (u.bytes.length:Int)⟩,lenF u,⟨znG,zm8⟩]++(if u.note=[] then [] else [⟨zmc,u.note⟩])
def zX (q:Sto) (u:Upl) (f:List Fld) (body:Str):TA:=
  if(oneT f Wv).2=9 then⟨400,[],q⟩
  else if(xY (oneT f Wv).1).2≠0∨(xY (oneT f Wv).1).1.word≠octS then⟨415,[],q⟩
  else if xq f uw=false then⟨400,[],q⟩
  else if zA f uw<0 then⟨400,[],q⟩
  else if zA f uw≠(u.bytes.length:Int) then⟨409,[],q⟩
  else if xq f zI=false then⟨400,[],q⟩
  else if 0≤zA f zI∧0≤u.size∧zA f zI≠u.size then⟨400,[],q⟩
  else if 0≤zA f zI∧u.size<0∧(2000<zA f zI∨zA f zI<zA f uw+(body.length:Int)) then⟨413,[],q⟩
  else if tJ q.b ((body.length:Int)+60)=false then⟨507,[],q⟩
  else if(if apG q.l u.id (zA f uw) then 17 else wsC q (apE u.id body))≠0 then⟨wE (if apG q.l u.id (zA f uw) then 17 else wsC q (apE u.id body)),[],q⟩
  else if 0≤zA f zI∧u.size<0 then
    if wsC (wsS q (apE u.id body)) ⟨3,u.id,zA f zI,[]⟩≠0 then⟨wE (wsC (wsS q (apE u.id body)) ⟨3,u.id,zA f zI,[]⟩),[],wsS q (apE u.id body)⟩
    else⟨204,[⟨qh,decS (zA f uw+(body.length:Int))⟩],syS (wsS (wsS q (apE u.id body)) ⟨3,u.id,zA f zI,[]⟩)⟩
  else⟨204,[⟨qh,decS (zA f uw+(body.length:Int))⟩],syS (wsS q (apE u.id body))⟩
def XF (q:Sto) (u:Upl):TA:=
  if wsC q ⟨4,u.id,0,[]⟩≠0 then⟨wE (wsC q ⟨4,u.id,0,[]⟩),[],q⟩ else⟨204,[],syS (wsS q ⟨4,u.id,0,[]⟩)⟩
def zH (q:Sto) (m t:Str) (f:List Fld) (body:Str):TA:=
  if t=xQ∧m=zlk then⟨204,[⟨zaR,verS⟩,⟨zkF,decS 2000⟩,⟨zkH,zkG⟩],q⟩
  else if(oneT f XT).2=9 then⟨400,[],q⟩
  else if(oneT f XT).1≠verS then⟨412,[⟨zaR,verS⟩],q⟩
  else if t=xQ then(if m≠zft then⟨405,[],q⟩ else yM q f)
  else if uplB q t=false then⟨404,[],q⟩
  else if m=Si then⟨200,Yr (getU q.l (idV t)),q⟩
  else if m=Yx then zX q (getU q.l (idV t)) f body
  else if m=Sl then XF q (getU q.l (idV t))
  else⟨405,[],q⟩
def resT:Fld:=⟨zmf,verS⟩
end Go.Proofs.YtcclfkakcgnacaaGreatDoor
namespace Go.Proofs.YtcclfkakcgnacaaGreatDoor
open Go Go.Sep Go.Ab
set_option maxRecDepth 100000
theorem zfI (s p:Str):Spc Tryz.prog 42 [.v (.one (.p (.str s))),.v (.one (.p (.str p)))] [] (.ret (.v (.one (.p (.bool (Lib.hasPrefix s p)))))) []:=by
  refine Spc.of_below ⟨_,Tryz.func42,by kernel_rfl,by kernel_rfl⟩ fun S bs w vs _ hM=> ?_
  obtain⟨v,r,rfl⟩: ∃ v r,vs=v::r:=by cases vs with|nil=>exact hM.elim|cons v r=>exact⟨v,r,rfl⟩
  obtain⟨h1,hM⟩:=hM
  obtain⟨v2,r2,rfl⟩: ∃ v r2,r=v::r2:=by cases r with|nil=>exact hM.elim|cons v r=>exact⟨v,r,rfl⟩
  obtain⟨h2,hM⟩:=hM
  obtain rfl:r2=[]:=by cases r2 with|nil=>rfl|cons v r=>exact hM.elim
  cases h1 with
  | str _ hl1=>
    cases h2 with
    | str _ hl2=>
      refine⟨.bool (Lib.hasPrefix s p),.bool _,(Tryz.strings_HasPrefix (Sep.S s) (Sep.S p) w).mono fun e w' h=> ?_⟩
      obtain⟨he,rfl⟩:=h
      exact⟨he,Go.RowKit.Below.refl _ _⟩
def rO (I:Alg) (args:List D) (hp:List HO):Option CT:=match args,hp with
  |[.v (.one (.p (.str s))),.v (.one (.p (.str p)))],[]=>(fun(s p:Str)=>(some (.one ⟨I.hid (True),(.ret (.v (.one (.p (.bool (I.hid (Lib.hasPrefix s p))))))),[]⟩):Option CT)) s p
  |_,_=>none
theorem WY:zo Tryz.prog 42 (rO alg):=by
  intro args hp r h
  unfold rO at h
  split at h
  · cases h;exact fun hn=>zfI _ _
  · cases h
def zbH:Know Tryz.prog:=⟨42,rO,WY⟩
def zbG:Know Tryz.prog:=⟨42,fun I=>zq I (rO I),zf WY⟩
theorem TR (s p:Str):(Lib.trimPrefix s p).length≤s.length:=by
  unfold Lib.trimPrefix
  split
  · simp
  · exact Nat.le_refl _
theorem zfT (s p:Str):Spc Tryz.prog 82 [.v (.one (.p (.str s))),.v (.one (.p (.str p)))] [] (.ret (.tup [(.one (.p (.str ((Lib.trimPrefix s p))))),(.one (.p (.bool (Lib.hasPrefix s p))))])) []:=by
  refine Spc.of_below ⟨_,Tryz.func82,by kernel_rfl,by kernel_rfl⟩ fun S bs w vs _ hM=> ?_
  obtain⟨v,r,rfl⟩: ∃ v r,vs=v::r:=by cases vs with|nil=>exact hM.elim|cons v r=>exact⟨v,r,rfl⟩
  obtain⟨h1,hM⟩:=hM
  obtain⟨v2,r2,rfl⟩: ∃ v r2,r=v::r2:=by cases r with|nil=>exact hM.elim|cons v r=>exact⟨v,r,rfl⟩
  obtain⟨h2,hM⟩:=hM
  obtain rfl:r2=[]:=by cases r2 with|nil=>rfl|cons v r=>exact hM.elim
  cases h1 with
  | str _ hl1=>
    cases h2 with
    | str _ hl2=>
      refine⟨.tuple #[.string (Sep.S (Lib.trimPrefix s p)),.bool (Lib.hasPrefix s p)],⟨[.string (Sep.S (Lib.trimPrefix s p)),.bool (Lib.hasPrefix s p)],⟨.str _ (Nat.le_trans (TR _ _) hl1),.bool _,trivial⟩,rfl⟩,(Tryz.strings_CutPrefix (Sep.S s) (Sep.S p) w).mono fun e w' h=> ?_⟩
      obtain⟨he,rfl⟩:=h
      exact⟨he,Go.RowKit.Below.refl _ _⟩
def rP (I:Alg) (args:List D) (hp:List HO):Option CT:=match args,hp with
  |[.v (.one (.p (.str s))),.v (.one (.p (.str p)))],[]=>(fun(s p:Str)=>(some (.one ⟨I.hid (True),(.ret (.tup [(.one (.p (.str (I.hid ((Lib.trimPrefix s p)))))),(.one (.p (.bool (I.hid (Lib.hasPrefix s p)))))])),[]⟩):Option CT)) s p
  |_,_=>none
theorem Vf:zo Tryz.prog 82 (rP alg):=by
  intro args hp r h
  unfold rP at h
  split at h
  · cases h;exact fun hn=>zfT _ _
  · cases h
def Ve:Know Tryz.prog:=⟨82,rP,Vf⟩
def Vd:Know Tryz.prog:=⟨82,fun I=>zq I (rP I),zf Vf⟩
def FOk (f:List Fld):Prop:=f.length≤1000∧∀ x ∈ f,x.name.length≤1000000∧x.value.length≤1000000
def cfgT:Cfg:= { sl:=TF.sl++[⟨78,1000003,.byte,none⟩],fz:=[50]}
theorem zml (st:Int) (fs:List Fld):Spc Tryz.prog 50 [.v (.one (.p (.int .i64 st))),.v (.one (.p (.list .fld fs)))] [] (.pan (.ifc 73 true [(.int .i64 st),(.list .fld fs),(.list .byte ([]))])) []:=by
  refine spcG zi mixed Tryz.func50 (by kernel_rfl) { keep:=some [0,1]} [] (by kernel_rfl) ?_
  intro I X hI hX
  refine zh (.fin (.pan (.ifc 73 .true [(.int .i64 st),(.list .fld fs),(.list .byte ([]:Str))])) []) (by kernel_rfl) ?_
  simp only [zk]
  try trivial
def Vs (I:Alg) (args:List D) (hp:List HO):Option CT:=match args,hp with
  |[.v (.one (.p (.int .i64 st))),.v (.one (.p (.list .fld fs)))],[]=>(fun(st:Int) (fs:List Fld)=>(some (.one ⟨I.hid (True),(.pan (.ifc 73 true [(.int .i64 st),(.list .fld fs),(.list .byte (I.hid ([])))])),[]⟩):Option CT)) st fs
  |_,_=>none
theorem zdu:zo Tryz.prog 50 (Vs alg):=by
  intro args hp r h
  unfold Vs at h
  split at h
  · cases h;exact fun hn=>zml _ _
  · cases h
def yC:Know Tryz.prog:=⟨50,Vs,zdu⟩
def yB:Know Tryz.prog:=⟨50,fun I=>zq I (Vs I),zf zdu⟩
theorem zkP (n v:Str):Spc Tryz.prog 28 [.v (.one (.p (.str n))),.v (.one (.p (.str v)))] [] (.ret (.v (.agg [(.p (.str n)),(.p (.str v))]))) []:=by
  refine spcG zi mixed Tryz.func28 (by kernel_rfl) { keep:=some [0,1,4]} [] (by kernel_rfl) ?_
  intro I X hI hX
  refine zh (.fin (.ret (.v (.agg [(.p (.str n)),(.p (.str v))]))) []) (by kernel_rfl) ?_
  simp only [zk]
  try trivial
def Y2 (I:Alg) (args:List D) (hp:List HO):Option CT:=match args,hp with
  |[.v (.one (.p (.str n))),.v (.one (.p (.str v)))],[]=>(fun(n v:Str)=>(some (.one ⟨I.hid (True),(.ret (.v (.agg [(.p (.str n)),(.p (.str v))]))),[]⟩):Option CT)) n v
  |_,_=>none
theorem zaW:zo Tryz.prog 28 (Y2 alg):=by
  intro args hp r h
  unfold Y2 at h
  split at h
  · cases h;exact fun hn=>zkP _ _
  · cases h
def yO:Know Tryz.prog:=⟨28,Y2,zaW⟩
def yN:Know Tryz.prog:=⟨28,fun I=>zq I (Y2 I),zf zaW⟩
theorem znP (n:Int) (hneed:0≤n∧n<1000000000):Spc Tryz.prog 51 [.v (.one (.p (.int .i64 n)))] [] (.ret (.v (.one (.p (.str ((decS n))))))) []:=by
  refine spcG zi mixed Tryz.func51 (by kernel_rfl) { keep:=some [0,2]} [zly,zlx] (by kernel_rfl) ?_
  intro I X hI hX
  refine zh (.need (I.hid (α:=(Prop)) (And (LE.le (0:Int) n) (LT.lt n (1000000000:Int)))) (.fin (.ret (.v (.one (.p (.str (I.hid (α:=Str) (decS n))))))) [])) (by kernel_rfl) ?_
  simp only [zk]
  subst hI
  simp only [nrmA,nrmB]
  first|exact hneed|exact⟨hneed,trivial⟩|trace_state
def Qi (I:Alg) (args:List D) (hp:List HO):Option CT:=match args,hp with
  |[.v (.one (.p (.int .i64 n)))],[]=>(fun(n:Int)=>(some (.one ⟨I.hid (0≤n∧n<1000000000),(.ret (.v (.one (.p (.str (I.hid ((decS n)))))))),[]⟩):Option CT)) n
  |_,_=>none
theorem zgj:zo Tryz.prog 51 (Qi alg):=by
  intro args hp r h
  unfold Qi at h
  split at h
  · cases h;exact fun hn=>znP _ hn
  · cases h
def wM:Know Tryz.prog:=⟨51,Qi,zgj⟩
def wL:Know Tryz.prog:=⟨51,fun I=>zq I (Qi I),zf zgj⟩
theorem zmq (m t:Str) (mi:Int) (f:List Fld) (le:Int) (l:List Upl) (n:Int) (b:Str) (s:Int) (nm:Str) (hneed:(FOk f∧nm.length≤1000000)∧¬ (oneT f nm).2=9):Spc Tryz.prog 52 [.v (.one (.ptr 0 0)),.v (.one (.p (.str nm)))] [.obj 78 [(.ptr 1 0),(.p (.str m)),(.p (.str t)),(.p (.int .i64 mi)),(.p (.list .fld f)),(.p (.int .i64 le))],.pack [.obj 48 [(.ptr 1 0),(.ptr 2 0)],.pack [.obj 90 [(.row 1),(.p (.int .i64 n))],.row .upl 67 l],.pack [.obj 104 [(.row 1),(.p (.int .i64 s))],.row .byte 5 b]]] (.ret (.tup [(.one (.p (.str ((oneT f nm).1)))),(.one (.p (.bool (decide ((oneT f nm).2=0)))))])) [.obj 78 [(.ptr 1 0),(.p (.str m)),(.p (.str t)),(.p (.int .i64 mi)),(.p (.list .fld f)),(.p (.int .i64 le))],.pack [.obj 48 [(.ptr 1 0),(.ptr 2 0)],.pack [.obj 90 [(.row 1),(.p (.int .i64 n))],.row .upl 67 l],.pack [.obj 104 [(.row 1),(.p (.int .i64 s))],.row .byte 5 b]]]:=by
  obtain⟨⟨hf,hn⟩,h9⟩:=hneed
  refine spcG zi mixed Tryz.func52 (by kernel_rfl) { cfgT with keep:=some [0,1,4,5,6,7]} [zhU,zhT,yC,yB] (by kernel_rfl) ?_
  intro I X hI hX
  refine zh (let y0:HO:=.pack [(.obj 48 [(.ptr 1 0),(.ptr 2 0)]),(.pack [(.obj 90 [(.row 1),(.p (.int .i64 n))]),(.row .upl 67 l)]),(.pack [(.obj 104 [(.row 1),(.p (.int .i64 s))]),(.row .byte 5 b)])];let y1:HO:=.obj 78 [(.ptr 1 0),(.p (.str m)),(.p (.str t)),(.p (.int .i64 mi)),(.p (.list .fld f)),(.p (.int .i64 le))];let y2:=I.hid (α:=Int) (Prod.snd (oneF (valsF f nm)));.need (I.hid (α:=(Prop)) (And (LE.le (List.length f) 1000) (And (LE.le (List.length nm) 1000000) (∀ (f_1:Fld),f_1 ∈ f→List.length f_1.name≤1000000∧List.length f_1.value≤1000000)))) (.br (I.ieq y2 9) (.need (I.hid (α:=(Prop)) True) (.fin (.pan (.ifc 73 .true [(.int .i64 400),(.list .fld ([]:List Fld)),(.list .byte (I.hid (α:=Str) ([]:Str)))])) [y1,y0])) (.fin (.ret (.tup [(.one (.p (.str (I.hid (α:=Str) (Prod.fst (oneF (valsF f nm))))))),(.one (.p (.bool (I.ieq y2 0))))])) [y1,y0]))) (by kernel_rfl) ?_
  simp only [zk]
  subst hI
  unfold oneT at *
  simp only [nrmA,nrmB,nrlB,reduceCtorEq]
  (repeat' (first|refine And.intro ?_ ?_|intro _))<;>first|omega|exact True.intro|exact False.elim ‹False›|skip
  all_goals first|exact hf.1|exact hn|exact hf.2|(exact(hf.2 _ ‹_›).1)|(exact(hf.2 _ ‹_›).2)|rfl|(exact⟨hf.1,hn,hf.2⟩)|(exfalso;exact h9 ‹_›)|(simp_all;done)|trace_state
theorem zmp (m t:Str) (mi:Int) (f:List Fld) (le:Int) (l:List Upl) (n:Int) (b:Str) (s:Int) (nm:Str) (hneed:(FOk f∧nm.length≤1000000)∧(oneT f nm).2=9):Spc Tryz.prog 52 [.v (.one (.ptr 0 0)),.v (.one (.p (.str nm)))] [.obj 78 [(.ptr 1 0),(.p (.str m)),(.p (.str t)),(.p (.int .i64 mi)),(.p (.list .fld f)),(.p (.int .i64 le))],.pack [.obj 48 [(.ptr 1 0),(.ptr 2 0)],.pack [.obj 90 [(.row 1),(.p (.int .i64 n))],.row .upl 67 l],.pack [.obj 104 [(.row 1),(.p (.int .i64 s))],.row .byte 5 b]]] (.pan (.ifc 73 true [(.int .i64 400),(.list .fld ([])),(.list .byte ([]))])) [.obj 78 [(.ptr 1 0),(.p (.str m)),(.p (.str t)),(.p (.int .i64 mi)),(.p (.list .fld f)),(.p (.int .i64 le))],.pack [.obj 48 [(.ptr 1 0),(.ptr 2 0)],.pack [.obj 90 [(.row 1),(.p (.int .i64 n))],.row .upl 67 l],.pack [.obj 104 [(.row 1),(.p (.int .i64 s))],.row .byte 5 b]]]:=by
  obtain⟨⟨hf,hn⟩,h9⟩:=hneed
  refine spcG zi mixed Tryz.func52 (by kernel_rfl) { cfgT with keep:=some [0,1,4,5,6,7]} [zhU,zhT,yC,yB] (by kernel_rfl) ?_
  intro I X hI hX
  refine zh (let y0:HO:=.pack [(.obj 48 [(.ptr 1 0),(.ptr 2 0)]),(.pack [(.obj 90 [(.row 1),(.p (.int .i64 n))]),(.row .upl 67 l)]),(.pack [(.obj 104 [(.row 1),(.p (.int .i64 s))]),(.row .byte 5 b)])];let y1:HO:=.obj 78 [(.ptr 1 0),(.p (.str m)),(.p (.str t)),(.p (.int .i64 mi)),(.p (.list .fld f)),(.p (.int .i64 le))];let y2:=I.hid (α:=Int) (Prod.snd (oneF (valsF f nm)));.need (I.hid (α:=(Prop)) (And (LE.le (List.length f) 1000) (And (LE.le (List.length nm) 1000000) (∀ (f_1:Fld),f_1 ∈ f→List.length f_1.name≤1000000∧List.length f_1.value≤1000000)))) (.br (I.ieq y2 9) (.need (I.hid (α:=(Prop)) True) (.fin (.pan (.ifc 73 .true [(.int .i64 400),(.list .fld ([]:List Fld)),(.list .byte (I.hid (α:=Str) ([]:Str)))])) [y1,y0])) (.fin (.ret (.tup [(.one (.p (.str (I.hid (α:=Str) (Prod.fst (oneF (valsF f nm))))))),(.one (.p (.bool (I.ieq y2 0))))])) [y1,y0]))) (by kernel_rfl) ?_
  simp only [zk]
  subst hI
  unfold oneT at *
  simp only [nrmA,nrmB,nrlB,reduceCtorEq]
  (repeat' (first|refine And.intro ?_ ?_|intro _))<;>first|omega|exact True.intro|exact False.elim ‹False›|skip
  all_goals first|exact hf.1|exact hn|exact hf.2|(exact(hf.2 _ ‹_›).1)|(exact(hf.2 _ ‹_›).2)|rfl|(exact⟨hf.1,hn,hf.2⟩)|(exfalso;contradiction)|(simp_all;done)|trace_state
def Qh (I:Alg) (args:List D) (hp:List HO):Option CT:=match args,hp with
  |[.v (.one (.ptr 0 0)),.v (.one (.p (.str nm)))],[.obj 78 [(.ptr 1 0),(.p (.str m)),(.p (.str t)),(.p (.int .i64 mi)),(.p (.list .fld f)),(.p (.int .i64 le))],.pack [.obj 48 [(.ptr 1 0),(.ptr 2 0)],.pack [.obj 90 [(.row 1),(.p (.int .i64 n))],.row .upl 67 l],.pack [.obj 104 [(.row 1),(.p (.int .i64 s))],.row .byte 5 b]]]=>(fun(m t:Str) (mi:Int) (f:List Fld) (le:Int) (l:List Upl) (n:Int) (b:Str) (s:Int) (nm:Str)=>(some (.br (I.hid (decide ((oneT f nm).2=9))) (.one ⟨I.hid ((FOk f∧nm.length≤1000000)∧(oneT f nm).2=9),(.pan (.ifc 73 true [(.int .i64 400),(.list .fld (I.hid ([]))),(.list .byte (I.hid ([])))])),[.obj 78 [(.ptr 1 0),(.p (.str m)),(.p (.str t)),(.p (.int .i64 mi)),(.p (.list .fld f)),(.p (.int .i64 le))],.pack [.obj 48 [(.ptr 1 0),(.ptr 2 0)],.pack [.obj 90 [(.row 1),(.p (.int .i64 n))],.row .upl 67 l],.pack [.obj 104 [(.row 1),(.p (.int .i64 s))],.row .byte 5 b]]]⟩) (.one ⟨I.hid ((FOk f∧nm.length≤1000000)∧¬ (oneT f nm).2=9),(.ret (.tup [(.one (.p (.str (I.hid ((oneT f nm).1))))),(.one (.p (.bool (I.hid (decide ((oneT f nm).2=0))))))])),[.obj 78 [(.ptr 1 0),(.p (.str m)),(.p (.str t)),(.p (.int .i64 mi)),(.p (.list .fld f)),(.p (.int .i64 le))],.pack [.obj 48 [(.ptr 1 0),(.ptr 2 0)],.pack [.obj 90 [(.row 1),(.p (.int .i64 n))],.row .upl 67 l],.pack [.obj 104 [(.row 1),(.p (.int .i64 s))],.row .byte 5 b]]]⟩)):Option CT)) m t mi f le l n b s nm
  |_,_=>none
theorem zgi:zo Tryz.prog 52 (Qh alg):=by
  intro args hp r h
  unfold Qh at h
  split at h
  · cases h;exact⟨fun _ hn=>zmp _ _ _ _ _ _ _ _ _ _ hn,fun _ hn=>zmq _ _ _ _ _ _ _ _ _ _ hn⟩
  · cases h
def wK:Know Tryz.prog:=⟨52,Qh,zgi⟩
def wJ:Know Tryz.prog:=⟨52,fun I=>zq I (Qh I),zf zgi⟩
end Go.Proofs.YtcclfkakcgnacaaGreatDoor
