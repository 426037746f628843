/- Texts of this proof, one behind the other: SplB JrnL JrnA JrnB JrnC JrnG JrnP StoL StoA SplC SplS SplD StoB StoN Num TusL RplL LnL LnR ChkL Evt ReqL ReqP SeekL SeekM Mrk FrmL Pfx TusA TusB TusC TusD TusE TusF GatL RplA. -/
import Derived.Lib.ItoaNum
import Derived.Test.YtmkcejdibmilmaaGreatDoorMc
set_option linter.all false
namespace Go.Proofs.YtmkcejdibmilmaaGreatDoor
open Go Go.Sep Go.Ab
set_option maxRecDepth 100000
theorem zmA (l:List Upl) (n id size:Int) (hneed:zF l n):Spc Tryz.prog 202 [.v (.one (.ptr 0 0)),.v (.one (.p (.int .i64 id))),.v (.one (.p (.int .i64 size)))] [.pack [.obj 88 [(.row 1),(.p (.int .i64 n))],.row .upl 86 l]] (.ret (.v (.one (.p (.int .i64 ((decC l id size))))))) [.pack [.obj 88 [(.row 1),(.p (.int .i64 n))],.row .upl 86 ((decL l id size))]]:=by
  have hs:=hneed
  have hf:=X0 hs
  generalize he:decC l id size=re
  generalize hl:decL l id size=rl
  refine spcG zh mixed Tryz.func202 (by kernel_rfl) { zbs with bare:=[51],keep:=some [0,1,2,6,7,8]} [zb4,zb3] (by kernel_rfl) ?_
  intro I X hI hX
  refine orcL ?_;go_invoke;refine orcS (by kernel_rfl) ?_
  simp only [zi,Nat.reduceAdd]
  subst hI
  simp only [nrmA,nrmB,nrlB,reduceCtorEq,HO.pack.injEq,HO.obj.injEq]
  unfold decL at hl
  rw [he] at hl
  unfold decC at he
  unfold xh upl0 at he hl
  generalize l.getD (atU l id) ⟨0,0,[],[],0⟩=x at *
  (repeat' (first|refine And.intro ?_ ?_|intro _))<;>first|omega|exact True.intro|exact False.elim ‹False›|skip
  all_goals first
    |exact hf.1
    |((repeat(first|rewrite [if_pos (by first|omega|assumption|(simp only [*,or_self,or_true,true_or,or_false,false_or,not_true_eq_false,not_false_eq_true,Bool.false_eq_true,Bool.true_eq_false,and_self,and_true,true_and];done)|(simp only [*];omega)|(simp [*];done)|(simp [*];omega))] at he|rewrite [if_neg (by first|omega|assumption|(simp only [*,or_self,or_true,true_or,or_false,false_or,not_true_eq_false,not_false_eq_true,Bool.false_eq_true,Bool.true_eq_false,and_self,and_true,true_and];done)|(simp only [*];omega)|(simp [*];done)|(simp [*];omega))] at he));subst he;((repeat(first|rewrite [if_pos (by first|omega|assumption|(simp only [*,or_self,or_true,true_or,or_false,false_or,not_true_eq_false,not_false_eq_true,Bool.false_eq_true,Bool.true_eq_false,and_self,and_true,true_and];done)|(simp only [*];omega)|(simp [*];done)|(simp [*];omega))] at hl|rewrite [if_neg (by first|omega|assumption|(simp only [*,or_self,or_true,true_or,or_false,false_or,not_true_eq_false,not_false_eq_true,Bool.false_eq_true,Bool.true_eq_false,and_self,and_true,true_and];done)|(simp only [*];omega)|(simp [*];done)|(simp [*];omega))] at hl)));subst hl;first|rfl|omega)
def ZF (I:Alg) (args:List D) (hp:List HO):Option CT:=match args,hp with
  |[.v (.one (.ptr 0 0)),.v (.one (.p (.int .i64 id))),.v (.one (.p (.int .i64 size)))],[.pack [.obj 88 [(.row 1),(.p (.int .i64 n))],.row .upl 86 l]]=>(fun(l:List Upl) (n id size:Int)=>(some (.one ⟨I.hid (zF l n),(.ret (.v (.one (.p (.int .i64 (I.hid ((decC l id size)))))))),[.pack [.obj 88 [(.row 1),(.p (.int .i64 n))],.row .upl 86 (I.hid ((decL l id size)))]]⟩):Option CT)) l n id size
  |_,_=>none
theorem zaz:zx Tryz.prog 202 (ZF alg):=by
  intro args hp r h
  unfold ZF at h
  split at h
  · cases h;exact fun hn=>zmA _ _ _ _ hn
  · cases h
def zg0:Know Tryz.prog:=⟨202,ZF,zaz⟩
def zgZ:Know Tryz.prog:=⟨202,fun I=>zy I (ZF I),zf zaz⟩
theorem zuK (a b:Int) (m y:Str) (t:Int):Spc Tryz.prog 236 [.v (.agg [(.p (.int .i64 a)),(.p (.int .i64 b)),(.p (.str m)),(.p (.list .byte y)),(.p (.int .i64 t))])] [] (.ret (.v (.one (.p (.bool ((b == (y.length:Int)))))))) []:=by
  refine spcG zh mixed Tryz.func236 (by kernel_rfl) { keep:=some [0,1,2]} [] (by kernel_rfl) ?_
  intro I X hI hX
  refine orcL ?_;go_invoke;refine orcS (by kernel_rfl) ?_
  simp only [zi,Nat.reduceAdd]
  subst hI
  simp only [nrmA,nrmB]
  try trivial
def Rx (I:Alg) (args:List D) (hp:List HO):Option CT:=match args,hp with
  |[.v (.agg [(.p (.int .i64 a)),(.p (.int .i64 b)),(.p (.str m)),(.p (.list .byte y)),(.p (.int .i64 t))])],[]=>(fun(a b:Int) (m y:Str) (t:Int)=>(some (.one ⟨I.hid (True),(.ret (.v (.one (.p (.bool (I.hid ((b == (y.length:Int))))))))),[]⟩):Option CT)) a b m y t
  |_,_=>none
theorem zif:zx Tryz.prog 236 (Rx alg):=by
  intro args hp r h
  unfold Rx at h
  split at h
  · cases h;exact fun hn=>zuK _ _ _ _ _
  · cases h
def zpx:Know Tryz.prog:=⟨236,Rx,zif⟩
def zpw:Know Tryz.prog:=⟨236,fun I=>zy I (Rx I),zf zif⟩
theorem zsW (l:List Upl) (n id:Int) (hneed:zF l n):Spc Tryz.prog 204 [.v (.one (.ptr 0 0)),.v (.one (.p (.int .i64 id)))] [.pack [.obj 88 [(.row 1),(.p (.int .i64 n))],.row .upl 86 l]] (.ret (.v (.one (.p (.int .i64 ((begC l id))))))) [.pack [.obj 88 [(.row 1),(.p (.int .i64 n))],.row .upl 86 ((begL l id))]]:=by
  have hs:=hneed
  have hf:=X0 hs
  generalize he:begC l id=re
  generalize hl:begL l id=rl
  refine spcG zh mixed Tryz.func204 (by kernel_rfl) { zbs with bare:=[51],keep:=some [0,1,4,5,6]} [zb4,zb3,zpx,zpw] (by kernel_rfl) ?_
  intro I X hI hX
  refine orcL ?_;go_invoke;refine orcS (by kernel_rfl) ?_
  simp only [zi,Nat.reduceAdd]
  subst hI
  simp only [nrmA,nrmB,nrlB,reduceCtorEq,HO.pack.injEq,HO.obj.injEq]
  unfold begL at hl
  rw [he] at hl
  unfold begC at he
  unfold xh upl0 at he hl
  generalize l.getD (atU l id) ⟨0,0,[],[],0⟩=x at *
  (repeat' (first|refine And.intro ?_ ?_|intro _))<;>first|omega|exact True.intro|exact False.elim ‹False›|skip
  all_goals first
    |exact hf.1
    |((repeat(first|rewrite [if_pos (by first|omega|assumption|(simp only [*,or_self,or_true,true_or,or_false,false_or,not_true_eq_false,not_false_eq_true,Bool.false_eq_true,Bool.true_eq_false,and_self,and_true,true_and];done)|(simp only [*];omega)|(simp [*];done)|(simp [*];omega))] at he|rewrite [if_neg (by first|omega|assumption|(simp only [*,or_self,or_true,true_or,or_false,false_or,not_true_eq_false,not_false_eq_true,Bool.false_eq_true,Bool.true_eq_false,and_self,and_true,true_and];done)|(simp only [*];omega)|(simp [*];done)|(simp [*];omega))] at he));subst he;((repeat(first|rewrite [if_pos (by first|omega|assumption|(simp only [*,or_self,or_true,true_or,or_false,false_or,not_true_eq_false,not_false_eq_true,Bool.false_eq_true,Bool.true_eq_false,and_self,and_true,true_and];done)|(simp only [*];omega)|(simp [*];done)|(simp [*];omega))] at hl|rewrite [if_neg (by first|omega|assumption|(simp only [*,or_self,or_true,true_or,or_false,false_or,not_true_eq_false,not_false_eq_true,Bool.false_eq_true,Bool.true_eq_false,and_self,and_true,true_and];done)|(simp only [*];omega)|(simp [*];done)|(simp [*];omega))] at hl)));subst hl;first|rfl|omega)
def WS (I:Alg) (args:List D) (hp:List HO):Option CT:=match args,hp with
  |[.v (.one (.ptr 0 0)),.v (.one (.p (.int .i64 id)))],[.pack [.obj 88 [(.row 1),(.p (.int .i64 n))],.row .upl 86 l]]=>(fun(l:List Upl) (n id:Int)=>(some (.one ⟨I.hid (zF l n),(.ret (.v (.one (.p (.int .i64 (I.hid ((begC l id)))))))),[.pack [.obj 88 [(.row 1),(.p (.int .i64 n))],.row .upl 86 (I.hid ((begL l id)))]]⟩):Option CT)) l n id
  |_,_=>none
theorem zeU:zx Tryz.prog 204 (WS alg):=by
  intro args hp r h
  unfold WS at h
  split at h
  · cases h;exact fun hn=>zsW _ _ _ hn
  · cases h
def zmF:Know Tryz.prog:=⟨204,WS,zeU⟩
def zmE:Know Tryz.prog:=⟨204,fun I=>zy I (WS I),zf zeU⟩
theorem zw0 (l:List Upl) (n id:Int) (hneed:zF l n):Spc Tryz.prog 205 [.v (.one (.ptr 0 0)),.v (.one (.p (.int .i64 id)))] [.pack [.obj 88 [(.row 1),(.p (.int .i64 n))],.row .upl 86 l]] (.ret (.v (.one (.p (.int .i64 ((endC l id))))))) [.pack [.obj 88 [(.row 1),(.p (.int .i64 n))],.row .upl 86 ((endL l id))]]:=by
  have hs:=hneed
  have hf:=X0 hs
  generalize he:endC l id=re
  generalize hl:endL l id=rl
  refine spcG zh mixed Tryz.func205 (by kernel_rfl) { zbs with bare:=[51],keep:=some [0,1,4,5,6]} [zb4,zb3] (by kernel_rfl) ?_
  intro I X hI hX
  refine orcL ?_;go_invoke;refine orcS (by kernel_rfl) ?_
  simp only [zi,Nat.reduceAdd]
  subst hI
  simp only [nrmA,nrmB,nrlB,reduceCtorEq,HO.pack.injEq,HO.obj.injEq]
  unfold endL at hl
  rw [he] at hl
  unfold endC at he
  unfold xh upl0 at he hl
  generalize l.getD (atU l id) ⟨0,0,[],[],0⟩=x at *
  (repeat' (first|refine And.intro ?_ ?_|intro _))<;>first|omega|exact True.intro|exact False.elim ‹False›|skip
  all_goals first
    |exact hf.1
    |((repeat(first|rewrite [if_pos (by first|omega|assumption|(simp only [*,or_self,or_true,true_or,or_false,false_or,not_true_eq_false,not_false_eq_true,Bool.false_eq_true,Bool.true_eq_false,and_self,and_true,true_and];done)|(simp only [*];omega)|(simp [*];done)|(simp [*];omega))] at he|rewrite [if_neg (by first|omega|assumption|(simp only [*,or_self,or_true,true_or,or_false,false_or,not_true_eq_false,not_false_eq_true,Bool.false_eq_true,Bool.true_eq_false,and_self,and_true,true_and];done)|(simp only [*];omega)|(simp [*];done)|(simp [*];omega))] at he));subst he;((repeat(first|rewrite [if_pos (by first|omega|assumption|(simp only [*,or_self,or_true,true_or,or_false,false_or,not_true_eq_false,not_false_eq_true,Bool.false_eq_true,Bool.true_eq_false,and_self,and_true,true_and];done)|(simp only [*];omega)|(simp [*];done)|(simp [*];omega))] at hl|rewrite [if_neg (by first|omega|assumption|(simp only [*,or_self,or_true,true_or,or_false,false_or,not_true_eq_false,not_false_eq_true,Bool.false_eq_true,Bool.true_eq_false,and_self,and_true,true_and];done)|(simp only [*];omega)|(simp [*];done)|(simp [*];omega))] at hl)));subst hl;first|rfl|omega)
def zds (I:Alg) (args:List D) (hp:List HO):Option CT:=match args,hp with
  |[.v (.one (.ptr 0 0)),.v (.one (.p (.int .i64 id)))],[.pack [.obj 88 [(.row 1),(.p (.int .i64 n))],.row .upl 86 l]]=>(fun(l:List Upl) (n id:Int)=>(some (.one ⟨I.hid (zF l n),(.ret (.v (.one (.p (.int .i64 (I.hid ((endC l id)))))))),[.pack [.obj 88 [(.row 1),(.p (.int .i64 n))],.row .upl 86 (I.hid ((endL l id)))]]⟩):Option CT)) l n id
  |_,_=>none
theorem zmz:zx Tryz.prog 205 (zds alg):=by
  intro args hp r h
  unfold zds at h
  split at h
  · cases h;exact fun hn=>zw0 _ _ _ hn
  · cases h
def zsV:Know Tryz.prog:=⟨205,zds,zmz⟩
def zsU:Know Tryz.prog:=⟨205,fun I=>zy I (zds I),zf zmz⟩
theorem zvh (l:List Upl) (n:Int) (hneed:0≤n∧n≤1000000):Spc Tryz.prog 160 [.v (.one (.ptr 0 0))] [.pack [.obj 88 [(.row 1),(.p (.int .i64 n))],.row .upl 86 l]] (.ret (.v (.one (.p (.int .i64 ((n+1))))))) [.pack [.obj 88 [(.row 1),(.p (.int .i64 n))],.row .upl 86 l]]:=by
  refine spcG zh mixed Tryz.func160 (by kernel_rfl) { zbs with keep:=some [0,2]} [] (by kernel_rfl) ?_
  intro I X hI hX
  refine orcL ?_;go_invoke;refine orcS (by kernel_rfl) ?_
  simp only [zi,Nat.reduceAdd]
  subst hI
  simp only [nrmA,nrmB]
  (repeat' (first|refine And.intro ?_ ?_|intro _))<;>first|omega|exact True.intro|exact False.elim ‹False›|skip
def Qc (I:Alg) (args:List D) (hp:List HO):Option CT:=match args,hp with
  |[.v (.one (.ptr 0 0))],[.pack [.obj 88 [(.row 1),(.p (.int .i64 n))],.row .upl 86 l]]=>(fun(l:List Upl) (n:Int)=>(some (.one ⟨I.hid (0≤n∧n≤1000000),(.ret (.v (.one (.p (.int .i64 (I.hid ((n+1)))))))),[.pack [.obj 88 [(.row 1),(.p (.int .i64 n))],.row .upl 86 l]]⟩):Option CT)) l n
  |_,_=>none
theorem ziO:zx Tryz.prog 160 (Qc alg):=by
  intro args hp r h
  unfold Qc at h
  split at h
  · cases h;exact fun hn=>zvh _ _ hn
  · cases h
def zp1:Know Tryz.prog:=⟨160,Qc,ziO⟩
def zp0:Know Tryz.prog:=⟨160,fun I=>zy I (Qc I),zf ziO⟩
theorem zwY:Spc Tryz.prog 22 [] [] (.ret (.v (.one (.ptr 0 0)))) [.pack [.obj 88 [(.row 1),(.p (.int .i64 0))],.row .upl 86 ([])]]:=by
  refine spcG zh mixed Tryz.func22 (by kernel_rfl) { zbs with keep:=some [0]} [] (by kernel_rfl) ?_
  intro I X hI hX
  refine orcL ?_;go_invoke;refine orcS (by kernel_rfl) ?_
  simp only [zi,Nat.reduceAdd]
  trivial
def zdq (I:Alg) (args:List D) (hp:List HO):Option CT:=match args,hp with
  |[],[]=>(fun(_:Unit)=>(some (.one ⟨I.hid (True),(.ret (.v (.one (.ptr 0 0)))),[.pack [.obj 88 [(.row 1),(.p (.int .i64 0))],.row .upl 86 (I.hid ([]))]]⟩):Option CT)) ()
  |_,_=>none
theorem zmw:zx Tryz.prog 22 (zdq alg):=by
  intro args hp r h
  unfold zdq at h
  split at h
  · cases h;exact fun hn=>zwY
  · cases h
def zsS:Know Tryz.prog:=⟨22,zdq,zmw⟩
def zsR:Know Tryz.prog:=⟨22,fun I=>zy I (zdq I),zf zmw⟩
def getB (l:List Upl) (id:Int):Bool:=decide (atU l id<l.length)
def getU (l:List Upl) (id:Int):Upl:=if atU l id<l.length then xh l id else upl0
theorem zrN (l:List Upl) (n id:Int) (hneed:zF l n):Spc Tryz.prog 28 [.v (.one (.ptr 0 0)),.v (.one (.p (.int .i64 id)))] [.obj 88 [(.row 1),(.p (.int .i64 n))],.row .upl 86 l] (.ret (.tup [(.agg [(.p (.int .i64 ((getU l id).id))),(.p (.int .i64 ((getU l id).size))),(.p (.str ((getU l id).note))),(.p (.list .byte ((getU l id).bytes))),(.p (.int .i64 ((getU l id).sent)))]),(.one (.p (.bool ((getB l id)))))])) [.obj 88 [(.row 1),(.p (.int .i64 n))],.row .upl 86 l]:=by
  have hs:=hneed
  have hf:=X0 hs
  generalize he:getU l id=re
  obtain⟨a,b,c,d,e⟩:=re
  generalize hl:getB l id=rl
  refine spcG zh mixed Tryz.func28 (by kernel_rfl) { zbs with flat:=true,bare:=[51],keep:=some [0,1,4,5,6,7,8]} [QZ,Uu,zb4,zb3] (by kernel_rfl) ?_
  intro I X hI hX
  refine orcL ?_;go_invoke;refine orcS (by kernel_rfl) ?_
  simp only [zi,Nat.reduceAdd]
  subst hI
  simp only [nrmA,nrmB,nrlB,reduceCtorEq]
  unfold getU at he
  unfold getB at hl
  unfold xh upl0 at he
  have hx:atU l id<l.length→_:=fun h=>(hs.each _ (rM h)).bl
  unfold xh upl0 at hx
  generalize l.getD (atU l id) ⟨0,0,[],[],0⟩=x at *
  by_cases h:atU l id<l.length
  · rw [if_pos h] at he
    rw [decide_eq_true h] at hl
    subst he;subst hl
    have hx:=hx h
    (repeat' (first|refine And.intro ?_ ?_|intro _))<;>first|omega|exact True.intro|exact False.elim ‹False›|skip
    all_goals first|exact hf.1|rfl
  · rw [if_neg h] at he
    rw [decide_eq_false h] at hl
    cases he;subst hl
    (repeat' (first|refine And.intro ?_ ?_|intro _))<;>first|omega|exact True.intro|exact False.elim ‹False›|skip
    all_goals first|exact hf.1|rfl|assumption
def Qe (I:Alg) (args:List D) (hp:List HO):Option CT:=match args,hp with
  |[.v (.one (.ptr 0 0)),.v (.one (.p (.int .i64 id)))],[.obj 88 [(.row 1),(.p (.int .i64 n))],.row .upl 86 l]=>(fun(l:List Upl) (n id:Int)=>(some (.one ⟨I.hid (zF l n),(.ret (.tup [(.agg [(.p (.int .i64 (I.hid ((getU l id).id)))),(.p (.int .i64 (I.hid ((getU l id).size)))),(.p (.str (I.hid ((getU l id).note)))),(.p (.list .byte (I.hid ((getU l id).bytes)))),(.p (.int .i64 (I.hid ((getU l id).sent))))]),(.one (.p (.bool (I.hid ((getB l id))))))])),[.obj 88 [(.row 1),(.p (.int .i64 n))],.row .upl 86 l]⟩):Option CT)) l n id
  |_,_=>none
theorem ziQ:zx Tryz.prog 28 (Qe alg):=by
  intro args hp r h
  unfold Qe at h
  split at h
  · cases h;exact fun hn=>zrN _ _ _ hn
  · cases h
def Y2:Know Tryz.prog:=⟨28,Qe,ziQ⟩
def Y1:Know Tryz.prog:=⟨28,fun I=>zy I (Qe I),zf ziQ⟩
theorem zwZ (l:List Upl) (n id:Int) (hneed:zF l n):Spc Tryz.prog 28 [.v (.one (.ptr 0 0)),.v (.one (.p (.int .i64 id)))] [.pack [.obj 88 [(.row 1),(.p (.int .i64 n))],.row .upl 86 l]] (.ret (.tup [(.agg [(.p (.int .i64 ((getU l id).id))),(.p (.int .i64 ((getU l id).size))),(.p (.str ((getU l id).note))),(.p (.list .byte ((getU l id).bytes))),(.p (.int .i64 ((getU l id).sent)))]),(.one (.p (.bool ((getB l id)))))])) [.pack [.obj 88 [(.row 1),(.p (.int .i64 n))],.row .upl 86 l]]:=
  Spc.packed (ex:=[]) (zrN l n id hneed) rfl (by simp) rfl
def zdr (I:Alg) (args:List D) (hp:List HO):Option CT:=match args,hp with
  |[.v (.one (.ptr 0 0)),.v (.one (.p (.int .i64 id)))],[.pack [.obj 88 [(.row 1),(.p (.int .i64 n))],.row .upl 86 l]]=>(fun(l:List Upl) (n id:Int)=>(some (.one ⟨I.hid (zF l n),(.ret (.tup [(.agg [(.p (.int .i64 (I.hid ((getU l id).id)))),(.p (.int .i64 (I.hid ((getU l id).size)))),(.p (.str (I.hid ((getU l id).note)))),(.p (.list .byte (I.hid ((getU l id).bytes)))),(.p (.int .i64 (I.hid ((getU l id).sent))))]),(.one (.p (.bool (I.hid ((getB l id))))))])),[.pack [.obj 88 [(.row 1),(.p (.int .i64 n))],.row .upl 86 l]]⟩):Option CT)) l n id
  |_,_=>none
theorem zmy:zx Tryz.prog 28 (zdr alg):=by
  intro args hp r h
  unfold zdr at h
  split at h
  · cases h;exact fun hn=>zwZ _ _ _ hn
  · cases h
def UZ:Know Tryz.prog:=⟨28,zdr,zmy⟩
def UY:Know Tryz.prog:=⟨28,fun I=>zy I (zdr I),zf zmy⟩
theorem ztL {l:List Upl} (h:l.Pairwise fun a b=>a.id<b.id) {i:Nat} (hi:i<l.length):getU l (l.getD i ⟨0,0,[],[],0⟩).id=l.getD i ⟨0,0,[],[],0⟩:=by
  have e:l.getD i ⟨0,0,[],[],0⟩=l[i]:=by simp [hi]
  have ha:=zxx h hi
  rw [e,getU,ha,if_pos hi,xh,ha]
  simp [hi]
theorem zmx (l:List Upl) (n:Int) (hneed:zF l n):Spc Tryz.prog 13 [.v (.one (.ptr 0 0))] [.obj 88 [(.row 1),(.p (.int .i64 n))],.row .upl 86 l] (.ret (.v (.one (.row 2)))) [.obj 88 [(.row 1),(.p (.int .i64 n))],.row .upl 86 l,.row .upl 86 l]:=by
  have hs:=hneed
  have hf:=X0 hs
  refine spcG zh mixed Tryz.func13 (by kernel_rfl) { zbs with flat:=true,bare:=[28],nr:=[3],keep:=some [0,2,3,5,6,11,12,13]} [Y2,Y1,UZ,UY] (by kernel_rfl) ?_
  intro I X hI hX
  refine orcL ?_;go_invoke;refine orcS (by kernel_rfl) ?_
  simp only [zi,Nat.reduceAdd]
  refine zC hI zh mixed [Y2,Y1,UZ,UY] hX [0,3,11,12,13] (fun(g:Nat × List Upl)=>match g with|(i,o)=>i≤l.length∧o=l.take i) (fun(g:Nat × List Upl)=>match g with|(i,o)=>⟨[(0,.v (.one (.ptr 0 0))),(3,.v (.one (.row 2))),(11,.v (.one (.row 1))),(12,.v (.one (.p (.int .i64 ((I.len (α:=Upl) l)))))),(13,.v (.one (.p (.int .i64 i))))],[.obj 88 [(.row 1),(.p (.int .i64 n))],.row .upl 86 l,.row .upl 86 o],30,none⟩) (fun(g:Nat × List Upl)=>match g with|(i,o)=>l.length - i) (0,[]) (by kernel_rfl) (by kernel_rfl) ?_ ?_
  · exact⟨Nat.zero_le _,rfl⟩
  rintro⟨i,o⟩ ⟨h1,h2⟩ A hA
  simp only at hA
  refine orcL ?_;go_invoke;refine orcS (by kernel_rfl) ?_
  simp only [zi,Nat.reduceAdd]
  subst hI
  simp only [nrmA,nrmB,nrlB,reduceCtorEq]
  have hx:i<l.length→_:=ztL hs.srt
  have hy:i<l.length→l.take (i+1)=l.take i++[l.getD i ⟨0,0,[],[],0⟩]:=fun h=>by rw [List.take_succ_eq_append_getElem h];simp [h]
  have hw: ¬ i<l.length→o=l:=fun h=>by rw [h2,List.take_of_length_le (by omega)]
  have hol:o.length≤i:=by rw [h2,List.length_take];omega
  refine⟨fun c=> ?_,fun c=>hw (by omega)⟩
  rw [hx (by omega)]
  have hy:=hy (by omega)
  generalize l.getD i ⟨0,0,[],[],0⟩=x at *
  simp only [List.length_cons,List.length_nil]
  (repeat' (first|refine And.intro ?_ ?_|intro _))<;>first|omega|exact True.intro|exact False.elim ‹False›|skip
  all_goals first
    |exact hs
    |exact hA (i+1,_) ⟨by simp only;omega,by simp only;rw [hy,h2]⟩ (by simp only;omega)
def WR (I:Alg) (args:List D) (hp:List HO):Option CT:=match args,hp with
  |[.v (.one (.ptr 0 0))],[.obj 88 [(.row 1),(.p (.int .i64 n))],.row .upl 86 l]=>(fun(l:List Upl) (n:Int)=>(some (.one ⟨I.hid (zF l n),(.ret (.v (.one (.row 2)))),[.obj 88 [(.row 1),(.p (.int .i64 n))],.row .upl 86 l,.row .upl 86 l]⟩):Option CT)) l n
  |_,_=>none
theorem zeT:zx Tryz.prog 13 (WR alg):=by
  intro args hp r h
  unfold WR at h
  split at h
  · cases h;exact fun hn=>zmx _ _ hn
  · cases h
def Zk:Know Tryz.prog:=⟨13,WR,zeT⟩
def Zj:Know Tryz.prog:=⟨13,fun I=>zy I (WR I),zf zeT⟩
theorem zvi (l:List Upl) (n:Int) (hneed:zF l n):Spc Tryz.prog 13 [.v (.one (.ptr 0 0))] [.pack [.obj 88 [(.row 1),(.p (.int .i64 n))],.row .upl 86 l]] (.ret (.v (.one (.row 1)))) [.pack [.obj 88 [(.row 1),(.p (.int .i64 n))],.row .upl 86 l],.row .upl 86 l]:=
  Spc.packed (os':=[_,_]) (ex:=[_]) (zmx l n hneed) rfl (by simp) rfl
def Qd (I:Alg) (args:List D) (hp:List HO):Option CT:=match args,hp with
  |[.v (.one (.ptr 0 0))],[.pack [.obj 88 [(.row 1),(.p (.int .i64 n))],.row .upl 86 l]]=>(fun(l:List Upl) (n:Int)=>(some (.one ⟨I.hid (zF l n),(.ret (.v (.one (.row 1)))),[.pack [.obj 88 [(.row 1),(.p (.int .i64 n))],.row .upl 86 l],.row .upl 86 l]⟩):Option CT)) l n
  |_,_=>none
theorem ziP:zx Tryz.prog 13 (Qd alg):=by
  intro args hp r h
  unfold Qd at h
  split at h
  · cases h;exact fun hn=>zvi _ _ hn
  · cases h
def Y0:Know Tryz.prog:=⟨13,Qd,ziP⟩
def YZ:Know Tryz.prog:=⟨13,fun I=>zy I (Qd I),zf ziP⟩
theorem zvk (l:List Upl) (n:Int) (hneed:zF l n):Spc Tryz.prog 166 [.v (.one (.ptr 0 0))] [.pack [.obj 88 [(.row 1),(.p (.int .i64 n))],.row .upl 86 l]] (.ret (.v (.one (.ptr 1 0)))) [.pack [.obj 88 [(.row 1),(.p (.int .i64 n))],.row .upl 86 l],.pack [.obj 88 [(.row 1),(.p (.int .i64 n))],.row .upl 86 l]]:=by
  refine spcG zh mixed Tryz.func166 (by kernel_rfl) { zbs with keep:=some [0,2]} [Zk,Zj,Y0,YZ] (by kernel_rfl) ?_
  intro I X hI hX
  refine orcL ?_;go_invoke;refine orcS (by kernel_rfl) ?_
  simp only [zi,Nat.reduceAdd]
  subst hI
  simp only [nrmA,nrmB,nrlB,reduceCtorEq,HO.pack.injEq,HO.obj.injEq]
  exact⟨hneed,hneed⟩
def Qh (I:Alg) (args:List D) (hp:List HO):Option CT:=match args,hp with
  |[.v (.one (.ptr 0 0))],[.pack [.obj 88 [(.row 1),(.p (.int .i64 n))],.row .upl 86 l]]=>(fun(l:List Upl) (n:Int)=>(some (.one ⟨I.hid (zF l n),(.ret (.v (.one (.ptr 1 0)))),[.pack [.obj 88 [(.row 1),(.p (.int .i64 n))],.row .upl 86 l],.pack [.obj 88 [(.row 1),(.p (.int .i64 n))],.row .upl 86 l]]⟩):Option CT)) l n
  |_,_=>none
theorem ziS:zx Tryz.prog 166 (Qh alg):=by
  intro args hp r h
  unfold Qh at h
  split at h
  · cases h;exact fun hn=>zvk _ _ hn
  · cases h
def zp6:Know Tryz.prog:=⟨166,Qh,ziS⟩
def zp5:Know Tryz.prog:=⟨166,fun I=>zy I (Qh I),zf ziS⟩
theorem zva (a b:Int) (m y:Str) (t d:Int):Spc Tryz.prog 235 [.v (.agg [(.p (.int .i64 a)),(.p (.int .i64 b)),(.p (.str m)),(.p (.list .byte y)),(.p (.int .i64 t))]),.v (.one (.ptr 0 0))] [.pack [.obj 3 [(.p (.int .i64 d))]]] (.ret (.v (.one (.p (.bool ((a == d))))))) [.pack [.obj 3 [(.p (.int .i64 d))]]]:=by
  refine spcG zh mixed Tryz.func235 (by kernel_rfl) { keep:=some [0,1,2,3]} [] (by kernel_rfl) ?_
  intro I X hI hX
  refine orcL ?_;go_invoke;refine orcS (by kernel_rfl) ?_
  simp only [zi,Nat.reduceAdd]
  subst hI
  simp only [nrmA,nrmB,nrlB,reduceCtorEq,HO.pack.injEq,HO.obj.injEq]
def RN (I:Alg) (args:List D) (hp:List HO):Option CT:=match args,hp with
  |[.v (.agg [(.p (.int .i64 a)),(.p (.int .i64 b)),(.p (.str m)),(.p (.list .byte y)),(.p (.int .i64 t))]),.v (.one (.ptr 0 0))],[.pack [.obj 3 [(.p (.int .i64 d))]]]=>(fun(a b:Int) (m y:Str) (t d:Int)=>(some (.one ⟨I.hid (True),(.ret (.v (.one (.p (.bool (I.hid ((a == d)))))))),[.pack [.obj 3 [(.p (.int .i64 d))]]]⟩):Option CT)) a b m y t d
  |_,_=>none
theorem ziB:zx Tryz.prog 235 (RN alg):=by
  intro args hp r h
  unfold RN at h
  split at h
  · cases h;exact fun hn=>zva _ _ _ _ _ _
  · cases h
def WJ:Know Tryz.prog:=⟨235,RN,ziB⟩
def zpO:Know Tryz.prog:=⟨235,fun I=>zy I (RN I),zf ziB⟩
theorem zu9 (l:List Upl) (d:Int) (hneed:l.length≤1000000):Spc Tryz.prog 90 [.v (.one (.p (.list .upl l))),.v (.one (.fn 235 [.ptr 0 0]))] [.pack [.obj 3 [(.p (.int .i64 d))]]] (.ret (.v (.one (.p (.int .i64 ((ixU l d))))))) [.pack [.obj 3 [(.p (.int .i64 d))]]]:=by
  refine spcG zh mixed Tryz.func90 (by kernel_rfl) { keep:=some [0,1,4,5,7,8]} [WJ,UR,UQ] (by kernel_rfl) ?_
  intro I X hI hX
  refine orcL ?_;go_invoke;refine orcS (by kernel_rfl) ?_
  simp only [zi,Nat.reduceAdd]
  refine zC hI zh mixed [WJ,UR,UQ] hX [0,1,7,8] (fun(i:Nat)=>i≤l.length∧i≤atU l d) (fun(i:Nat)=>⟨[(0,.v (.one (.p (.list .upl l)))),(1,.v (.one (.fn 235 [.ptr 0 0]))),(7,.v (.one (.p (.int .i64 ((I.len (α:=Upl) l)))))),(8,.v (.one (.p (.int .i64 i))))],[.pack [.obj 3 [(.p (.int .i64 d))]]],19,none⟩) (fun(i:Nat)=>l.length - i) 0 (by kernel_rfl) (by kernel_rfl) ?_ ?_
  · exact⟨Nat.zero_le _,Nat.zero_le _⟩
  rintro i ⟨h1,h2⟩ A hA
  refine orcL ?_;go_invoke;refine orcS (by kernel_rfl) ?_
  simp only [zi,Nat.reduceAdd]
  subst hI
  simp only [nrmA,nrmB]
  have hx:=fun h=>zkt (l:=l) (id:=d) (i:=i) h h2
  have hle:=zpb l d
  have e0:(⟨0,0,[],[],0⟩:Upl)=upl0:=rfl
  simp only [e0]
  unfold ixU
  (repeat' (first|refine And.intro ?_ ?_|intro _))<;>first|omega|exact True.intro|exact False.elim ‹False›|skip
  all_goals first
    |(have h3:=hx (by omega);rw [if_pos (by assumption)] at h3;rw [if_pos (by omega),h3])
    |(have h3:=hx (by omega);rw [if_neg (by assumption)] at h3;exact hA (i+1) ⟨by omega,h3⟩ (by omega))
    |(rw [if_neg (by omega)])
def RJ (I:Alg) (args:List D) (hp:List HO):Option CT:=match args,hp with
  |[.v (.one (.p (.list .upl l))),.v (.one (.fn 235 [.ptr 0 0]))],[.pack [.obj 3 [(.p (.int .i64 d))]]]=>(fun(l:List Upl) (d:Int)=>(some (.one ⟨I.hid (l.length≤1000000),(.ret (.v (.one (.p (.int .i64 (I.hid ((ixU l d)))))))),[.pack [.obj 3 [(.p (.int .i64 d))]]]⟩):Option CT)) l d
  |_,_=>none
theorem ziA:zx Tryz.prog 90 (RJ alg):=by
  intro args hp r h
  unfold RJ at h
  split at h
  · cases h;exact fun hn=>zu9 _ _ hn
  · cases h
def ziz:Know Tryz.prog:=⟨90,RJ,ziA⟩
def ziy:Know Tryz.prog:=⟨90,fun I=>zy I (RJ I),zf ziA⟩
def notU (d:Int) (u:Upl):Bool:= !(u.id == d)
theorem zvb (l:List Upl) (d:Int) (hneed:l.length≤1000000):Spc Tryz.prog 234 [.v (.one (.row 0)),.v (.one (.fn 235 [.ptr 1 0]))] [.row .upl 86 l,.pack [.obj 3 [(.p (.int .i64 d))]]] (.ret (.v (.one (.row 2)))) [.gone,.pack [.obj 3 [(.p (.int .i64 d))]],.row .upl 86 ((l.filter (notU d)))]:=by
  refine spcG zh mixed Tryz.func234 (by kernel_rfl) { mv:=[0],cut:=[4],keep:=some [0,1,4,5,6,7]} [WJ,UR,UQ,ziz,ziy] (by kernel_rfl) ?_
  intro I X hI hX
  refine orcL ?_;go_invoke;refine orcS (by kernel_rfl) ?_
  simp only [zi,Nat.reduceAdd]
  have hfd: ∀ i,i≤atU l d→(l.take i).filter (notU d)=l.take i:=fun i hi=>List.filter_eq_self.2 fun u hu=>by
    obtain⟨j,hj⟩:=List.getElem?_of_mem hu
    rw [List.getElem?_take] at hj
    split at hj
    · rename_i hji
      obtain⟨hjl,he⟩:=List.getElem?_eq_some_iff.1 hj
      have:=List.not_of_lt_findIdx (p:=fun u:Upl=>u.id == d) (xs:=l) (i:=j) (by unfold atU at hi;omega)
      rw [← he]
      simpa [notU] using this
    · cases hj
  by_cases hk:atU l d<l.length
  · have hix:=znR hk
    have e1:I.hid (ixU l d)=((atU l d:Nat):Int):=by subst hI;exact hix
    have e2:I.add ((atU l d:Nat):Int) 1=((atU l d+1:Nat):Int):=by subst hI;rfl
    rw [e1,e2]
    have hst:(l.take (atU l d+1)).filter (notU d)=l.take (atU l d):=by
      rw [List.take_succ_eq_append_getElem hk,List.filter_append,hfd _ (Nat.le_refl _)]
      have:=zdb hk
      rw [vw hk] at this
      simp [notU,this]
    have hu0:=zdb hk
    generalize atU l d=k at *
    refine⟨by subst hI;exact hneed,fun h=> ?_,fun _=>⟨by subst hI;rw [TM,zdT,zdU];omega,?_⟩⟩
    · subst hI
      simp only [nrmA,nrmB] at h
      omega
    refine zC hI zh mixed [WJ,UR,UQ,ziz,ziy] hX [0,1,5,6] (fun(g:Nat × Nat × List Upl)=>match g with|(i,j,c)=>i<j∧j≤l.length∧c.length=l.length∧c.take i=(l.take j).filter (notU d)∧c.drop j=l.drop j) (fun(g:Nat × Nat × List Upl)=>match g with|(i,j,c)=>⟨[(0,.v (.one (.row 2))),(1,.v (.one (.fn 235 [.ptr 1 0]))),(5,.v (.one (.p (.int .i64 i)))),(6,.v (.one (.p (.int .i64 j))))],[.gone,.pack [.obj 3 [(.p (.int .i64 d))]],.row .upl 86 c],42,none⟩) (fun(g:Nat × Nat × List Upl)=>match g with|(i,j,c)=>l.length - j) (k,k+1,l) (by kernel_rfl) (by kernel_rfl) ?_ ?_
    · exact⟨by omega,by omega,rfl,hst.symm,rfl⟩
    rintro⟨i,j,c⟩ ⟨h1,h2,h3,h4,h5⟩ A hA
    simp only at hA h1 h2 h3 h4 h5
    refine orcL ?_;go_invoke;refine orcS (by kernel_rfl) ?_
    simp only [zi,Nat.reduceAdd]
    subst hI
    simp only [nrmA,nrmB,nrlB,reduceCtorEq]
    have hx:j<l.length→c.getD j ⟨0,0,[],[],0⟩=l.getD j ⟨0,0,[],[],0⟩:=fun h=>by
      have e:=congrArg (fun m:List Upl=>m[0]?) h5
      simp only [List.getElem?_drop,Nat.add_zero] at e
      simp only [List.getD_eq_getElem?_getD,e]
    have hf:j<l.length→(l.take (j+1)).filter (notU d)=(l.take j).filter (notU d)++(if notU d (l.getD j ⟨0,0,[],[],0⟩) then [l.getD j ⟨0,0,[],[],0⟩] else []):=fun h=>by
      rw [List.take_succ_eq_append_getElem h,List.filter_append]
      simp [h,List.filter_cons]
    have hdr: ∀ c':List Upl,c'.drop j=l.drop j→c'.drop (j+1)=l.drop (j+1):=fun c' h=>by
      have:=congrArg (List.drop 1) h
      simpa [List.drop_drop] using this
    have hend: ¬ j<l.length→c.take i=l.filter (notU d):=fun h=>by rw [h4,List.take_of_length_le (by omega)]
    rw [show(c.length:Int)=(l.length:Int) by rw [h3]]
    have hset: ∀ u:Upl,i<c.length→(c.set i u).take (i+1)=c.take i++[u]:=fun u h=>by
      rw [List.take_succ_eq_append_getElem (by rw [List.length_set];exact h),List.getElem_set_self,List.take_set_of_le (Nat.le_refl _)]
    have hsd: ∀ u:Upl,(c.set i u).drop j=l.drop j:=fun u=>by rw [List.drop_set_of_lt h1,h5]
    refine⟨fun c1=> ?_,fun c1=> ?_⟩
    · have hj:j<l.length:=by omega
      rw [hx hj]
      have hf:=hf hj
      generalize l.getD j ⟨0,0,[],[],0⟩=x at *
      (repeat' (first|refine And.intro ?_ ?_|intro _))<;>first|omega|exact True.intro|exact False.elim ‹False›|skip
      · rename_i hne
        refine hA (i+1,j+1,c.set i x) ⟨by simp only;omega,by simp only;omega,by simp only [List.length_set];exact h3,?_,hdr _ (hsd x)⟩ (by simp only;omega)
        simp only
        rw [hset x (by omega),hf,if_pos (by simp [notU,hne]),h4]
      · rename_i heq
        refine hA (i,j+1,c) ⟨by simp only;omega,by simp only;omega,h3,?_,hdr _ h5⟩ (by simp only;omega)
        simp only
        rw [hf,if_neg (by simp [notU,heq]),List.append_nil,h4]
    · have he:=hend (by omega)
      have hl:(c.take i).length=i:=by rw [List.length_take];omega
      (repeat' (first|refine And.intro ?_ ?_|intro _))<;>first|omega|exact True.intro|exact False.elim ‹False›|skip
      all_goals first
        |(simp only [List.length_append,List.length_take,List.length_replicate];omega)
        |(rw [List.take_append_of_le_length (by omega),List.take_take,Nat.min_self,he])
  · have hix:=znS hk
    have e1:I.hid (ixU l d)=(-1:Int):=by subst hI;exact hix
    rw [e1]
    have hall:l.filter (notU d)=l:=by
      have:=hfd l.length (by have:=zpb l d;omega)
      rwa [List.take_length] at this
    rw [hall]
    refine⟨by subst hI;exact hneed,fun _=>⟨trivial,rfl⟩,fun h=> ?_⟩
    subst hI
    simp [alg] at h
def RQ (I:Alg) (args:List D) (hp:List HO):Option CT:=match args,hp with
  |[.v (.one (.row 0)),.v (.one (.fn 235 [.ptr 1 0]))],[.row .upl 86 l,.pack [.obj 3 [(.p (.int .i64 d))]]]=>(fun(l:List Upl) (d:Int)=>(some (.one ⟨I.hid (l.length≤1000000),(.ret (.v (.one (.row 2)))),[.gone,.pack [.obj 3 [(.p (.int .i64 d))]],.row .upl 86 (I.hid ((l.filter (notU d))))]⟩):Option CT)) l d
  |_,_=>none
theorem ziC:zx Tryz.prog 234 (RQ alg):=by
  intro args hp r h
  unfold RQ at h
  split at h
  · cases h;exact fun hn=>zvb _ _ hn
  · cases h
def zpQ:Know Tryz.prog:=⟨234,RQ,ziC⟩
def zpP:Know Tryz.prog:=⟨234,fun I=>zy I (RQ I),zf ziC⟩
theorem zvj (l:List Upl) (n id:Int) (hneed:zF l n):Spc Tryz.prog 203 [.v (.one (.ptr 0 0)),.v (.one (.p (.int .i64 id)))] [.pack [.obj 88 [(.row 1),(.p (.int .i64 n))],.row .upl 86 l]] (.ret (.v (.one (.p (.int .i64 ((droC l id))))))) [.pack [.obj 88 [(.row 1),(.p (.int .i64 n))],.row .upl 86 ((droL l id))]]:=by
  have hs:=hneed
  have hf:=X0 hs
  have hfl:l.filter (notU id)=droL l id:=zoo hs.srt id
  generalize he:droC l id=re
  generalize hl:droL l id=rl at hfl
  refine spcG zh mixed Tryz.func203 (by kernel_rfl) { zbs with bare:=[51],keep:=some [0,1,3,4,6]} [zb4,zb3,WJ,zpO,zpQ,zpP] (by kernel_rfl) ?_
  intro I X hI hX
  refine orcL ?_;go_invoke;refine orcS (by kernel_rfl) ?_
  simp only [zi,Nat.reduceAdd]
  subst hI
  simp only [nrmA,nrmB,nrlB,reduceCtorEq,HO.pack.injEq,HO.obj.injEq]
  unfold droC at he
  (repeat' (first|refine And.intro ?_ ?_|intro _))<;>first|omega|exact True.intro|exact False.elim ‹False›|skip
  all_goals first
    |exact hf.1
    |exact hfl
    |((repeat(first|rewrite [if_pos (by first|omega|assumption|(simp only [*,or_self,or_true,true_or,or_false,false_or,not_true_eq_false,not_false_eq_true,Bool.false_eq_true,Bool.true_eq_false,and_self,and_true,true_and];done)|(simp only [*];omega)|(simp [*];done)|(simp [*];omega))] at he|rewrite [if_neg (by first|omega|assumption|(simp only [*,or_self,or_true,true_or,or_false,false_or,not_true_eq_false,not_false_eq_true,Bool.false_eq_true,Bool.true_eq_false,and_self,and_true,true_and];done)|(simp only [*];omega)|(simp [*];done)|(simp [*];omega))] at he));subst he;rfl)
    |(rw [← hl];unfold droL;rw [List.eraseIdx_of_length_le (by omega)])
def Qg (I:Alg) (args:List D) (hp:List HO):Option CT:=match args,hp with
  |[.v (.one (.ptr 0 0)),.v (.one (.p (.int .i64 id)))],[.pack [.obj 88 [(.row 1),(.p (.int .i64 n))],.row .upl 86 l]]=>(fun(l:List Upl) (n id:Int)=>(some (.one ⟨I.hid (zF l n),(.ret (.v (.one (.p (.int .i64 (I.hid ((droC l id)))))))),[.pack [.obj 88 [(.row 1),(.p (.int .i64 n))],.row .upl 86 (I.hid ((droL l id)))]]⟩):Option CT)) l n id
  |_,_=>none
theorem ziR:zx Tryz.prog 203 (Qg alg):=by
  intro args hp r h
  unfold Qg at h
  split at h
  · cases h;exact fun hn=>zvj _ _ _ hn
  · cases h
def zp3:Know Tryz.prog:=⟨203,Qg,ziR⟩
def zp2:Know Tryz.prog:=⟨203,fun I=>zy I (Qg I),zf ziR⟩
end Go.Proofs.YtmkcejdibmilmaaGreatDoor
namespace Go.Jrn
open Go Go.Ab
def sevF:Nat→Nat→Str
  |0,u=>[UInt8.ofNat u]
  |f+1,u=>if u<128 then [UInt8.ofNat u] else UInt8.ofNat (u % 128+128)::sevF f (u / 128)
def sev (u:Nat):Str:=sevF 9 u
theorem zeO: ∀ (f u:Nat),u<128 ^ (f+1)→∀ g,f≤g→sevF g u=sevF f u
  | 0,u,h,g,_=>by
    cases g with
    |zero=>rfl
    |succ g=>simp only [sevF];rw [if_pos (by simpa using h)]
  | f +1,u,h,g,hg=>by
    cases g with
    |zero=>omega
    | succ g=>
      rw [sevF,sevF]
      split
      · rfl
      · rw [zeO f (u / 128) (by rw [Nat.div_lt_iff_lt_mul (by omega)];rw [Nat.pow_succ] at h;exact h) g (by omega)]
theorem zmo {u:Nat} (h:u<128):sev u=[UInt8.ofNat u]:=by rw [sev,sevF,if_pos h]
theorem zsN {u:Nat} (h:128≤u) (hu:u<128 ^ 9):sev u=UInt8.ofNat (u % 128+128)::sev (u / 128):=by
  rw [sev,sevF,if_neg (by omega),sev,zeO 8 (u / 128) (Nat.lt_of_le_of_lt (Nat.div_le_self _ _) hu) 9 (by omega)]
theorem qU (u:Nat):1≤(sev u).length∧(sev u).length≤10:=by
  have h: ∀ f u,1≤(sevF f u).length∧(sevF f u).length≤f+1:=by
    intro f
    induction f with
    |zero=>intro u;exact⟨Nat.le_refl _,Nat.le_refl _⟩
    | succ f ih=>
      intro u
      rw [sevF]
      split
      · simp
      · have:=ih (u / 128);simp;omega
  exact h 9 u
def numF (i u:Nat):Str→Int × Str × Bool
  |[]=>(0,[],false)
  | c::r=>if 5≤i then(0,[],false) else
    if c.toNat<128 then((u+c.toNat * 128 ^ i:Nat) - 1,r,decide (i=0∨0<c.toNat)) else numF (i+1) (u+c.toNat % 128 * 128 ^ i) r
def num (b:Str):Int × Str × Bool:=numF 0 0 b
def few (n:Int):Bool:=decide (-1≤n)&&decide (n<1073741824)
def mayM (e:Ent):Bool:=decide (1≤e.kind)&&decide (e.kind≤6)&&few e.id&&few e.n&&decide (e.text.length<1048576)
def enc3 (e:Ent):Str:=sev (e.kind+1).toNat++sev (e.id+1).toNat++sev (e.n+1).toNat++e.text
def encB (e:Ent):Str:=sev ((enc3 e).length+1)++enc3 e
def encM (e:Ent):Str:=if mayM e then encB e else []
def encC (e:Ent):Int:=if mayM e then 0 else 1
def three (b:Str):Option (Int × Int × Int × Str):=
  match num b with
  | (k,r,true)=>(match num r with
    | (i,r,true)=>(match num r with
      |(n,r,true)=>some (k,i,n,r)
      |_=>none)
    |_=>none)
  |_=>none
def oneX (b:Str):Ent × Str × Bool:=
  match num b with
  | (n,r,true)=>if n<0∨(r.length:Int)<n then(⟨0,0,0,[]⟩,[],false) else
    match three (r.take n.toNat) with
    |some (k,i,m,t)=>(⟨k,i,m,t⟩,r.drop n.toNat,mayM ⟨k,i,m,t⟩)
    |none=>(⟨0,0,0,[]⟩,[],false)
  |_=>(⟨0,0,0,[]⟩,[],false)
def oneM (b:Str):Option (Ent × Str):=if(oneX b).2.2 then some ((oneX b).1,(oneX b).2.1) else none
def decF:Nat→Str→List Ent × Str
  |0,b=>([],b)
  | f+1,b=>match oneM b with
    |some (e,r)=>(e::(decF f r).1,(decF f r).2)
    |none=>([],b)
def dec (b:Str):List Ent × Str:=decF b.length b
end Go.Jrn
namespace Go.Proofs.YtmkcejdibmilmaaGreatDoor
open Go Go.Sep Go.Ab Go.Jrn
set_option maxRecDepth 100000
theorem zxd: ∀ u:Nat,u<256→IntKind.u8.wrap ((BitVec.ofInt IntKind.u8.bits (u:Int)|||BitVec.ofInt IntKind.u8.bits 128).toNat:Int)=((u % 128+128:Nat):Int):=by decide+kernel
theorem wrap_u8 (u:Nat):IntKind.u8.wrap (u:Int)=((u % 256:Nat):Int):=by
  unfold IntKind.wrap
  simp only [show IntKind.u8.signed=false by decide,show IntKind.u8.bits=8 by decide,Bool.false_and,Bool.false_eq_true,if_false]
  show(u:Int) % 256=_
  omega
theorem wrap_i64 (u:Int) (h: -9223372036854775808≤u∧u≤9223372036854775807):IntKind.i64.wrap u=u:=zgQ (k:=.i64) (by rw [TM,zdT,zdU];exact h)
theorem wrap_u64 (u:Int) (h:0≤u∧u≤9223372036854775807):IntKind.u64.wrap u=u:=zgQ (k:=.u64) (by
  rw [TM,show IntKind.u64.min=0 by decide,show IntKind.u64.max=18446744073709551615 by decide];omega)
theorem shr7 (u:Nat):(u:Int).fdiv (2 ^ min (Int.toNat 7) 64)=((u / 128:Nat):Int):=by
  show(u:Int).fdiv 128=_
  rw [Int.fdiv_eq_ediv_of_nonneg _ (by decide)]
  omega
theorem put_ (l:Str) (n:Int) (hneed: -1≤n∧n<34359738368∧l.length≤50000000):Spc Tryz.prog 207 [.v (.one (.row 0)),.v (.one (.p (.int .i64 n)))] [.row .byte 5 l] (.ret (.v (.one (.row 1)))) [.gone,.row .byte 5 ((l++sev (n+1).toNat))]:=by
  refine spcG zh mixed Tryz.func207 (by kernel_rfl) { mv:=[0],keep:=some [0,1,4,5]} [] (by kernel_rfl) ?_
  intro I X hI hX
  refine orcL ?_;go_invoke;refine orcS (by kernel_rfl) ?_
  simp only [zi,Nat.reduceAdd]
  refine⟨(by rw [hI];simp only [nrmA,nrmB];omega),?_⟩
  refine zC hI zh mixed [] hX [0,5] (fun(g:Str × Int)=>match g with|(m,u)=>0≤u∧u<68719476736∧m++sev u.toNat=l++sev (n+1).toNat) (fun(g:Str × Int)=>match g with|(m,u)=>⟨[(0,.v (.one (.row 1))),(5,.v (.one (.p (.int .u64 u))))],[.gone,.row .byte 5 m],24,none⟩) (fun(g:Str × Int)=>match g with|(m,u)=>u.toNat) (l,I.wrap .u64 (I.add n 1)) (by kernel_rfl) (by kernel_rfl) ?_ ?_
  · subst hI
    simp only
    simp only [nrmA,nrmB]
    rw [wrap_u64 _ (by omega)]
    exact⟨by omega,by omega,rfl⟩
  rintro⟨m,u⟩ ⟨h0,h1,h2⟩ A hA
  obtain⟨u,rfl⟩:=Int.eq_ofNat_of_zero_le h0
  simp only [Int.toNat_natCast] at h2
  simp only at hA
  generalize hu':(u:Int)=u' at *
  refine orcL ?_;go_invoke;refine orcS (by kernel_rfl) ?_
  simp only [zi,Nat.reduceAdd]
  subst hI hu'
  simp only [nrmA,nrmB]
  have hml:=congrArg List.length h2
  have hs1:=qU u
  have hs2:=qU (n+1).toNat
  simp only [List.length_append] at hml
  have hu8:u % 256 % 128=u % 128:=by omega
  rw [wrap_u8 u,zxd _ (by omega),shr7,hu8,Int.toNat_natCast,Int.toNat_natCast]
  have h64:((IntKind.u64.bits:Nat):Int)=64:=by decide
  simp only [List.length_cons,List.length_nil,h64]
  (repeat' (first|refine And.intro ?_ ?_|intro _))<;>first|omega|exact True.intro|exact False.elim ‹False›|skip
  · have hb:=zsN (u:=u) (by omega) (by omega)
    refine hA (m++[UInt8.ofNat (u % 128+128)],(u / 128:Nat)) ⟨by omega,by omega,?_⟩ (by simp only;omega)
    rw [Int.toNat_natCast,← h2,hb,List.append_assoc];rfl
  · rw [← h2,zmo (by omega),show u % 256=u by omega]
def zjb (I:Alg) (args:List D) (hp:List HO):Option CT:=match args,hp with
  |[.v (.one (.row 0)),.v (.one (.p (.int .i64 n)))],[.row .byte 5 l]=>(fun(l:Str) (n:Int)=>(some (.one ⟨I.hid (-1≤n∧n<34359738368∧l.length≤50000000),(.ret (.v (.one (.row 1)))),[.gone,.row .byte 5 (I.hid ((l++sev (n+1).toNat)))]⟩):Option CT)) l n
  |_,_=>none
theorem zrT:zx Tryz.prog 207 (zjb alg):=by
  intro args hp r h
  unfold zjb at h
  split at h
  · cases h;exact fun hn=>put_ _ _ hn
  · cases h
def zrS:Know Tryz.prog:=⟨207,zjb,zrT⟩
def zrR:Know Tryz.prog:=⟨207,fun I=>zy I (zjb I),zf zrT⟩
theorem few_ (n:Int):Spc Tryz.prog 237 [.v (.one (.p (.int .i64 n)))] [] (.ret (.v (.one (.p (.bool (few n)))))) []:=by
  refine spcG zh mixed Tryz.func237 (by kernel_rfl) { keep:=some [0,2]} [] (by kernel_rfl) ?_
  intro I X hI hX
  refine orcL ?_;go_invoke;refine orcS (by kernel_rfl) ?_
  simp only [zi,Nat.reduceAdd]
  subst hI
  simp only [nrmA,nrmB]
  unfold few
  (repeat' (first|refine And.intro ?_ ?_|intro _))<;>first|omega|exact True.intro|exact False.elim ‹False›|skip
  · simp [*]
  · simp [*]
def zjY (I:Alg) (args:List D) (hp:List HO):Option CT:=match args,hp with
  |[.v (.one (.p (.int .i64 n)))],[]=>(fun(n:Int)=>(some (.one ⟨I.hid (True),(.ret (.v (.one (.p (.bool (I.hid (few n))))))),[]⟩):Option CT)) n
  |_,_=>none
theorem zsf:zx Tryz.prog 237 (zjY alg):=by
  intro args hp r h
  unfold zjY at h
  split at h
  · cases h;exact fun hn=>few_ _
  · cases h
def zwf:Know Tryz.prog:=⟨237,zjY,zsf⟩
def zwe:Know Tryz.prog:=⟨237,fun I=>zy I (zjY I),zf zsf⟩
theorem may_ (k i n:Int) (t:Str):Spc Tryz.prog 206 [.v (.agg [(.p (.int .i64 k)),(.p (.int .i64 i)),(.p (.int .i64 n)),(.p (.list .byte t))])] [] (.ret (.v (.one (.p (.bool (mayM ⟨k,i,n,t⟩)))))) []:=by
  refine spcG zh mixed Tryz.func206 (by kernel_rfl) { keep:=some [0,1,2,3]} [zwf,zwe] (by kernel_rfl) ?_
  intro I X hI hX
  refine orcL ?_;go_invoke;refine orcS (by kernel_rfl) ?_
  simp only [zi,Nat.reduceAdd]
  subst hI
  simp only [nrmA,nrmB]
  unfold mayM
  (repeat' (first|refine And.intro ?_ ?_|intro _))<;>first|omega|exact True.intro|exact False.elim ‹False›|skip
  all_goals simp [*]<;>omega
def zju (I:Alg) (args:List D) (hp:List HO):Option CT:=match args,hp with
  |[.v (.agg [(.p (.int .i64 k)),(.p (.int .i64 i)),(.p (.int .i64 n)),(.p (.list .byte t))])],[]=>(fun(k i n:Int) (t:Str)=>(some (.one ⟨I.hid (True),(.ret (.v (.one (.p (.bool (I.hid (mayM ⟨k,i,n,t⟩))))))),[]⟩):Option CT)) k i n t
  |_,_=>none
theorem zr6:zx Tryz.prog 206 (zju alg):=by
  intro args hp r h
  unfold zju at h
  split at h
  · cases h;exact fun hn=>may_ _ _ _ _
  · cases h
def zr5:Know Tryz.prog:=⟨206,zju,zr6⟩
def zr4:Know Tryz.prog:=⟨206,fun I=>zy I (zju I),zf zr6⟩
end Go.Proofs.YtmkcejdibmilmaaGreatDoor
namespace Go.Proofs.YtmkcejdibmilmaaGreatDoor
open Go Go.Sep Go.Ab Go.Jrn
set_option maxRecDepth 100000
def pre3 (k i n:Int):Nat→Str
  |0=>[]
  |1=>sev (k+1).toNat
  |2=>sev (k+1).toNat++sev (i+1).toNat
  |_=>sev (k+1).toNat++sev (i+1).toNat++sev (n+1).toNat
theorem zuu (k i n:Int) (t:Str):Spc Tryz.prog 167 [.v (.agg [(.p (.int .i64 k)),(.p (.int .i64 i)),(.p (.int .i64 n)),(.p (.list .byte t))])] [] (.ret (.tup [(.one (.row 0)),(.one (.p (.int .i64 (encC ⟨k,i,n,t⟩))))])) [.row .byte 5 ((encM ⟨k,i,n,t⟩))]:=by
  refine spcG zh mixed Tryz.func167 (by kernel_rfl) { nr:=[4],own:=[207],keep:=some [0,1,2,3,4,6,16,17,18]} [zrS,zrR,zr5,zr4] (by kernel_rfl) ?_
  intro I X hI hX
  refine orcL ?_;go_invoke;refine orcS (by kernel_rfl) ?_
  simp only [zi,Nat.reduceAdd]
  refine⟨(by rw [hI];trivial),fun hm=> ?_,fun hm=> ?_⟩
  · subst hI
    simp only [nrmA,nrmB,nrlB,reduceCtorEq] at hm
    simp only [nrmA,nrmB,nrlB,reduceCtorEq]
    simp only [encC,encM,hm,Bool.false_eq_true,if_false]
    exact⟨trivial,trivial⟩
  rw [hI] at hm;simp only [nrmA,nrmB] at hm
  have hmay:=hm
  simp only [mayM,few,Bool.and_eq_true,decide_eq_true_eq] at hmay
  obtain⟨⟨⟨⟨m1,m2⟩,m3,m4⟩,m5,m6⟩,m7⟩:=hmay
  simp only [encC,encM,hm,if_true]
  generalize hr:encB ⟨k,i,n,t⟩=r
  refine zC hI zh mixed [zrS,zrR,zr5,zr4] hX [1,4,16,17,18] (fun(g:Nat × Str)=>match g with|(j,m)=>j≤3∧m=pre3 k i n j) (fun(g:Nat × Str)=>match g with|(j,m)=>⟨[(1,.v (.one (.ptr 0 0))),(4,.v (.one (.row 1))),(16,.v (.one (.row 2))),(17,.v (.one (.p (.int .i64 ((I.len (α:=Int) [k,i,n])))))),(18,.v (.one (.p (.int .i64 j))))],[.pack [.obj 197 [(.p (.int .i64 k)),(.p (.int .i64 i)),(.p (.int .i64 n)),(.p (.list .byte t))]],.row .byte 5 m,.row .int 3 ([k,i,n])],35,none⟩) (fun(g:Nat × Str)=>match g with|(j,m)=>3 - j) (0,[]) (by kernel_rfl) (by kernel_rfl) ?_ ?_
  · exact⟨Nat.zero_le _,rfl⟩
  rintro⟨j,m⟩ ⟨hj,hjm⟩ A hA
  simp only at hA
  refine orcL ?_;go_invoke;refine orcS (by kernel_rfl) ?_
  simp only [zi,Nat.reduceAdd]
  subst hI
  simp only [nrmA,nrmB,nrlB,reduceCtorEq]
  have l1:=qU (k+1).toNat
  have l2:=qU (i+1).toNat
  have l3:=qU (n+1).toNat
  simp only [List.length_cons,List.length_nil]
  rcases(show j=0∨j=1∨j=2∨j=3 by omega) with rfl|rfl|rfl|rfl
  · have hb:=hA (1,sev (k+1).toNat) ⟨by omega,rfl⟩ (by simp only;omega)
    subst hjm
    (repeat' (first|refine And.intro ?_ ?_|intro _))<;>first|omega|exact True.intro|exact False.elim ‹False›|skip
    · simp only [List.getD_cons_zero];omega
    · simp only [List.getD_cons_zero];omega
    · simp only [pre3,List.length_nil];omega
    · exact hb
  · have hb:=hA (2,sev (k+1).toNat++sev (i+1).toNat) ⟨by omega,rfl⟩ (by simp only;omega)
    subst hjm
    (repeat' (first|refine And.intro ?_ ?_|intro _))<;>first|omega|exact True.intro|exact False.elim ‹False›|skip
    · simp only [List.getD_cons_zero,List.getD_cons_succ];omega
    · simp only [List.getD_cons_zero,List.getD_cons_succ];omega
    · simp only [pre3];omega
    · exact hb
  · have hb:=hA (3,sev (k+1).toNat++sev (i+1).toNat++sev (n+1).toNat) ⟨by omega,rfl⟩ (by simp only;omega)
    subst hjm
    (repeat' (first|refine And.intro ?_ ?_|intro _))<;>first|omega|exact True.intro|exact False.elim ‹False›|skip
    · simp only [List.getD_cons_zero,List.getD_cons_succ];omega
    · simp only [List.getD_cons_zero,List.getD_cons_succ];omega
    · simp only [pre3,List.length_append];omega
    · exact hb
  · have hm3:(m++t).length≤1048606:=by rw [hjm];simp only [pre3,List.length_append];omega
    have hml:m.length≤30:=by rw [hjm];simp only [pre3,List.length_append];omega
    have l4:=qU (((m++t).length:Nat)+1:Int).toNat
    (repeat' (first|refine And.intro ?_ ?_|intro _))<;>first|omega|exact True.intro|exact False.elim ‹False›|skip
    · simp only [List.nil_append];omega
    · rw [← hr,hjm]
      simp only [encB,enc3,pre3,List.nil_append]
      rfl
def Um (I:Alg) (args:List D) (hp:List HO):Option CT:=match args,hp with
  |[.v (.agg [(.p (.int .i64 k)),(.p (.int .i64 i)),(.p (.int .i64 n)),(.p (.list .byte t))])],[]=>(fun(k i n:Int) (t:Str)=>(some (.one ⟨I.hid (True),(.ret (.tup [(.one (.row 0)),(.one (.p (.int .i64 (I.hid (encC ⟨k,i,n,t⟩)))))])),[.row .byte 5 (I.hid ((encM ⟨k,i,n,t⟩)))]⟩):Option CT)) k i n t
  |_,_=>none
theorem zgz:zx Tryz.prog 167 (Um alg):=by
  intro args hp r h
  unfold Um at h
  split at h
  · cases h;exact fun hn=>zuu _ _ _ _
  · cases h
def zoK:Know Tryz.prog:=⟨167,Um,zgz⟩
def zoJ:Know Tryz.prog:=⟨167,fun I=>zy I (Um I),zf zgz⟩
end Go.Proofs.YtmkcejdibmilmaaGreatDoor
namespace Go.Proofs.YtmkcejdibmilmaaGreatDoor
open Go Go.Sep Go.Ab Go.Jrn
set_option maxRecDepth 100000
end Go.Proofs.YtmkcejdibmilmaaGreatDoor
namespace Go.Proofs.YtmkcejdibmilmaaGreatDoor
open Go Go.Sep Go.Ab
set_option maxRecDepth 100000
def cfgL:Cfg:= { sl:=[⟨118,0,.byte,some 5⟩]}
def U0 (b:Str) (n:Int):Bool:=decide (0≤n∧n≤100000 - (b.length:Int))
def wrC (b x:Str):Int:=if b.length+x.length≤100000 then 0 else 16
def wrB (b x:Str):Str:=if b.length+x.length≤100000 then b++x else b
theorem zxf:Spc Tryz.prog 23 [] [] (.ret (.v (.one (.ptr 0 0)))) [.pack [.obj 118 [(.row 1),(.p (.int .i64 0))],.row .byte 5 ([])]]:=by
  refine spcG zh mixed Tryz.func23 (by kernel_rfl) { cfgL with keep:=some [0]} [] (by kernel_rfl) ?_
  intro I X hI hX
  refine orcL ?_;go_invoke;refine orcS (by kernel_rfl) ?_
  simp only [zi,Nat.reduceAdd]
  trivial
def zdQ (I:Alg) (args:List D) (hp:List HO):Option CT:=match args,hp with
  |[],[]=>(fun(_:Unit)=>(some (.one ⟨I.hid (True),(.ret (.v (.one (.ptr 0 0)))),[.pack [.obj 118 [(.row 1),(.p (.int .i64 0))],.row .byte 5 (I.hid ([]))]]⟩):Option CT)) ()
  |_,_=>none
theorem znQ:zx Tryz.prog 23 (zdQ alg):=by
  intro args hp r h
  unfold zdQ at h
  split at h
  · cases h;exact fun hn=>zxf
  · cases h
def ztB:Know Tryz.prog:=⟨23,zdQ,znQ⟩
def ztA:Know Tryz.prog:=⟨23,fun I=>zy I (zdQ I),zf znQ⟩
theorem zwV (b:Str) (s:Int):Spc Tryz.prog 137 [.v (.one (.ptr 0 0))] [.pack [.obj 118 [(.row 1),(.p (.int .i64 s))],.row .byte 5 b]] (.ret (.tup [])) [.pack [.obj 118 [(.row 1),(.p (.int .i64 ((b.length:Int))))],.row .byte 5 b]]:=by
  refine spcG zh mixed Tryz.func137 (by kernel_rfl) { cfgL with keep:=some [0]} [] (by kernel_rfl) ?_
  intro I X hI hX
  refine orcL ?_;go_invoke;refine orcS (by kernel_rfl) ?_
  simp only [zi,Nat.reduceAdd]
  subst hI
  simp only [nrmA,nrmB,nrlB,reduceCtorEq,HO.pack.injEq,HO.obj.injEq]
def zdk (I:Alg) (args:List D) (hp:List HO):Option CT:=match args,hp with
  |[.v (.one (.ptr 0 0))],[.pack [.obj 118 [(.row 1),(.p (.int .i64 s))],.row .byte 5 b]]=>(fun(b:Str) (s:Int)=>(some (.one ⟨I.hid (True),(.ret (.tup [])),[.pack [.obj 118 [(.row 1),(.p (.int .i64 (I.hid ((b.length:Int)))))],.row .byte 5 b]]⟩):Option CT)) b s
  |_,_=>none
theorem zme:zx Tryz.prog 137 (zdk alg):=by
  intro args hp r h
  unfold zdk at h
  split at h
  · cases h;exact fun hn=>zwV _ _
  · cases h
def zsI:Know Tryz.prog:=⟨137,zdk,zme⟩
def zsH:Know Tryz.prog:=⟨137,fun I=>zy I (zdk I),zf zme⟩
theorem zw7 (b:Str) (s n:Int) (hneed:b.length≤100000000):Spc Tryz.prog 159 [.v (.one (.ptr 0 0)),.v (.one (.p (.int .i64 n)))] [.pack [.obj 118 [(.row 1),(.p (.int .i64 s))],.row .byte 5 b]] (.ret (.v (.one (.p (.bool ((U0 b n))))))) [.pack [.obj 118 [(.row 1),(.p (.int .i64 s))],.row .byte 5 b]]:=by
  refine spcG zh mixed Tryz.func159 (by kernel_rfl) { cfgL with keep:=some [0,1,4]} [] (by kernel_rfl) ?_
  intro I X hI hX
  refine orcL ?_;go_invoke;refine orcS (by kernel_rfl) ?_
  simp only [zi,Nat.reduceAdd]
  subst hI
  simp only [nrmA,nrmB,nrlB,reduceCtorEq]
  unfold U0
  exact⟨fun h=>⟨by omega,decide_eq_decide.2 (by omega)⟩,fun h=>(decide_eq_false (by omega)).symm⟩
def zdy (I:Alg) (args:List D) (hp:List HO):Option CT:=match args,hp with
  |[.v (.one (.ptr 0 0)),.v (.one (.p (.int .i64 n)))],[.pack [.obj 118 [(.row 1),(.p (.int .i64 s))],.row .byte 5 b]]=>(fun(b:Str) (s n:Int)=>(some (.one ⟨I.hid (b.length≤100000000),(.ret (.v (.one (.p (.bool (I.hid ((U0 b n)))))))),[.pack [.obj 118 [(.row 1),(.p (.int .i64 s))],.row .byte 5 b]]⟩):Option CT)) b s n
  |_,_=>none
theorem zng:zx Tryz.prog 159 (zdy alg):=by
  intro args hp r h
  unfold zdy at h
  split at h
  · cases h;exact fun hn=>zw7 _ _ _ hn
  · cases h
def znf:Know Tryz.prog:=⟨159,zdy,zng⟩
def zne:Know Tryz.prog:=⟨159,fun I=>zy I (zdy I),zf zng⟩
theorem zuJ (b x:Str) (s:Int) (hneed:b.length≤100000∧x.length≤100000000):Spc Tryz.prog 168 [.v (.one (.ptr 0 0)),.v (.one (.p (.list .byte x)))] [.pack [.obj 118 [(.row 1),(.p (.int .i64 s))],.row .byte 5 b]] (.ret (.v (.one (.p (.int .i64 ((wrC b x))))))) [.pack [.obj 118 [(.row 1),(.p (.int .i64 s))],.row .byte 5 ((wrB b x))]]:=by
  refine spcG zh mixed Tryz.func168 (by kernel_rfl) { cfgL with keep:=some [0,1,4]} [znf,zne] (by kernel_rfl) ?_
  intro I X hI hX
  refine orcL ?_;go_invoke;refine orcS (by kernel_rfl) ?_
  simp only [zi,Nat.reduceAdd]
  subst hI
  have hr:U0 b (x.length:Int)=decide (b.length+x.length≤100000):=by unfold U0;exact decide_eq_decide.2 (by omega)
  simp only [nrmA,nrmB,nrlB,reduceCtorEq,HO.pack.injEq,HO.obj.injEq]
  rw [hr]
  by_cases hc:b.length+x.length≤100000
  · simp only [wrC,wrB,if_pos hc,decide_eq_true hc]
    simp only [nrmA,nrmB,nrlB,reduceCtorEq]
    exact⟨by omega,fun h=>h.elim,fun _=>by omega⟩
  · simp only [wrC,wrB,if_neg hc,decide_eq_false hc]
    simp only [nrmA,nrmB,nrlB,reduceCtorEq]
    exact⟨by omega,fun _=>trivial,fun h=>h.elim⟩
def Rw (I:Alg) (args:List D) (hp:List HO):Option CT:=match args,hp with
  |[.v (.one (.ptr 0 0)),.v (.one (.p (.list .byte x)))],[.pack [.obj 118 [(.row 1),(.p (.int .i64 s))],.row .byte 5 b]]=>(fun(b x:Str) (s:Int)=>(some (.one ⟨I.hid (b.length≤100000∧x.length≤100000000),(.ret (.v (.one (.p (.int .i64 (I.hid ((wrC b x)))))))),[.pack [.obj 118 [(.row 1),(.p (.int .i64 s))],.row .byte 5 (I.hid ((wrB b x)))]]⟩):Option CT)) b x s
  |_,_=>none
theorem zie:zx Tryz.prog 168 (Rw alg):=by
  intro args hp r h
  unfold Rw at h
  split at h
  · cases h;exact fun hn=>zuJ _ _ _ hn
  · cases h
def zpt:Know Tryz.prog:=⟨168,Rw,zie⟩
def zps:Know Tryz.prog:=⟨168,fun I=>zy I (Rw I),zf zie⟩
end Go.Proofs.YtmkcejdibmilmaaGreatDoor
namespace Go.Jrn
open Go Go.Ab
theorem zrx {e:Ent} (h:mayM e=true):(encB e).length≤e.text.length+50:=by
  have h0:=qU ((enc3 e).length+1)
  have h1:=qU (e.kind+1).toNat
  have h2:=qU (e.id+1).toNat
  have h3:=qU (e.n+1).toNat
  simp only [encB,enc3,List.length_append] at h0 ⊢;omega
end Go.Jrn
namespace Go.Proofs.YtmkcejdibmilmaaGreatDoor
open Go Go.Sep Go.Ab Go.Jrn
def zg9 (l:List Upl) (n:Int) (e:Ent):Int:=
  if e.kind=1 then(if creC l e.n e.text=0∧¬ n+1=e.id then 20 else creC l e.n e.text)
  else if e.kind=2 then appC l e.id (getU l e.id).bytes.length e.text
  else if e.kind=3 then decC l e.id e.n
  else if e.kind=4 then droC l e.id
  else if e.kind=5 then begC l e.id
  else endC l e.id
def zg8 (l:List Upl) (n:Int) (e:Ent):List Upl:=
  if e.kind=1 then creL l n e.n e.text
  else if e.kind=2 then appL l e.id (getU l e.id).bytes.length e.text
  else if e.kind=3 then decL l e.id e.n
  else if e.kind=4 then droL l e.id
  else if e.kind=5 then begL l e.id
  else endL l e.id
def zaG (l:List Upl) (n:Int) (e:Ent):Int:=if e.kind=1 then creN l n e.n e.text else n
theorem ztd {l:List Upl} {n:Int} (h:zF l n) (e:Ent):zF (zg8 l n e) (zaG l n e):=by
  unfold zg8 zaG
  split
  · exact zwv h _ _
  split
  · exact zwJ h _ _ _
  split
  · exact zwt h _ _
  split
  · exact zwp h _
  split
  · exact zwG h _
  · exact zwn h _
theorem zqu (l:List Upl) (n:Int) (e:Ent):n≤zaG l n e∧zaG l n e≤n+1:=by
  unfold zaG creN
  split
  · split<;>omega
  · omega
def wrtC (l:List Upl) (n:Int) (b:Str) (e:Ent):Int:=
  if ¬ zg9 l n e=0 then zg9 l n e else if ¬ encC e=0 then encC e else wrC b (encM e)
def wrtL (l:List Upl) (n:Int) (b:Str) (e:Ent):List Upl:=if wrtC l n b e=0 then zg8 l n e else l
def wrtN (l:List Upl) (n:Int) (b:Str) (e:Ent):Int:=if wrtC l n b e=0 then zaG l n e else n
def wrtB (l:List Upl) (n:Int) (b:Str) (e:Ent):Str:=if wrtC l n b e=0 then b++encB e else b
theorem zbO {l:List Upl} {n:Int} (h:zF l n) (b:Str) (e:Ent):zF (wrtL l n b e) (wrtN l n b e):=by
  unfold wrtL wrtN
  split
  · exact ztd h e
  · exact h
theorem zlL (l:List Upl) (n:Int) (b:Str) (e:Ent):n≤wrtN l n b e∧wrtN l n b e≤n+1:=by
  have:=zqu l n e
  unfold wrtN
  split<;>omega
theorem zpr {l:List Upl} {n:Int} {b:Str} {e:Ent} (h:wrtC l n b e=0):zg9 l n e=0∧mayM e=true∧b.length+(encB e).length≤100000:=by
  unfold wrtC at h
  split at h
  · rename_i h1;exact absurd h h1
  rename_i h1
  split at h
  · rename_i h2;exact absurd h h2
  rename_i h2
  have hm:mayM e=true:=by
    unfold encC at h2
    cases hm:mayM e with
    |true=>rfl
    |false=>rw [hm] at h2;simp at h2
  unfold wrC at h
  split at h
  · rename_i h3
    refine⟨Decidable.not_not.1 h1,hm,?_⟩
    unfold encM at h3
    rw [if_pos hm] at h3
    exact h3
  · cases h
theorem YQ {l:List Upl} {n:Int} {b:Str} (e:Ent) (h:b.length≤100000):(wrtB l n b e).length≤100000:=by
  unfold wrtB
  split
  · rename_i h1
    rw [List.length_append];exact(zpr h1).2.2
  · exact h
end Go.Proofs.YtmkcejdibmilmaaGreatDoor
namespace Go.Proofs.YtmkcejdibmilmaaGreatDoor
open Go Go.Sep Go.Ab Go.Jrn
set_option maxRecDepth 100000
def zbr:Cfg:= { sl:=[⟨88,0,.upl,some 86⟩,⟨118,0,.byte,some 5⟩]}
theorem zsJ:Spc Tryz.prog 7 [] [] (.ret (.v (.one (.ptr 0 0)))) [.pack [.obj 41 [(.ptr 1 0),(.ptr 2 0)],.pack [.obj 88 [(.row 1),(.p (.int .i64 0))],.row .upl 86 ([])],.pack [.obj 118 [(.row 1),(.p (.int .i64 0))],.row .byte 5 ([])]]]:=by
  refine spcG zh mixed Tryz.func7 (by kernel_rfl) { zbr with keep:=some [0]} [zsS,zsR,ztB,ztA] (by kernel_rfl) ?_
  intro I X hI hX
  refine orcL ?_;go_invoke;refine orcS (by kernel_rfl) ?_
  simp only [zi,Nat.reduceAdd]
  subst hI
  exact⟨trivial,trivial,trivial,rfl⟩
def WG (I:Alg) (args:List D) (hp:List HO):Option CT:=match args,hp with
  |[],[]=>(fun(_:Unit)=>(some (.one ⟨I.hid (True),(.ret (.v (.one (.ptr 0 0)))),[.pack [.obj 41 [(.ptr 1 0),(.ptr 2 0)],.pack [.obj 88 [(.row 1),(.p (.int .i64 0))],.row .upl 86 (I.hid ([]))],.pack [.obj 118 [(.row 1),(.p (.int .i64 0))],.row .byte 5 (I.hid ([]))]]]⟩):Option CT)) ()
  |_,_=>none
theorem zeI:zx Tryz.prog 7 (WG alg):=by
  intro args hp r h
  unfold WG at h
  split at h
  · cases h;exact fun hn=>zsJ
  · cases h
def Zh:Know Tryz.prog:=⟨7,WG,zeI⟩
def Zg:Know Tryz.prog:=⟨7,fun I=>zy I (WG I),zf zeI⟩
set_option maxHeartbeats 4000000 in
theorem zu6 (l:List Upl) (n k i m:Int) (t:Str) (hneed:zF l n∧n≤1000000∧t.length≤1000000):Spc Tryz.prog 165 [.v (.one (.ptr 0 0)),.v (.agg [(.p (.int .i64 k)),(.p (.int .i64 i)),(.p (.int .i64 m)),(.p (.list .byte t))])] [.pack [.obj 88 [(.row 1),(.p (.int .i64 n))],.row .upl 86 l]] (.ret (.v (.one (.p (.int .i64 ((zg9 l n ⟨k,i,m,t⟩))))))) [.pack [.obj 88 [(.row 1),(.p (.int .i64 ((zaG l n ⟨k,i,m,t⟩))))],.row .upl 86 ((zg8 l n ⟨k,i,m,t⟩))]]:=by
  obtain⟨hs,hn,ht⟩:=hneed
  generalize hc:zg9 l n ⟨k,i,m,t⟩=c
  generalize hl:zg8 l n ⟨k,i,m,t⟩=l'
  generalize hN:zaG l n ⟨k,i,m,t⟩=n'
  refine spcG zh mixed Tryz.func165 (by kernel_rfl) { zbr with keep:=some [0,1,3,4,5,6,7,10]} [zkL,zkK,zkN,zkM,zg0,zgZ,zmF,zmE,zsV,zsU,Y2,Y1,UZ,UY,zp3,zp2] (by kernel_rfl) ?_
  intro I X hI hX
  refine orcL ?_;go_invoke;refine orcS (by kernel_rfl) ?_
  simp only [zi,Nat.reduceAdd]
  subst hI
  simp only [nrmA,nrmB,nrlB,reduceCtorEq,HO.pack.injEq,HO.obj.injEq]
  unfold zg9 at hc
  unfold zg8 at hl
  unfold zaG at hN
  simp only at hc hl hN
  have hci:creC l m t=0→creI l n m t=n+1:=fun h=>by unfold creI;rw [if_pos h]
  (repeat' (first|refine And.intro ?_ ?_|intro _))<;>first|omega|exact True.intro|exact False.elim ‹False›|skip
  all_goals first
    |exact hs
    |exact hn
    |exact ht
    |exact⟨hs,hn,ht⟩
    |exact⟨hs,ht⟩
    |(have:=hci (by assumption);((repeat(first|rewrite [if_pos (by first|omega|assumption|(simp only [*,or_self,or_true,true_or,or_false,false_or,not_true_eq_false,not_false_eq_true,Bool.false_eq_true,Bool.true_eq_false,and_self,and_true,true_and];done)|(simp only [*];omega)|(simp [*];done)|(simp [*];omega))] at hc|rewrite [if_neg (by first|omega|assumption|(simp only [*,or_self,or_true,true_or,or_false,false_or,not_true_eq_false,not_false_eq_true,Bool.false_eq_true,Bool.true_eq_false,and_self,and_true,true_and];done)|(simp only [*];omega)|(simp [*];done)|(simp [*];omega))] at hc)));subst hc;((repeat(first|rewrite [if_pos (by first|omega|assumption|(simp only [*,or_self,or_true,true_or,or_false,false_or,not_true_eq_false,not_false_eq_true,Bool.false_eq_true,Bool.true_eq_false,and_self,and_true,true_and];done)|(simp only [*];omega)|(simp [*];done)|(simp [*];omega))] at hl|rewrite [if_neg (by first|omega|assumption|(simp only [*,or_self,or_true,true_or,or_false,false_or,not_true_eq_false,not_false_eq_true,Bool.false_eq_true,Bool.true_eq_false,and_self,and_true,true_and];done)|(simp only [*];omega)|(simp [*];done)|(simp [*];omega))] at hl)));subst hl;((repeat(first|rewrite [if_pos (by first|omega|assumption|(simp only [*,or_self,or_true,true_or,or_false,false_or,not_true_eq_false,not_false_eq_true,Bool.false_eq_true,Bool.true_eq_false,and_self,and_true,true_and];done)|(simp only [*];omega)|(simp [*];done)|(simp [*];omega))] at hN|rewrite [if_neg (by first|omega|assumption|(simp only [*,or_self,or_true,true_or,or_false,false_or,not_true_eq_false,not_false_eq_true,Bool.false_eq_true,Bool.true_eq_false,and_self,and_true,true_and];done)|(simp only [*];omega)|(simp [*];done)|(simp [*];omega))] at hN)));subst hN;first|rfl|omega)
    |(((repeat(first|rewrite [if_pos (by first|omega|assumption|(simp only [*,or_self,or_true,true_or,or_false,false_or,not_true_eq_false,not_false_eq_true,Bool.false_eq_true,Bool.true_eq_false,and_self,and_true,true_and];done)|(simp only [*];omega)|(simp [*];done)|(simp [*];omega))] at hc|rewrite [if_neg (by first|omega|assumption|(simp only [*,or_self,or_true,true_or,or_false,false_or,not_true_eq_false,not_false_eq_true,Bool.false_eq_true,Bool.true_eq_false,and_self,and_true,true_and];done)|(simp only [*];omega)|(simp [*];done)|(simp [*];omega))] at hc)));subst hc;((repeat(first|rewrite [if_pos (by first|omega|assumption|(simp only [*,or_self,or_true,true_or,or_false,false_or,not_true_eq_false,not_false_eq_true,Bool.false_eq_true,Bool.true_eq_false,and_self,and_true,true_and];done)|(simp only [*];omega)|(simp [*];done)|(simp [*];omega))] at hl|rewrite [if_neg (by first|omega|assumption|(simp only [*,or_self,or_true,true_or,or_false,false_or,not_true_eq_false,not_false_eq_true,Bool.false_eq_true,Bool.true_eq_false,and_self,and_true,true_and];done)|(simp only [*];omega)|(simp [*];done)|(simp [*];omega))] at hl)));subst hl;((repeat(first|rewrite [if_pos (by first|omega|assumption|(simp only [*,or_self,or_true,true_or,or_false,false_or,not_true_eq_false,not_false_eq_true,Bool.false_eq_true,Bool.true_eq_false,and_self,and_true,true_and];done)|(simp only [*];omega)|(simp [*];done)|(simp [*];omega))] at hN|rewrite [if_neg (by first|omega|assumption|(simp only [*,or_self,or_true,true_or,or_false,false_or,not_true_eq_false,not_false_eq_true,Bool.false_eq_true,Bool.true_eq_false,and_self,and_true,true_and];done)|(simp only [*];omega)|(simp [*];done)|(simp [*];omega))] at hN)));subst hN;first|rfl|omega)
def RH (I:Alg) (args:List D) (hp:List HO):Option CT:=match args,hp with
  |[.v (.one (.ptr 0 0)),.v (.agg [(.p (.int .i64 k)),(.p (.int .i64 i)),(.p (.int .i64 m)),(.p (.list .byte t))])],[.pack [.obj 88 [(.row 1),(.p (.int .i64 n))],.row .upl 86 l]]=>(fun(l:List Upl) (n k i m:Int) (t:Str)=>(some (.one ⟨I.hid (zF l n∧n≤1000000∧t.length≤1000000),(.ret (.v (.one (.p (.int .i64 (I.hid ((zg9 l n ⟨k,i,m,t⟩)))))))),[.pack [.obj 88 [(.row 1),(.p (.int .i64 (I.hid ((zaG l n ⟨k,i,m,t⟩)))))],.row .upl 86 (I.hid ((zg8 l n ⟨k,i,m,t⟩)))]]⟩):Option CT)) l n k i m t
  |_,_=>none
theorem ziu:zx Tryz.prog 165 (RH alg):=by
  intro args hp r h
  unfold RH at h
  split at h
  · cases h;exact fun hn=>zu6 _ _ _ _ _ _ hn
  · cases h
def zpM:Know Tryz.prog:=⟨165,RH,ziu⟩
def zpL:Know Tryz.prog:=⟨165,fun I=>zy I (RH I),zf ziu⟩
set_option maxHeartbeats 4000000 in
theorem zmh (l:List Upl) (n:Int) (b:Str) (s k i m:Int) (t:Str) (hneed:zF l n∧n≤200000∧t.length≤1000000∧b.length≤100000):Spc Tryz.prog 136 [.v (.one (.ptr 0 0)),.v (.agg [(.p (.int .i64 k)),(.p (.int .i64 i)),(.p (.int .i64 m)),(.p (.list .byte t))])] [.pack [.obj 41 [(.ptr 1 0),(.ptr 2 0)],.pack [.obj 88 [(.row 1),(.p (.int .i64 n))],.row .upl 86 l],.pack [.obj 118 [(.row 1),(.p (.int .i64 s))],.row .byte 5 b]]] (.ret (.v (.one (.p (.int .i64 ((wrtC l n b ⟨k,i,m,t⟩))))))) [.pack [.obj 41 [(.ptr 1 0),(.ptr 2 0)],.pack [.obj 88 [(.row 1),(.p (.int .i64 ((wrtN l n b ⟨k,i,m,t⟩))))],.row .upl 86 ((wrtL l n b ⟨k,i,m,t⟩))],.pack [.obj 118 [(.row 1),(.p (.int .i64 s))],.row .byte 5 ((wrtB l n b ⟨k,i,m,t⟩))]]]:=by
  obtain⟨hs,hn,ht,hb⟩:=hneed
  generalize hc:wrtC l n b ⟨k,i,m,t⟩=c
  generalize hl:wrtL l n b ⟨k,i,m,t⟩=l'
  generalize hN:wrtN l n b ⟨k,i,m,t⟩=n'
  generalize hB:wrtB l n b ⟨k,i,m,t⟩=b'
  refine spcG zh mixed Tryz.func136 (by kernel_rfl) { zbr with keep:=some [0,1,3,4,5,6,7,8]} [zp6,zp5,zoK,zoJ,zpt,zps,zpM,zpL] (by kernel_rfl) ?_
  intro I X hI hX
  refine orcL ?_;go_invoke;refine orcS (by kernel_rfl) ?_
  simp only [zi,Nat.reduceAdd]
  subst hI
  simp only [nrmA,nrmB,nrlB,reduceCtorEq,HO.pack.injEq,HO.obj.injEq]
  have hel:(encM ⟨k,i,m,t⟩).length≤2000000:=by
    unfold encM
    split
    · rename_i h
      have:=zrx h
      simp only at this
      omega
    · simp
  generalize he:(⟨k,i,m,t⟩:Ent)=e at *
  have hem:encC e=0→encM e=encB e:=fun h=>by
    unfold encC at h
    unfold encM
    split at h
    · rename_i h2;rw [if_pos h2]
    · cases h
  have hw0: ∀ x:Str,wrC b x=0→wrB b x=b++x:=fun x h=>by
    unfold wrC at h
    unfold wrB
    split at h
    · rename_i h2;rw [if_pos h2]
    · cases h
  have hw1: ∀ x:Str,¬ wrC b x=0→wrB b x=b:=fun x h=>by
    unfold wrC at h
    unfold wrB
    split at h
    · exact absurd rfl h
    · rename_i h2;rw [if_neg h2]
  unfold wrtL at hl
  unfold wrtN at hN
  unfold wrtB at hB
  rw [hc] at hl hN hB
  unfold wrtC at hc
  (repeat' (first|refine And.intro ?_ ?_|intro _))<;>first|omega|exact True.intro|exact False.elim ‹False›|skip
  all_goals first
    |exact hs
    |(((repeat(first|rewrite [if_pos (by first|omega|assumption|(simp only [*,or_self,or_true,true_or,or_false,false_or,not_true_eq_false,not_false_eq_true,Bool.false_eq_true,Bool.true_eq_false,and_self,and_true,true_and];done)|(simp only [*];omega)|(simp [*];done)|(simp [*];omega))] at hc|rewrite [if_neg (by first|omega|assumption|(simp only [*,or_self,or_true,true_or,or_false,false_or,not_true_eq_false,not_false_eq_true,Bool.false_eq_true,Bool.true_eq_false,and_self,and_true,true_and];done)|(simp only [*];omega)|(simp [*];done)|(simp [*];omega))] at hc)));subst hc;((repeat(first|rewrite [if_pos (by first|omega|assumption|(simp only [*,or_self,or_true,true_or,or_false,false_or,not_true_eq_false,not_false_eq_true,Bool.false_eq_true,Bool.true_eq_false,and_self,and_true,true_and];done)|(simp only [*];omega)|(simp [*];done)|(simp [*];omega))] at hl|rewrite [if_neg (by first|omega|assumption|(simp only [*,or_self,or_true,true_or,or_false,false_or,not_true_eq_false,not_false_eq_true,Bool.false_eq_true,Bool.true_eq_false,and_self,and_true,true_and];done)|(simp only [*];omega)|(simp [*];done)|(simp [*];omega))] at hl)));subst hl;((repeat(first|rewrite [if_pos (by first|omega|assumption|(simp only [*,or_self,or_true,true_or,or_false,false_or,not_true_eq_false,not_false_eq_true,Bool.false_eq_true,Bool.true_eq_false,and_self,and_true,true_and];done)|(simp only [*];omega)|(simp [*];done)|(simp [*];omega))] at hN|rewrite [if_neg (by first|omega|assumption|(simp only [*,or_self,or_true,true_or,or_false,false_or,not_true_eq_false,not_false_eq_true,Bool.false_eq_true,Bool.true_eq_false,and_self,and_true,true_and];done)|(simp only [*];omega)|(simp [*];done)|(simp [*];omega))] at hN)));subst hN;((repeat(first|rewrite [if_pos (by first|omega|assumption|(simp only [*,or_self,or_true,true_or,or_false,false_or,not_true_eq_false,not_false_eq_true,Bool.false_eq_true,Bool.true_eq_false,and_self,and_true,true_and];done)|(simp only [*];omega)|(simp [*];done)|(simp [*];omega))] at hB|rewrite [if_neg (by first|omega|assumption|(simp only [*,or_self,or_true,true_or,or_false,false_or,not_true_eq_false,not_false_eq_true,Bool.false_eq_true,Bool.true_eq_false,and_self,and_true,true_and];done)|(simp only [*];omega)|(simp [*];done)|(simp [*];omega))] at hB)));subst hB;first|rfl|omega|exact hw1 _ (by assumption)|(rw [hw0 _ (by assumption),hem (by assumption)]))
def ZB (I:Alg) (args:List D) (hp:List HO):Option CT:=match args,hp with
  |[.v (.one (.ptr 0 0)),.v (.agg [(.p (.int .i64 k)),(.p (.int .i64 i)),(.p (.int .i64 m)),(.p (.list .byte t))])],[.pack [.obj 41 [(.ptr 1 0),(.ptr 2 0)],.pack [.obj 88 [(.row 1),(.p (.int .i64 n))],.row .upl 86 l],.pack [.obj 118 [(.row 1),(.p (.int .i64 s))],.row .byte 5 b]]]=>(fun(l:List Upl) (n:Int) (b:Str) (s k i m:Int) (t:Str)=>(some (.one ⟨I.hid (zF l n∧n≤200000∧t.length≤1000000∧b.length≤100000),(.ret (.v (.one (.p (.int .i64 (I.hid ((wrtC l n b ⟨k,i,m,t⟩)))))))),[.pack [.obj 41 [(.ptr 1 0),(.ptr 2 0)],.pack [.obj 88 [(.row 1),(.p (.int .i64 (I.hid ((wrtN l n b ⟨k,i,m,t⟩)))))],.row .upl 86 (I.hid ((wrtL l n b ⟨k,i,m,t⟩)))],.pack [.obj 118 [(.row 1),(.p (.int .i64 s))],.row .byte 5 (I.hid ((wrtB l n b ⟨k,i,m,t⟩)))]]]⟩):Option CT)) l n b s k i m t
  |_,_=>none
theorem zar:zx Tryz.prog 136 (ZB alg):=by
  intro args hp r h
  unfold ZB at h
  split at h
  · cases h;exact fun hn=>zmh _ _ _ _ _ _ _ _ hn
  · cases h
def ZA:Know Tryz.prog:=⟨136,ZB,zar⟩
def Zz:Know Tryz.prog:=⟨136,fun I=>zy I (ZB I),zf zar⟩
theorem zkC (l:List Upl) (n:Int) (b:Str) (s size:Int) (t:Str) (hneed:zF l n∧n≤200000∧t.length≤1000000∧b.length≤100000):Spc Tryz.prog 129 [.v (.one (.ptr 0 0)),.v (.one (.p (.int .i64 size))),.v (.one (.p (.str t)))] [.pack [.obj 41 [(.ptr 1 0),(.ptr 2 0)],.pack [.obj 88 [(.row 1),(.p (.int .i64 n))],.row .upl 86 l],.pack [.obj 118 [(.row 1),(.p (.int .i64 s))],.row .byte 5 b]]] (.ret (.tup [(.one (.p (.int .i64 ((if wrtC l n b ⟨1,n+1,size,t⟩=0 then n+1 else 0))))),(.one (.p (.int .i64 ((wrtC l n b ⟨1,n+1,size,t⟩)))))])) [.pack [.obj 41 [(.ptr 1 0),(.ptr 2 0)],.pack [.obj 88 [(.row 1),(.p (.int .i64 ((wrtN l n b ⟨1,n+1,size,t⟩))))],.row .upl 86 ((wrtL l n b ⟨1,n+1,size,t⟩))],.pack [.obj 118 [(.row 1),(.p (.int .i64 s))],.row .byte 5 ((wrtB l n b ⟨1,n+1,size,t⟩))]]]:=by
  have hn0:=hneed.1.n0
  refine spcG zh mixed Tryz.func129 (by kernel_rfl) { zbr with keep:=some [0,1,2,6,7,8,9]} [zp1,zp0,ZA,Zz] (by kernel_rfl) ?_
  intro I X hI hX
  refine orcL ?_;go_invoke;refine orcS (by kernel_rfl) ?_
  simp only [zi,Nat.reduceAdd]
  subst hI
  simp only [nrmA,nrmB,nrlB,reduceCtorEq,HO.pack.injEq,HO.obj.injEq]
  exact⟨⟨hn0,by omega⟩,hneed,fun h=>(if_neg h).symm,fun h=>⟨(if_pos h).symm,h.symm⟩⟩
def qB (I:Alg) (args:List D) (hp:List HO):Option CT:=match args,hp with
  |[.v (.one (.ptr 0 0)),.v (.one (.p (.int .i64 size))),.v (.one (.p (.str t)))],[.pack [.obj 41 [(.ptr 1 0),(.ptr 2 0)],.pack [.obj 88 [(.row 1),(.p (.int .i64 n))],.row .upl 86 l],.pack [.obj 118 [(.row 1),(.p (.int .i64 s))],.row .byte 5 b]]]=>(fun(l:List Upl) (n:Int) (b:Str) (s size:Int) (t:Str)=>(some (.one ⟨I.hid (zF l n∧n≤200000∧t.length≤1000000∧b.length≤100000),(.ret (.tup [(.one (.p (.int .i64 (I.hid ((if wrtC l n b ⟨1,n+1,size,t⟩=0 then n+1 else 0)))))),(.one (.p (.int .i64 (I.hid ((wrtC l n b ⟨1,n+1,size,t⟩))))))])),[.pack [.obj 41 [(.ptr 1 0),(.ptr 2 0)],.pack [.obj 88 [(.row 1),(.p (.int .i64 (I.hid ((wrtN l n b ⟨1,n+1,size,t⟩)))))],.row .upl 86 (I.hid ((wrtL l n b ⟨1,n+1,size,t⟩)))],.pack [.obj 118 [(.row 1),(.p (.int .i64 s))],.row .byte 5 (I.hid ((wrtB l n b ⟨1,n+1,size,t⟩)))]]]⟩):Option CT)) l n b s size t
  |_,_=>none
theorem TU:zx Tryz.prog 129 (qB alg):=by
  intro args hp r h
  unfold qB at h
  split at h
  · cases h;exact fun hn=>zkC _ _ _ _ _ _ hn
  · cases h
def TS:Know Tryz.prog:=⟨129,qB,TU⟩
def TR:Know Tryz.prog:=⟨129,fun I=>zy I (qB I),zf TU⟩
def apG (l:List Upl) (id off:Int):Bool:=getB l id&&(decide ((getU l id).sent=0)&& !decide (off=(getU l id).bytes.length))
def apE (id:Int) (x:Str):Ent:=⟨2,id,0,x⟩
theorem zkD (l:List Upl) (n:Int) (b:Str) (s id off:Int) (x:Str) (hneed:zF l n∧n≤200000∧x.length≤1000000∧b.length≤100000):Spc Tryz.prog 134 [.v (.one (.ptr 0 0)),.v (.one (.p (.int .i64 id))),.v (.one (.p (.int .i64 off))),.v (.one (.p (.list .byte x)))] [.pack [.obj 41 [(.ptr 1 0),(.ptr 2 0)],.pack [.obj 88 [(.row 1),(.p (.int .i64 n))],.row .upl 86 l],.pack [.obj 118 [(.row 1),(.p (.int .i64 s))],.row .byte 5 b]]] (.ret (.v (.one (.p (.int .i64 ((if apG l id off then 17 else wrtC l n b ⟨2,id,0,x⟩))))))) [.pack [.obj 41 [(.ptr 1 0),(.ptr 2 0)],.pack [.obj 88 [(.row 1),(.p (.int .i64 ((if apG l id off then n else wrtN l n b ⟨2,id,0,x⟩))))],.row .upl 86 ((if apG l id off then l else wrtL l n b ⟨2,id,0,x⟩))],.pack [.obj 118 [(.row 1),(.p (.int .i64 s))],.row .byte 5 ((if apG l id off then b else wrtB l n b ⟨2,id,0,x⟩))]]]:=by
  generalize hg:apG l id off=g
  refine spcG zh mixed Tryz.func134 (by kernel_rfl) { zbr with keep:=some [0,1,2,3,8,9,10]} [Y2,Y1,UZ,UY,ZA,Zz] (by kernel_rfl) ?_
  intro I X hI hX
  refine orcL ?_;go_invoke;refine orcS (by kernel_rfl) ?_
  simp only [zi,Nat.reduceAdd]
  subst hI
  simp only [nrmA,nrmB,nrlB,reduceCtorEq,HO.pack.injEq,HO.obj.injEq]
  (repeat' (first|refine And.intro ?_ ?_|intro _))<;>first|omega|exact True.intro|exact False.elim ‹False›|skip
  all_goals first
    |exact hneed.1
    |exact hneed
    |exact hneed.2.1
    |exact hneed.2.2.1
    |exact hneed.2.2.2
    |(have h:g=true:=(by rw [← hg];unfold apG;simp [*]);subst h;rfl)
    |(have h:g=false:=(by rw [← hg];unfold apG;simp [*]);subst h;rfl)
def qC (I:Alg) (args:List D) (hp:List HO):Option CT:=match args,hp with
  |[.v (.one (.ptr 0 0)),.v (.one (.p (.int .i64 id))),.v (.one (.p (.int .i64 off))),.v (.one (.p (.list .byte x)))],[.pack [.obj 41 [(.ptr 1 0),(.ptr 2 0)],.pack [.obj 88 [(.row 1),(.p (.int .i64 n))],.row .upl 86 l],.pack [.obj 118 [(.row 1),(.p (.int .i64 s))],.row .byte 5 b]]]=>(fun(l:List Upl) (n:Int) (b:Str) (s id off:Int) (x:Str)=>(some (.one ⟨I.hid (zF l n∧n≤200000∧x.length≤1000000∧b.length≤100000),(.ret (.v (.one (.p (.int .i64 (I.hid ((if apG l id off then 17 else wrtC l n b ⟨2,id,0,x⟩)))))))),[.pack [.obj 41 [(.ptr 1 0),(.ptr 2 0)],.pack [.obj 88 [(.row 1),(.p (.int .i64 (I.hid ((if apG l id off then n else wrtN l n b ⟨2,id,0,x⟩)))))],.row .upl 86 (I.hid ((if apG l id off then l else wrtL l n b ⟨2,id,0,x⟩)))],.pack [.obj 118 [(.row 1),(.p (.int .i64 s))],.row .byte 5 (I.hid ((if apG l id off then b else wrtB l n b ⟨2,id,0,x⟩)))]]]⟩):Option CT)) l n b s id off x
  |_,_=>none
theorem TV:zx Tryz.prog 134 (qC alg):=by
  intro args hp r h
  unfold qC at h
  split at h
  · cases h;exact fun hn=>zkD _ _ _ _ _ _ _ hn
  · cases h
def xw:Know Tryz.prog:=⟨134,qC,TV⟩
def xu:Know Tryz.prog:=⟨134,fun I=>zy I (qC I),zf TV⟩
theorem zgW (l:List Upl) (n:Int) (b:Str) (s id size:Int) (hneed:zF l n∧n≤200000∧b.length≤100000):Spc Tryz.prog 135 [.v (.one (.ptr 0 0)),.v (.one (.p (.int .i64 id))),.v (.one (.p (.int .i64 size)))] [.pack [.obj 41 [(.ptr 1 0),(.ptr 2 0)],.pack [.obj 88 [(.row 1),(.p (.int .i64 n))],.row .upl 86 l],.pack [.obj 118 [(.row 1),(.p (.int .i64 s))],.row .byte 5 b]]] (.ret (.v (.one (.p (.int .i64 ((wrtC l n b ⟨3,id,size,[]⟩))))))) [.pack [.obj 41 [(.ptr 1 0),(.ptr 2 0)],.pack [.obj 88 [(.row 1),(.p (.int .i64 ((wrtN l n b ⟨3,id,size,[]⟩))))],.row .upl 86 ((wrtL l n b ⟨3,id,size,[]⟩))],.pack [.obj 118 [(.row 1),(.p (.int .i64 s))],.row .byte 5 ((wrtB l n b ⟨3,id,size,[]⟩))]]]:=by
  refine spcG zh mixed Tryz.func135 (by kernel_rfl) { zbr with keep:=some [0,1,2,6]} [ZA,Zz] (by kernel_rfl) ?_
  intro I X hI hX
  refine orcL ?_;go_invoke;refine orcS (by kernel_rfl) ?_
  simp only [zi,Nat.reduceAdd]
  subst hI
  simp only [nrmA,nrmB,nrlB,reduceCtorEq,HO.pack.injEq,HO.obj.injEq]
  exact⟨hneed.1,hneed.2.1,by decide,hneed.2.2⟩
def sV (I:Alg) (args:List D) (hp:List HO):Option CT:=match args,hp with
  |[.v (.one (.ptr 0 0)),.v (.one (.p (.int .i64 id))),.v (.one (.p (.int .i64 size)))],[.pack [.obj 41 [(.ptr 1 0),(.ptr 2 0)],.pack [.obj 88 [(.row 1),(.p (.int .i64 n))],.row .upl 86 l],.pack [.obj 118 [(.row 1),(.p (.int .i64 s))],.row .byte 5 b]]]=>(fun(l:List Upl) (n:Int) (b:Str) (s id size:Int)=>(some (.one ⟨I.hid (zF l n∧n≤200000∧b.length≤100000),(.ret (.v (.one (.p (.int .i64 (I.hid ((wrtC l n b ⟨3,id,size,[]⟩)))))))),[.pack [.obj 41 [(.ptr 1 0),(.ptr 2 0)],.pack [.obj 88 [(.row 1),(.p (.int .i64 (I.hid ((wrtN l n b ⟨3,id,size,[]⟩)))))],.row .upl 86 (I.hid ((wrtL l n b ⟨3,id,size,[]⟩)))],.pack [.obj 118 [(.row 1),(.p (.int .i64 s))],.row .byte 5 (I.hid ((wrtB l n b ⟨3,id,size,[]⟩)))]]]⟩):Option CT)) l n b s id size
  |_,_=>none
theorem WH:zx Tryz.prog 135 (sV alg):=by
  intro args hp r h
  unfold sV at h
  split at h
  · cases h;exact fun hn=>zgW _ _ _ _ _ _ hn
  · cases h
def xq:Know Tryz.prog:=⟨135,sV,WH⟩
def xk:Know Tryz.prog:=⟨135,fun I=>zy I (sV I),zf WH⟩
theorem zpK (l:List Upl) (n:Int) (b:Str) (s id:Int) (hneed:zF l n∧n≤200000∧b.length≤100000):Spc Tryz.prog 103 [.v (.one (.ptr 0 0)),.v (.one (.p (.int .i64 id)))] [.pack [.obj 41 [(.ptr 1 0),(.ptr 2 0)],.pack [.obj 88 [(.row 1),(.p (.int .i64 n))],.row .upl 86 l],.pack [.obj 118 [(.row 1),(.p (.int .i64 s))],.row .byte 5 b]]] (.ret (.v (.one (.p (.int .i64 ((wrtC l n b ⟨4,id,0,[]⟩))))))) [.pack [.obj 41 [(.ptr 1 0),(.ptr 2 0)],.pack [.obj 88 [(.row 1),(.p (.int .i64 ((wrtN l n b ⟨4,id,0,[]⟩))))],.row .upl 86 ((wrtL l n b ⟨4,id,0,[]⟩))],.pack [.obj 118 [(.row 1),(.p (.int .i64 s))],.row .byte 5 ((wrtB l n b ⟨4,id,0,[]⟩))]]]:=by
  refine spcG zh mixed Tryz.func103 (by kernel_rfl) { zbr with keep:=some [0,1,4]} [ZA,Zz] (by kernel_rfl) ?_
  intro I X hI hX
  refine orcL ?_;go_invoke;refine orcS (by kernel_rfl) ?_
  simp only [zi,Nat.reduceAdd]
  subst hI
  simp only [nrmA,nrmB,nrlB,reduceCtorEq,HO.pack.injEq,HO.obj.injEq]
  exact⟨hneed.1,hneed.2.1,by decide,hneed.2.2⟩
def YW (I:Alg) (args:List D) (hp:List HO):Option CT:=match args,hp with
  |[.v (.one (.ptr 0 0)),.v (.one (.p (.int .i64 id)))],[.pack [.obj 41 [(.ptr 1 0),(.ptr 2 0)],.pack [.obj 88 [(.row 1),(.p (.int .i64 n))],.row .upl 86 l],.pack [.obj 118 [(.row 1),(.p (.int .i64 s))],.row .byte 5 b]]]=>(fun(l:List Upl) (n:Int) (b:Str) (s id:Int)=>(some (.one ⟨I.hid (zF l n∧n≤200000∧b.length≤100000),(.ret (.v (.one (.p (.int .i64 (I.hid ((wrtC l n b ⟨4,id,0,[]⟩)))))))),[.pack [.obj 41 [(.ptr 1 0),(.ptr 2 0)],.pack [.obj 88 [(.row 1),(.p (.int .i64 (I.hid ((wrtN l n b ⟨4,id,0,[]⟩)))))],.row .upl 86 (I.hid ((wrtL l n b ⟨4,id,0,[]⟩)))],.pack [.obj 118 [(.row 1),(.p (.int .i64 s))],.row .byte 5 (I.hid ((wrtB l n b ⟨4,id,0,[]⟩)))]]]⟩):Option CT)) l n b s id
  |_,_=>none
theorem zbW:zx Tryz.prog 103 (YW alg):=by
  intro args hp r h
  unfold YW at h
  split at h
  · cases h;exact fun hn=>zpK _ _ _ _ _ hn
  · cases h
def wJ:Know Tryz.prog:=⟨103,YW,zbW⟩
def wI:Know Tryz.prog:=⟨103,fun I=>zy I (YW I),zf zbW⟩
theorem zpI (l:List Upl) (n:Int) (b:Str) (s:Int):Spc Tryz.prog 104 [.v (.one (.ptr 0 0))] [.pack [.obj 41 [(.ptr 1 0),(.ptr 2 0)],.pack [.obj 88 [(.row 1),(.p (.int .i64 n))],.row .upl 86 l],.pack [.obj 118 [(.row 1),(.p (.int .i64 s))],.row .byte 5 b]]] (.ret (.tup [])) [.pack [.obj 41 [(.ptr 1 0),(.ptr 2 0)],.pack [.obj 88 [(.row 1),(.p (.int .i64 n))],.row .upl 86 l],.pack [.obj 118 [(.row 1),(.p (.int .i64 ((b.length:Int))))],.row .byte 5 b]]]:=by
  refine spcG zh mixed Tryz.func104 (by kernel_rfl) { zbr with keep:=some [0]} [zsI,zsH] (by kernel_rfl) ?_
  intro I X hI hX
  refine orcL ?_;go_invoke;refine orcS (by kernel_rfl) ?_
  simp only [zi,Nat.reduceAdd]
  subst hI
  simp only [nrmA,nrmB,nrlB,reduceCtorEq,HO.pack.injEq,HO.obj.injEq]
  try trivial
def YU (I:Alg) (args:List D) (hp:List HO):Option CT:=match args,hp with
  |[.v (.one (.ptr 0 0))],[.pack [.obj 41 [(.ptr 1 0),(.ptr 2 0)],.pack [.obj 88 [(.row 1),(.p (.int .i64 n))],.row .upl 86 l],.pack [.obj 118 [(.row 1),(.p (.int .i64 s))],.row .byte 5 b]]]=>(fun(l:List Upl) (n:Int) (b:Str) (s:Int)=>(some (.one ⟨I.hid (True),(.ret (.tup [])),[.pack [.obj 41 [(.ptr 1 0),(.ptr 2 0)],.pack [.obj 88 [(.row 1),(.p (.int .i64 n))],.row .upl 86 l],.pack [.obj 118 [(.row 1),(.p (.int .i64 (I.hid ((b.length:Int)))))],.row .byte 5 b]]]⟩):Option CT)) l n b s
  |_,_=>none
theorem zbU:zx Tryz.prog 104 (YU alg):=by
  intro args hp r h
  unfold YU at h
  split at h
  · cases h;exact fun hn=>zpI _ _ _ _
  · cases h
def zO:Know Tryz.prog:=⟨104,YU,zbU⟩
def zN:Know Tryz.prog:=⟨104,fun I=>zy I (YU I),zf zbU⟩
end Go.Proofs.YtmkcejdibmilmaaGreatDoor
namespace Go.Proofs.YtmkcejdibmilmaaGreatDoor
open Go Go.Sep Go.Ab
set_option maxRecDepth 100000
end Go.Proofs.YtmkcejdibmilmaaGreatDoor
namespace Go.Proofs.YtmkcejdibmilmaaGreatDoor
open Go Go.Sep Go.Ab
set_option maxRecDepth 100000
theorem zlR {a b:Upl} (h1:a.id=b.id) (h2:a.size=b.size) (h3:a.note=b.note) (h4:a.sent=b.sent) (h5:a.bytes=b.bytes):a=b:=by
  cases a;cases b;simp_all
theorem Vy {l m:List Upl} {i:Nat} (h1:i<l.length) (h2:i<m.length):(decide (l.drop i=m.drop i))=(decide (l.getD i ⟨0,0,[],[],0⟩=m.getD i ⟨0,0,[],[],0⟩)&&decide (l.drop (i+1)=m.drop (i+1))):=by
  have e1:l.getD i ⟨0,0,[],[],0⟩=l[i]:=by simp [h1]
  have e2:m.getD i ⟨0,0,[],[],0⟩=m[i]:=by simp [h2]
  rw [e1,e2,Bool.eq_iff_iff,Bool.and_eq_true,decide_eq_true_iff,decide_eq_true_iff,decide_eq_true_iff,List.drop_eq_getElem_cons h1,List.drop_eq_getElem_cons h2,List.cons.injEq]
set_option maxHeartbeats 4000000 in
theorem zvf (l m:List Upl) (hneed:l.length≤1000000∧m.length≤1000000):Spc Tryz.prog 12 [.v (.one (.row 0)),.v (.one (.row 1))] [.row .upl 86 l,.row .upl 86 m] (.ret (.v (.one (.p (.bool ((decide (l=m)))))))) [.row .upl 86 l,.row .upl 86 m]:=by
  obtain⟨hl,hm⟩:=hneed
  generalize hr:decide (l=m)=r
  refine spcG zh mixed Tryz.func12 (by kernel_rfl) { keep:=some [0,1,4,5]} [xB,xA] (by kernel_rfl) ?_
  intro I X hI hX
  refine orcL ?_;go_invoke;refine orcS (by kernel_rfl) ?_
  simp only [zi,Nat.reduceAdd]
  refine⟨fun c1=> ?_,fun c1=> ?_⟩
  · subst hI
    simp only [nrmA,nrmB] at c1
    simp only [nrmA,nrmB]
    rw [← hr]
    exact(decide_eq_false fun e=>c1 (by rw [e])).symm
  have hlm:l.length=m.length:=by
    subst hI
    simp only [nrmA,nrmB] at c1
    omega
  refine zC hI zh mixed [xB,xA] hX [0,1,5] (fun(i:Nat)=>i≤l.length∧r=decide (l.drop i=m.drop i)) (fun(i:Nat)=>⟨[(0,.v (.one (.row 0))),(1,.v (.one (.row 1))),(5,.v (.one (.p (.int .i64 i))))],[.row .upl 86 l,.row .upl 86 m],81,none⟩) (fun(i:Nat)=>l.length - i) 0 (by kernel_rfl) (by kernel_rfl) ?_ ?_
  · exact⟨Nat.zero_le _,hr.symm⟩
  rintro i ⟨h1,h2⟩ A hA
  refine orcL ?_;go_invoke;refine orcS (by kernel_rfl) ?_
  simp only [zi,Nat.reduceAdd]
  subst hI
  simp only [nrmA,nrmB,nrlB,reduceCtorEq]
  have hd:i<l.length→_:=fun h=>Vy (l:=l) (m:=m) (i:=i) h (by omega)
  have hend: ¬ i<l.length→r=true:=fun h=>by
    rw [h2,List.drop_of_length_le (by omega),List.drop_of_length_le (by omega)];simp
  generalize l.getD i ⟨0,0,[],[],0⟩=x at *
  generalize m.getD i ⟨0,0,[],[],0⟩=y at *
  have hx: ¬ x=y→i<l.length→r=false:=fun h hi=>by rw [h2,hd hi,decide_eq_false h,Bool.false_and]
  have hy:x=y→i<l.length→r=decide (l.drop (i+1)=m.drop (i+1)):=fun h hi=>by rw [h2,hd hi,decide_eq_true h,Bool.true_and]
  (repeat' (first|refine And.intro ?_ ?_|intro _))<;>first|omega|exact True.intro|exact False.elim ‹False›|skip
  all_goals first
    |(exact(hx (by rintro rfl;simp_all) (by omega)).symm)
    |(rw [hx (by rintro rfl;simp_all) (by omega)])
    |exact hA (i+1) ⟨by omega,hy (zlR (by assumption) (by assumption) (by assumption) (by assumption) (by assumption)) (by omega)⟩ (by omega)
    |(rw [hend (by omega)])
    |omega
def Qa (I:Alg) (args:List D) (hp:List HO):Option CT:=match args,hp with
  |[.v (.one (.row 0)),.v (.one (.row 1))],[.row .upl 86 l,.row .upl 86 m]=>(fun(l m:List Upl)=>(some (.one ⟨I.hid (l.length≤1000000∧m.length≤1000000),(.ret (.v (.one (.p (.bool (I.hid ((decide (l=m))))))))),[.row .upl 86 l,.row .upl 86 m]⟩):Option CT)) l m
  |_,_=>none
theorem ziM:zx Tryz.prog 12 (Qa alg):=by
  intro args hp r h
  unfold Qa at h
  split at h
  · cases h;exact fun hn=>zvf _ _ hn
  · cases h
def ZE:Know Tryz.prog:=⟨12,Qa,ziM⟩
def ZC:Know Tryz.prog:=⟨12,fun I=>zy I (Qa I),zf ziM⟩
set_option maxHeartbeats 4000000 in
theorem zsQ (l m:List Upl) (a b:Int) (hneed:l.length≤1000000∧m.length≤1000000∧0≤a∧a≤b∧b≤m.length):Spc Tryz.prog 12 [.v (.one (.row 0)),.v (.one (.sub .upl 1 a b))] [.row .upl 86 l,.row .upl 86 m] (.ret (.v (.one (.p (.bool ((decide (l=(m.drop a.toNat).take (b.toNat - a.toNat))))))))) [.row .upl 86 l,.row .upl 86 m]:=by
  obtain⟨hl,hml,ha,hab,hb⟩:=hneed
  obtain⟨a,rfl⟩: ∃ x:Nat,a=x:=⟨a.toNat,by omega⟩
  obtain⟨b,rfl⟩: ∃ x:Nat,b=x:=⟨b.toNat,by omega⟩
  have hq:((m.drop a).take (b - a)).length=b - a:=by rw [List.length_take,List.length_drop];omega
  have hqg: ∀ i,i<b - a→((m.drop a).take (b - a)).getD i ⟨0,0,[],[],0⟩=m.getD (a+i) ⟨0,0,[],[],0⟩:=fun i hi=>by
    simp only [List.getD_eq_getElem?_getD,List.getElem?_take,List.getElem?_drop,if_pos hi]
  obtain⟨q,hqe⟩: ∃ q,q=(m.drop a).take (b - a):=⟨_,rfl⟩
  rw [← hqe] at hq hqg
  generalize hr0:decide (l=(m.drop (a:Int).toNat).take ((b:Int).toNat - (a:Int).toNat))=r
  have hr:decide (l=q)=r:=by rw [← hr0];exact decide_eq_decide.2 (by rw [hqe,Int.toNat_natCast,Int.toNat_natCast])
  refine spcG zh mixed Tryz.func12 (by kernel_rfl) { keep:=some [0,1,4,5]} [xB,xA,ZE,ZC] (by kernel_rfl) ?_
  intro I X hI hX
  refine orcL ?_;go_invoke;refine orcS (by kernel_rfl) ?_
  simp only [zi,Nat.reduceAdd]
  refine⟨fun c1=> ?_,fun c1=> ?_⟩
  · subst hI
    simp only [nrmA,nrmB] at c1
    simp only [nrmA,nrmB]
    rw [← hr]
    exact(decide_eq_false fun e=>c1 (by rw [e,hq];omega)).symm
  have hlm:l.length=q.length:=by
    subst hI
    simp only [nrmA,nrmB] at c1
    omega
  refine zC hI zh mixed [xB,xA,ZE,ZC] hX [0,1,5] (fun(i:Nat)=>i≤l.length∧r=decide (l.drop i=q.drop i)) (fun(i:Nat)=>⟨[(0,.v (.one (.row 0))),(1,.v (.one (.sub .upl 1 (a:Int) (b:Int)))),(5,.v (.one (.p (.int .i64 i))))],[.row .upl 86 l,.row .upl 86 m],81,none⟩) (fun(i:Nat)=>l.length - i) 0 (by kernel_rfl) (by kernel_rfl) ?_ ?_
  · exact⟨Nat.zero_le _,hr.symm⟩
  rintro i ⟨h1,h2⟩ A hA
  refine orcL ?_;go_invoke;refine orcS (by kernel_rfl) ?_
  simp only [zi,Nat.reduceAdd]
  subst hI
  simp only [nrmA,nrmB,nrlB,reduceCtorEq]
  have hd:i<l.length→_:=fun h=>Vy (l:=l) (m:=q) (i:=i) h (by omega)
  have hend: ¬ i<l.length→r=true:=fun h=>by
    rw [h2,List.drop_of_length_le (by omega),List.drop_of_length_le (by omega)];simp
  have hqi:i<l.length→q.getD i ⟨0,0,[],[],0⟩=m.getD (a+i) ⟨0,0,[],[],0⟩:=fun h=>hqg i (by omega)
  rw [show((a:Int)+(i:Int)).toNat=a+i by omega]
  generalize l.getD i ⟨0,0,[],[],0⟩=x at *
  generalize q.getD i ⟨0,0,[],[],0⟩=y0 at *
  generalize m.getD (a+i) ⟨0,0,[],[],0⟩=y at *
  have hx: ¬ x=y→i<l.length→r=false:=fun h hi=>by rw [h2,hd hi,hqi hi,decide_eq_false h,Bool.false_and]
  have hy:x=y→i<l.length→r=decide (l.drop (i+1)=q.drop (i+1)):=fun h hi=>by rw [h2,hd hi,hqi hi,decide_eq_true h,Bool.true_and]
  (repeat' (first|refine And.intro ?_ ?_|intro _))<;>first|omega|exact True.intro|exact False.elim ‹False›|skip
  all_goals first
    |(exact(hx (by rintro rfl;simp_all) (by omega)).symm)
    |(rw [hx (by rintro rfl;simp_all) (by omega)])
    |exact hA (i+1) ⟨by omega,hy (zlR (by assumption) (by assumption) (by assumption) (by assumption) (by assumption)) (by omega)⟩ (by omega)
    |(rw [hend (by omega)])
    |omega
def WN (I:Alg) (args:List D) (hp:List HO):Option CT:=match args,hp with
  |[.v (.one (.row 0)),.v (.one (.sub .upl 1 a b))],[.row .upl 86 l,.row .upl 86 m]=>(fun(l m:List Upl) (a b:Int)=>(some (.one ⟨I.hid (l.length≤1000000∧m.length≤1000000∧0≤a∧a≤b∧b≤m.length),(.ret (.v (.one (.p (.bool (I.hid ((decide (l=(m.drop a.toNat).take (b.toNat - a.toNat)))))))))),[.row .upl 86 l,.row .upl 86 m]⟩):Option CT)) l m a b
  |_,_=>none
theorem zeQ:zx Tryz.prog 12 (WN alg):=by
  intro args hp r h
  unfold WN at h
  split at h
  · cases h;exact fun hn=>zsQ _ _ _ _ hn
  · cases h
def Yq:Know Tryz.prog:=⟨12,WN,zeQ⟩
def Yp:Know Tryz.prog:=⟨12,fun I=>zy I (WN I),zf zeQ⟩
end Go.Proofs.YtmkcejdibmilmaaGreatDoor
namespace Go.Proofs.YtmkcejdibmilmaaGreatDoor
open Go Go.Sep Go.Ab
set_option maxRecDepth 100000
end Go.Proofs.YtmkcejdibmilmaaGreatDoor
namespace Go.Proofs.YtmkcejdibmilmaaGreatDoor
open Go Go.Sep Go.Ab Go.Jrn
set_option maxRecDepth 100000
structure Sto where
  l:List Upl
  n:Int
  b:Str
  s:Int
end Go.Proofs.YtmkcejdibmilmaaGreatDoor
namespace Go.Proofs.YtmkcejdibmilmaaGreatDoor
open Go Go.Sep Go.Ab Go.Jrn
set_option maxRecDepth 100000
theorem zpJ (l:List Upl) (n:Int) (b:Str) (s m:Int) (hneed:b.length≤100000):Spc Tryz.prog 124 [.v (.one (.ptr 0 0)),.v (.one (.p (.int .i64 m)))] [.pack [.obj 41 [(.ptr 1 0),(.ptr 2 0)],.pack [.obj 88 [(.row 1),(.p (.int .i64 n))],.row .upl 86 l],.pack [.obj 118 [(.row 1),(.p (.int .i64 s))],.row .byte 5 b]]] (.ret (.v (.one (.p (.bool ((U0 b m))))))) [.pack [.obj 41 [(.ptr 1 0),(.ptr 2 0)],.pack [.obj 88 [(.row 1),(.p (.int .i64 n))],.row .upl 86 l],.pack [.obj 118 [(.row 1),(.p (.int .i64 s))],.row .byte 5 b]]]:=by
  refine spcG zh mixed Tryz.func124 (by kernel_rfl) { zbr with keep:=some [0,1,4]} [znf,zne] (by kernel_rfl) ?_
  intro I X hI hX
  refine orcL ?_;go_invoke;refine orcS (by kernel_rfl) ?_
  simp only [zi,Nat.reduceAdd]
  subst hI
  simp only [nrmA,nrmB,nrlB,reduceCtorEq,HO.pack.injEq,HO.obj.injEq]
  (repeat' (first|refine And.intro ?_ ?_|intro _))<;>first|omega|exact True.intro|exact False.elim ‹False›|skip
def YV (I:Alg) (args:List D) (hp:List HO):Option CT:=match args,hp with
  |[.v (.one (.ptr 0 0)),.v (.one (.p (.int .i64 m)))],[.pack [.obj 41 [(.ptr 1 0),(.ptr 2 0)],.pack [.obj 88 [(.row 1),(.p (.int .i64 n))],.row .upl 86 l],.pack [.obj 118 [(.row 1),(.p (.int .i64 s))],.row .byte 5 b]]]=>(fun(l:List Upl) (n:Int) (b:Str) (s m:Int)=>(some (.one ⟨I.hid (b.length≤100000),(.ret (.v (.one (.p (.bool (I.hid ((U0 b m)))))))),[.pack [.obj 41 [(.ptr 1 0),(.ptr 2 0)],.pack [.obj 88 [(.row 1),(.p (.int .i64 n))],.row .upl 86 l],.pack [.obj 118 [(.row 1),(.p (.int .i64 s))],.row .byte 5 b]]]⟩):Option CT)) l n b s m
  |_,_=>none
theorem zbV:zx Tryz.prog 124 (YV alg):=by
  intro args hp r h
  unfold YV at h
  split at h
  · cases h;exact fun hn=>zpJ _ _ _ _ _ hn
  · cases h
def xg:Know Tryz.prog:=⟨124,YV,zbV⟩
def y9:Know Tryz.prog:=⟨124,fun I=>zy I (YV I),zf zbV⟩
end Go.Proofs.YtmkcejdibmilmaaGreatDoor
namespace Go.Proofs.YtmkcejdibmilmaaGreatDoor
open Go Go.Sep Go.Ab
set_option maxRecDepth 100000
def txtN (base:Nat):Nat→Nat→Str
  |0,_=>[]
  |f+1,n=>if n<base then [if n<10 then UInt8.ofNat (48+n) else UInt8.ofNat (87+n)] else txtN base f (n / base)++[if n % base<10 then UInt8.ofNat (48+n % base) else UInt8.ofNat (87+n % base)]
def dgN (d:Nat):UInt8:=if d<10 then UInt8.ofNat (48+d) else UInt8.ofNat (87+d)
theorem zij {base f n:Nat} (h:n<base):txtN base (f+1) n=[dgN n]:=by rw [txtN,if_pos h];rfl
theorem zlT {base f n:Nat} (h: ¬ n<base):txtN base (f+1) n=txtN base f (n / base)++[dgN (n % base)]:=by rw [txtN,if_neg h];rfl
theorem zik (base:Nat): ∀ f n,(txtN base f n).length≤f
  |0,_=>Nat.le_refl _
  | f +1,n=>by
    rw [txtN]
    split
    · simp
    · have:=zik base f (n / base)
      rw [List.length_append];simp;omega
theorem zjC: ∀ (k n:Nat),n<10 ^ (k+1)→Lib.decDigits n=txtN 10 (k+1) n
  | 0,n,h=>by
    rw [Lib.decDigits,dif_pos (by omega),zij (by omega)]
    unfold dgN
    rw [if_pos (by omega)]
  | k +1,n,h=>by
    rw [Lib.decDigits]
    by_cases hn:n<10
    · rw [dif_pos hn,zij hn]
      unfold dgN
      rw [if_pos hn]
    · rw [dif_neg hn,zlT hn,zjC k (n / 10) (by rw [Nat.pow_succ] at h;omega)]
      unfold dgN
      rw [if_pos (Nat.mod_lt _ (by decide))]
def decS (n:Int):Str:=txtN 10 9 n.toNat
theorem zqM {n:Int} (h0:0≤n) (h1:n<1000000000):Lib.itoa n=decS n:=by
  unfold Lib.itoa decS
  rw [if_neg (by omega),zjC 8 n.toNat (by omega)]
theorem uD (n:Int):(decS n).length≤9:=zik 10 9 _
theorem zxg (n:Int) (hneed:0≤n∧n<1000000000):Spc Tryz.prog 121 [.v (.one (.p (.int .i64 n)))] [] (.ret (.v (.one (.p (.str (decS n)))))) []:=by
  refine Spc.of_below ⟨_,Tryz.func121,by kernel_rfl,by kernel_rfl⟩ fun S bs w vs hW hM=> ?_
  obtain⟨v,r,rfl⟩: ∃ v r,vs=v::r:=by cases vs with|nil=>exact hM.elim|cons v r=>exact⟨v,r,rfl⟩
  obtain⟨h1,hM⟩:=hM
  obtain rfl:r=[]:=by cases r with|nil=>rfl|cons v r=>exact hM.elim
  cases h1 with
  | int _ _=>
    refine⟨.string (Sep.S (decS n)),.str _ (by have:=uD n;unfold maxLen;omega),?_⟩
    rw [← zqM hneed.1 hneed.2]
    refine(Tryz.strconv_Itoa n (by omega) (by omega) w (by first|exact hW|exact hW.1)).mono fun e w' h=> ?_
    obtain⟨he,k,os,rfl⟩:=h
    refine⟨he,?_⟩
    exact⟨rfl,rfl,rfl,(show w.heap.size≤(w.heap++os).size by rw [Array.size_append];omega),fun j hj=>show(w.heap++os)[j]? =w.heap[j]? from Array.getElem?_append_left hj⟩
def zdR (I:Alg) (args:List D) (hp:List HO):Option CT:=match args,hp with
  |[.v (.one (.p (.int .i64 n)))],[]=>(fun(n:Int)=>(some (.one ⟨I.hid (0≤n∧n<1000000000),(.ret (.v (.one (.p (.str (I.hid (decS n))))))),[]⟩):Option CT)) n
  |_,_=>none
theorem znT:zx Tryz.prog 121 (zdR alg):=by
  intro args hp r h
  unfold zdR at h
  split at h
  · cases h;exact fun hn=>zxg _ hn
  · cases h
def Wi:Know Tryz.prog:=⟨121,zdR,znT⟩
def Wh:Know Tryz.prog:=⟨121,fun I=>zy I (zdR I),zf znT⟩
end Go.Proofs.YtmkcejdibmilmaaGreatDoor
namespace Go.Proofs.YtmkcejdibmilmaaGreatDoor
open Go Go.Sep Go.Ab
def ql:Str:=[47,102,105,108,101,115]
def yZ:Str:=[47,102,105,108,101,115,47]
def verS:Str:=[49,46,48,46,48]
def zvN:Str:=[79,80,84,73,79,78,83]
def zno:Str:=[80,79,83,84]
def zqP:Str:=[72,69,65,68]
def Zm:Str:=[80,65,84,67,72]
def zry:Str:=[68,69,76,69,84,69]
def zgU:Str:=[116,117,115,45,114,101,115,117,109,97,98,108,101]
def xM:Str:=[117,112,108,111,97,100,45,108,101,110,103,116,104]
def zak:Str:=[117,112,108,111,97,100,45,100,101,102,101,114,45,108,101,110,103,116,104]
def zgR:Str:=[117,112,108,111,97,100,45,109,101,116,97,100,97,116,97]
def Yl:Str:=[117,112,108,111,97,100,45,111,102,102,115,101,116]
def ZW:Str:=[99,111,110,116,101,110,116,45,116,121,112,101]
def octS:Str:=[97,112,112,108,105,99,97,116,105,111,110,47,111,102,102,115,101,116,43,111,99,116,101,116,45,115,116,114,101,97,109]
def zuQ:Str:=[84,117,115,45,82,101,115,117,109,97,98,108,101]
def zlV:Str:=[84,117,115,45,86,101,114,115,105,111,110]
def zuS:Str:=[84,117,115,45,77,97,120,45,83,105,122,101]
def zuU:Str:=[84,117,115,45,69,120,116,101,110,115,105,111,110]
def zuT:Str:=[99,114,101,97,116,105,111,110,44,99,114,101,97,116,105,111,110,45,100,101,102,101,114,45,108,101,110,103,116,104,44,116,101,114,109,105,110,97,116,105,111,110]
def locN:Str:=[76,111,99,97,116,105,111,110]
def zaj:Str:=[85,112,108,111,97,100,45,79,102,102,115,101,116]
def zuN:Str:=[85,112,108,111,97,100,45,76,101,110,103,116,104]
def zuO:Str:=[85,112,108,111,97,100,45,68,101,102,101,114,45,76,101,110,103,116,104]
def zuM:Str:=[85,112,108,111,97,100,45,77,101,116,97,100,97,116,97]
def zwE:Str:=[67,97,99,104,101,45,67,111,110,116,114,111,108]
def zvR:Str:=[110,111,45,115,116,111,114,101]
def oneT (f:List Fld) (n:Str):Str × Int:=oneF (valsF f n)
def XQ (f:List Fld) (n:Str):Bool:=decide ((oneT f n).2=10)||(decide ((oneT f n).2=0)&&(numA (oneT f n).1 10 9).2)
def yw (f:List Fld) (n:Str):Int:=if(oneT f n).2=10 then -1 else(numA (oneT f n).1 10 9).1
def VA (f:List Fld):Bool:=decide ((oneT f zak).2=10)||(decide ((oneT f zak).2=0)&&decide ((oneT f zak).1=[49]))
def zft (f:List Fld):Bool:=decide ((oneT f zak).2=0)
def WI (c:Int):Int:=if c=10 then 404 else if c=17∨c=19 then 409 else if c=4 then 413 else if c=8∨c=16 then 507 else 400
def wsS (q:Sto) (e:Ent):Sto:=⟨wrtL q.l q.n q.b e,wrtN q.l q.n q.b e,wrtB q.l q.n q.b e,q.s⟩
def wsC (q:Sto) (e:Ent):Int:=wrtC q.l q.n q.b e
def syS (q:Sto):Sto:= { q with s:=(q.b.length:Int)}
def creE (q:Sto) (n:Int) (t:Str):Ent:=⟨1,q.n+1,n,t⟩
structure TA where
  st:Int
  fs:List Fld
  q:Sto
def y8 (q:Sto) (f:List Fld):TA:=
  if XQ f xM=false then⟨400,[],q⟩
  else if VA f=false then⟨400,[],q⟩
  else if decide (0≤yw f xM)=zft f then⟨400,[],q⟩
  else if(oneT f zgR).2=9 then⟨400,[],q⟩
  else if wsC q (creE q (yw f xM) (oneT f zgR).1)≠0 then⟨WI (wsC q (creE q (yw f xM) (oneT f zgR).1)),[],q⟩
  else⟨201,[⟨locN,yZ++decS (q.n+1)⟩],syS (wsS q (creE q (yw f xM) (oneT f zgR).1))⟩
def idB (t:Str):Bool:=Lib.hasPrefix t yZ&&((numA (t.drop 7) 10 9).2&&decide (decS (numA (t.drop 7) 10 9).1=t.drop 7))
def idV (t:Str):Int:=(numA (t.drop 7) 10 9).1
def uplB (q:Sto) (t:Str):Bool:=idB t&&getB q.l (idV t)
def lenF (u:Upl):Fld:=if u.size<0 then⟨zuO,[49]⟩ else⟨zuN,decS u.size⟩
def zan (u:Upl):List Fld:=[⟨zaj,decS (u.bytes.length:Int)⟩,lenF u,⟨zwE,zvR⟩]++(if u.note=[] then [] else [⟨zuM,u.note⟩])
def wZ (q:Sto) (u:Upl) (f:List Fld) (body:Str):TA:=
  if(oneT f ZW).2=9 then⟨400,[],q⟩
  else if(xN (oneT f ZW).1).2≠0∨(xN (oneT f ZW).1).1.word≠octS then⟨415,[],q⟩
  else if XQ f Yl=false then⟨400,[],q⟩
  else if yw f Yl<0 then⟨400,[],q⟩
  else if yw f Yl≠(u.bytes.length:Int) then⟨409,[],q⟩
  else if XQ f xM=false then⟨400,[],q⟩
  else if 0≤yw f xM∧0≤u.size∧yw f xM≠u.size then⟨400,[],q⟩
  else if 0≤yw f xM∧u.size<0∧(2000<yw f xM∨yw f xM<yw f Yl+(body.length:Int)) then⟨413,[],q⟩
  else if U0 q.b ((body.length:Int)+60)=false then⟨507,[],q⟩
  else if(if apG q.l u.id (yw f Yl) then 17 else wsC q (apE u.id body))≠0 then⟨WI (if apG q.l u.id (yw f Yl) then 17 else wsC q (apE u.id body)),[],q⟩
  else if 0≤yw f xM∧u.size<0 then
    if wsC (wsS q (apE u.id body)) ⟨3,u.id,yw f xM,[]⟩≠0 then⟨WI (wsC (wsS q (apE u.id body)) ⟨3,u.id,yw f xM,[]⟩),[],wsS q (apE u.id body)⟩
    else⟨204,[⟨zaj,decS (yw f Yl+(body.length:Int))⟩],syS (wsS (wsS q (apE u.id body)) ⟨3,u.id,yw f xM,[]⟩)⟩
  else⟨204,[⟨zaj,decS (yw f Yl+(body.length:Int))⟩],syS (wsS q (apE u.id body))⟩
def zbK (q:Sto) (u:Upl):TA:=
  if wsC q ⟨4,u.id,0,[]⟩≠0 then⟨WI (wsC q ⟨4,u.id,0,[]⟩),[],q⟩ else⟨204,[],syS (wsS q ⟨4,u.id,0,[]⟩)⟩
def zQ (q:Sto) (m t:Str) (f:List Fld) (body:Str):TA:=
  if t=ql∧m=zvN then⟨204,[⟨zlV,verS⟩,⟨zuS,decS 2000⟩,⟨zuU,zuT⟩],q⟩
  else if(oneT f zgU).2=9 then⟨400,[],q⟩
  else if(oneT f zgU).1≠verS then⟨412,[⟨zlV,verS⟩],q⟩
  else if t=ql then(if m≠zno then⟨405,[],q⟩ else y8 q f)
  else if uplB q t=false then⟨404,[],q⟩
  else if m=zqP then⟨200,zan (getU q.l (idV t)),q⟩
  else if m=Zm then wZ q (getU q.l (idV t)) f body
  else if m=zry then zbK q (getU q.l (idV t))
  else⟨405,[],q⟩
def resT:Fld:=⟨zuQ,verS⟩
end Go.Proofs.YtmkcejdibmilmaaGreatDoor
namespace Go.Proofs.YtmkcejdibmilmaaGreatDoor
open Go Go.Sep Go.Ab
def Wq (n:Int):Str:=
  if n=200 then [79,75]
  else if n=201 then [67,114,101,97,116,101,100]
  else if n=204 then [78,111,32,67,111,110,116,101,110,116]
  else if n=400 then [66,97,100,32,82,101,113,117,101,115,116]
  else if n=404 then [78,111,116,32,70,111,117,110,100]
  else if n=405 then [77,101,116,104,111,100,32,78,111,116,32,65,108,108,111,119,101,100]
  else if n=409 then [67,111,110,102,108,105,99,116]
  else if n=412 then [80,114,101,99,111,110,100,105,116,105,111,110,32,70,97,105,108,101,100]
  else if n=413 then [67,111,110,116,101,110,116,32,84,111,111,32,76,97,114,103,101]
  else if n=415 then [85,110,115,117,112,112,111,114,116,101,100,32,77,101,100,105,97,32,84,121,112,101]
  else if n=507 then [73,110,115,117,102,102,105,99,105,101,110,116,32,83,116,111,114,97,103,101]
  else []
def badF:List Fld→Int
  |[]=>0
  |f::l=>if(textF f).2=0 then badF l else(textF f).2
def Yh:List Fld→Str
  |[]=>[]
  |f::l=>(textF f).1++[13,10]++Yh l
theorem zon (a b:List Fld):Yh (a++b)=Yh a++Yh b:=by
  induction a with
  |nil=>rfl
  |cons f l ih=>simp only [List.cons_append,Yh,ih,List.append_assoc]
def zhu (st:Int):Str:=[72,84,84,80,47,49,46,49,32]++decS st++[32]++Wq st++[13,10]
def zpC (n:Int):Str:=[67,111,110,116,101,110,116,45,76,101,110,103,116,104,58,32]++decS n++[13,10,13,10]
def zuw:Str:=[99,111,110,116,101,110,116,45,108,101,110,103,116,104]
def zae (st:Int) (fs:List Fld):Int:=
  if Wq st=[] then 11 else if 16≤fs.length then 8 else if 0<(valsF fs zuw).length then 12 else badF fs
def writeT (st:Int) (fs:List Fld) (body:Str):Str:=
  if zae st fs=0 then zhu st++Yh fs++zpC body.length++body else []
theorem zeB (f:Fld):(textF f).1.length≤200:=by
  unfold textF
  split
  · simp
  split
  · simp
  split
  · simp
  · simp only [List.length_append,List.length_cons,List.length_nil];omega
theorem zbi: ∀ l:List Fld,(Yh l).length≤202 * l.length
  |[]=>by simp [Yh]
  | f::l=>by
    have:=zeB f
    have:=zbi l
    simp only [Yh,List.length_append,List.length_cons,List.length_nil];omega
theorem zpv {n:Int} (h:Wq n≠[]):n=200∨n=201∨n=204∨n=400∨n=404∨n=405∨n=409∨n=412∨n=413∨n=415∨n=507:=by
  refine Decidable.byContradiction fun hn=>h ?_
  simp only [not_or] at hn
  simp [Wq,hn]
theorem zah {n:Int} (h:Wq n≠[]):200≤n∧n≤507∧(Wq n).length≤30:=by
  rcases zpv h with rfl|rfl|rfl|rfl|rfl|rfl|rfl|rfl|rfl|rfl|rfl<;>decide
end Go.Proofs.YtmkcejdibmilmaaGreatDoor
namespace Go.Proofs.YtmkcejdibmilmaaGreatDoor
open Go Go.Sep Go.Ab
def ln0:Ln:=⟨[],false,0⟩
def zve (c:UInt8):Bool:=zdp (c.toNat:Int)
def lnF (s:Ln) (c:UInt8):Ln × Str × Bool × Int:=
  if s.code≠0 then(s,[],false,s.code)
  else if s.cr then(if c=10 then(⟨[],false,0⟩,s.b,true,0) else(⟨s.b,s.cr,2⟩,[],false,2))
  else if c=10 then(⟨s.b,s.cr,2⟩,[],false,2)
  else if c=13 then(⟨s.b,true,s.code⟩,[],false,0)
  else if zve c=false then(⟨s.b,s.cr,3⟩,[],false,3)
  else if s.b.length=200 then(⟨s.b,s.cr,4⟩,[],false,4)
  else(⟨s.b++[c],s.cr,s.code⟩,[],false,0)
def lnB (s:Ln):Bool:=decide (0<s.b.length)||s.cr
theorem YC (s:Ln) (c:UInt8):(lnF s c).2.1.length≤s.b.length:=by
  unfold lnF
  repeat' split
  all_goals simp
theorem zqG (s:Ln) (c:UInt8):(lnF s c).1.b.length≤s.b.length+1:=by
  unfold lnF
  repeat' split
  all_goals simp
end Go.Proofs.YtmkcejdibmilmaaGreatDoor
namespace Go.Proofs.YtmkcejdibmilmaaGreatDoor
open Go Go.Sep Go.Ab
end Go.Proofs.YtmkcejdibmilmaaGreatDoor
namespace Go.Proofs.YtmkcejdibmilmaaGreatDoor
open Go Go.Sep Go.Ab
def Zi (line:Str):Int × Bool:=numA (Lib.trimS (cutB line 59).1 [32,9]) 16 6
theorem zaL: ∀ (s:Str) (n:Int),0≤n→0≤(numG 16 n s).1
  |[],n,h=>h
  | c::l,n,h=>by
    rw [numG]
    split
    · exact Int.le_refl _
    · exact zaL l _ (by omega)
theorem TW (t:Str):0≤(Zi t).1:=by
  unfold Zi numA
  split
  · exact Int.le_refl _
  · exact zaL _ _ (Int.le_refl _)
def ch0:Ch:=⟨ln0,0,0,0,0,0⟩
def chL (s:Ch) (t:Str):Ch × Int:=
  if s.pos=2 then(if t=[] then({ s with pos:=0},0) else(s,5))
  else if s.pos=0 then
    (if(Zi t).2=false then(s,7)
    else if 4000 - s.all<(Zi t).1 then(s,4)
    else if(Zi t).1=0 then({ s with pos:=3},0)
    else({ s with pos:=1,left:=(Zi t).1},0))
  else if s.pos=3 then
    (if t=[] then({ s with pos:=4},0)
    else if s.tails=16 then(s,8)
    else({ s with tails:=s.tails+1},(vS t).2))
  else(s,0)
def chF (s:Ch) (c:UInt8):Ch × Str × Bool × Int:=
  if s.code≠0 then(s,[],false,s.code)
  else if s.pos=4 then({ s with code:=18},[],false,18)
  else if s.pos=1 then({ s with left:=s.left - 1,all:=s.all+1,pos:=if s.left - 1=0 then 2 else 1},[c],false,0)
  else if(lnF s.ln c).2.2.2≠0 then({ s with ln:=(lnF s.ln c).1,code:=(lnF s.ln c).2.2.2},[],false,(lnF s.ln c).2.2.2)
  else if(lnF s.ln c).2.2.1=true then
    (if(chL { s with ln:=(lnF s.ln c).1} (lnF s.ln c).2.1).2≠0 then({ (chL { s with ln:=(lnF s.ln c).1} (lnF s.ln c).2.1).1 with code:=(chL { s with ln:=(lnF s.ln c).1} (lnF s.ln c).2.1).2},[],false,(chL { s with ln:=(lnF s.ln c).1} (lnF s.ln c).2.1).2)
    else((chL { s with ln:=(lnF s.ln c).1} (lnF s.ln c).2.1).1,[],decide ((chL { s with ln:=(lnF s.ln c).1} (lnF s.ln c).2.1).1.pos=4),0))
  else({ s with ln:=(lnF s.ln c).1},[],false,0)
inductive ChR where
  |more (out:Str) (held:Nat)
  |over (out rest:Str)
  |bad (out:Str) (e:Int) (rest:Str)
def ChR.pre (o:Str):ChR→ChR
  |.more p h=>.more (o++p) h
  |.over p r=>.over (o++p) r
  |.bad p e r=>.bad (o++p) e r
theorem zrB {s:Ch} {c:UInt8}:(chF s c).2.1.length≤1∧((chF s c).2.2.2≠0→(chF s c).2.1=[])∧((chF s c).2.2.1=true→(chF s c).2.2.2=0∧(chF s c).2.1=[]∧(chF s c).1.pos=4∧(chF s c).1.code=0)∧((chF s c).2.2.2≠0→(chF s c).2.2.1=false∧(chF s c).1.code=(chF s c).2.2.2):=by
  unfold chF
  split
  · simp
  rename_i h0
  split
  · simp
  split
  · simp
  split
  · simp
  split
  · split
    · simp
    · refine⟨by simp,by simp,fun h=>⟨rfl,rfl,by simpa using h,?_⟩,fun h=>absurd rfl h⟩
      have: ∀ (x:Ch) (t:Str),x.code=0→(chL x t).1.code=0:=by
        intro x t hx
        unfold chL
        split
        · split<;>exact hx
        split
        · split
          · exact hx
          split
          · exact hx
          split<;>exact hx
        split
        · split
          · exact hx
          split<;>exact hx
        · exact hx
      exact this _ _ (by simpa using h0)
  · simp
end Go.Proofs.YtmkcejdibmilmaaGreatDoor
namespace Go.Proofs.YtmkcejdibmilmaaGreatDoor
open Go Go.Sep Go.Ab
def hd0:Hd:=⟨[],[],0,[],0⟩
def prt0:Prt:=⟨[],[],[],[]⟩
def evH (h:Hd):Evt:=⟨1,h,[],prt0,0⟩
def evB (b:Str):Evt:=⟨2,hd0,b,prt0,0⟩
def evE:Evt:=⟨3,hd0,[],prt0,0⟩
def evF (c:Int):Evt:=⟨4,hd0,[],prt0,c⟩
def uV (out:List Evt) (e:Evt):List Evt:=
  match out.getLast? with
  |some x=>if e.kind=2∧x.kind=2 then out.dropLast++[evB (x.bytes++e.bytes)] else out++[e]
  |none=>out++[e]
def zZ (l:List Evt):List Evt:=l.foldl uV []
theorem xW (z:List Evt) (x e:Evt):uV (z++[x]) e=if e.kind=2∧x.kind=2 then z++[evB (x.bytes++e.bytes)] else z++[x]++[e]:=by
  unfold uV
  simp
theorem YF (e:Evt):uV [] e=[e]:=rfl
end Go.Proofs.YtmkcejdibmilmaaGreatDoor
namespace Go.Proofs.YtmkcejdibmilmaaGreatDoor
open Go Go.Sep Go.Ab
def yI:Str→List Str
  |[]=>[[]]
  |c::r=>if c=32 then []::yI r else(match yI r with|[]=>[[c]]|w::ws=>(c::w)::ws)
theorem zbX (s:Str):yI s≠[]:=by
  cases s with
  |nil=>simp [yI]
  | cons c r=>
    simp only [yI]
    split
    · simp
    · split<;>simp
def VD:Str:=[72,84,84,80,47,49,46,49]
def zaZ:Str:=[72,84,84,80,47,49,46,48]
def begM (s:Str):Int × Hd:=
  match yI s with
  | [a,b,c]=>
    if TQ a=false then(6,hd0)
    else if b.head?≠some 47∨b.contains 9=true then(5,hd0)
    else if c=VD then(0,⟨a,b,1,[],0⟩)
    else if c=zaZ then(0,⟨a,b,0,[],0⟩)
    else(11,⟨a,b,0,[],0⟩)
  |_=>(5,hd0)
def zfF:Str:=[104,111,115,116]
def Ro:Str:=[99,111,110,116,101,110,116,45,108,101,110,103,116,104]
def zpA:Str:=[116,114,97,110,115,102,101,114,45,101,110,99,111,100,105,110,103]
def zab:Str:=[99,104,117,110,107,101,100]
def sizM (z0:Str) (n:Int):List Str→Int × Int
  |[]=>(n,0)
  |s::r=>if(numA s 10 9).2=false then(0,7) else if s≠z0 then(0,12) else sizM z0 (numA s 10 9).1 r
def lenM (mi:Int) (f:List Fld):Int × Int:=
  if valsF f zpA≠[] then
    if valsF f Ro≠[]∨mi=0 then(0,12)
    else if 1<(valsF f zpA).length∨lowS ((valsF f zpA).getD 0 [])≠zab then(0,11)
    else(-1,0)
  else if(sizM ((valsF f Ro).getD 0 []) 0 (valsF f Ro)).2≠0 then(0,(sizM ((valsF f Ro).getD 0 []) 0 (valsF f Ro)).2)
  else if 4000<(sizM ((valsF f Ro).getD 0 []) 0 (valsF f Ro)).1 then(0,4)
  else((sizM ((valsF f Ro).getD 0 []) 0 (valsF f Ro)).1,0)
def ztH (mi:Int) (f:List Fld):Bool:=decide ((oneF (valsF f zfF)).2=9)||(decide ((oneF (valsF f zfF)).2=10)&&decide (mi=1))
def zvn (q:Rq) (e:Evt):Rq:= { q with out:=q.out++[e]}
def vG (q:Rq) (c:Int):Rq:= { q with pos:=4,out:=q.out++[evF c]}
def tZ (q:Rq):Rq:= { q with out:=q.out++[evE],pos:=0,h:=hd0,own:=true}
def yc (q:Rq):Rq × Int:=
  if ztH q.h.minor q.h.fields=true then(q,13)
  else if(lenM q.h.minor q.h.fields).2≠0 then({ q with own:=false},(lenM q.h.minor q.h.fields).2)
  else if(lenM q.h.minor q.h.fields).1=0 then(tZ { q with h:= { q.h with length:=0},own:=false,out:=q.out++[evH { q.h with length:=0}]},0)
  else if 0<(lenM q.h.minor q.h.fields).1 then({ q with h:= { q.h with length:=(lenM q.h.minor q.h.fields).1},own:=false,out:=q.out++[evH { q.h with length:=(lenM q.h.minor q.h.fields).1}],pos:=2,left:=(lenM q.h.minor q.h.fields).1},0)
  else({ q with h:= { q.h with length:=(lenM q.h.minor q.h.fields).1},own:=false,out:=q.out++[evH { q.h with length:=(lenM q.h.minor q.h.fields).1}],pos:=3,ck:=some ch0},0)
def zL (q:Rq) (s:Str):Rq × Int:=
  if q.pos=0 then
    if s=[] then(q,0)
    else if(begM s).1=0 then({ q with h:=(begM s).2,pos:=1},0)
    else if(begM s).1=11 then({ q with h:=(begM s).2},11)
    else(q,(begM s).1)
  else if s=[] then yc q
  else if q.h.fields.length=16 then(q,8)
  else({ q with h:= { q.h with fields:=q.h.fields++[(vS s).1]}},(vS s).2)
def ckOf (q:Rq):Ch:=match q.ck with|some c=>c|none=>ch0
def rqF (q:Rq) (c:UInt8):Rq:=
  if q.pos=2 then
    if q.left - 1=0 then tZ { q with out:=q.out++[evB [c]],left:=0} else { q with out:=q.out++[evB [c]],left:=q.left - 1}
  else if q.pos=3 then
    if(chF (ckOf q) c).2.2.2≠0 then vG { q with ck:=some (chF (ckOf q) c).1} (chF (ckOf q) c).2.2.2
    else if(chF (ckOf q) c).2.2.1=true then tZ { q with ck:=some (chF (ckOf q) c).1,out:=if(chF (ckOf q) c).2.1≠[] then q.out++[evB (chF (ckOf q) c).2.1] else q.out}
    else { q with ck:=some (chF (ckOf q) c).1,out:=if(chF (ckOf q) c).2.1≠[] then q.out++[evB (chF (ckOf q) c).2.1] else q.out}
  else if q.pos=0∨q.pos=1 then
    if(lnF q.ln c).2.2.2≠0 then vG { q with ln:=(lnF q.ln c).1} (lnF q.ln c).2.2.2
    else if(lnF q.ln c).2.2.1=true then
      if(zL { q with ln:=(lnF q.ln c).1} (lnF q.ln c).2.1).2≠0 then vG (zL { q with ln:=(lnF q.ln c).1} (lnF q.ln c).2.1).1 (zL { q with ln:=(lnF q.ln c).1} (lnF q.ln c).2.1).2
      else(zL { q with ln:=(lnF q.ln c).1} (lnF q.ln c).2.1).1
    else { q with ln:=(lnF q.ln c).1}
  else q
def rq0:Rq:=⟨ln0,0,hd0,0,none,true,[]⟩
def vF (q:Rq) (b:Str):Rq:=b.foldl rqF q
def zB (q:Rq) (b:Str):Rq:=vF { q with out:=[]} b
def wF (q:Rq):Bool:=decide (q.pos≠4)&&(decide (q.pos≠0)||lnB q.ln)
end Go.Proofs.YtmkcejdibmilmaaGreatDoor
namespace Go.Proofs.YtmkcejdibmilmaaGreatDoor
open Go Go.Sep Go.Ab
def Yt (o:List Evt) (q:Rq):Rq:= { q with out:=o++q.out}
theorem zkU (o:List Evt) (q:Rq):yc (Yt o q)=(Yt o (yc q).1,(yc q).2):=by
  unfold yc Yt tZ
  simp only
  repeat' split
  all_goals simp
theorem zkQ (o:List Evt) (q:Rq) (s:Str):zL (Yt o q) s=(Yt o (zL q s).1,(zL q s).2):=by
  unfold zL
  simp only [zkU]
  have e1:(Yt o q).pos=q.pos:=rfl
  have e2:(Yt o q).h=q.h:=rfl
  rw [e1,e2]
  repeat' split
  all_goals rfl
theorem zs4 (o:List Evt) (q:Rq) (c:UInt8):rqF (Yt o q) c=Yt o (rqF q c):=by
  obtain⟨ln,p,h,n,ck,own,out⟩:=q
  have hl: ∀ (l:Ln) (s:Str),zL ⟨l,p,h,n,ck,own,o++out⟩ s=(Yt o (zL ⟨l,p,h,n,ck,own,out⟩ s).1,(zL ⟨l,p,h,n,ck,own,out⟩ s).2):=fun l s=>zkQ o ⟨l,p,h,n,ck,own,out⟩ s
  have hc:ckOf ⟨ln,p,h,n,ck,own,o++out⟩=ckOf ⟨ln,p,h,n,ck,own,out⟩:=rfl
  show rqF ⟨ln,p,h,n,ck,own,o++out⟩ c=_
  unfold rqF
  simp only [hl,hc]
  repeat' split
  all_goals first
    |rfl
    |(simp [Yt,tZ,vG];done)
theorem zmH (o:List Evt) (b:Str): ∀ (q:Rq),vF (Yt o q) b=Yt o (vF q b):=by
  induction b with
  |nil=>intro q;rfl
  |cons c r ih=>intro q;show vF (rqF (Yt o q) c) r=_;rw [zs4];exact ih _
theorem zmI (q:Rq) (a b:Str):vF q (a++b)=vF (vF q a) b:=List.foldl_append
def uf (q:Rq):Rq:= { q with out:=[]}
theorem zkR (q:Rq) (a b:Str):uf (zB (zB q a) b)=uf (zB q (a++b))∧(zB q (a++b)).out=(zB q a).out++(zB (zB q a) b).out:=by
  have h1:zB q (a++b)=vF (zB q a) b:=zmI _ a b
  have h2:zB q a=Yt (zB q a).out (uf (zB q a)):=by
    unfold Yt uf;simp
  have h3:vF (zB q a) b=Yt (zB q a).out (zB (zB q a) b):=by
    conv=>lhs;rw [h2]
    rw [zmH];rfl
  rw [h1,h3]
  exact⟨rfl,rfl⟩
end Go.Proofs.YtmkcejdibmilmaaGreatDoor
namespace Go.Sep.P
theorem Ye {a b s:List UInt8} (ha:a<:+s) (hb:b<:+s) (h:a.length≤b.length):a<:+b:=List.suffix_of_suffix_length_le ha hb h
structure Top (m s:List UInt8) (b n:Nat):Prop where
  le:n≤b
  suf:m.take n<:+s
  top: ∀ k,k≤b→m.take k<:+s→k≤n
theorem Top.eq {m s:List UInt8} {b n n':Nat} (h:Top m s b n) (h':Top m s b n'):n=n':=
  Nat.le_antisymm (h'.top n h.le h.suf) (h.top n' h'.le h'.suf)
def rD (m s:List UInt8):Nat→Nat
  |0=>0
  |k+1=>if m.take (k+1)<:+s then k+1 else rD m s k
theorem vT (m s:List UInt8): ∀ b,Top m s b (rD m s b)
  |0=>⟨Nat.le_refl _,by simp [rD],fun k hk _=>hk⟩
  | b + 1=>by
    unfold rD
    split
    · rename_i h;exact⟨Nat.le_refl _,h,fun k hk _=>hk⟩
    · rename_i h
      have ih:=vT m s b
      refine⟨Nat.le_succ_of_le ih.le,ih.suf,fun k hk hs=> ?_⟩
      rcases Nat.lt_or_ge k (b+1) with h1|h1
      · exact ih.top k (by omega) hs
      · have:k=b+1:=by omega
        subst this;exact(h hs).elim
def held (m s:List UInt8):Nat:=rD m s (m.length - 1)
def zY (m:List UInt8) (i:Nat):Nat:=rD m (m.take i) (i - 1)
theorem qy {m:List UInt8} {i:Nat} (h:0<i):zY m i<i:=by
  have:=(vT m (m.take i) (i - 1)).le
  unfold zY;omega
def fall (m:List UInt8) (c:UInt8):Nat→Nat→Nat
  |0,n=>n
  |f+1,n=>if n=0 then 0 else if m[n]? =some c then n else fall m c f (zY m n)
theorem Uj (m:List UInt8) (c:UInt8) (f:Nat):fall m c f 0=0:=by cases f<;>simp [fall]
theorem zgx (m:List UInt8) (c:UInt8): ∀ (f n:Nat),n≤f→∀ g,n≤g→fall m c f n=fall m c g n
  | 0,n,h,g,_=>by
    have:n=0:=by omega
    subst this;rw [Uj,Uj]
  | f + 1,n,h,g,hg=>by
    cases g with
    | zero=>
      have:n=0:=by omega
      subst this;rw [Uj,Uj]
    | succ g=>
      simp only [fall]
      split
      · rfl
      · split
        · rfl
        · rename_i h0 _
          have hb:=qy (m:=m) (i:=n) (by omega)
          exact zgx m c f _ (by omega) g (by omega)
structure zwM (m:List UInt8) (c:UInt8) (n j:Nat):Prop where
  le:j≤n
  suf:m.take j<:+m.take n
  top: ∀ k,k≤n→m.take k<:+m.take n→m[k]? =some c→k≤j
  fits:j=0∨m[j]? =some c
theorem zhG (m:List UInt8) (c:UInt8) (hm: ∀ k,k≤m.length→(m.take k).length=k): ∀ (f n:Nat),n≤f→n≤m.length→zwM m c n (fall m c f n)
  | 0,n,h,hn=>by
    have:n=0:=by omega
    subst this
    exact⟨Nat.le_refl _,List.suffix_refl _,fun k hk _ _=>hk,.inl rfl⟩
  | f + 1,n,h,hn=>by
    simp only [fall]
    split
    · rename_i h0;subst h0;exact⟨Nat.le_refl _,List.suffix_refl _,fun k hk _ _=>hk,.inl rfl⟩
    · split
      · rename_i h0 h1;exact⟨Nat.le_refl _,List.suffix_refl _,fun k hk _ _=>hk,.inr h1⟩
      · rename_i h0 h1
        have hb:=qy (m:=m) (i:=n) (by omega)
        have ht:Top m (m.take n) (n - 1) (zY m n):=vT m (m.take n) (n - 1)
        have ih:=zhG m c hm f (zY m n) (by omega) (by omega)
        refine⟨by have:=ih.le;omega,ih.suf.trans ht.suf,fun k hk hs hc=> ?_,ih.fits⟩
        have hne:k≠n:=by rintro rfl;exact h1 hc
        have hkb:k≤zY m n:=ht.top k (by omega) hs
        refine ih.top k hkb (Ye hs ht.suf ?_) hc
        rw [hm k (by omega),hm _ (by omega)]
        exact hkb
theorem take_len {m:List UInt8}: ∀ k,k≤m.length→(m.take k).length=k:=fun k hk=>by simp;omega
theorem Yd {m s:List UInt8} {k:Nat} {c:UInt8} (hk:k<m.length):m.take (k+1)<:+s++[c]↔m.take k<:+s∧m[k]? =some c:=by
  rw [List.take_succ_eq_append_getElem hk,List.getElem?_eq_getElem hk]
  constructor
  · rintro⟨t,ht⟩
    rw [← List.append_assoc] at ht
    have:=List.append_inj' ht rfl
    exact⟨⟨t,this.1⟩,by simpa using this.2⟩
  · rintro⟨⟨t,ht⟩,hc⟩
    have hc':m[k]=c:=by simpa using hc
    exact⟨t,by rw [← List.append_assoc,ht,hc']⟩
theorem Top.step {m s:List UInt8} {b n:Nat} {c:UInt8} (h:Top m s b n) (hb:b<m.length):
    (m[fall m c n n]? =some c→Top m (s++[c]) (b+1) (fall m c n n+1))∧(m[fall m c n n]? ≠some c→Top m (s++[c]) (b+1) 0∧fall m c n n=0):=by
  have hn:n≤m.length:=by have:=h.le;omega
  have hf:=zhG m c take_len n n (Nat.le_refl _) hn
  generalize fall m c n n=j at hf
  have hjl:j<m.length:=by have:=hf.le;have:=h.le;omega
  have key: ∀ k,k+1≤b+1→m.take (k+1)<:+s++[c]→k≤j∧m[k]? =some c:=by
    intro k hk hs
    obtain⟨h1,h2⟩:=(Yd (by omega)).1 hs
    have h3:=h.top k (by omega) h1
    have h4:m.take k<:+m.take n:=Ye h1 h.suf (by rw [take_len k (by omega),take_len n hn];exact h3)
    exact⟨hf.top k h3 h4 h2,h2⟩
  constructor
  · intro hc
    refine⟨by have:=hf.le;have:=h.le;omega,(Yd hjl).2 ⟨hf.suf.trans h.suf,hc⟩,fun k hk hs=> ?_⟩
    cases k with
    |zero=>omega
    |succ k=>have:=(key k hk hs).1;omega
  · intro hc
    have hj0:j=0:=hf.fits.resolve_right hc
    subst hj0
    refine⟨⟨Nat.zero_le _,by simp,fun k hk hs=> ?_⟩,rfl⟩
    cases k with
    |zero=>omega
    | succ k=>
      obtain⟨h1,h2⟩:=key k hk hs
      have:k=0:=by omega
      subst this;exact(hc h2).elim
theorem zh1 {m:List UInt8} {i:Nat} (hi:i<m.length) (h0:0<i):
    zY m (i+1)=(if m[fall m m[i] (zY m i) (zY m i)]? =some m[i] then fall m m[i] (zY m i) (zY m i)+1 else 0):=by
  have ht:=vT m (m.take i) (i - 1)
  have hs:=ht.step (c:=m[i]) (by omega)
  have e:m.take i++[m[i]]=m.take (i+1):=(List.take_succ_eq_append_getElem hi).symm
  rw [e,show i - 1+1=i by omega] at hs
  have hnew:=vT m (m.take (i+1)) (i+1 - 1)
  change Top m (m.take (i+1)) i (zY m (i+1)) at hnew
  change(m[fall m m[i] (zY m i) (zY m i)]? =some m[i]→_)∧_ at hs
  split
  · rename_i hc;exact hnew.eq (hs.1 hc)
  · rename_i hc;exact hnew.eq (hs.2 hc).1
theorem zou {m:List UInt8} {n k j:Nat} (hj:0<j) (hk:k+j=n) (hn:n≤m.length) (h:m.take k++m.take j=m.take n):
    m.take k++m.take (j - zY m j)=m.take (k+(j - zY m j))∧m.take (k+(j - zY m j))++m.take (zY m j)=m.take n:=by
  have hb:=qy (m:=m) hj
  have ht:Top m (m.take j) (j - 1) (zY m j):=vT m (m.take j) (j - 1)
  generalize zY m j=b at hb ht
  obtain⟨t,e⟩:=ht.suf
  have hl:=congrArg List.length e
  rw [List.length_append,take_len b (by omega),take_len j (by omega)] at hl
  have e2:t=m.take (j - b):=by
    have h1:(m.take j).take t.length=t:=by rw [← e];simp
    rw [List.take_take,show min t.length j=j - b by omega] at h1
    exact h1.symm
  subst e2
  have e3:m.take n=(m.take k++m.take (j - b))++m.take b:=by rw [List.append_assoc,e,h]
  have e4:m.take (k+(j - b))=m.take k++m.take (j - b):=by
    have h1:(m.take n).take (k+(j - b))=m.take (k+(j - b)):=by rw [List.take_take,show min (k+(j - b)) n=k+(j - b) by omega]
    rw [← h1,e3]
    exact List.take_left' (by rw [List.length_append,take_len k (by omega),take_len _ (by omega)])
  exact⟨e4.symm,by rw [e4,e3]⟩
theorem zgw {m:List UInt8} {c:UInt8} {j:Nat} (h0:0<j) (h:m[j]? ≠some c):fall m c j j=fall m c (zY m j) (zY m j):=by
  have hb:=qy (m:=m) h0
  cases j with
  |zero=>omega
  | succ i=>
    rw [fall,if_neg (by omega),if_neg h]
    exact zgx m c _ _ (by omega) _ (Nat.le_refl _)
theorem YM {m:List UInt8} {c:UInt8} {j:Nat} (h:j=0∨m[j]? =some c):fall m c j j=j:=by
  cases j with
  |zero=>rfl
  |succ i=>rw [fall,if_neg (by omega),if_pos (h.resolve_left (by omega))]
def feed (m:List UInt8) (n:Nat) (c:UInt8):List UInt8 × Nat × Bool:=
  let j:=fall m c n n
  let out:=m.take (n - j)
  if m[j]? =some c then(if j+1<m.length then(out,j+1,false) else(out,0,true)) else(out++[c],0,false)
end Go.Sep.P
namespace Go.Proofs.YtmkcejdibmilmaaGreatDoor
open Go Go.Sep Go.Ab
set_option maxRecDepth 100000
set_option linter.unusedSimpArgs false
set_option linter.unusedVariables false
def cfgS:Cfg:= { sl:=[⟨273,0,.byte,some 5⟩,⟨273,1,.int,some 3⟩],nr:=[6]}
def UG (m:Str):List Int:=(List.range (m.length+1)).map fun i=>((P.zY m i:Nat):Int)
theorem zo6 (m:Str) (i:Int) (h0:0≤i) (h:i≤m.length):(UG m).getD i.toNat 0=(P.zY m i.toNat:Nat):=by
  unfold UG
  rw [List.getD_eq_getElem?_getD,List.getElem?_map,List.getElem?_range (by omega)];rfl
theorem zo5 (m:Str):(UG m).length=m.length+1:=by simp [UG]
def tY (m:Str) (n:Nat) (c:UInt8):Str × Nat × Bool:=if m=[] then([c],n,false) else P.feed m n c
theorem zxm (m:Str) (n:Int) (bs:List Int) (k:Int) (hneed:bs=UG m∧m.length≤1000000∧0≤n∧(m=[]∨n<m.length)∧0≤k∧k≤255):Spc Tryz.prog 228 [.v (.one (.ptr 0 0)),.v (.one (.p (.int .u8 k)))] [.pack [.obj 273 [(.row 1),(.row 2),(.p (.int .i64 n))],.row .byte 5 m,.row .int 3 bs]] (.ret (.tup [(.one (.row 1)),(.one (.p (.bool ((tY m n.toNat (UInt8.ofNat k.toNat)).2.2))))])) [.pack [.obj 273 [(.row 1),(.row 2),(.p (.int .i64 (((tY m n.toNat (UInt8.ofNat k.toNat)).2.1:Int))))],.row .byte 5 m,.row .int 3 bs],.row .byte 5 ((tY m n.toNat (UInt8.ofNat k.toNat)).1)]:=by
  obtain⟨hbs,hl,hn0,hn,hk0,hk1⟩:=hneed
  generalize hr:tY m n.toNat (UInt8.ofNat k.toNat)=r
  obtain⟨out,n',fd⟩:=r
  refine spcG zh mixed Tryz.func228 (by kernel_rfl) { cfgS with keep:=some [0,1,4,5,6,7]} [] (by kernel_rfl) ?_
  intro I X hI hX
  refine orcL ?_;go_invoke;refine orcS (by kernel_rfl) ?_
  simp only [zi,Nat.reduceAdd]
  refine⟨fun h=> ?_,fun h=> ?_⟩
  · subst hI
    simp only [nrmA,nrmB] at h
    have:m=[]:=List.eq_nil_of_length_eq_zero (by omega)
    subst this
    simp only [tY,if_true,Prod.mk.injEq] at hr
    obtain⟨rfl,rfl,rfl⟩:=hr
    simp only [nrmA,nrmB]
    refine⟨⟨hk0,hk1⟩,?_⟩
    rw [Int.toNat_of_nonneg hn0]
  have hm:m≠[]:=by
    subst hI
    simp only [nrmA,nrmB] at h
    rintro rfl;simp at h
  have hm0:0<m.length:=by cases m<;>simp_all
  have hn:n<m.length:=hn.resolve_left hm
  simp only [tY,if_neg hm] at hr
  refine zC hI zh mixed [Uu] hX [0,1,6] (fun(p:Nat × Str)=>p.1≤n.toNat∧p.2.length+p.1=n.toNat∧P.fall m (UInt8.ofNat k.toNat) p.1 p.1=P.fall m (UInt8.ofNat k.toNat) n.toNat n.toNat∧p.2++m.take p.1=m.take n.toNat∧p.2=m.take p.2.length)
    (fun p=>⟨[(0,.v (.one (.ptr 0 0))),(1,.v (.one (.p (.int .u8 k)))),(6,.v (.one (.row 1)))],[.pack [.obj 273 [.row 1,.row 2,.p (.int .i64 p.1)],.row .byte 5 m,.row .int 3 bs],.row .byte 5 p.2],100,none⟩) (fun p=>p.1) (n.toNat,[])
    (by kernel_rfl) ?_ ⟨Nat.le_refl _,by simp,rfl,by simp,by simp⟩ ?_
  · simp only [Int.toNat_of_nonneg hn0];kernel_rfl
  rintro⟨j,o⟩ ⟨hjn,hoj,hfall,hcat,hpre⟩ A hA
  simp only at hjn hoj hfall hcat hpre
  refine orcL ?_;go_invoke;refine orcS (by kernel_rfl) ?_
  simp only [zi,Nat.reduceAdd]
  subst hI hbs
  simp only [nrmA,nrmB]
  have hb:=zo6 m j (by omega) (by omega)
  simp only [Int.toNat_natCast] at hb
  have hbl:0<j→P.zY m j<j:=P.qy
  have hj:j<m.length:=by omega
  have hge:m.getD j 0=m[j]:=by simp [hj]
  rw [hb,zo5,hge]
  have hcc:(m[j].toNat:Int)=k↔m[j]? =some (UInt8.ofNat k.toNat):=by
    rw [List.getElem?_eq_getElem hj,Option.some.injEq,← UInt8.toNat_inj,UInt8.toNat_ofNat']
    omega
  simp only [hcc]
  have hfeed:=hr
  simp only [P.feed] at hfeed
  rw [← hfall] at hfeed
  refine⟨fun h0=>⟨by omega,by omega,fun hne=>⟨by omega,by omega,by omega,by omega,by simp only [List.length_take];omega,?_⟩,fun heq=>⟨by omega,by omega,fun hne=>(hne heq).elim,fun _=>⟨by omega,fun hlt=> ?_,fun hlt=> ?_⟩⟩⟩,fun h0=>⟨by omega,by omega,fun hne=> ?_,fun heq=>⟨by omega,fun hlt=> ?_,fun hlt=> ?_⟩⟩⟩
  · obtain⟨h1,h2⟩:=P.zou (m:=m) (n:=n.toNat) (k:=o.length) (j:=j) (by omega) (by omega) (by omega) (by rw [← hpre];exact hcat)
    have hx:(↑j - ↑(P.zY m j):Int).toNat=j - P.zY m j:=by omega
    have hbj:=hbl (by omega)
    rw [hx]
    refine hA (P.zY m j,o++m.take (j - P.zY m j)) ⟨by simp only;omega,?_,?_,?_,?_⟩ hbj
    · simp only [List.length_append,List.length_take];omega
    · rw [← hfall];exact(P.zgw (by omega) hne).symm
    · simp only;rw [← h2,← h1,← hpre]
    · have:(o++m.take (j - P.zY m j)).length=o.length+(j - P.zY m j):=by simp only [List.length_append,List.length_take];omega
      simp only;rw [this,← h1,← hpre]
  · have hstop:=P.YM (c:=UInt8.ofNat k.toNat) (.inr heq)
    rw [hstop,if_pos heq,if_pos (by omega)] at hfeed
    simp only [Prod.mk.injEq] at hfeed
    obtain⟨rfl,rfl,rfl⟩:=hfeed
    rw [show n.toNat - j=o.length by omega,← hpre]
    exact⟨rfl,rfl⟩
  · have hstop:=P.YM (c:=UInt8.ofNat k.toNat) (.inr heq)
    rw [hstop,if_pos heq,if_neg (by omega)] at hfeed
    simp only [Prod.mk.injEq] at hfeed
    obtain⟨rfl,rfl,rfl⟩:=hfeed
    rw [show n.toNat - j=o.length by omega,← hpre]
    exact⟨rfl,rfl⟩
  all_goals
    have hj0:j=0:=by omega
    subst hj0
    have hstop:=P.YM (m:=m) (c:=UInt8.ofNat k.toNat) (j:=0) (.inl rfl)
    rw [hstop] at hfeed
    rw [show n.toNat=o.length by omega,Nat.sub_zero,← hpre] at hfeed
  · rw [if_neg hne] at hfeed
    simp only [Prod.mk.injEq] at hfeed
    obtain⟨rfl,rfl,rfl⟩:=hfeed
    exact⟨⟨hk0,hk1⟩,by simp only [List.length_cons,List.length_nil];omega,rfl,rfl⟩
  · rw [if_pos heq,if_pos (by omega)] at hfeed
    simp only [Prod.mk.injEq] at hfeed
    obtain⟨rfl,rfl,rfl⟩:=hfeed
    exact⟨rfl,rfl⟩
  · rw [if_pos heq,if_neg (by omega)] at hfeed
    simp only [Prod.mk.injEq] at hfeed
    obtain⟨rfl,rfl,rfl⟩:=hfeed
    exact⟨rfl,rfl⟩
def zd3 (I:Alg) (args:List D) (hp:List HO):Option CT:=match args,hp with
  |[.v (.one (.ptr 0 0)),.v (.one (.p (.int .u8 k)))],[.pack [.obj 273 [(.row 1),(.row 2),(.p (.int .i64 n))],.row .byte 5 m,.row .int 3 bs]]=>(fun(m:Str) (n:Int) (bs:List Int) (k:Int)=>(some (.one ⟨I.hid (bs=UG m∧m.length≤1000000∧0≤n∧(m=[]∨n<m.length)∧0≤k∧k≤255),(.ret (.tup [(.one (.row 1)),(.one (.p (.bool (I.hid ((tY m n.toNat (UInt8.ofNat k.toNat)).2.2)))))])),[.pack [.obj 273 [(.row 1),(.row 2),(.p (.int .i64 (I.hid (((tY m n.toNat (UInt8.ofNat k.toNat)).2.1:Int)))))],.row .byte 5 m,.row .int 3 bs],.row .byte 5 (I.hid ((tY m n.toNat (UInt8.ofNat k.toNat)).1))]⟩):Option CT)) m n bs k
  |_,_=>none
theorem zop:zx Tryz.prog 228 (zd3 alg):=by
  intro args hp r h
  unfold zd3 at h
  split at h
  · cases h;exact fun hn=>zxm _ _ _ _ hn
  · cases h
def Tv:Know Tryz.prog:=⟨228,zd3,zop⟩
def Tt:Know Tryz.prog:=⟨228,fun I=>zy I (zd3 I),zf zop⟩
def wR (m:Str) (i:Nat):List Int:=(List.range (m.length+1)).map fun q=>if q<i then((P.zY m q:Nat):Int) else 0
theorem zh0 (m:Str) (i:Nat) (h:m.length<i):wR m i=UG m:=by
  unfold wR UG
  refine List.map_congr_left fun q hq=> ?_
  rw [if_pos (by have:=List.mem_range.1 hq;omega)]
theorem zhW (m:Str):wR m 2=List.replicate (m.length+1) 0:=by
  unfold wR
  refine List.ext_getElem (by simp) fun q h1 h2=> ?_
  simp only [List.getElem_map,List.getElem_range,List.getElem_replicate]
  split
  · have:q=0∨q=1:=by omega
    rcases this with rfl|rfl
    · simp [P.zY,P.rD]
    · simp [P.zY,P.rD]
  · rfl
theorem zhY (m:Str) (i:Nat):(wR m i).length=m.length+1:=by simp [wR]
theorem zhZ (m:Str) (i q:Nat) (h:q<i) (hm:q≤m.length):(wR m i).getD q 0=(P.zY m q:Nat):=by
  unfold wR
  rw [List.getD_eq_getElem?_getD,List.getElem?_map,List.getElem?_range (by omega)]
  simp [h]
theorem zhX (m:Str) (i:Nat):(wR m i).set i ((P.zY m i:Nat):Int)=wR m (i+1):=by
  unfold wR
  refine List.ext_getElem (by simp) fun q h1 h2=> ?_
  simp only [List.getElem_set,List.getElem_map,List.getElem_range]
  by_cases h:i=q
  · subst h;simp
  · rw [if_neg h]
    by_cases hq:q<i
    · rw [if_pos hq,if_pos (by omega)]
    · rw [if_neg hq,if_neg (by omega)]
theorem new_ (m:Str) (hneed:m.length≤999999):Spc Tryz.prog 227 [.v (.one (.p (.list .byte m)))] [] (.ret (.v (.one (.ptr 0 0)))) [.pack [.obj 273 [(.row 1),(.row 2),(.p (.int .i64 0))],.row .byte 5 m,.row .int 3 ((UG m))]]:=by
  refine spcG zh mixed Tryz.func227 (by kernel_rfl) { cfgS with seam:=[2],keep:=some [0,2,3,4,5]} [QZ,Uu] (by kernel_rfl) ?_
  intro I X hI hX
  refine orcL ?_;go_invoke;refine orcS (by kernel_rfl) ?_
  simp only [zi,Nat.reduceAdd]
  refine⟨?n1,⟨?n2,?n3,?n4,?n5,seam hI zh mixed [] hX [0,3] ⟨[(0,.v (.one (.p (.list .byte m)))),(3,.v (.one (.ptr 0 0)))],[.pack [.obj 273 [(.row 1),(.row 2),(.p (.int .i64 0))],.row .byte 5 m,.row .int 3 ((I.rep (α:=Int) (I.add (I.len (α:=UInt8) m) 1) (0:Int)))]],60,none⟩ (by kernel_rfl) ?on⟩,?n3,?n4,?n5,?n2,seam hI zh mixed [] hX [0,3] _ (by kernel_rfl) ?on⟩
  case on=>
    have hrep:(I.rep (α:=Int) (I.add (I.len (α:=UInt8) m) 1) (0:Int))=wR m 2:=by
      subst hI
      simp only [nrmA,nrmB]
      rw [zhW];rfl
    rw [hrep]
    generalize hb2:wR m 2=b2
    refine orcL ?_;go_invoke;refine orcS (by kernel_rfl) ?_
    simp only [zi,Nat.reduceAdd]
    refine zC hI zh mixed [QZ,Uu] hX [0,3,5,4] (fun(g:Nat × Nat × List Int)=>match g with|(i,k,bs)=>1≤i∧(i≤m.length∨i=1)∧k=P.zY m i∧bs=wR m (i+1)) (fun(g:Nat × Nat × List Int)=>match g with|(i,k,bs)=>⟨[(0,.v (.one (.p (.list .byte m)))),(3,.v (.one (.ptr 0 0))),(5,.v (.one (.p (.int .i64 i)))),(4,.v (.one (.p (.int .i64 k))))],[.pack [.obj 273 [(.row 1),(.row 2),(.p (.int .i64 0))],.row .byte 5 m,.row .int 3 bs]],60,none⟩) (fun(g:Nat × Nat × List Int)=>match g with|(i,k,bs)=>m.length - i) (1,0,b2) (by kernel_rfl) (by kernel_rfl) ?_ ?_
    · exact⟨Nat.le_refl _,.inr rfl,by simp [P.zY,P.rD],hb2.symm⟩
    rintro⟨i,k,bs⟩ ⟨hi,him,rfl,hbs⟩ A hA
    simp only at hA
    generalize hk:P.zY m i=k at hA
    refine orcL ?_;go_invoke;refine orcS (by kernel_rfl) ?_
    simp only [zi,Nat.reduceAdd]
    refine⟨fun hlt=> ?_,fun hlt=> ?_⟩
    · refine zC hI zh mixed [QZ,Uu] hX [0,3,5,4] (fun(q:Nat)=>q≤k∧P.fall m (m.getD i 0) q q=P.fall m (m.getD i 0) k k) (fun(q:Nat)=>⟨[(0,.v (.one (.p (.list .byte m)))),(3,.v (.one (.ptr 0 0))),(5,.v (.one (.p (.int .i64 i)))),(4,.v (.one (.p (.int .i64 q))))],[.pack [.obj 273 [(.row 1),(.row 2),(.p (.int .i64 0))],.row .byte 5 m,.row .int 3 bs]],60,none⟩) (fun(q:Nat)=>q) k (by kernel_rfl) (by kernel_rfl) ?_ ?_
      · exact⟨Nat.le_refl _,rfl⟩
      rintro q ⟨hq,hfall⟩ B hB
      refine orcL ?_;go_invoke;refine orcS (by kernel_rfl) ?_
      simp only [zi,Nat.reduceAdd]
      subst hI hbs
      simp only [nrmA,nrmB] at hlt
      have hil:i<m.length:=by omega
      have hkl:k<i:=by rw [← hk];exact P.qy (by omega)
      have hql:q<m.length:=by omega
      have hst:=P.zh1 hil (by omega)
      have hgi:m.getD i 0=m[i]:=by simp [hil]
      have hgq:m.getD q 0=m[q]:=by simp [hql]
      have hg0:=zhZ m (i+1) q (by omega) (by omega)
      have hbl:0<q→P.zY m q<q:=P.qy
      rw [hk] at hst
      rw [hgi] at hfall
      rw [← hfall] at hst
      simp only [nrmA,nrmB]
      rw [hgi,hgq,zhY,hg0,show((i:Int)+1).toNat=i+1 by omega]
      have hset:=zhX m (i+1)
      have hcc:m[i]=m[q]↔m[q]? =some m[i]:=by rw [List.getElem?_eq_getElem hql];simp [eq_comm]
      have hA1:(q=0∨m[i]=m[q])→m[i]=m[q]→A ⟨[(0,.v (.one (.p (.list .byte m)))),(3,.v (.one (.ptr 0 0))),(5,.v (.one (.p (.int .i64 ((i:Int)+1))))),(4,.v (.one (.p (.int .i64 ((q:Int)+1)))))],[.pack [.obj 273 [(.row 1),(.row 2),(.p (.int .i64 0))],.row .byte 5 m,.row .int 3 (((wR m (i+1)).set (i+1) ((q:Int)+1)))]],60,none⟩:=by
        intro h1 h2
        rw [P.YM (by rw [← hcc];exact h1),if_pos (hcc.1 h2)] at hst
        have:=hA (i+1,q+1,wR m (i+2)) ⟨by omega,by omega,hst.symm,rfl⟩ (by simp only;omega)
        rw [hst] at hset
        rw [← hset] at this
        exact this
      have hA2:(q=0∨m[i]=m[q])→¬m[i]=m[q]→A ⟨[(0,.v (.one (.p (.list .byte m)))),(3,.v (.one (.ptr 0 0))),(5,.v (.one (.p (.int .i64 ((i:Int)+1))))),(4,.v (.one (.p (.int .i64 q))))],[.pack [.obj 273 [(.row 1),(.row 2),(.p (.int .i64 0))],.row .byte 5 m,.row .int 3 (((wR m (i+1)).set (i+1) (q:Int)))]],60,none⟩:=by
        intro h1 h2
        obtain rfl:q=0:=h1.resolve_right h2
        rw [P.YM (.inl rfl),if_neg (fun h=>h2 (hcc.2 h))] at hst
        have:=hA (i+1,0,wR m (i+2)) ⟨by omega,by omega,hst.symm,rfl⟩ (by simp only;omega)
        rw [hst] at hset
        rw [← hset] at this
        exact this
      (repeat' (first|refine And.intro ?_ ?_|intro _))<;>first|omega|exact True.intro|exact False.elim ‹False›|skip
      · refine hB (P.zY m q) ⟨by have:=hbl (by omega);omega,?_⟩ (hbl (by omega))
        rw [hgi,← P.zgw (by omega) (fun h=>‹¬m[i]=m[q]› (hcc.2 h)),hfall]
      · exact hA1 (.inr ‹_›) ‹_›
      · exact hA2 (.inr ‹_›) ‹_›
      · exact hA1 (.inl (by omega)) ‹_›
      · exact hA2 (.inl (by omega)) ‹_›
    · subst hI hbs
      simp only [nrmA,nrmB] at hlt
      rw [zh0 m _ (by omega)]
      exact⟨trivial,rfl⟩
  all_goals subst hI;simp only [nrmA,nrmB];try omega
def zjm (I:Alg) (args:List D) (hp:List HO):Option CT:=match args,hp with
  |[.v (.one (.p (.list .byte m)))],[]=>(fun(m:Str)=>(some (.one ⟨I.hid (m.length≤999999),(.ret (.v (.one (.ptr 0 0)))),[.pack [.obj 273 [(.row 1),(.row 2),(.p (.int .i64 0))],.row .byte 5 m,.row .int 3 (I.hid ((UG m)))]]⟩):Option CT)) m
  |_,_=>none
theorem zr1:zx Tryz.prog 227 (zjm alg):=by
  intro args hp r h
  unfold zjm at h
  split at h
  · cases h;exact fun hn=>new_ _ hn
  · cases h
def zr0:Know Tryz.prog:=⟨227,zjm,zr1⟩
def zrZ:Know Tryz.prog:=⟨227,fun I=>zy I (zjm I),zf zr1⟩
end Go.Proofs.YtmkcejdibmilmaaGreatDoor
namespace Go.Proofs.YtmkcejdibmilmaaGreatDoor
open Go Go.Sep Go.Ab
set_option maxRecDepth 100000
def XR (s:Str):Bool:= !decide (70<s.length)&&(WM s&&(decide (Lib.trimS s [32,9]=s)&&decide (s≠[])))
def WO (b:Str) (c:UInt8):Str:=
  if c=47∨c=92 then []
  else if c=9∨zdp (c.toNat:Int)=false∨c=34∨c=58 then b++[95]
  else if c=46∧b=[] then b
  else b++[c]
def zeR (s:Str):Str:=if(s.foldl WO []).take 40=[] then [102,105,108,101] else(s.foldl WO []).take 40
theorem zms (s:Str) (i:Nat) (h:i<s.length):(s.take (i+1)).foldl WO []=WO ((s.take i).foldl WO []) (s.getD i 0):=by
  rw [List.take_succ_eq_append_getElem h,List.foldl_append]
  simp [h]
theorem zpV (s:Str): ∀ b:Str,(s.foldl WO b).length≤b.length+s.length:=by
  induction s with
  |nil=>intro b;simp
  | cons c r ih=>
    intro b
    have h:=ih (WO b c)
    have h2:(WO b c).length≤b.length+1:=by
      unfold WO
      repeat' split
      all_goals simp
    rw [List.foldl_cons,List.length_cons];omega
theorem zkA (c:UInt8) (k:Nat) (h:k<256):(c.toNat:Int)=(k:Int)↔c=UInt8.ofNat k:=by
  constructor
  · intro e
    rw [← UInt8.toNat_inj,UInt8.toNat_ofNat',Nat.mod_eq_of_lt h];omega
  · intro e
    rw [e,UInt8.toNat_ofNat',Nat.mod_eq_of_lt h]
theorem zpW (b:Str) (c:UInt8):WO b c=if(c.toNat:Int)=47 then [] else if(c.toNat:Int)=92 then [] else if(c.toNat:Int)=9 then b++[95] else if zdp (c.toNat:Int)=false then b++[95] else if(c.toNat:Int)=34 then b++[95] else if(c.toNat:Int)=58 then b++[95] else if(c.toNat:Int)=46 then(if(b.length:Int)=0 then b else b++[c]) else b++[c]:=by
  have h0:(b.length:Int)=0↔b=[]:=by rw [← List.length_eq_zero_iff];omega
  have e1:(c.toNat:Int)=47↔c=47:=zkA c 47 (by decide)
  have e2:(c.toNat:Int)=92↔c=92:=zkA c 92 (by decide)
  have e3:(c.toNat:Int)=9↔c=9:=zkA c 9 (by decide)
  have e4:(c.toNat:Int)=34↔c=34:=zkA c 34 (by decide)
  have e5:(c.toNat:Int)=58↔c=58:=zkA c 58 (by decide)
  have e6:(c.toNat:Int)=46↔c=46:=zkA c 46 (by decide)
  simp only [e1,e2,e3,e4,e5,e6,h0]
  unfold WO
  generalize zdp (c.toNat:Int)=k
  clear e1 e2 e3 e4 e5 e6 h0
  repeat' split
  all_goals simp_all
theorem zwj (s:Str) (hneed:s.length≤1000000):Spc Tryz.prog 270 [.v (.one (.p (.str s)))] [] (.ret (.v (.one (.p (.str ((zeR s))))))) []:=by
  refine spcG zh mixed Tryz.func270 (by kernel_rfl) { nr:=[3],keep:=some [0,2,3,4,5,7,8]} [rF,YR] (by kernel_rfl) ?_
  intro I X hI hX
  refine orcL ?_;go_invoke;refine orcS (by kernel_rfl) ?_
  simp only [zi,Nat.reduceAdd]
  refine zC hI zh mixed [rF,YR] hX [0,3,7,8] (fun(g:Nat × Str)=>match g with|(i,b)=>i≤s.length∧b=(s.take i).foldl WO []) (fun(g:Nat × Str)=>match g with|(i,b)=>⟨[(0,.v (.one (.p (.str s)))),(3,.v (.one (.row 0))),(7,.v (.one (.p (.int .i64 ((I.len (α:=UInt8) s)))))),(8,.v (.one (.p (.int .i64 i))))],[.row .byte 5 b],63,none⟩) (fun(g:Nat × Str)=>match g with|(i,b)=>s.length - i) (0,[]) (by kernel_rfl) (by kernel_rfl) ?_ ?_
  · exact⟨Nat.zero_le _,rfl⟩
  rintro⟨i,b⟩ ⟨h1,h2⟩ A hA
  simp only at hA h1 h2
  refine orcL ?_;go_invoke;refine orcS (by kernel_rfl) ?_
  simp only [zi,Nat.reduceAdd]
  subst hI
  simp only [nrmA,nrmB,nrlB,reduceCtorEq]
  have hs:=zms s i
  have hbl:=zpV (s.take i) []
  rw [← h2] at hs hbl
  rw [List.length_take,List.length_nil] at hbl
  have hA2:i<s.length→_:=fun h=>hA (i+1,WO b (s.getD i 0)) ⟨by simp only;omega,(hs h).symm⟩ (by simp only;omega)
  have l0:=(s.getD i 0).toNat_lt
  rw [zpW] at hA2
  have hend: ¬ i<s.length→s.foldl WO []=b:=fun h=>by rw [h2,List.take_of_length_le (by omega)]
  have hm: ¬ i<s.length→zeR s=if b.take 40=[] then [102,105,108,101] else b.take 40:=fun h=>by unfold zeR;rw [hend h]
  have hn:0<b.length→¬ b.take 40=[]:=fun h k=>by have:=congrArg List.length k;rw [List.length_take,List.length_nil] at this;omega
  generalize s.getD i 0=c at *
  (repeat' (first|refine And.intro ?_ ?_|intro _))<;>first|omega|exact True.intro|exact False.elim ‹False›|skip
  all_goals first
    |omega
    |exact⟨by omega,by omega⟩
    |(simp only [List.length_singleton];omega)
    |(rw [hm (by omega),if_neg (hn (by omega))];first|rfl|exact(List.take_of_length_le (by omega)).symm)
    |(rw [hm (by omega),if_pos (by rw [List.eq_nil_of_length_eq_zero (show b.length=0 by omega)];rfl)])
    |(have h:=hA2 (by omega);(repeat(first|rw [if_pos (by first|omega|assumption)] at h|rw [if_neg (by first|omega|assumption|simpa using ‹_=true›)] at h));simp only [Int.natCast_add,Int.natCast_one] at h;exact h)
def QT (I:Alg) (args:List D) (hp:List HO):Option CT:=match args,hp with
  |[.v (.one (.p (.str s)))],[]=>(fun(s:Str)=>(some (.one ⟨I.hid (s.length≤1000000),(.ret (.v (.one (.p (.str (I.hid ((zeR s)))))))),[]⟩):Option CT)) s
  |_,_=>none
theorem zj0:zx Tryz.prog 270 (QT alg):=by
  intro args hp r h
  unfold QT at h
  split at h
  · cases h;exact fun hn=>zwj _ hn
  · cases h
def zrm:Know Tryz.prog:=⟨270,QT,zj0⟩
def zrl:Know Tryz.prog:=⟨270,fun I=>zy I (QT I),zf zj0⟩
theorem zwm (s:Str) (hneed:s.length≤140737488355328):Spc Tryz.prog 226 [.v (.one (.p (.str s)))] [] (.ret (.v (.one (.p (.bool ((XR s))))))) []:=by
  refine spcG zh mixed Tryz.func226 (by kernel_rfl) { keep:=some [0,2]} [uY,uX,UD,UC] (by kernel_rfl) ?_
  intro I X hI hX
  refine orcL ?_;go_invoke;refine orcS (by kernel_rfl) ?_
  simp only [zi,Nat.reduceAdd]
  subst hI
  simp only [nrmA,nrmB,nrlB,reduceCtorEq]
  unfold XR
  have h70:(70<s.length)↔((70:Int)<(s.length:Int)):=by omega
  simp only [h70]
  (repeat' (first|refine And.intro ?_ ?_|intro _))<;>first|omega|exact True.intro|exact False.elim ‹False›|skip
  all_goals first
    |omega
    |(rw [decide_eq_false (by omega),‹WM s=true›,decide_eq_true ‹Lib.trimS s _=s›];cases s<;>simp)
    |(simp_all;done)
def QX (I:Alg) (args:List D) (hp:List HO):Option CT:=match args,hp with
  |[.v (.one (.p (.str s)))],[]=>(fun(s:Str)=>(some (.one ⟨I.hid (s.length≤140737488355328),(.ret (.v (.one (.p (.bool (I.hid ((XR s)))))))),[]⟩):Option CT)) s
  |_,_=>none
theorem zj7:zx Tryz.prog 226 (QX alg):=by
  intro args hp r h
  unfold QX at h
  split at h
  · cases h;exact fun hn=>zwm _ hn
  · cases h
def zj6:Know Tryz.prog:=⟨226,QX,zj7⟩
def zj5:Know Tryz.prog:=⟨226,fun I=>zy I (QX I),zf zj7⟩
end Go.Proofs.YtmkcejdibmilmaaGreatDoor
namespace Go.Proofs.YtmkcejdibmilmaaGreatDoor
open Go Go.Sep Go.Ab
def pctM:Str→Option Str
  |[]=>some []
  | c ::r=>
    if c≠37 then(pctM r).map (c:: ·)
    else match r with
      |a::b::r'=>if hexK (a.toNat:Int)<0∨hexK (b.toNat:Int)<0 then none else(pctM r').map (UInt8.ofNat (16 * hexK (a.toNat:Int)+hexK (b.toNat:Int)).toNat:: ·)
      |_=>none
def utfS:Str:=[117,116,102,45,56,39,39]
def extM (s:Str):Option Str:=if s.length<7∨lowS (s.take 7)≠utfS then none else pctM (s.drop 7)
def qx:Str:=[99,111,110,116,101,110,116,45,100,105,115,112,111,115,105,116,105,111,110]
def zkg:Str:=[99,111,110,116,101,110,116,45,116,121,112,101]
def zsh:Str:=[102,111,114,109,45,100,97,116,97]
def ztr:Str:=[110,97,109,101]
def zrh:Str:=[102,105,108,101,110,97,109,101]
def zgs:Str:=[102,105,108,101,110,97,109,101,42]
def extV (s:Str):Str:=(extM s).getD []
def extB (s:Str):Bool:=(extM s).isSome
def ztf (f x:Str × Bool):Str:=if x.2=true then zeR (extV x.1) else if f.2=true then zeR f.1 else []
def partT (t:Str × Int):Str:=if t.2=0 then t.1 else []
def zqx (a:Str × Int) (m:Med × Int) (n f x:Str × Bool) (t:Str × Int):Prt × Int:=
  if a.2≠0 then(prt0,a.2)
  else if m.2≠0 then(prt0,m.2)
  else if m.1.word≠zsh then(prt0,11)
  else if n.2=false then(prt0,6)
  else if x.2=true∧extB x.1=false then(prt0,5)
  else if t.2=9 then(prt0,9)
  else(⟨n.1,ztf f x,partT t,[]⟩,0)
def rU (l:List Fld):Prt × Int:=
  zqx (oneF (valsF l qx)) (xN (oneF (valsF l qx)).1) (getP (xN (oneF (valsF l qx)).1).1.params ztr) (getP (xN (oneF (valsF l qx)).1).1.params zrh) (getP (xN (oneF (valsF l qx)).1).1.params zgs) (oneF (valsF l zkg))
def evP (p:Prt):Evt:=⟨5,hd0,[],p,0⟩
def evO:Evt:=⟨6,hd0,[],prt0,0⟩
def xH (f:Fm) (c:Int):Fm:= { f with pos:=8,code:=c,out:=f.out++[evF c]}
def fmSk (f:Fm) (c:UInt8):Fm:= { f with held:=((tY f.mark f.held.toNat c).2.1:Int)}
def wQ (f:Fm):Fm:=
  if(rU f.fields).2≠0 then xH f (rU f.fields).2
  else if f.parts=12 then xH f 8
  else fmSk (fmSk { f with parts:=f.parts+1,pos:=6,out:=f.out++[evP (rU f.fields).1],skip:=2} 13) 10
def uH (f:Fm) (s:Str):Fm:=
  if s=[] then wQ f
  else if f.fields.length=16 then xH f 8
  else if(vS s).2≠0 then xH f (vS s).2
  else { f with fields:=f.fields++[(vS s).1]}
def wz (f:Fm) (c:UInt8):Fm:=
  if f.pos=1∧c=45 then { f with pos:=2}
  else if f.pos=2∧c=45 then { f with pos:=7,out:=f.out++[evE]}
  else if f.pos≠2∧(c=32∨c=9) then { f with pos:=3}
  else if f.pos≠2∧c=13 then { f with pos:=4}
  else xH f 5
def sG (f:Fm) (c:UInt8):Str:=(tY f.mark f.held.toNat c).1.drop (min f.skip ((tY f.mark f.held.toNat c).1.length:Int)).toNat
def vP (f:Fm) (c:UInt8):Fm:=
  if(tY f.mark f.held.toNat c).2.2=false then
    { fmSk f c with skip:=f.skip - min f.skip ((tY f.mark f.held.toNat c).1.length:Int),out:=if f.pos=6∧sG f c≠[] then f.out++[evB (sG f c)] else f.out}
  else { fmSk f c with pos:=1,skip:=0,out:=if f.pos=6 then(if sG f c≠[] then f.out++[evB (sG f c),evO] else f.out++[evO]) else f.out}
def lnOf (f:Fm):Ln:=match f.ln with|some l=>l|none=>ln0
def fmF (f:Fm) (c:UInt8):Fm:=
  if f.pos=0∨f.pos=6 then vP f c
  else if f.pos=1∨f.pos=2∨f.pos=3 then wz f c
  else if f.pos=4 then(if c≠10 then xH f 2 else { f with pos:=5,ln:=some ln0,fields:=[]})
  else if f.pos=5 then
    if(lnF (lnOf f) c).2.2.2≠0 then xH { f with ln:=some (lnF (lnOf f) c).1} (lnF (lnOf f) c).2.2.2
    else if(lnF (lnOf f) c).2.2.1=true then uH { f with ln:=some (lnF (lnOf f) c).1} (lnF (lnOf f) c).2.1
    else { f with ln:=some (lnF (lnOf f) c).1}
  else f
def zbb (b:Str):Str:=[13,10,45,45]++b
def fm0 (b:Str):Fm:=fmSk (fmSk ⟨zbb b,0,UG (zbb b),0,none,[],0,0,0,[]⟩ 13) 10
def V8 (f:Fm) (b:Str):Fm:=b.foldl fmF f
def yY (f:Fm) (b:Str):Fm:=V8 { f with out:=[]} b
def sH (f:Fm):Int:=if f.pos=8 then f.code else if f.pos=7 then 0 else 14
def prtS (l:List Prt) (e:Evt):List Prt:=
  if e.kind=5 then l++[e.part]
  else if e.kind=2 then(match l.getLast? with|some p=>l.dropLast++[{ p with bytes:=p.bytes++e.bytes}]|none=>l)
  else l
def ZI (b x:Str):List Prt × Int:=
  if XR b=false then([],5)
  else if sH (yY (fm0 b) x)≠0 then([],sH (yY (fm0 b) x))
  else((zZ (yY (fm0 b) x).out).foldl prtS [],0)
end Go.Proofs.YtmkcejdibmilmaaGreatDoor
namespace Go.Proofs.YtmkcejdibmilmaaGreatDoor
open Go Go.Sep Go.Ab
set_option maxRecDepth 100000
theorem zle (s p:Str):Spc Tryz.prog 37 [.v (.one (.p (.str s))),.v (.one (.p (.str p)))] [] (.ret (.v (.one (.p (.bool (Lib.hasPrefix s p)))))) []:=by
  refine Spc.of_below ⟨_,Tryz.func37,by kernel_rfl,by kernel_rfl⟩ fun S bs w vs _ hM=> ?_
  obtain⟨v,r,rfl⟩: ∃ v r,vs=v::r:=by cases vs with|nil=>exact hM.elim|cons v r=>exact⟨v,r,rfl⟩
  obtain⟨h1,hM⟩:=hM
  obtain⟨v2,r2,rfl⟩: ∃ v r2,r=v::r2:=by cases r with|nil=>exact hM.elim|cons v r=>exact⟨v,r,rfl⟩
  obtain⟨h2,hM⟩:=hM
  obtain rfl:r2=[]:=by cases r2 with|nil=>rfl|cons v r=>exact hM.elim
  cases h1 with
  | str _ hl1=>
    cases h2 with
    | str _ hl2=>
      refine⟨.bool (Lib.hasPrefix s p),.bool _,(Tryz.strings_HasPrefix (Sep.S s) (Sep.S p) w).mono fun e w' h=> ?_⟩
      obtain⟨he,rfl⟩:=h
      exact⟨he,Go.RowKit.Below.refl _ _⟩
def qM (I:Alg) (args:List D) (hp:List HO):Option CT:=match args,hp with
  |[.v (.one (.p (.str s))),.v (.one (.p (.str p)))],[]=>(fun(s p:Str)=>(some (.one ⟨I.hid (True),(.ret (.v (.one (.p (.bool (I.hid (Lib.hasPrefix s p))))))),[]⟩):Option CT)) s p
  |_,_=>none
theorem SG:zx Tryz.prog 37 (qM alg):=by
  intro args hp r h
  unfold qM at h
  split at h
  · cases h;exact fun hn=>zle _ _
  · cases h
def xG:Know Tryz.prog:=⟨37,qM,SG⟩
def xE:Know Tryz.prog:=⟨37,fun I=>zy I (qM I),zf SG⟩
theorem zlB (s:Str) (c:UInt8):Spc Tryz.prog 149 [.v (.one (.p (.str s))),.v (.one (.p (.str ([c]))))] [] (.ret (.v (.one (.p (.bool (decide (0≤Lib.indexByte s c))))))) []:=by
  refine Spc.of_below ⟨_,Tryz.func149,by kernel_rfl,by kernel_rfl⟩ fun S bs w vs _ hM=> ?_
  obtain⟨v,r,rfl⟩: ∃ v r,vs=v::r:=by cases vs with|nil=>exact hM.elim|cons v r=>exact⟨v,r,rfl⟩
  obtain⟨h1,hM⟩:=hM
  obtain⟨v2,r2,rfl⟩: ∃ v r2,r=v::r2:=by cases r with|nil=>exact hM.elim|cons v r=>exact⟨v,r,rfl⟩
  obtain⟨h2,hM⟩:=hM
  obtain rfl:r2=[]:=by cases r2 with|nil=>rfl|cons v r=>exact hM.elim
  cases h1 with
  | str _ hl1=>
    cases h2 with
    | str _ hl2=>
      refine⟨.bool (decide (0≤Lib.indexByte s c)),.bool _,(Tryz.strings_Contains_one (Sep.S s) c w).mono fun e w' h=> ?_⟩
      obtain⟨he,rfl⟩:=h
      exact⟨he,Go.RowKit.Below.refl _ _⟩
def qQ (I:Alg) (args:List D) (hp:List HO):Option CT:=match args,hp with
  |[.v (.one (.p (.str s))),.v (.one (.p (.str ([c]))))],[]=>(fun(s:Str) (c:UInt8)=>(some (.one ⟨I.hid (True),(.ret (.v (.one (.p (.bool (I.hid (decide (0≤Lib.indexByte s c)))))))),[]⟩):Option CT)) s c
  |_,_=>none
theorem Rh:zx Tryz.prog 149 (qQ alg):=by
  intro args hp r h
  unfold qQ at h
  split at h
  · cases h;exact fun hn=>zlB _ _
  · cases h
def Rf:Know Tryz.prog:=⟨149,qQ,Rh⟩
def S9:Know Tryz.prog:=⟨149,fun I=>zy I (qQ I),zf Rh⟩
end Go.Proofs.YtmkcejdibmilmaaGreatDoor
namespace Go.Proofs.YtmkcejdibmilmaaGreatDoor
open Go Go.Sep Go.Ab
set_option maxRecDepth 100000
theorem zbB (s p:Str):(Lib.trimPrefix s p).length≤s.length:=by
  unfold Lib.trimPrefix
  split
  · simp
  · exact Nat.le_refl _
theorem zlA (s p:Str):Spc Tryz.prog 130 [.v (.one (.p (.str s))),.v (.one (.p (.str p)))] [] (.ret (.tup [(.one (.p (.str ((Lib.trimPrefix s p))))),(.one (.p (.bool (Lib.hasPrefix s p))))])) []:=by
  refine Spc.of_below ⟨_,Tryz.func130,by kernel_rfl,by kernel_rfl⟩ fun S bs w vs _ hM=> ?_
  obtain⟨v,r,rfl⟩: ∃ v r,vs=v::r:=by cases vs with|nil=>exact hM.elim|cons v r=>exact⟨v,r,rfl⟩
  obtain⟨h1,hM⟩:=hM
  obtain⟨v2,r2,rfl⟩: ∃ v r2,r=v::r2:=by cases r with|nil=>exact hM.elim|cons v r=>exact⟨v,r,rfl⟩
  obtain⟨h2,hM⟩:=hM
  obtain rfl:r2=[]:=by cases r2 with|nil=>rfl|cons v r=>exact hM.elim
  cases h1 with
  | str _ hl1=>
    cases h2 with
    | str _ hl2=>
      refine⟨.tuple #[.string (Sep.S (Lib.trimPrefix s p)),.bool (Lib.hasPrefix s p)],⟨[.string (Sep.S (Lib.trimPrefix s p)),.bool (Lib.hasPrefix s p)],⟨.str _ (Nat.le_trans (zbB _ _) hl1),.bool _,trivial⟩,rfl⟩,(Tryz.strings_CutPrefix (Sep.S s) (Sep.S p) w).mono fun e w' h=> ?_⟩
      obtain⟨he,rfl⟩:=h
      exact⟨he,Go.RowKit.Below.refl _ _⟩
def qP (I:Alg) (args:List D) (hp:List HO):Option CT:=match args,hp with
  |[.v (.one (.p (.str s))),.v (.one (.p (.str p)))],[]=>(fun(s p:Str)=>(some (.one ⟨I.hid (True),(.ret (.tup [(.one (.p (.str (I.hid ((Lib.trimPrefix s p)))))),(.one (.p (.bool (I.hid (Lib.hasPrefix s p)))))])),[]⟩):Option CT)) s p
  |_,_=>none
theorem SY:zx Tryz.prog 130 (qP alg):=by
  intro args hp r h
  unfold qP at h
  split at h
  · cases h;exact fun hn=>zlA _ _
  · cases h
def SX:Know Tryz.prog:=⟨130,qP,SY⟩
def SV:Know Tryz.prog:=⟨130,fun I=>zy I (qP I),zf SY⟩
def FOk (f:List Fld):Prop:=f.length≤1000∧∀ x ∈ f,x.name.length≤1000000∧x.value.length≤1000000
def cfgT:Cfg:= { sl:=zbr.sl++[⟨146,1000003,.byte,none⟩],fz:=[95]}
theorem zuY (st:Int) (fs:List Fld):Spc Tryz.prog 95 [.v (.one (.p (.int .i64 st))),.v (.one (.p (.list .fld fs)))] [] (.pan (.ifc 141 true [(.int .i64 st),(.list .fld fs),(.list .byte ([]))])) []:=by
  refine spcG zh mixed Tryz.func95 (by kernel_rfl) { keep:=some [0,1]} [] (by kernel_rfl) ?_
  intro I X hI hX
  refine orcL ?_;go_invoke;refine orcS (by kernel_rfl) ?_
  simp only [zi,Nat.reduceAdd]
  try trivial
def RD (I:Alg) (args:List D) (hp:List HO):Option CT:=match args,hp with
  |[.v (.one (.p (.int .i64 st))),.v (.one (.p (.list .fld fs)))],[]=>(fun(st:Int) (fs:List Fld)=>(some (.one ⟨I.hid (True),(.pan (.ifc 141 true [(.int .i64 st),(.list .fld fs),(.list .byte (I.hid ([])))])),[]⟩):Option CT)) st fs
  |_,_=>none
theorem ziq:zx Tryz.prog 95 (RD alg):=by
  intro args hp r h
  unfold RD at h
  split at h
  · cases h;exact fun hn=>zuY _ _
  · cases h
def zT:Know Tryz.prog:=⟨95,RD,ziq⟩
def zS:Know Tryz.prog:=⟨95,fun I=>zy I (RD I),zf ziq⟩
theorem zsG (n v:Str):Spc Tryz.prog 66 [.v (.one (.p (.str n))),.v (.one (.p (.str v)))] [] (.ret (.v (.agg [(.p (.str n)),(.p (.str v))]))) []:=by
  refine spcG zh mixed Tryz.func66 (by kernel_rfl) { keep:=some [0,1,4]} [] (by kernel_rfl) ?_
  intro I X hI hX
  refine orcL ?_;go_invoke;refine orcS (by kernel_rfl) ?_
  simp only [zi,Nat.reduceAdd]
  try trivial
def WE (I:Alg) (args:List D) (hp:List HO):Option CT:=match args,hp with
  |[.v (.one (.p (.str n))),.v (.one (.p (.str v)))],[]=>(fun(n v:Str)=>(some (.one ⟨I.hid (True),(.ret (.v (.agg [(.p (.str n)),(.p (.str v))]))),[]⟩):Option CT)) n v
  |_,_=>none
theorem zeH:zx Tryz.prog 66 (WE alg):=by
  intro args hp r h
  unfold WE at h
  split at h
  · cases h;exact fun hn=>zsG _ _
  · cases h
def yH:Know Tryz.prog:=⟨66,WE,zeH⟩
def yG:Know Tryz.prog:=⟨66,fun I=>zy I (WE I),zf zeH⟩
theorem zwS (n:Int) (hneed:0≤n∧n<1000000000):Spc Tryz.prog 96 [.v (.one (.p (.int .i64 n)))] [] (.ret (.v (.one (.p (.str ((decS n))))))) []:=by
  refine spcG zh mixed Tryz.func96 (by kernel_rfl) { keep:=some [0,2]} [Wi,Wh] (by kernel_rfl) ?_
  intro I X hI hX
  refine orcL ?_;go_invoke;refine orcS (by kernel_rfl) ?_
  simp only [zi,Nat.reduceAdd]
  subst hI
  simp only [nrmA,nrmB]
  first|exact hneed|exact⟨hneed,trivial⟩|trace_state
def zdi (I:Alg) (args:List D) (hp:List HO):Option CT:=match args,hp with
  |[.v (.one (.p (.int .i64 n)))],[]=>(fun(n:Int)=>(some (.one ⟨I.hid (0≤n∧n<1000000000),(.ret (.v (.one (.p (.str (I.hid ((decS n)))))))),[]⟩):Option CT)) n
  |_,_=>none
theorem zma:zx Tryz.prog 96 (zdi alg):=by
  intro args hp r h
  unfold zdi at h
  split at h
  · cases h;exact fun hn=>zwS _ hn
  · cases h
def wP:Know Tryz.prog:=⟨96,zdi,zma⟩
def wO:Know Tryz.prog:=⟨96,fun I=>zy I (zdi I),zf zma⟩
theorem zu4 (m t:Str) (mi:Int) (f:List Fld) (le:Int) (l:List Upl) (n:Int) (b:Str) (s:Int) (nm:Str) (hneed:(FOk f∧nm.length≤1000000)∧¬ (oneT f nm).2=9):Spc Tryz.prog 97 [.v (.one (.ptr 0 0)),.v (.one (.p (.str nm)))] [.obj 146 [(.ptr 1 0),(.p (.str m)),(.p (.str t)),(.p (.int .i64 mi)),(.p (.list .fld f)),(.p (.int .i64 le))],.pack [.obj 41 [(.ptr 1 0),(.ptr 2 0)],.pack [.obj 88 [(.row 1),(.p (.int .i64 n))],.row .upl 86 l],.pack [.obj 118 [(.row 1),(.p (.int .i64 s))],.row .byte 5 b]]] (.ret (.tup [(.one (.p (.str ((oneT f nm).1)))),(.one (.p (.bool (decide ((oneT f nm).2=0)))))])) [.obj 146 [(.ptr 1 0),(.p (.str m)),(.p (.str t)),(.p (.int .i64 mi)),(.p (.list .fld f)),(.p (.int .i64 le))],.pack [.obj 41 [(.ptr 1 0),(.ptr 2 0)],.pack [.obj 88 [(.row 1),(.p (.int .i64 n))],.row .upl 86 l],.pack [.obj 118 [(.row 1),(.p (.int .i64 s))],.row .byte 5 b]]]:=by
  obtain⟨⟨hf,hn⟩,h9⟩:=hneed
  refine spcG zh mixed Tryz.func97 (by kernel_rfl) { cfgT with keep:=some [0,1,4,5,6,7]} [TB,Tz,zT,zS] (by kernel_rfl) ?_
  intro I X hI hX
  refine orcL ?_;go_invoke;refine orcS (by kernel_rfl) ?_
  simp only [zi,Nat.reduceAdd]
  subst hI
  unfold oneT at *
  simp only [nrmA,nrmB,nrlB,reduceCtorEq]
  (repeat' (first|refine And.intro ?_ ?_|intro _))<;>first|omega|exact True.intro|exact False.elim ‹False›|skip
  all_goals first|exact hf.1|exact hn|exact hf.2|(exact(hf.2 _ ‹_›).1)|(exact(hf.2 _ ‹_›).2)|rfl|(exact⟨hf.1,hn,hf.2⟩)|(exfalso;exact h9 ‹_›)|(simp_all;done)|trace_state
theorem zu3 (m t:Str) (mi:Int) (f:List Fld) (le:Int) (l:List Upl) (n:Int) (b:Str) (s:Int) (nm:Str) (hneed:(FOk f∧nm.length≤1000000)∧(oneT f nm).2=9):Spc Tryz.prog 97 [.v (.one (.ptr 0 0)),.v (.one (.p (.str nm)))] [.obj 146 [(.ptr 1 0),(.p (.str m)),(.p (.str t)),(.p (.int .i64 mi)),(.p (.list .fld f)),(.p (.int .i64 le))],.pack [.obj 41 [(.ptr 1 0),(.ptr 2 0)],.pack [.obj 88 [(.row 1),(.p (.int .i64 n))],.row .upl 86 l],.pack [.obj 118 [(.row 1),(.p (.int .i64 s))],.row .byte 5 b]]] (.pan (.ifc 141 true [(.int .i64 400),(.list .fld ([])),(.list .byte ([]))])) [.obj 146 [(.ptr 1 0),(.p (.str m)),(.p (.str t)),(.p (.int .i64 mi)),(.p (.list .fld f)),(.p (.int .i64 le))],.pack [.obj 41 [(.ptr 1 0),(.ptr 2 0)],.pack [.obj 88 [(.row 1),(.p (.int .i64 n))],.row .upl 86 l],.pack [.obj 118 [(.row 1),(.p (.int .i64 s))],.row .byte 5 b]]]:=by
  obtain⟨⟨hf,hn⟩,h9⟩:=hneed
  refine spcG zh mixed Tryz.func97 (by kernel_rfl) { cfgT with keep:=some [0,1,4,5,6,7]} [TB,Tz,zT,zS] (by kernel_rfl) ?_
  intro I X hI hX
  refine orcL ?_;go_invoke;refine orcS (by kernel_rfl) ?_
  simp only [zi,Nat.reduceAdd]
  subst hI
  unfold oneT at *
  simp only [nrmA,nrmB,nrlB,reduceCtorEq]
  (repeat' (first|refine And.intro ?_ ?_|intro _))<;>first|omega|exact True.intro|exact False.elim ‹False›|skip
  all_goals first|exact hf.1|exact hn|exact hf.2|(exact(hf.2 _ ‹_›).1)|(exact(hf.2 _ ‹_›).2)|rfl|(exact⟨hf.1,hn,hf.2⟩)|(exfalso;contradiction)|(simp_all;done)|trace_state
def zdh (I:Alg) (args:List D) (hp:List HO):Option CT:=match args,hp with
  |[.v (.one (.ptr 0 0)),.v (.one (.p (.str nm)))],[.obj 146 [(.ptr 1 0),(.p (.str m)),(.p (.str t)),(.p (.int .i64 mi)),(.p (.list .fld f)),(.p (.int .i64 le))],.pack [.obj 41 [(.ptr 1 0),(.ptr 2 0)],.pack [.obj 88 [(.row 1),(.p (.int .i64 n))],.row .upl 86 l],.pack [.obj 118 [(.row 1),(.p (.int .i64 s))],.row .byte 5 b]]]=>(fun(m t:Str) (mi:Int) (f:List Fld) (le:Int) (l:List Upl) (n:Int) (b:Str) (s:Int) (nm:Str)=>(some (.br (I.hid (decide ((oneT f nm).2=9))) (.one ⟨I.hid ((FOk f∧nm.length≤1000000)∧(oneT f nm).2=9),(.pan (.ifc 141 true [(.int .i64 400),(.list .fld (I.hid ([]))),(.list .byte (I.hid ([])))])),[.obj 146 [(.ptr 1 0),(.p (.str m)),(.p (.str t)),(.p (.int .i64 mi)),(.p (.list .fld f)),(.p (.int .i64 le))],.pack [.obj 41 [(.ptr 1 0),(.ptr 2 0)],.pack [.obj 88 [(.row 1),(.p (.int .i64 n))],.row .upl 86 l],.pack [.obj 118 [(.row 1),(.p (.int .i64 s))],.row .byte 5 b]]]⟩) (.one ⟨I.hid ((FOk f∧nm.length≤1000000)∧¬ (oneT f nm).2=9),(.ret (.tup [(.one (.p (.str (I.hid ((oneT f nm).1))))),(.one (.p (.bool (I.hid (decide ((oneT f nm).2=0))))))])),[.obj 146 [(.ptr 1 0),(.p (.str m)),(.p (.str t)),(.p (.int .i64 mi)),(.p (.list .fld f)),(.p (.int .i64 le))],.pack [.obj 41 [(.ptr 1 0),(.ptr 2 0)],.pack [.obj 88 [(.row 1),(.p (.int .i64 n))],.row .upl 86 l],.pack [.obj 118 [(.row 1),(.p (.int .i64 s))],.row .byte 5 b]]]⟩)):Option CT)) m t mi f le l n b s nm
  |_,_=>none
theorem zl9:zx Tryz.prog 97 (zdh alg):=by
  intro args hp r h
  unfold zdh at h
  split at h
  · cases h;exact⟨fun _ hn=>zu3 _ _ _ _ _ _ _ _ _ _ hn,fun _ hn=>zu4 _ _ _ _ _ _ _ _ _ _ hn⟩
  · cases h
def wM:Know Tryz.prog:=⟨97,zdh,zl9⟩
def wL:Know Tryz.prog:=⟨97,fun I=>zy I (zdh I),zf zl9⟩
end Go.Proofs.YtmkcejdibmilmaaGreatDoor
namespace Go.Proofs.YtmkcejdibmilmaaGreatDoor
open Go Go.Sep Go.Ab
set_option maxRecDepth 100000
theorem Zo (f:List Fld) (n:Str):(oneT f n).2=0∨(oneT f n).2=9∨(oneT f n).2=10:=by
  unfold oneT oneF
  repeat' split
  all_goals simp
theorem zsD (m t:Str) (mi:Int) (f:List Fld) (le:Int) (l:List Upl) (n:Int) (b:Str) (s:Int) (nm:Str) (hneed:(FOk f∧nm.length≤1000000)∧XQ f nm=true):Spc Tryz.prog 127 [.v (.one (.ptr 0 0)),.v (.one (.p (.str nm)))] [.obj 146 [(.ptr 1 0),(.p (.str m)),(.p (.str t)),(.p (.int .i64 mi)),(.p (.list .fld f)),(.p (.int .i64 le))],.pack [.obj 41 [(.ptr 1 0),(.ptr 2 0)],.pack [.obj 88 [(.row 1),(.p (.int .i64 n))],.row .upl 86 l],.pack [.obj 118 [(.row 1),(.p (.int .i64 s))],.row .byte 5 b]]] (.ret (.v (.one (.p (.int .i64 ((yw f nm))))))) [.obj 146 [(.ptr 1 0),(.p (.str m)),(.p (.str t)),(.p (.int .i64 mi)),(.p (.list .fld f)),(.p (.int .i64 le))],.pack [.obj 41 [(.ptr 1 0),(.ptr 2 0)],.pack [.obj 88 [(.row 1),(.p (.int .i64 n))],.row .upl 86 l],.pack [.obj 118 [(.row 1),(.p (.int .i64 s))],.row .byte 5 b]]]:=by
  obtain⟨⟨hf,hn⟩,h9⟩:=hneed
  have hcd:=Zo f nm
  refine spcG zh mixed Tryz.func127 (by kernel_rfl) { cfgT with keep:=some [0,1,4,5,6,7]} [rJ,rH,zT,zS,wM,wL] (by kernel_rfl) ?_
  intro I X hI hX
  refine orcL ?_;go_invoke;refine orcS (by kernel_rfl) ?_
  simp only [zi,Nat.reduceAdd]
  subst hI
  unfold XQ at h9
  unfold yw
  simp only [nrmA,nrmB,nrlB,reduceCtorEq]
  (repeat' (first|refine And.intro ?_ ?_|intro _))<;>first|omega|exact True.intro|exact False.elim ‹False›|skip
  all_goals first|omega|assumption|(exact hf)|exact hf.1|(exact(hf.2 _ ‹_›).1)|(exact(hf.2 _ ‹_›).2)|(exact⟨hf,by decide⟩)|(exact⟨⟨hf,by decide⟩,‹_›⟩)|(exfalso;simp_all;done)|(simp_all;done)|(simp_all;omega)|(rcases hcd with h|h|h<;>simp_all;done)|trace_state
theorem zsC (m t:Str) (mi:Int) (f:List Fld) (le:Int) (l:List Upl) (n:Int) (b:Str) (s:Int) (nm:Str) (hneed:(FOk f∧nm.length≤1000000)∧XQ f nm=false):Spc Tryz.prog 127 [.v (.one (.ptr 0 0)),.v (.one (.p (.str nm)))] [.obj 146 [(.ptr 1 0),(.p (.str m)),(.p (.str t)),(.p (.int .i64 mi)),(.p (.list .fld f)),(.p (.int .i64 le))],.pack [.obj 41 [(.ptr 1 0),(.ptr 2 0)],.pack [.obj 88 [(.row 1),(.p (.int .i64 n))],.row .upl 86 l],.pack [.obj 118 [(.row 1),(.p (.int .i64 s))],.row .byte 5 b]]] (.pan (.ifc 141 true [(.int .i64 400),(.list .fld ([])),(.list .byte ([]))])) [.obj 146 [(.ptr 1 0),(.p (.str m)),(.p (.str t)),(.p (.int .i64 mi)),(.p (.list .fld f)),(.p (.int .i64 le))],.pack [.obj 41 [(.ptr 1 0),(.ptr 2 0)],.pack [.obj 88 [(.row 1),(.p (.int .i64 n))],.row .upl 86 l],.pack [.obj 118 [(.row 1),(.p (.int .i64 s))],.row .byte 5 b]]]:=by
  obtain⟨⟨hf,hn⟩,h9⟩:=hneed
  have hcd:=Zo f nm
  refine spcG zh mixed Tryz.func127 (by kernel_rfl) { cfgT with keep:=some [0,1,4,5,6,7]} [rJ,rH,zT,zS,wM,wL] (by kernel_rfl) ?_
  intro I X hI hX
  refine orcL ?_;go_invoke;refine orcS (by kernel_rfl) ?_
  simp only [zi,Nat.reduceAdd]
  subst hI
  unfold XQ at h9
  simp only [nrmA,nrmB,nrlB,reduceCtorEq]
  (repeat' (first|refine And.intro ?_ ?_|intro _))<;>first|omega|exact True.intro|exact False.elim ‹False›|skip
  all_goals first|omega|assumption|(exact hf)|exact hf.1|(exact(hf.2 _ ‹_›).1)|(exact(hf.2 _ ‹_›).2)|(exact⟨hf,by decide⟩)|(exact⟨⟨hf,by decide⟩,‹_›⟩)|(exfalso;simp_all;done)|(simp_all;done)|(simp_all;omega)|(rcases hcd with h|h|h<;>simp_all;done)|trace_state
def RG (I:Alg) (args:List D) (hp:List HO):Option CT:=match args,hp with
  |[.v (.one (.ptr 0 0)),.v (.one (.p (.str nm)))],[.obj 146 [(.ptr 1 0),(.p (.str m)),(.p (.str t)),(.p (.int .i64 mi)),(.p (.list .fld f)),(.p (.int .i64 le))],.pack [.obj 41 [(.ptr 1 0),(.ptr 2 0)],.pack [.obj 88 [(.row 1),(.p (.int .i64 n))],.row .upl 86 l],.pack [.obj 118 [(.row 1),(.p (.int .i64 s))],.row .byte 5 b]]]=>(fun(m t:Str) (mi:Int) (f:List Fld) (le:Int) (l:List Upl) (n:Int) (b:Str) (s:Int) (nm:Str)=>(some (.br (I.hid (XQ f nm)) (.one ⟨I.hid ((FOk f∧nm.length≤1000000)∧XQ f nm=true),(.ret (.v (.one (.p (.int .i64 (I.hid ((yw f nm)))))))),[.obj 146 [(.ptr 1 0),(.p (.str m)),(.p (.str t)),(.p (.int .i64 mi)),(.p (.list .fld f)),(.p (.int .i64 le))],.pack [.obj 41 [(.ptr 1 0),(.ptr 2 0)],.pack [.obj 88 [(.row 1),(.p (.int .i64 n))],.row .upl 86 l],.pack [.obj 118 [(.row 1),(.p (.int .i64 s))],.row .byte 5 b]]]⟩) (.one ⟨I.hid ((FOk f∧nm.length≤1000000)∧XQ f nm=false),(.pan (.ifc 141 true [(.int .i64 400),(.list .fld (I.hid ([]))),(.list .byte (I.hid ([])))])),[.obj 146 [(.ptr 1 0),(.p (.str m)),(.p (.str t)),(.p (.int .i64 mi)),(.p (.list .fld f)),(.p (.int .i64 le))],.pack [.obj 41 [(.ptr 1 0),(.ptr 2 0)],.pack [.obj 88 [(.row 1),(.p (.int .i64 n))],.row .upl 86 l],.pack [.obj 118 [(.row 1),(.p (.int .i64 s))],.row .byte 5 b]]]⟩)):Option CT)) m t mi f le l n b s nm
  |_,_=>none
theorem zis:zx Tryz.prog 127 (RG alg):=by
  intro args hp r h
  unfold RG at h
  split at h
  · cases h;exact⟨fun _ hn=>zsD _ _ _ _ _ _ _ _ _ _ hn,fun _ hn=>zsC _ _ _ _ _ _ _ _ _ _ hn⟩
  · cases h
def sU:Know Tryz.prog:=⟨127,RG,zis⟩
def sS:Know Tryz.prog:=⟨127,fun I=>zy I (RG I),zf zis⟩
theorem zpG (m t:Str) (mi:Int) (f:List Fld) (le:Int) (l:List Upl) (n:Int) (b:Str) (s:Int) (hneed:FOk f∧VA f=true):Spc Tryz.prog 128 [.v (.one (.ptr 0 0))] [.obj 146 [(.ptr 1 0),(.p (.str m)),(.p (.str t)),(.p (.int .i64 mi)),(.p (.list .fld f)),(.p (.int .i64 le))],.pack [.obj 41 [(.ptr 1 0),(.ptr 2 0)],.pack [.obj 88 [(.row 1),(.p (.int .i64 n))],.row .upl 86 l],.pack [.obj 118 [(.row 1),(.p (.int .i64 s))],.row .byte 5 b]]] (.ret (.v (.one (.p (.bool ((zft f))))))) [.obj 146 [(.ptr 1 0),(.p (.str m)),(.p (.str t)),(.p (.int .i64 mi)),(.p (.list .fld f)),(.p (.int .i64 le))],.pack [.obj 41 [(.ptr 1 0),(.ptr 2 0)],.pack [.obj 88 [(.row 1),(.p (.int .i64 n))],.row .upl 86 l],.pack [.obj 118 [(.row 1),(.p (.int .i64 s))],.row .byte 5 b]]]:=by
  obtain⟨hf,h9⟩:=hneed
  have hcd:=Zo f zak
  unfold zak at hcd
  refine spcG zh mixed Tryz.func128 (by kernel_rfl) { cfgT with keep:=some [0,2,3,4]} [zT,zS,wM,wL] (by kernel_rfl) ?_
  intro I X hI hX
  refine orcL ?_;go_invoke;refine orcS (by kernel_rfl) ?_
  simp only [zi,Nat.reduceAdd]
  subst hI
  unfold VA zak at h9
  unfold zft zak
  simp only [nrmA,nrmB,nrlB,reduceCtorEq]
  (repeat' (first|refine And.intro ?_ ?_|intro _))<;>first|omega|exact True.intro|exact False.elim ‹False›|skip
  all_goals first|omega|assumption|(exact hf)|exact hf.1|(exact(hf.2 _ ‹_›).1)|(exact(hf.2 _ ‹_›).2)|(exact⟨hf,by decide⟩)|(exact⟨⟨hf,by decide⟩,‹_›⟩)|(exfalso;simp_all;done)|(simp_all;done)|(simp_all;omega)|(rcases hcd with h|h|h<;>simp_all;done)|trace_state
theorem zpF (m t:Str) (mi:Int) (f:List Fld) (le:Int) (l:List Upl) (n:Int) (b:Str) (s:Int) (hneed:FOk f∧VA f=false):Spc Tryz.prog 128 [.v (.one (.ptr 0 0))] [.obj 146 [(.ptr 1 0),(.p (.str m)),(.p (.str t)),(.p (.int .i64 mi)),(.p (.list .fld f)),(.p (.int .i64 le))],.pack [.obj 41 [(.ptr 1 0),(.ptr 2 0)],.pack [.obj 88 [(.row 1),(.p (.int .i64 n))],.row .upl 86 l],.pack [.obj 118 [(.row 1),(.p (.int .i64 s))],.row .byte 5 b]]] (.pan (.ifc 141 true [(.int .i64 400),(.list .fld ([])),(.list .byte ([]))])) [.obj 146 [(.ptr 1 0),(.p (.str m)),(.p (.str t)),(.p (.int .i64 mi)),(.p (.list .fld f)),(.p (.int .i64 le))],.pack [.obj 41 [(.ptr 1 0),(.ptr 2 0)],.pack [.obj 88 [(.row 1),(.p (.int .i64 n))],.row .upl 86 l],.pack [.obj 118 [(.row 1),(.p (.int .i64 s))],.row .byte 5 b]]]:=by
  obtain⟨hf,h9⟩:=hneed
  have hcd:=Zo f zak
  unfold zak at hcd
  refine spcG zh mixed Tryz.func128 (by kernel_rfl) { cfgT with keep:=some [0,2,3,4]} [zT,zS,wM,wL] (by kernel_rfl) ?_
  intro I X hI hX
  refine orcL ?_;go_invoke;refine orcS (by kernel_rfl) ?_
  simp only [zi,Nat.reduceAdd]
  subst hI
  unfold VA zak at h9
  simp only [nrmA,nrmB,nrlB,reduceCtorEq]
  (repeat' (first|refine And.intro ?_ ?_|intro _))<;>first|omega|exact True.intro|exact False.elim ‹False›|skip
  all_goals first|omega|assumption|(exact hf)|exact hf.1|(exact(hf.2 _ ‹_›).1)|(exact(hf.2 _ ‹_›).2)|(exact⟨hf,by decide⟩)|(exact⟨⟨hf,by decide⟩,‹_›⟩)|(exfalso;simp_all;done)|(simp_all;done)|(simp_all;omega)|(rcases hcd with h|h|h<;>simp_all;done)|trace_state
def WC (I:Alg) (args:List D) (hp:List HO):Option CT:=match args,hp with
  |[.v (.one (.ptr 0 0))],[.obj 146 [(.ptr 1 0),(.p (.str m)),(.p (.str t)),(.p (.int .i64 mi)),(.p (.list .fld f)),(.p (.int .i64 le))],.pack [.obj 41 [(.ptr 1 0),(.ptr 2 0)],.pack [.obj 88 [(.row 1),(.p (.int .i64 n))],.row .upl 86 l],.pack [.obj 118 [(.row 1),(.p (.int .i64 s))],.row .byte 5 b]]]=>(fun(m t:Str) (mi:Int) (f:List Fld) (le:Int) (l:List Upl) (n:Int) (b:Str) (s:Int)=>(some (.br (I.hid (VA f)) (.one ⟨I.hid (FOk f∧VA f=true),(.ret (.v (.one (.p (.bool (I.hid ((zft f)))))))),[.obj 146 [(.ptr 1 0),(.p (.str m)),(.p (.str t)),(.p (.int .i64 mi)),(.p (.list .fld f)),(.p (.int .i64 le))],.pack [.obj 41 [(.ptr 1 0),(.ptr 2 0)],.pack [.obj 88 [(.row 1),(.p (.int .i64 n))],.row .upl 86 l],.pack [.obj 118 [(.row 1),(.p (.int .i64 s))],.row .byte 5 b]]]⟩) (.one ⟨I.hid (FOk f∧VA f=false),(.pan (.ifc 141 true [(.int .i64 400),(.list .fld (I.hid ([]))),(.list .byte (I.hid ([])))])),[.obj 146 [(.ptr 1 0),(.p (.str m)),(.p (.str t)),(.p (.int .i64 mi)),(.p (.list .fld f)),(.p (.int .i64 le))],.pack [.obj 41 [(.ptr 1 0),(.ptr 2 0)],.pack [.obj 88 [(.row 1),(.p (.int .i64 n))],.row .upl 86 l],.pack [.obj 118 [(.row 1),(.p (.int .i64 s))],.row .byte 5 b]]]⟩)):Option CT)) m t mi f le l n b s
  |_,_=>none
theorem zeG:zx Tryz.prog 128 (WC alg):=by
  intro args hp r h
  unfold WC at h
  split at h
  · cases h;exact⟨fun _ hn=>zpG _ _ _ _ _ _ _ _ _ hn,fun _ hn=>zpF _ _ _ _ _ _ _ _ _ hn⟩
  · cases h
def zmd:Know Tryz.prog:=⟨128,WC,zeG⟩
def zmc:Know Tryz.prog:=⟨128,fun I=>zy I (WC I),zf zeG⟩
theorem zu0 (c:Int) (hneed:c=0):Spc Tryz.prog 102 [.v (.one (.p (.int .i64 c)))] [] (.ret (.tup [])) []:=by
  refine spcG zh mixed Tryz.func102 (by kernel_rfl) { keep:=some [0,2,9,16]} [zT,zS] (by kernel_rfl) ?_
  intro I X hI hX
  refine orcL ?_;go_invoke;refine orcS (by kernel_rfl) ?_
  simp only [zi,Nat.reduceAdd]
  subst hI
  simp only [nrmA,nrmB,nrlB,reduceCtorEq]
  (repeat' (first|refine And.intro ?_ ?_|intro _))<;>first|omega|exact True.intro|exact False.elim ‹False›|skip
  all_goals first|omega|(simp_all;done)|trace_state
theorem zuZ (c:Int) (hneed: ¬ c=0):Spc Tryz.prog 102 [.v (.one (.p (.int .i64 c)))] [] (.pan (.ifc 141 true [(.int .i64 ((WI c))),(.list .fld ([])),(.list .byte ([]))])) []:=by
  generalize hr:WI c=r
  unfold WI at hr
  refine spcG zh mixed Tryz.func102 (by kernel_rfl) { keep:=some [0,2,9,16]} [zT,zS] (by kernel_rfl) ?_
  intro I X hI hX
  refine orcL ?_;go_invoke;refine orcS (by kernel_rfl) ?_
  simp only [zi,Nat.reduceAdd]
  subst hI
  simp only [nrmA,nrmB,nrlB,reduceCtorEq]
  (repeat' (first|refine And.intro ?_ ?_|intro _))<;>first|omega|exact True.intro|exact False.elim ‹False›|skip
  all_goals first|omega|(((repeat(first|rewrite [if_pos (by first|omega|assumption|(simp only [*,or_self,or_true,true_or,or_false,false_or,not_true_eq_false,not_false_eq_true,Bool.false_eq_true,Bool.true_eq_false,and_self,and_true,true_and];done)|(simp only [*];omega)|(simp [*];done)|(simp [*];omega))] at hr|rewrite [if_neg (by first|omega|assumption|(simp only [*,or_self,or_true,true_or,or_false,false_or,not_true_eq_false,not_false_eq_true,Bool.false_eq_true,Bool.true_eq_false,and_self,and_true,true_and];done)|(simp only [*];omega)|(simp [*];done)|(simp [*];omega))] at hr)));omega)|(simp_all;done)|trace_state
def zdg (I:Alg) (args:List D) (hp:List HO):Option CT:=match args,hp with
  |[.v (.one (.p (.int .i64 c)))],[]=>(fun(c:Int)=>(some (.br (I.hid (decide (c=0))) (.one ⟨I.hid (c=0),(.ret (.tup [])),[]⟩) (.one ⟨I.hid (¬ c=0),(.pan (.ifc 141 true [(.int .i64 (I.hid ((WI c)))),(.list .fld (I.hid ([]))),(.list .byte (I.hid ([])))])),[]⟩)):Option CT)) c
  |_,_=>none
theorem zl8:zx Tryz.prog 102 (zdg alg):=by
  intro args hp r h
  unfold zdg at h
  split at h
  · cases h;exact⟨fun _ hn=>zu0 _ hn,fun _ hn=>zuZ _ hn⟩
  · cases h
def vY:Know Tryz.prog:=⟨102,zdg,zl8⟩
def vX:Know Tryz.prog:=⟨102,fun I=>zy I (zdg I),zf zl8⟩
theorem zwT (id sz:Int) (no bb:Str) (se:Int) (hneed:sz<1000000000):Spc Tryz.prog 132 [.v (.agg [(.p (.int .i64 id)),(.p (.int .i64 sz)),(.p (.str no)),(.p (.list .byte bb)),(.p (.int .i64 se))])] [] (.ret (.v (.agg [(.p (.str ((lenF ⟨id,sz,no,bb,se⟩).name))),(.p (.str ((lenF ⟨id,sz,no,bb,se⟩).value)))]))) []:=by
  generalize hr:lenF ⟨id,sz,no,bb,se⟩=r
  obtain⟨a,v⟩:=r
  unfold lenF at hr
  refine spcG zh mixed Tryz.func132 (by kernel_rfl) { keep:=some [0,1,2]} [yH,yG,wP,wO] (by kernel_rfl) ?_
  intro I X hI hX
  refine orcL ?_;go_invoke;refine orcS (by kernel_rfl) ?_
  simp only [zi,Nat.reduceAdd]
  subst hI
  simp only [nrmA,nrmB,nrlB,reduceCtorEq,V0.agg.injEq]
  simp only at hr
  (repeat' (first|refine And.intro ?_ ?_|intro _))<;>first|omega|exact True.intro|exact False.elim ‹False›|skip
  all_goals first|omega|(((repeat(first|rewrite [if_pos (by first|omega|assumption|(simp only [*,or_self,or_true,true_or,or_false,false_or,not_true_eq_false,not_false_eq_true,Bool.false_eq_true,Bool.true_eq_false,and_self,and_true,true_and];done)|(simp only [*];omega)|(simp [*];done)|(simp [*];omega))] at hr|rewrite [if_neg (by first|omega|assumption|(simp only [*,or_self,or_true,true_or,or_false,false_or,not_true_eq_false,not_false_eq_true,Bool.false_eq_true,Bool.true_eq_false,and_self,and_true,true_and];done)|(simp only [*];omega)|(simp [*];done)|(simp [*];omega))] at hr)));cases hr;rfl)|(((repeat(first|rewrite [if_pos (by first|omega|assumption|(simp only [*,or_self,or_true,true_or,or_false,false_or,not_true_eq_false,not_false_eq_true,Bool.false_eq_true,Bool.true_eq_false,and_self,and_true,true_and];done)|(simp only [*];omega)|(simp [*];done)|(simp [*];omega))] at hr|rewrite [if_neg (by first|omega|assumption|(simp only [*,or_self,or_true,true_or,or_false,false_or,not_true_eq_false,not_false_eq_true,Bool.false_eq_true,Bool.true_eq_false,and_self,and_true,true_and];done)|(simp only [*];omega)|(simp [*];done)|(simp [*];omega))] at hr)));cases hr;simp [zuN,zuO];done)|(simp_all;done)|trace_state
def zdj (I:Alg) (args:List D) (hp:List HO):Option CT:=match args,hp with
  |[.v (.agg [(.p (.int .i64 id)),(.p (.int .i64 sz)),(.p (.str no)),(.p (.list .byte bb)),(.p (.int .i64 se))])],[]=>(fun(id sz:Int) (no bb:Str) (se:Int)=>(some (.one ⟨I.hid (sz<1000000000),(.ret (.v (.agg [(.p (.str (I.hid ((lenF ⟨id,sz,no,bb,se⟩).name)))),(.p (.str (I.hid ((lenF ⟨id,sz,no,bb,se⟩).value))))]))),[]⟩):Option CT)) id sz no bb se
  |_,_=>none
theorem zmb:zx Tryz.prog 132 (zdj alg):=by
  intro args hp r h
  unfold zdj at h
  split at h
  · cases h;exact fun hn=>zwT _ _ _ _ _ hn
  · cases h
def zsF:Know Tryz.prog:=⟨132,zdj,zmb⟩
def zsE:Know Tryz.prog:=⟨132,fun I=>zy I (zdj I),zf zmb⟩
end Go.Proofs.YtmkcejdibmilmaaGreatDoor
namespace Go.Proofs.YtmkcejdibmilmaaGreatDoor
open Go Go.Sep Go.Ab
set_option maxRecDepth 100000
theorem zdL {f:List Fld} (hf:FOk f) (n:Str):(oneT f n).1.length≤1000000:=by
  unfold oneT oneF
  split
  · simp
  · split
    · rename_i h
      rw [List.getD_eq_getElem?_getD]
      cases hq:(valsF f n)[0]? with
      |none=>simp
      | some y=>
        have:=List.mem_of_getElem? hq
        unfold valsF at this
        rw [List.mem_map] at this
        obtain⟨x,hx,rfl⟩:=this
        exact(hf.2 x (List.mem_filter.1 hx).1).2
    · simp
set_option maxHeartbeats 2000000 in
theorem zpH (m t:Str) (mi:Int) (f:List Fld) (le:Int) (l:List Upl) (n:Int) (b:Str) (s:Int) (hneed:FOk f∧zF l n∧n≤200000∧b.length≤100000):Spc Tryz.prog 98 [.v (.one (.ptr 0 0))] [.obj 146 [(.ptr 1 0),(.p (.str m)),(.p (.str t)),(.p (.int .i64 mi)),(.p (.list .fld f)),(.p (.int .i64 le))],.pack [.obj 41 [(.ptr 1 0),(.ptr 2 0)],.pack [.obj 88 [(.row 1),(.p (.int .i64 n))],.row .upl 86 l],.pack [.obj 118 [(.row 1),(.p (.int .i64 s))],.row .byte 5 b]]] (.pan (.ifc 141 true [(.int .i64 ((y8 ⟨l,n,b,s⟩ f).st)),(.list .fld ((y8 ⟨l,n,b,s⟩ f).fs)),(.list .byte ([]))])) [.obj 146 [(.ptr 1 0),(.p (.str m)),(.p (.str t)),(.p (.int .i64 mi)),(.p (.list .fld f)),(.p (.int .i64 le))],.pack [.obj 41 [(.ptr 1 0),(.ptr 2 0)],.pack [.obj 88 [(.row 1),(.p (.int .i64 ((y8 ⟨l,n,b,s⟩ f).q.n)))],.row .upl 86 ((y8 ⟨l,n,b,s⟩ f).q.l)],.pack [.obj 118 [(.row 1),(.p (.int .i64 ((y8 ⟨l,n,b,s⟩ f).q.s)))],.row .byte 5 ((y8 ⟨l,n,b,s⟩ f).q.b)]]]:=by
  obtain⟨hf,hs,hn,hb⟩:=hneed
  have hn0:=hs.n0
  have hdl:=uD (n+1)
  have hcm:=Zo f zgR
  have hol:=zdL hf zgR
  generalize hr:y8 ⟨l,n,b,s⟩ f=r
  obtain⟨st,fs,⟨l',n',b',s'⟩⟩:=r
  unfold y8 creE wsC wsS syS at hr
  refine spcG zh mixed Tryz.func98 (by kernel_rfl) { cfgT with keep:=some [0,2,3,4,6,7]} [TS,TR,zO,zN,zT,zS,yH,yG,wP,wO,wM,wL,sU,sS,zmd,zmc,vY,vX] (by kernel_rfl) ?_
  intro I X hI hX
  refine orcL ?_;go_invoke;refine orcS (by kernel_rfl) ?_
  simp only [zi,Nat.reduceAdd]
  subst hI
  unfold xM zgR at *
  unfold locN yZ at hr
  simp only at hr
  simp only [nrmA,nrmB,nrlB,reduceCtorEq,HO.pack.injEq,HO.obj.injEq]
  by_cases h1:XQ f [117,112,108,111,97,100,45,108,101,110,103,116,104]=false
  · rw [if_pos h1] at hr
    cases hr
    (repeat' (first|refine And.intro ?_ ?_|intro _))<;>first|omega|exact True.intro|exact False.elim ‹False›|skip
    all_goals first
      |omega
      |assumption
      |exact hs
      |exact hf.1
      |(exact(hf.2 _ ‹_›).1)
      |(exact(hf.2 _ ‹_›).2)
      |(simp only [List.length_cons,List.length_nil];omega)
      |(simp_all;done)
      |(exfalso;simp_all;done)
      |(simp only [wrtL,wrtN,wrtB,if_neg h5];done)
  rw [if_neg h1] at hr
  simp only [Bool.not_eq_false] at h1
  by_cases h2:VA f=false
  · rw [if_pos h2] at hr
    cases hr
    (repeat' (first|refine And.intro ?_ ?_|intro _))<;>first|omega|exact True.intro|exact False.elim ‹False›|skip
    all_goals first
      |omega
      |assumption
      |exact hs
      |exact hf.1
      |(exact(hf.2 _ ‹_›).1)
      |(exact(hf.2 _ ‹_›).2)
      |(simp only [List.length_cons,List.length_nil];omega)
      |(simp_all;done)
      |(exfalso;simp_all;done)
      |(simp only [wrtL,wrtN,wrtB,if_neg h5];done)
  rw [if_neg h2] at hr
  simp only [Bool.not_eq_false] at h2
  by_cases h3:decide (0≤yw f [117,112,108,111,97,100,45,108,101,110,103,116,104])=zft f
  · rw [if_pos h3] at hr
    cases hr
    (repeat' (first|refine And.intro ?_ ?_|intro _))<;>first|omega|exact True.intro|exact False.elim ‹False›|skip
    all_goals first
      |omega
      |assumption
      |exact hs
      |exact hf.1
      |(exact(hf.2 _ ‹_›).1)
      |(exact(hf.2 _ ‹_›).2)
      |(simp only [List.length_cons,List.length_nil];omega)
      |(simp_all;done)
      |(exfalso;simp_all;done)
      |(simp only [wrtL,wrtN,wrtB,if_neg h5];done)
  rw [if_neg h3] at hr
  by_cases h4:(oneT f [117,112,108,111,97,100,45,109,101,116,97,100,97,116,97]).2=9
  · rw [if_pos h4] at hr
    cases hr
    (repeat' (first|refine And.intro ?_ ?_|intro _))<;>first|omega|exact True.intro|exact False.elim ‹False›|skip
    all_goals first
      |omega
      |assumption
      |exact hs
      |exact hf.1
      |(exact(hf.2 _ ‹_›).1)
      |(exact(hf.2 _ ‹_›).2)
      |(simp only [List.length_cons,List.length_nil];omega)
      |(simp_all;done)
      |(exfalso;simp_all;done)
      |(simp only [wrtL,wrtN,wrtB,if_neg h5];done)
  rw [if_neg h4] at hr
  generalize(oneT f [117,112,108,111,97,100,45,109,101,116,97,100,97,116,97]).1=mt at *
  generalize yw f [117,112,108,111,97,100,45,108,101,110,103,116,104]=nv at *
  by_cases h5:wrtC l n b ⟨1,n+1,nv,mt⟩=0
  · rw [if_neg (fun h=>h h5)] at hr
    cases hr
    simp only [h5,if_true] at *
    (repeat' (first|refine And.intro ?_ ?_|intro _))<;>first|omega|exact True.intro|exact False.elim ‹False›|skip
    all_goals first
      |omega
      |assumption
      |exact hs
      |exact hf.1
      |(exact(hf.2 _ ‹_›).1)
      |(exact(hf.2 _ ‹_›).2)
      |(simp only [List.length_cons,List.length_nil];omega)
      |(simp_all;done)
      |(exfalso;simp_all;done)
      |(simp only [wrtL,wrtN,wrtB,if_neg h5];done)
  · rw [if_pos h5] at hr
    cases hr
    (repeat' (first|refine And.intro ?_ ?_|intro _))<;>first|omega|exact True.intro|exact False.elim ‹False›|skip
    all_goals first
      |omega
      |assumption
      |exact hs
      |exact hf.1
      |(exact(hf.2 _ ‹_›).1)
      |(exact(hf.2 _ ‹_›).2)
      |(simp only [List.length_cons,List.length_nil];omega)
      |(simp_all;done)
      |(exfalso;simp_all;done)
      |(simp only [wrtL,wrtN,wrtB,if_neg h5];done)
def YT (I:Alg) (args:List D) (hp:List HO):Option CT:=match args,hp with
  |[.v (.one (.ptr 0 0))],[.obj 146 [(.ptr 1 0),(.p (.str m)),(.p (.str t)),(.p (.int .i64 mi)),(.p (.list .fld f)),(.p (.int .i64 le))],.pack [.obj 41 [(.ptr 1 0),(.ptr 2 0)],.pack [.obj 88 [(.row 1),(.p (.int .i64 n))],.row .upl 86 l],.pack [.obj 118 [(.row 1),(.p (.int .i64 s))],.row .byte 5 b]]]=>(fun(m t:Str) (mi:Int) (f:List Fld) (le:Int) (l:List Upl) (n:Int) (b:Str) (s:Int)=>(some (.one ⟨I.hid (FOk f∧zF l n∧n≤200000∧b.length≤100000),(.pan (.ifc 141 true [(.int .i64 (I.hid ((y8 ⟨l,n,b,s⟩ f).st))),(.list .fld (I.hid ((y8 ⟨l,n,b,s⟩ f).fs))),(.list .byte (I.hid ([])))])),[.obj 146 [(.ptr 1 0),(.p (.str m)),(.p (.str t)),(.p (.int .i64 mi)),(.p (.list .fld f)),(.p (.int .i64 le))],.pack [.obj 41 [(.ptr 1 0),(.ptr 2 0)],.pack [.obj 88 [(.row 1),(.p (.int .i64 (I.hid ((y8 ⟨l,n,b,s⟩ f).q.n))))],.row .upl 86 (I.hid ((y8 ⟨l,n,b,s⟩ f).q.l))],.pack [.obj 118 [(.row 1),(.p (.int .i64 (I.hid ((y8 ⟨l,n,b,s⟩ f).q.s))))],.row .byte 5 (I.hid ((y8 ⟨l,n,b,s⟩ f).q.b))]]]⟩):Option CT)) m t mi f le l n b s
  |_,_=>none
theorem zbT:zx Tryz.prog 98 (YT alg):=by
  intro args hp r h
  unfold YT at h
  split at h
  · cases h;exact fun hn=>zpH _ _ _ _ _ _ _ _ _ hn
  · cases h
def Zf:Know Tryz.prog:=⟨98,YT,zbT⟩
def Ze:Know Tryz.prog:=⟨98,fun I=>zy I (YT I),zf zbT⟩
theorem zuW (m t:Str) (mi:Int) (f:List Fld) (le:Int) (l:List Upl) (n:Int) (b:Str) (s:Int) (hneed:zF l n∧uplB ⟨l,n,b,s⟩ t=true):Spc Tryz.prog 99 [.v (.one (.ptr 0 0))] [.obj 146 [(.ptr 1 0),(.p (.str m)),(.p (.str t)),(.p (.int .i64 mi)),(.p (.list .fld f)),(.p (.int .i64 le))],.pack [.obj 41 [(.ptr 1 0),(.ptr 2 0)],.pack [.obj 88 [(.row 1),(.p (.int .i64 n))],.row .upl 86 l],.pack [.obj 118 [(.row 1),(.p (.int .i64 s))],.row .byte 5 b]]] (.ret (.v (.agg [(.p (.int .i64 ((getU l (idV t)).id))),(.p (.int .i64 ((getU l (idV t)).size))),(.p (.str ((getU l (idV t)).note))),(.p (.list .byte ((getU l (idV t)).bytes))),(.p (.int .i64 ((getU l (idV t)).sent)))]))) [.obj 146 [(.ptr 1 0),(.p (.str m)),(.p (.str t)),(.p (.int .i64 mi)),(.p (.list .fld f)),(.p (.int .i64 le))],.pack [.obj 41 [(.ptr 1 0),(.ptr 2 0)],.pack [.obj 88 [(.row 1),(.p (.int .i64 n))],.row .upl 86 l],.pack [.obj 118 [(.row 1),(.p (.int .i64 s))],.row .byte 5 b]]]:=by
  obtain⟨hs,hu⟩:=hneed
  have hnn:=uK (t.drop 7)
  have hnx:=uK (Lib.trimPrefix t yZ)
  have htp:Lib.hasPrefix t yZ=true→Lib.trimPrefix t yZ=t.drop 7:=fun h=>by unfold Lib.trimPrefix;rw [if_pos h];rfl
  unfold uplB idB idV at hu
  try unfold idV
  refine spcG zh mixed Tryz.func99 (by kernel_rfl) { cfgT with keep:=some [0,2,3,4,5,6,7]} [rJ,rH,Y2,Y1,UZ,UY,SX,SV,zT,zS,wP,wO] (by kernel_rfl) ?_
  intro I X hI hX
  refine orcL ?_;go_invoke;refine orcS (by kernel_rfl) ?_
  simp only [zi,Nat.reduceAdd]
  subst hI
  rw [show([47,102,105,108,101,115,47]:Str)=yZ from rfl]
  simp only [nrmA,nrmB,nrlB,reduceCtorEq,HO.pack.injEq,HO.obj.injEq]
  generalize Lib.hasPrefix t yZ=hb at *
  cases hb with
  | true=>
    rw [htp rfl] at *
    generalize t.drop 7=tt at *
    generalize numA tt 10 9=na at *
    obtain⟨nv,ok⟩:=na
    simp only [Bool.true_and] at *
    (repeat' (first|refine And.intro ?_ ?_|intro _))<;>first|omega|exact True.intro|exact False.elim ‹False›|skip
    all_goals first|omega|assumption|exact hs|(simp_all;done)|trace_state
  | false=>
    simp only [Bool.false_and] at *
    (repeat' (first|refine And.intro ?_ ?_|intro _))<;>first|omega|exact True.intro|exact False.elim ‹False›|skip
    all_goals first|omega|assumption|exact hs|(simp_all;done)|trace_state
theorem zuV (m t:Str) (mi:Int) (f:List Fld) (le:Int) (l:List Upl) (n:Int) (b:Str) (s:Int) (hneed:zF l n∧uplB ⟨l,n,b,s⟩ t=false):Spc Tryz.prog 99 [.v (.one (.ptr 0 0))] [.obj 146 [(.ptr 1 0),(.p (.str m)),(.p (.str t)),(.p (.int .i64 mi)),(.p (.list .fld f)),(.p (.int .i64 le))],.pack [.obj 41 [(.ptr 1 0),(.ptr 2 0)],.pack [.obj 88 [(.row 1),(.p (.int .i64 n))],.row .upl 86 l],.pack [.obj 118 [(.row 1),(.p (.int .i64 s))],.row .byte 5 b]]] (.pan (.ifc 141 true [(.int .i64 404),(.list .fld ([])),(.list .byte ([]))])) [.obj 146 [(.ptr 1 0),(.p (.str m)),(.p (.str t)),(.p (.int .i64 mi)),(.p (.list .fld f)),(.p (.int .i64 le))],.pack [.obj 41 [(.ptr 1 0),(.ptr 2 0)],.pack [.obj 88 [(.row 1),(.p (.int .i64 n))],.row .upl 86 l],.pack [.obj 118 [(.row 1),(.p (.int .i64 s))],.row .byte 5 b]]]:=by
  obtain⟨hs,hu⟩:=hneed
  have hnn:=uK (t.drop 7)
  have hnx:=uK (Lib.trimPrefix t yZ)
  have htp:Lib.hasPrefix t yZ=true→Lib.trimPrefix t yZ=t.drop 7:=fun h=>by unfold Lib.trimPrefix;rw [if_pos h];rfl
  unfold uplB idB idV at hu
  try unfold idV
  refine spcG zh mixed Tryz.func99 (by kernel_rfl) { cfgT with keep:=some [0,2,3,4,5,6,7]} [rJ,rH,Y2,Y1,UZ,UY,SX,SV,zT,zS,wP,wO] (by kernel_rfl) ?_
  intro I X hI hX
  refine orcL ?_;go_invoke;refine orcS (by kernel_rfl) ?_
  simp only [zi,Nat.reduceAdd]
  subst hI
  rw [show([47,102,105,108,101,115,47]:Str)=yZ from rfl]
  simp only [nrmA,nrmB,nrlB,reduceCtorEq,HO.pack.injEq,HO.obj.injEq]
  generalize Lib.hasPrefix t yZ=hb at *
  cases hb with
  | true=>
    rw [htp rfl] at *
    generalize t.drop 7=tt at *
    generalize numA tt 10 9=na at *
    obtain⟨nv,ok⟩:=na
    simp only [Bool.true_and] at *
    (repeat' (first|refine And.intro ?_ ?_|intro _))<;>first|omega|exact True.intro|exact False.elim ‹False›|skip
    all_goals first|omega|assumption|exact hs|(simp_all;done)|trace_state
  | false=>
    simp only [Bool.false_and] at *
    (repeat' (first|refine And.intro ?_ ?_|intro _))<;>first|omega|exact True.intro|exact False.elim ‹False›|skip
    all_goals first|omega|assumption|exact hs|(simp_all;done)|trace_state
def zdf (I:Alg) (args:List D) (hp:List HO):Option CT:=match args,hp with
  |[.v (.one (.ptr 0 0))],[.obj 146 [(.ptr 1 0),(.p (.str m)),(.p (.str t)),(.p (.int .i64 mi)),(.p (.list .fld f)),(.p (.int .i64 le))],.pack [.obj 41 [(.ptr 1 0),(.ptr 2 0)],.pack [.obj 88 [(.row 1),(.p (.int .i64 n))],.row .upl 86 l],.pack [.obj 118 [(.row 1),(.p (.int .i64 s))],.row .byte 5 b]]]=>(fun(m t:Str) (mi:Int) (f:List Fld) (le:Int) (l:List Upl) (n:Int) (b:Str) (s:Int)=>(some (.br (I.hid (uplB ⟨l,n,b,s⟩ t)) (.one ⟨I.hid (zF l n∧uplB ⟨l,n,b,s⟩ t=true),(.ret (.v (.agg [(.p (.int .i64 (I.hid ((getU l (idV t)).id)))),(.p (.int .i64 (I.hid ((getU l (idV t)).size)))),(.p (.str (I.hid ((getU l (idV t)).note)))),(.p (.list .byte (I.hid ((getU l (idV t)).bytes)))),(.p (.int .i64 (I.hid ((getU l (idV t)).sent))))]))),[.obj 146 [(.ptr 1 0),(.p (.str m)),(.p (.str t)),(.p (.int .i64 mi)),(.p (.list .fld f)),(.p (.int .i64 le))],.pack [.obj 41 [(.ptr 1 0),(.ptr 2 0)],.pack [.obj 88 [(.row 1),(.p (.int .i64 n))],.row .upl 86 l],.pack [.obj 118 [(.row 1),(.p (.int .i64 s))],.row .byte 5 b]]]⟩) (.one ⟨I.hid (zF l n∧uplB ⟨l,n,b,s⟩ t=false),(.pan (.ifc 141 true [(.int .i64 404),(.list .fld (I.hid ([]))),(.list .byte (I.hid ([])))])),[.obj 146 [(.ptr 1 0),(.p (.str m)),(.p (.str t)),(.p (.int .i64 mi)),(.p (.list .fld f)),(.p (.int .i64 le))],.pack [.obj 41 [(.ptr 1 0),(.ptr 2 0)],.pack [.obj 88 [(.row 1),(.p (.int .i64 n))],.row .upl 86 l],.pack [.obj 118 [(.row 1),(.p (.int .i64 s))],.row .byte 5 b]]]⟩)):Option CT)) m t mi f le l n b s
  |_,_=>none
theorem zl5:zx Tryz.prog 99 (zdf alg):=by
  intro args hp r h
  unfold zdf at h
  split at h
  · cases h;exact⟨fun _ hn=>zuW _ _ _ _ _ _ _ _ _ hn,fun _ hn=>zuV _ _ _ _ _ _ _ _ _ hn⟩
  · cases h
def zaq:Know Tryz.prog:=⟨99,zdf,zl5⟩
def zao:Know Tryz.prog:=⟨99,fun I=>zy I (zdf I),zf zl5⟩
theorem zuX (m t:Str) (mi:Int) (f:List Fld) (le:Int) (l:List Upl) (n:Int) (b:Str) (s:Int) (ui uz:Int) (uo ub:Str) (us:Int) (hneed:uz<1000000000∧ub.length<1000000):Spc Tryz.prog 100 [.v (.one (.ptr 0 0)),.v (.agg [(.p (.int .i64 ui)),(.p (.int .i64 uz)),(.p (.str uo)),(.p (.list .byte ub)),(.p (.int .i64 us))])] [.obj 146 [(.ptr 1 0),(.p (.str m)),(.p (.str t)),(.p (.int .i64 mi)),(.p (.list .fld f)),(.p (.int .i64 le))],.pack [.obj 41 [(.ptr 1 0),(.ptr 2 0)],.pack [.obj 88 [(.row 1),(.p (.int .i64 n))],.row .upl 86 l],.pack [.obj 118 [(.row 1),(.p (.int .i64 s))],.row .byte 5 b]]] (.pan (.ifc 141 true [(.int .i64 200),(.list .fld ((zan ⟨ui,uz,uo,ub,us⟩))),(.list .byte ([]))])) [.obj 146 [(.ptr 1 0),(.p (.str m)),(.p (.str t)),(.p (.int .i64 mi)),(.p (.list .fld f)),(.p (.int .i64 le))],.pack [.obj 41 [(.ptr 1 0),(.ptr 2 0)],.pack [.obj 88 [(.row 1),(.p (.int .i64 n))],.row .upl 86 l],.pack [.obj 118 [(.row 1),(.p (.int .i64 s))],.row .byte 5 b]]]:=by
  obtain⟨h1,h2⟩:=hneed
  generalize hr:zan ⟨ui,uz,uo,ub,us⟩=r
  unfold zan at hr
  generalize hl:lenF ⟨ui,uz,uo,ub,us⟩=lf at hr
  obtain⟨ln,lv⟩:=lf
  refine spcG zh mixed Tryz.func100 (by kernel_rfl) { cfgT with keep:=some [0,1,3,4]} [zT,zS,yH,yG,wP,wO,zsF,zsE] (by kernel_rfl) ?_
  intro I X hI hX
  refine orcL ?_;go_invoke;refine orcS (by kernel_rfl) ?_
  simp only [zi,Nat.reduceAdd]
  subst hI
  simp only at hr
  simp only [nrmA,nrmB,nrlB,reduceCtorEq,HO.pack.injEq,HO.obj.injEq]
  rw [hl]
  (repeat' (first|refine And.intro ?_ ?_|intro _))<;>first|omega|exact True.intro|exact False.elim ‹False›|skip
  all_goals first|omega|with_reducible assumption|(subst hr;simp_all;done)|(subst hr;(simp_all [zaj,zwE,zvR,zuM]);done)|trace_state
def Rz (I:Alg) (args:List D) (hp:List HO):Option CT:=match args,hp with
  |[.v (.one (.ptr 0 0)),.v (.agg [(.p (.int .i64 ui)),(.p (.int .i64 uz)),(.p (.str uo)),(.p (.list .byte ub)),(.p (.int .i64 us))])],[.obj 146 [(.ptr 1 0),(.p (.str m)),(.p (.str t)),(.p (.int .i64 mi)),(.p (.list .fld f)),(.p (.int .i64 le))],.pack [.obj 41 [(.ptr 1 0),(.ptr 2 0)],.pack [.obj 88 [(.row 1),(.p (.int .i64 n))],.row .upl 86 l],.pack [.obj 118 [(.row 1),(.p (.int .i64 s))],.row .byte 5 b]]]=>(fun(m t:Str) (mi:Int) (f:List Fld) (le:Int) (l:List Upl) (n:Int) (b:Str) (s:Int) (ui uz:Int) (uo ub:Str) (us:Int)=>(some (.one ⟨I.hid (uz<1000000000∧ub.length<1000000),(.pan (.ifc 141 true [(.int .i64 200),(.list .fld (I.hid ((zan ⟨ui,uz,uo,ub,us⟩)))),(.list .byte (I.hid ([])))])),[.obj 146 [(.ptr 1 0),(.p (.str m)),(.p (.str t)),(.p (.int .i64 mi)),(.p (.list .fld f)),(.p (.int .i64 le))],.pack [.obj 41 [(.ptr 1 0),(.ptr 2 0)],.pack [.obj 88 [(.row 1),(.p (.int .i64 n))],.row .upl 86 l],.pack [.obj 118 [(.row 1),(.p (.int .i64 s))],.row .byte 5 b]]]⟩):Option CT)) m t mi f le l n b s ui uz uo ub us
  |_,_=>none
theorem zio:zx Tryz.prog 100 (Rz alg):=by
  intro args hp r h
  unfold Rz at h
  split at h
  · cases h;exact fun hn=>zuX _ _ _ _ _ _ _ _ _ _ _ _ _ _ hn
  · cases h
def Wy:Know Tryz.prog:=⟨100,Rz,zio⟩
def Wx:Know Tryz.prog:=⟨100,fun I=>zy I (Rz I),zf zio⟩
end Go.Proofs.YtmkcejdibmilmaaGreatDoor
namespace Go.Proofs.YtmkcejdibmilmaaGreatDoor
open Go Go.Sep Go.Ab
set_option maxRecDepth 100000
theorem Zc {l:List Upl} {n:Int} {b:Str} {e:Ent} (h:e.kind≠1):wrtN l n b e=n:=by
  unfold wrtN zaG
  rw [if_neg h]
  split<;>rfl
set_option maxHeartbeats 8000000 in
theorem zsB (m t:Str) (mi:Int) (f:List Fld) (le:Int) (l:List Upl) (n:Int) (b:Str) (s:Int) (ui uz:Int) (uo ub:Str) (us:Int) (body:Str) (hneed:FOk f∧zF l n∧n≤200000∧b.length≤100000∧body.length≤100000∧ub.length≤1000000∧uz≤1000000):Spc Tryz.prog 101 [.v (.one (.ptr 0 0)),.v (.agg [(.p (.int .i64 ui)),(.p (.int .i64 uz)),(.p (.str uo)),(.p (.list .byte ub)),(.p (.int .i64 us))]),.v (.one (.p (.list .byte body)))] [.obj 146 [(.ptr 1 0),(.p (.str m)),(.p (.str t)),(.p (.int .i64 mi)),(.p (.list .fld f)),(.p (.int .i64 le))],.pack [.obj 41 [(.ptr 1 0),(.ptr 2 0)],.pack [.obj 88 [(.row 1),(.p (.int .i64 n))],.row .upl 86 l],.pack [.obj 118 [(.row 1),(.p (.int .i64 s))],.row .byte 5 b]]] (.pan (.ifc 141 true [(.int .i64 ((wZ ⟨l,n,b,s⟩ ⟨ui,uz,uo,ub,us⟩ f body).st)),(.list .fld ((wZ ⟨l,n,b,s⟩ ⟨ui,uz,uo,ub,us⟩ f body).fs)),(.list .byte ([]))])) [.obj 146 [(.ptr 1 0),(.p (.str m)),(.p (.str t)),(.p (.int .i64 mi)),(.p (.list .fld f)),(.p (.int .i64 le))],.pack [.obj 41 [(.ptr 1 0),(.ptr 2 0)],.pack [.obj 88 [(.row 1),(.p (.int .i64 ((wZ ⟨l,n,b,s⟩ ⟨ui,uz,uo,ub,us⟩ f body).q.n)))],.row .upl 86 ((wZ ⟨l,n,b,s⟩ ⟨ui,uz,uo,ub,us⟩ f body).q.l)],.pack [.obj 118 [(.row 1),(.p (.int .i64 ((wZ ⟨l,n,b,s⟩ ⟨ui,uz,uo,ub,us⟩ f body).q.s)))],.row .byte 5 ((wZ ⟨l,n,b,s⟩ ⟨ui,uz,uo,ub,us⟩ f body).q.b)]]]:=by
  obtain⟨hf,hs,hn,hb,hbl,hub,huz⟩:=hneed
  have hn0:=hs.n0
  have hcm:=Zo f ZW
  have hol:=zdL hf ZW
  have hs2:=zbO hs b (apE ui body)
  have hnn:wrtN l n b (apE ui body)=n:=Zc (by simp [apE])
  have hbb:=YQ (l:=l) (n:=n) (b:=b) (apE ui body) hb
  generalize hr:wZ ⟨l,n,b,s⟩ ⟨ui,uz,uo,ub,us⟩ f body=r
  obtain⟨st,fs,⟨l',n',b',s'⟩⟩:=r
  unfold wZ wsC wsS syS at hr
  simp only at hr
  refine spcG zh mixed Tryz.func101 (by kernel_rfl) { cfgT with seam:=[5,10,17],keep:=some [0,1,2,4,6,8,9,10,11]} [vI,vH,xw,xu,xq,xk,zO,zN,xg,y9,zT,zS,yH,yG,wP,wO,wM,wL,sU,sS,vY,vX] (by kernel_rfl) ?_
  intro I X hI hX
  refine orcL ?_;go_invoke;refine orcS (by kernel_rfl) ?_
  simp only [zi,Nat.reduceAdd]
  have hh: ∀ {α:Type} (x:α),I.hid x=x:=by subst hI;intros;rfl
  have key17: ∀ (nv sz:Int),nv=(ub.length:Int)→(if(if apG l ui nv then 17 else wrtC l n b (apE ui body))≠0 then(⟨WI (if apG l ui nv then 17 else wrtC l n b (apE ui body)),[],⟨l,n,b,s⟩⟩:TA)
    else if 0≤sz∧uz<0 then
      if wrtC (wrtL l n b (apE ui body)) (wrtN l n b (apE ui body)) (wrtB l n b (apE ui body)) ⟨3,ui,sz,[]⟩≠0 then(⟨WI (wrtC (wrtL l n b (apE ui body)) (wrtN l n b (apE ui body)) (wrtB l n b (apE ui body)) ⟨3,ui,sz,[]⟩),[],⟨wrtL l n b (apE ui body),wrtN l n b (apE ui body),wrtB l n b (apE ui body),s⟩⟩:TA)
      else(⟨204,[⟨zaj,decS (nv+(body.length:Int))⟩],⟨wrtL (wrtL l n b (apE ui body)) (wrtN l n b (apE ui body)) (wrtB l n b (apE ui body)) ⟨3,ui,sz,[]⟩,wrtN (wrtL l n b (apE ui body)) (wrtN l n b (apE ui body)) (wrtB l n b (apE ui body)) ⟨3,ui,sz,[]⟩,wrtB (wrtL l n b (apE ui body)) (wrtN l n b (apE ui body)) (wrtB l n b (apE ui body)) ⟨3,ui,sz,[]⟩,((wrtB (wrtL l n b (apE ui body)) (wrtN l n b (apE ui body)) (wrtB l n b (apE ui body)) ⟨3,ui,sz,[]⟩).length:Int)⟩⟩:TA)
    else(⟨204,[⟨zaj,decS (nv+(body.length:Int))⟩],⟨wrtL l n b (apE ui body),wrtN l n b (apE ui body),wrtB l n b (apE ui body),((wrtB l n b (apE ui body)).length:Int)⟩⟩:TA))=⟨st,fs,⟨l',n',b',s'⟩⟩→Ok Tryz.prog X (fun o h=>o=AOut.pan (C.ifc 141 true [P.int IntKind.i64 st,P.list U.fld fs,P.list U.byte []])∧h=[HO.obj 146 [C.ptr 1 0,C.p (P.str m),C.p (P.str t),C.p (P.int IntKind.i64 mi),C.p (P.list U.fld f),C.p (P.int IntKind.i64 le)],HO.pack [HO.obj 41 [C.ptr 1 0,C.ptr 2 0],HO.pack [HO.obj 88 [C.row 1,C.p (P.int IntKind.i64 n')],HO.row U.upl 86 l'],HO.pack [HO.obj 118 [C.row 1,C.p (P.int IntKind.i64 s')],HO.row U.byte 5 b']]]) (go I tab { cfgT with seam:=[5,10,17],keep:=some [0,1,2,4,6,8,9,10,11]} [vI,vH,xw,xu,xq,xk,zO,zN,xg,y9,zT,zS,yH,yG,wP,wO,wM,wL,sU,sS,vY,vX] [⟨uI Tryz.f101,finK I tab { cfgT with seam:=[5,10,17],keep:=some [0,1,2,4,6,8,9,10,11]} 2 Tryz.f101⟩] 0 [1,1,1,1,1,1,1,1,0] ⟨[(0,.v (.one (.ptr 0 0))),(1,.v (.agg [(.p (.int .i64 ui)),(.p (.int .i64 uz)),(.p (.str uo)),(.p (.list .byte ub)),(.p (.int .i64 us))])),(2,.v (.one (.p (.list .byte body)))),(4,.v (.one (.ptr 2 0))),(10,.v (.one (.p (.int .i64 nv)))),(11,.v (.one (.p (.int .i64 sz))))],[.obj 146 [(.ptr 1 0),(.p (.str m)),(.p (.str t)),(.p (.int .i64 mi)),(.p (.list .fld f)),(.p (.int .i64 le))],.pack [.obj 41 [(.ptr 1 0),(.ptr 2 0)],.pack [.obj 88 [(.row 1),(.p (.int .i64 n))],.row .upl 86 l],.pack [.obj 118 [(.row 1),(.p (.int .i64 s))],.row .byte 5 b]],.pack [.obj 86 [(.p (.int .i64 ui)),(.p (.int .i64 uz)),(.p (.str uo)),(.p (.list .byte ub)),(.p (.int .i64 us))]]],131,none⟩):=by
    intro nv sz hnv hr
    refine orcL ?_;go_invoke;refine orcS (by kernel_rfl) ?_
    simp only [zi,Nat.reduceAdd]
    clear hX hcm hol
    unfold zaj at hr
    unfold apE at *
    subst hI
    simp only [nrmA,nrmB,nrlB,reduceCtorEq,HO.pack.injEq,HO.obj.injEq]
    by_cases hg:apG l ui nv=true
    · simp only [hg,if_true] at hr ⊢
      rw [if_pos (by decide)] at hr
      clear hs2 hnn hbb
      simp only [TA.mk.injEq,Sto.mk.injEq] at hr
      obtain⟨q1,q2,q3,q4,q5,q6⟩:=hr
      subst q1 q2 q3 q4 q5 q6
      simp only [nrmA,nrmB,nrlB,reduceCtorEq,HO.pack.injEq,HO.obj.injEq,decide_true,decide_false,Bool.true_eq_false,Bool.false_eq_true,forall_const,false_implies,true_implies,not_true_eq_false,not_false_eq_true]
      (repeat' (first|refine And.intro ?_ ?_|intro _))<;>first|omega|exact True.intro|exact False.elim ‹False›|skip
      all_goals first
        |with_reducible rfl
        |with_reducible assumption
        |omega
        |exact hs
        |exact hf.1
        |(exact(hf.2 _ ‹_›).1)
        |(exact(hf.2 _ ‹_›).2)
        |exact⟨hf,by decide⟩
        |exact⟨⟨hf,by decide⟩,by assumption⟩
        |(simp only [List.length_cons,List.length_nil];omega)
        |(exfalso;simp_all;done)
    simp only [hg,Bool.false_eq_true,if_false] at hr ⊢
    clear hg
    by_cases h1:wrtC l n b ⟨2,ui,0,body⟩=0
    · rw [if_neg (fun h=>h h1)] at hr
      simp only [h1] at ⊢
      clear h1
      generalize wrtL l n b ⟨2,ui,0,body⟩=l2 at *
      generalize wrtN l n b ⟨2,ui,0,body⟩=n2 at *
      generalize wrtB l n b ⟨2,ui,0,body⟩=b2 at *
      by_cases h2:0≤sz∧uz<0
      · rw [if_pos h2] at hr
        by_cases h3:wrtC l2 n2 b2 ⟨3,ui,sz,[]⟩=0
        · rw [if_neg (fun h=>h h3)] at hr
          simp only [TA.mk.injEq,Sto.mk.injEq] at hr
          obtain⟨q1,q2,q3,q4,q5,q6⟩:=hr
          subst q1 q2 q3 q4 q5 q6
          simp only [h3] at ⊢
          clear h3
          simp only [nrmA,nrmB,nrlB,reduceCtorEq,HO.pack.injEq,HO.obj.injEq,decide_true,decide_false,Bool.true_eq_false,Bool.false_eq_true,forall_const,false_implies,true_implies,not_true_eq_false,not_false_eq_true]
          (repeat' (first|refine And.intro ?_ ?_|intro _))<;>first|omega|exact True.intro|exact False.elim ‹False›|skip
          all_goals first
            |with_reducible rfl
            |with_reducible assumption
            |omega
            |exact hs
            |exact hf.1
            |(exact(hf.2 _ ‹_›).1)
            |(exact(hf.2 _ ‹_›).2)
            |exact⟨hf,by decide⟩
            |exact⟨⟨hf,by decide⟩,by assumption⟩
            |(simp only [List.length_cons,List.length_nil];omega)
            |(exfalso;simp_all;done)
        · rw [if_pos h3] at hr
          simp only [TA.mk.injEq,Sto.mk.injEq] at hr
          obtain⟨q1,q2,q3,q4,q5,q6⟩:=hr
          subst q1 q2 q3 q4 q5 q6
          have e1:wrtL l2 n2 b2 ⟨3,ui,sz,[]⟩=l2:=by simp only [wrtL,if_neg h3]
          have e2:wrtN l2 n2 b2 ⟨3,ui,sz,[]⟩=n2:=by simp only [wrtN,if_neg h3]
          have e3:wrtB l2 n2 b2 ⟨3,ui,sz,[]⟩=b2:=by simp only [wrtB,if_neg h3]
          rw [e1,e2,e3]
          clear e1 e2 e3
          generalize wrtC l2 n2 b2 ⟨3,ui,sz,[]⟩=c3 at *
          simp only [nrmA,nrmB,nrlB,reduceCtorEq,HO.pack.injEq,HO.obj.injEq,decide_true,decide_false,Bool.true_eq_false,Bool.false_eq_true,forall_const,false_implies,true_implies,not_true_eq_false,not_false_eq_true,h3]
          (repeat' (first|refine And.intro ?_ ?_|intro _))<;>first|omega|exact True.intro|exact False.elim ‹False›|skip
          all_goals first
            |with_reducible rfl
            |with_reducible assumption
            |omega
            |exact hs
            |exact hf.1
            |(exact(hf.2 _ ‹_›).1)
            |(exact(hf.2 _ ‹_›).2)
            |exact⟨hf,by decide⟩
            |exact⟨⟨hf,by decide⟩,by assumption⟩
            |(simp only [List.length_cons,List.length_nil];omega)
            |(exfalso;simp_all;done)
      · rw [if_neg h2] at hr
        simp only [TA.mk.injEq,Sto.mk.injEq] at hr
        obtain⟨q1,q2,q3,q4,q5,q6⟩:=hr
        subst q1 q2 q3 q4 q5 q6
        simp only [nrmA,nrmB,nrlB,reduceCtorEq,HO.pack.injEq,HO.obj.injEq,decide_true,decide_false,Bool.true_eq_false,Bool.false_eq_true,forall_const,false_implies,true_implies,not_true_eq_false,not_false_eq_true]
        (repeat' (first|refine And.intro ?_ ?_|intro _))<;>first|omega|exact True.intro|exact False.elim ‹False›|skip
        all_goals first
          |with_reducible rfl
          |with_reducible assumption
          |omega
          |exact hs
          |exact hf.1
          |(exact(hf.2 _ ‹_›).1)
          |(exact(hf.2 _ ‹_›).2)
          |exact⟨hf,by decide⟩
          |exact⟨⟨hf,by decide⟩,by assumption⟩
          |(simp only [List.length_cons,List.length_nil];omega)
          |(exfalso;simp_all;done)
    · rw [if_pos h1] at hr
      simp only [TA.mk.injEq,Sto.mk.injEq] at hr
      obtain⟨q1,q2,q3,q4,q5,q6⟩:=hr
      subst q1 q2 q3 q4 q5 q6
      have e1:wrtL l n b ⟨2,ui,0,body⟩=l:=by simp only [wrtL,if_neg h1]
      have e2:wrtN l n b ⟨2,ui,0,body⟩=n:=by simp only [wrtN,if_neg h1]
      have e3:wrtB l n b ⟨2,ui,0,body⟩=b:=by simp only [wrtB,if_neg h1]
      rw [e1,e2,e3]
      clear e1 e2 e3 hs2 hnn hbb
      generalize wrtC l n b ⟨2,ui,0,body⟩=c2 at *
      simp only [nrmA,nrmB,nrlB,reduceCtorEq,HO.pack.injEq,HO.obj.injEq,decide_true,decide_false,Bool.true_eq_false,Bool.false_eq_true,forall_const,false_implies,true_implies,not_true_eq_false,not_false_eq_true,h1]
      (repeat' (first|refine And.intro ?_ ?_|intro _))<;>first|omega|exact True.intro|exact False.elim ‹False›|skip
      all_goals first
        |with_reducible rfl
        |with_reducible assumption
        |omega
        |exact hs
        |exact hf.1
        |(exact(hf.2 _ ‹_›).1)
        |(exact(hf.2 _ ‹_›).2)
        |exact⟨hf,by decide⟩
        |exact⟨⟨hf,by decide⟩,by assumption⟩
        |(simp only [List.length_cons,List.length_nil];omega)
        |(exfalso;simp_all;done)
  have key10: ∀ (nv:Int),nv=(ub.length:Int)→(if XQ f xM=false then(⟨400,[],⟨l,n,b,s⟩⟩:TA)
    else if 0≤yw f xM∧0≤uz∧yw f xM≠uz then(⟨400,[],⟨l,n,b,s⟩⟩:TA)
    else if 0≤yw f xM∧uz<0∧(2000<yw f xM∨yw f xM<nv+(body.length:Int)) then(⟨413,[],⟨l,n,b,s⟩⟩:TA)
    else if U0 b ((body.length:Int)+60)=false then(⟨507,[],⟨l,n,b,s⟩⟩:TA)
    else(if(if apG l ui nv then 17 else wrtC l n b (apE ui body))≠0 then(⟨WI (if apG l ui nv then 17 else wrtC l n b (apE ui body)),[],⟨l,n,b,s⟩⟩:TA)
    else if 0≤(yw f xM)∧uz<0 then
      if wrtC (wrtL l n b (apE ui body)) (wrtN l n b (apE ui body)) (wrtB l n b (apE ui body)) ⟨3,ui,(yw f xM),[]⟩≠0 then(⟨WI (wrtC (wrtL l n b (apE ui body)) (wrtN l n b (apE ui body)) (wrtB l n b (apE ui body)) ⟨3,ui,(yw f xM),[]⟩),[],⟨wrtL l n b (apE ui body),wrtN l n b (apE ui body),wrtB l n b (apE ui body),s⟩⟩:TA)
      else(⟨204,[⟨zaj,decS (nv+(body.length:Int))⟩],⟨wrtL (wrtL l n b (apE ui body)) (wrtN l n b (apE ui body)) (wrtB l n b (apE ui body)) ⟨3,ui,(yw f xM),[]⟩,wrtN (wrtL l n b (apE ui body)) (wrtN l n b (apE ui body)) (wrtB l n b (apE ui body)) ⟨3,ui,(yw f xM),[]⟩,wrtB (wrtL l n b (apE ui body)) (wrtN l n b (apE ui body)) (wrtB l n b (apE ui body)) ⟨3,ui,(yw f xM),[]⟩,((wrtB (wrtL l n b (apE ui body)) (wrtN l n b (apE ui body)) (wrtB l n b (apE ui body)) ⟨3,ui,(yw f xM),[]⟩).length:Int)⟩⟩:TA)
    else(⟨204,[⟨zaj,decS (nv+(body.length:Int))⟩],⟨wrtL l n b (apE ui body),wrtN l n b (apE ui body),wrtB l n b (apE ui body),((wrtB l n b (apE ui body)).length:Int)⟩⟩:TA)))=⟨st,fs,⟨l',n',b',s'⟩⟩→Ok Tryz.prog X (fun o h=>o=AOut.pan (C.ifc 141 true [P.int IntKind.i64 st,P.list U.fld fs,P.list U.byte []])∧h=[HO.obj 146 [C.ptr 1 0,C.p (P.str m),C.p (P.str t),C.p (P.int IntKind.i64 mi),C.p (P.list U.fld f),C.p (P.int IntKind.i64 le)],HO.pack [HO.obj 41 [C.ptr 1 0,C.ptr 2 0],HO.pack [HO.obj 88 [C.row 1,C.p (P.int IntKind.i64 n')],HO.row U.upl 86 l'],HO.pack [HO.obj 118 [C.row 1,C.p (P.int IntKind.i64 s')],HO.row U.byte 5 b']]]) (go I tab { cfgT with seam:=[5,10,17],keep:=some [0,1,2,4,6,8,9,10,11]} [vI,vH,xw,xu,xq,xk,zO,zN,xg,y9,zT,zS,yH,yG,wP,wO,wM,wL,sU,sS,vY,vX] [⟨uI Tryz.f101,finK I tab { cfgT with seam:=[5,10,17],keep:=some [0,1,2,4,6,8,9,10,11]} 2 Tryz.f101⟩] 0 [1,1,1,1,1,1,0] ⟨[(0,.v (.one (.ptr 0 0))),(1,.v (.agg [(.p (.int .i64 ui)),(.p (.int .i64 uz)),(.p (.str uo)),(.p (.list .byte ub)),(.p (.int .i64 us))])),(2,.v (.one (.p (.list .byte body)))),(4,.v (.one (.ptr 2 0))),(10,.v (.one (.p (.int .i64 nv))))],[.obj 146 [(.ptr 1 0),(.p (.str m)),(.p (.str t)),(.p (.int .i64 mi)),(.p (.list .fld f)),(.p (.int .i64 le))],.pack [.obj 41 [(.ptr 1 0),(.ptr 2 0)],.pack [.obj 88 [(.row 1),(.p (.int .i64 n))],.row .upl 86 l],.pack [.obj 118 [(.row 1),(.p (.int .i64 s))],.row .byte 5 b]],.pack [.obj 86 [(.p (.int .i64 ui)),(.p (.int .i64 uz)),(.p (.str uo)),(.p (.list .byte ub)),(.p (.int .i64 us))]]],131,none⟩):=by
    intro nv hnv hr
    refine orcL ?_;go_invoke;refine orcS (by kernel_rfl) ?_
    simp only [zi,Nat.reduceAdd]
    clear hcm hol hs2 hnn hbb
    subst hI
    unfold xM at *
    simp only [nrmA,nrmB,nrlB,reduceCtorEq,HO.pack.injEq,HO.obj.injEq]
    generalize yw f [117,112,108,111,97,100,45,108,101,110,103,116,104]=sz at *
    by_cases hd1:XQ f [117,112,108,111,97,100,45,108,101,110,103,116,104]=false
    · rw [if_pos hd1] at hr
      simp only [TA.mk.injEq,Sto.mk.injEq] at hr
      obtain⟨q1,q2,q3,q4,q5,q6⟩:=hr
      subst q1 q2 q3 q4 q5 q6
      simp only [nrmA,nrmB,nrlB,reduceCtorEq,HO.pack.injEq,HO.obj.injEq,decide_true,decide_false,Bool.true_eq_false,Bool.false_eq_true,forall_const,false_implies,true_implies,not_true_eq_false,not_false_eq_true,hd1]
      (repeat' (first|refine And.intro ?_ ?_|intro _))<;>first|omega|exact True.intro|exact False.elim ‹False›|skip
      all_goals first
        |with_reducible rfl
        |with_reducible assumption
        |omega
        |exact hs
        |exact hf.1
        |(exact(hf.2 _ ‹_›).1)
        |(exact(hf.2 _ ‹_›).2)
        |exact⟨hf,by decide⟩
        |exact⟨⟨hf,by decide⟩,by assumption⟩
        |(simp only [List.length_cons,List.length_nil];omega)
        |(exfalso;simp_all;done)
    rw [if_neg hd1] at hr
    try simp only [Bool.not_eq_false] at hd1
    simp only [nrmA,nrmB,nrlB,reduceCtorEq,HO.pack.injEq,HO.obj.injEq,decide_true,decide_false,Bool.true_eq_false,Bool.false_eq_true,forall_const,false_implies,true_implies,not_true_eq_false,not_false_eq_true,hd1]
    by_cases hd2:0≤sz∧0≤uz∧sz≠uz
    · rw [if_pos hd2] at hr
      simp only [TA.mk.injEq,Sto.mk.injEq] at hr
      obtain⟨q1,q2,q3,q4,q5,q6⟩:=hr
      subst q1 q2 q3 q4 q5 q6
      (repeat' (first|refine And.intro ?_ ?_|intro _))<;>first|omega|exact True.intro|exact False.elim ‹False›|skip
      all_goals first
        |with_reducible rfl
        |with_reducible assumption
        |omega
        |exact hs
        |exact hf.1
        |(exact(hf.2 _ ‹_›).1)
        |(exact(hf.2 _ ‹_›).2)
        |exact⟨hf,by decide⟩
        |exact⟨⟨hf,by decide⟩,by assumption⟩
        |(simp only [List.length_cons,List.length_nil];omega)
        |(exfalso;simp_all;done)
    rw [if_neg hd2] at hr
    by_cases hd3:0≤sz∧uz<0∧(2000<sz∨sz<nv+(body.length:Int))
    · rw [if_pos hd3] at hr
      simp only [TA.mk.injEq,Sto.mk.injEq] at hr
      obtain⟨q1,q2,q3,q4,q5,q6⟩:=hr
      subst q1 q2 q3 q4 q5 q6
      (repeat' (first|refine And.intro ?_ ?_|intro _))<;>first|omega|exact True.intro|exact False.elim ‹False›|skip
      all_goals first
        |with_reducible rfl
        |with_reducible assumption
        |omega
        |exact hs
        |exact hf.1
        |(exact(hf.2 _ ‹_›).1)
        |(exact(hf.2 _ ‹_›).2)
        |exact⟨hf,by decide⟩
        |exact⟨⟨hf,by decide⟩,by assumption⟩
        |(simp only [List.length_cons,List.length_nil];omega)
        |(exfalso;simp_all;done)
    rw [if_neg hd3] at hr
    by_cases hd4:U0 b ((body.length:Int)+60)=false
    · rw [if_pos hd4] at hr
      simp only [TA.mk.injEq,Sto.mk.injEq] at hr
      obtain⟨q1,q2,q3,q4,q5,q6⟩:=hr
      subst q1 q2 q3 q4 q5 q6
      simp only [nrmA,nrmB,nrlB,reduceCtorEq,HO.pack.injEq,HO.obj.injEq,decide_true,decide_false,Bool.true_eq_false,Bool.false_eq_true,forall_const,false_implies,true_implies,not_true_eq_false,not_false_eq_true,hd4]
      (repeat' (first|refine And.intro ?_ ?_|intro _))<;>first|omega|exact True.intro|exact False.elim ‹False›|skip
      all_goals first
        |with_reducible rfl
        |with_reducible assumption
        |omega
        |exact hs
        |exact hf.1
        |(exact(hf.2 _ ‹_›).1)
        |(exact(hf.2 _ ‹_›).2)
        |exact⟨hf,by decide⟩
        |exact⟨⟨hf,by decide⟩,by assumption⟩
        |(simp only [List.length_cons,List.length_nil];omega)
        |(exfalso;simp_all;done)
    rw [if_neg hd4] at hr
    try simp only [Bool.not_eq_false] at hd4
    simp only [nrmA,nrmB,nrlB,reduceCtorEq,HO.pack.injEq,HO.obj.injEq,decide_true,decide_false,Bool.true_eq_false,Bool.false_eq_true,forall_const,false_implies,true_implies,not_true_eq_false,not_false_eq_true,hd4]
    (repeat' (first|refine And.intro ?_ ?_|intro _))<;>first|omega|exact True.intro|exact False.elim ‹False›|skip
    all_goals first
      |(with_reducible show Ok _ _ _ _;(try(exfalso;omega));exact seam rfl zh mixed [vI,vH,xw,xu,xq,xk,zO,zN,xg,y9,zT,zS,yH,yG,wP,wO,wM,wL,sU,sS,vY,vX] hX [0,1,2,4,10,11] ⟨[(0,.v (.one (.ptr 0 0))),(1,.v (.agg [(.p (.int .i64 ui)),(.p (.int .i64 uz)),(.p (.str uo)),(.p (.list .byte ub)),(.p (.int .i64 us))])),(2,.v (.one (.p (.list .byte body)))),(4,.v (.one (.ptr 2 0))),(10,.v (.one (.p (.int .i64 nv)))),(11,.v (.one (.p (.int .i64 sz))))],[.obj 146 [(.ptr 1 0),(.p (.str m)),(.p (.str t)),(.p (.int .i64 mi)),(.p (.list .fld f)),(.p (.int .i64 le))],.pack [.obj 41 [(.ptr 1 0),(.ptr 2 0)],.pack [.obj 88 [(.row 1),(.p (.int .i64 n))],.row .upl 86 l],.pack [.obj 118 [(.row 1),(.p (.int .i64 s))],.row .byte 5 b]],.pack [.obj 86 [(.p (.int .i64 ui)),(.p (.int .i64 uz)),(.p (.str uo)),(.p (.list .byte ub)),(.p (.int .i64 us))]]],131,none⟩ (by kernel_rfl) (key17 nv sz hnv hr))
      |with_reducible rfl
      |with_reducible assumption
      |omega
      |exact hs
      |exact hf.1
      |(exact(hf.2 _ ‹_›).1)
      |(exact(hf.2 _ ‹_›).2)
      |exact⟨hf,by decide⟩
      |exact⟨⟨hf,by decide⟩,by assumption⟩
      |(simp only [List.length_cons,List.length_nil];omega)
      |(exfalso;simp_all;done)
  have key5: ∀ (_u:Unit),(if XQ f Yl=false then(⟨400,[],⟨l,n,b,s⟩⟩:TA)
    else if yw f Yl<0 then(⟨400,[],⟨l,n,b,s⟩⟩:TA)
    else if yw f Yl≠(ub.length:Int) then(⟨409,[],⟨l,n,b,s⟩⟩:TA)
    else(if XQ f xM=false then(⟨400,[],⟨l,n,b,s⟩⟩:TA)
    else if 0≤yw f xM∧0≤uz∧yw f xM≠uz then(⟨400,[],⟨l,n,b,s⟩⟩:TA)
    else if 0≤yw f xM∧uz<0∧(2000<yw f xM∨yw f xM<(yw f Yl)+(body.length:Int)) then(⟨413,[],⟨l,n,b,s⟩⟩:TA)
    else if U0 b ((body.length:Int)+60)=false then(⟨507,[],⟨l,n,b,s⟩⟩:TA)
    else(if(if apG l ui (yw f Yl) then 17 else wrtC l n b (apE ui body))≠0 then(⟨WI (if apG l ui (yw f Yl) then 17 else wrtC l n b (apE ui body)),[],⟨l,n,b,s⟩⟩:TA)
    else if 0≤(yw f xM)∧uz<0 then
      if wrtC (wrtL l n b (apE ui body)) (wrtN l n b (apE ui body)) (wrtB l n b (apE ui body)) ⟨3,ui,(yw f xM),[]⟩≠0 then(⟨WI (wrtC (wrtL l n b (apE ui body)) (wrtN l n b (apE ui body)) (wrtB l n b (apE ui body)) ⟨3,ui,(yw f xM),[]⟩),[],⟨wrtL l n b (apE ui body),wrtN l n b (apE ui body),wrtB l n b (apE ui body),s⟩⟩:TA)
      else(⟨204,[⟨zaj,decS ((yw f Yl)+(body.length:Int))⟩],⟨wrtL (wrtL l n b (apE ui body)) (wrtN l n b (apE ui body)) (wrtB l n b (apE ui body)) ⟨3,ui,(yw f xM),[]⟩,wrtN (wrtL l n b (apE ui body)) (wrtN l n b (apE ui body)) (wrtB l n b (apE ui body)) ⟨3,ui,(yw f xM),[]⟩,wrtB (wrtL l n b (apE ui body)) (wrtN l n b (apE ui body)) (wrtB l n b (apE ui body)) ⟨3,ui,(yw f xM),[]⟩,((wrtB (wrtL l n b (apE ui body)) (wrtN l n b (apE ui body)) (wrtB l n b (apE ui body)) ⟨3,ui,(yw f xM),[]⟩).length:Int)⟩⟩:TA)
    else(⟨204,[⟨zaj,decS ((yw f Yl)+(body.length:Int))⟩],⟨wrtL l n b (apE ui body),wrtN l n b (apE ui body),wrtB l n b (apE ui body),((wrtB l n b (apE ui body)).length:Int)⟩⟩:TA))))=⟨st,fs,⟨l',n',b',s'⟩⟩→Ok Tryz.prog X (fun o h=>o=AOut.pan (C.ifc 141 true [P.int IntKind.i64 st,P.list U.fld fs,P.list U.byte []])∧h=[HO.obj 146 [C.ptr 1 0,C.p (P.str m),C.p (P.str t),C.p (P.int IntKind.i64 mi),C.p (P.list U.fld f),C.p (P.int IntKind.i64 le)],HO.pack [HO.obj 41 [C.ptr 1 0,C.ptr 2 0],HO.pack [HO.obj 88 [C.row 1,C.p (P.int IntKind.i64 n')],HO.row U.upl 86 l'],HO.pack [HO.obj 118 [C.row 1,C.p (P.int IntKind.i64 s')],HO.row U.byte 5 b']]]) (go I tab { cfgT with seam:=[5,10,17],keep:=some [0,1,2,4,6,8,9,10,11]} [vI,vH,xw,xu,xq,xk,zO,zN,xg,y9,zT,zS,yH,yG,wP,wO,wM,wL,sU,sS,vY,vX] [⟨uI Tryz.f101,finK I tab { cfgT with seam:=[5,10,17],keep:=some [0,1,2,4,6,8,9,10,11]} 2 Tryz.f101⟩] 0 [1,1,1,1,0] ⟨[(0,.v (.one (.ptr 0 0))),(1,.v (.agg [(.p (.int .i64 ui)),(.p (.int .i64 uz)),(.p (.str uo)),(.p (.list .byte ub)),(.p (.int .i64 us))])),(2,.v (.one (.p (.list .byte body)))),(4,.v (.one (.ptr 2 0)))],[.obj 146 [(.ptr 1 0),(.p (.str m)),(.p (.str t)),(.p (.int .i64 mi)),(.p (.list .fld f)),(.p (.int .i64 le))],.pack [.obj 41 [(.ptr 1 0),(.ptr 2 0)],.pack [.obj 88 [(.row 1),(.p (.int .i64 n))],.row .upl 86 l],.pack [.obj 118 [(.row 1),(.p (.int .i64 s))],.row .byte 5 b]],.pack [.obj 86 [(.p (.int .i64 ui)),(.p (.int .i64 uz)),(.p (.str uo)),(.p (.list .byte ub)),(.p (.int .i64 us))]]],131,none⟩):=by
    intro _ hr
    refine orcL ?_;go_invoke;refine orcS (by kernel_rfl) ?_
    simp only [zi,Nat.reduceAdd]
    clear hcm hol hs2 hnn hbb key17
    subst hI
    unfold Yl at *
    simp only [nrmA,nrmB,nrlB,reduceCtorEq,HO.pack.injEq,HO.obj.injEq]
    generalize yw f [117,112,108,111,97,100,45,111,102,102,115,101,116]=nv at *
    by_cases hd5:XQ f [117,112,108,111,97,100,45,111,102,102,115,101,116]=false
    · rw [if_pos hd5] at hr
      simp only [TA.mk.injEq,Sto.mk.injEq] at hr
      obtain⟨q1,q2,q3,q4,q5,q6⟩:=hr
      subst q1 q2 q3 q4 q5 q6
      simp only [nrmA,nrmB,nrlB,reduceCtorEq,HO.pack.injEq,HO.obj.injEq,decide_true,decide_false,Bool.true_eq_false,Bool.false_eq_true,forall_const,false_implies,true_implies,not_true_eq_false,not_false_eq_true,hd5]
      (repeat' (first|refine And.intro ?_ ?_|intro _))<;>first|omega|exact True.intro|exact False.elim ‹False›|skip
      all_goals first
        |with_reducible rfl
        |with_reducible assumption
        |omega
        |exact hs
        |exact hf.1
        |(exact(hf.2 _ ‹_›).1)
        |(exact(hf.2 _ ‹_›).2)
        |exact⟨hf,by decide⟩
        |exact⟨⟨hf,by decide⟩,by assumption⟩
        |(simp only [List.length_cons,List.length_nil];omega)
        |(exfalso;simp_all;done)
    rw [if_neg hd5] at hr
    try simp only [Bool.not_eq_false] at hd5
    simp only [nrmA,nrmB,nrlB,reduceCtorEq,HO.pack.injEq,HO.obj.injEq,decide_true,decide_false,Bool.true_eq_false,Bool.false_eq_true,forall_const,false_implies,true_implies,not_true_eq_false,not_false_eq_true,hd5]
    by_cases hd6:nv<0
    · rw [if_pos hd6] at hr
      simp only [TA.mk.injEq,Sto.mk.injEq] at hr
      obtain⟨q1,q2,q3,q4,q5,q6⟩:=hr
      subst q1 q2 q3 q4 q5 q6
      (repeat' (first|refine And.intro ?_ ?_|intro _))<;>first|omega|exact True.intro|exact False.elim ‹False›|skip
      all_goals first
        |with_reducible rfl
        |with_reducible assumption
        |omega
        |exact hs
        |exact hf.1
        |(exact(hf.2 _ ‹_›).1)
        |(exact(hf.2 _ ‹_›).2)
        |exact⟨hf,by decide⟩
        |exact⟨⟨hf,by decide⟩,by assumption⟩
        |(simp only [List.length_cons,List.length_nil];omega)
        |(exfalso;simp_all;done)
    rw [if_neg hd6] at hr
    by_cases hd7:nv≠(ub.length:Int)
    · rw [if_pos hd7] at hr
      simp only [TA.mk.injEq,Sto.mk.injEq] at hr
      obtain⟨q1,q2,q3,q4,q5,q6⟩:=hr
      subst q1 q2 q3 q4 q5 q6
      (repeat' (first|refine And.intro ?_ ?_|intro _))<;>first|omega|exact True.intro|exact False.elim ‹False›|skip
      all_goals first
        |with_reducible rfl
        |with_reducible assumption
        |omega
        |exact hs
        |exact hf.1
        |(exact(hf.2 _ ‹_›).1)
        |(exact(hf.2 _ ‹_›).2)
        |exact⟨hf,by decide⟩
        |exact⟨⟨hf,by decide⟩,by assumption⟩
        |(simp only [List.length_cons,List.length_nil];omega)
        |(exfalso;simp_all;done)
    rw [if_neg hd7] at hr
    (repeat' (first|refine And.intro ?_ ?_|intro _))<;>first|omega|exact True.intro|exact False.elim ‹False›|skip
    all_goals first
      |(with_reducible show Ok _ _ _ _;(try(exfalso;omega));exact seam rfl zh mixed [vI,vH,xw,xu,xq,xk,zO,zN,xg,y9,zT,zS,yH,yG,wP,wO,wM,wL,sU,sS,vY,vX] hX [0,1,2,4,10] ⟨[(0,.v (.one (.ptr 0 0))),(1,.v (.agg [(.p (.int .i64 ui)),(.p (.int .i64 uz)),(.p (.str uo)),(.p (.list .byte ub)),(.p (.int .i64 us))])),(2,.v (.one (.p (.list .byte body)))),(4,.v (.one (.ptr 2 0))),(10,.v (.one (.p (.int .i64 nv))))],[.obj 146 [(.ptr 1 0),(.p (.str m)),(.p (.str t)),(.p (.int .i64 mi)),(.p (.list .fld f)),(.p (.int .i64 le))],.pack [.obj 41 [(.ptr 1 0),(.ptr 2 0)],.pack [.obj 88 [(.row 1),(.p (.int .i64 n))],.row .upl 86 l],.pack [.obj 118 [(.row 1),(.p (.int .i64 s))],.row .byte 5 b]],.pack [.obj 86 [(.p (.int .i64 ui)),(.p (.int .i64 uz)),(.p (.str uo)),(.p (.list .byte ub)),(.p (.int .i64 us))]]],131,none⟩ (by kernel_rfl) (key10 nv (by omega) hr))
      |with_reducible rfl
      |with_reducible assumption
      |omega
      |exact hs
      |exact hf.1
      |(exact(hf.2 _ ‹_›).1)
      |(exact(hf.2 _ ‹_›).2)
      |exact⟨hf,by decide⟩
      |exact⟨⟨hf,by decide⟩,by assumption⟩
      |(simp only [List.length_cons,List.length_nil];omega)
      |(exfalso;simp_all;done)
  clear hs2 hnn hbb key17 key10
  subst hI
  rw [show([99,111,110,116,101,110,116,45,116,121,112,101]:Str)=ZW from rfl]
  rw [show([97,112,112,108,105,99,97,116,105,111,110,47,111,102,102,115,101,116,43,111,99,116,101,116,45,115,116,114,101,97,109]:Str)=octS from rfl]
  simp only [nrmA,nrmB,nrlB,reduceCtorEq,HO.pack.injEq,HO.obj.injEq]
  have hcl:ZW.length≤1000000:=by decide
  generalize oneT f ZW=oc at *
  obtain⟨ov,oc⟩:=oc
  try simp only at *
  generalize xN ov=pm at *
  obtain⟨⟨pw,pp⟩,pc⟩:=pm
  try simp only at *
  by_cases hd8:oc=9
  · rw [if_pos hd8] at hr
    simp only [TA.mk.injEq,Sto.mk.injEq] at hr
    obtain⟨q1,q2,q3,q4,q5,q6⟩:=hr
    subst q1 q2 q3 q4 q5 q6
    simp only [nrmA,nrmB,nrlB,reduceCtorEq,HO.pack.injEq,HO.obj.injEq,decide_true,decide_false,Bool.true_eq_false,Bool.false_eq_true,forall_const,false_implies,true_implies,not_true_eq_false,not_false_eq_true,hd8]
    (repeat' (first|refine And.intro ?_ ?_|intro _))<;>first|omega|exact True.intro|exact False.elim ‹False›|skip
    all_goals first
      |with_reducible rfl
      |with_reducible assumption
      |omega
      |exact hs
      |exact hf.1
      |(exact(hf.2 _ ‹_›).1)
      |(exact(hf.2 _ ‹_›).2)
      |exact⟨hf,by decide⟩
      |exact⟨⟨hf,by decide⟩,by assumption⟩
      |(simp only [List.length_cons,List.length_nil];omega)
      |(exfalso;simp_all;done)
  rw [if_neg hd8] at hr
  try simp only [Bool.not_eq_false] at hd8
  simp only [nrmA,nrmB,nrlB,reduceCtorEq,HO.pack.injEq,HO.obj.injEq,decide_true,decide_false,Bool.true_eq_false,Bool.false_eq_true,forall_const,false_implies,true_implies,not_true_eq_false,not_false_eq_true,hd8]
  by_cases hd9:pc≠0∨pw≠octS
  · rw [if_pos hd9] at hr
    simp only [TA.mk.injEq,Sto.mk.injEq] at hr
    obtain⟨q1,q2,q3,q4,q5,q6⟩:=hr
    subst q1 q2 q3 q4 q5 q6
    (repeat' (first|refine And.intro ?_ ?_|intro _))<;>first|omega|exact True.intro|exact False.elim ‹False›|skip
    all_goals first
      |with_reducible rfl
      |with_reducible assumption
      |omega
      |exact hs
      |exact hf.1
      |(exact(hf.2 _ ‹_›).1)
      |(exact(hf.2 _ ‹_›).2)
      |exact⟨hf,by decide⟩
      |exact⟨⟨hf,by decide⟩,by assumption⟩
      |(simp only [List.length_cons,List.length_nil];omega)
      |(exfalso;simp_all;done)
  rw [if_neg hd9] at hr
  simp only [not_or,ne_eq,Decidable.not_not] at hd9
  obtain⟨g1,g2⟩:=hd9
  clear hcm
  subst g1 g2
  simp only [nrmA,nrmB,nrlB,reduceCtorEq,HO.pack.injEq,HO.obj.injEq,not_true_eq_false,false_implies,true_and,and_true]
  (repeat' (first|refine And.intro ?_ ?_|intro _))<;>first|omega|exact True.intro|exact False.elim ‹False›|skip
  all_goals first
    |(with_reducible show Ok _ _ _ _;(try(exfalso;omega));exact seam rfl zh mixed [vI,vH,xw,xu,xq,xk,zO,zN,xg,y9,zT,zS,yH,yG,wP,wO,wM,wL,sU,sS,vY,vX] hX [0,1,2,4] ⟨[(0,.v (.one (.ptr 0 0))),(1,.v (.agg [(.p (.int .i64 ui)),(.p (.int .i64 uz)),(.p (.str uo)),(.p (.list .byte ub)),(.p (.int .i64 us))])),(2,.v (.one (.p (.list .byte body)))),(4,.v (.one (.ptr 2 0)))],[.obj 146 [(.ptr 1 0),(.p (.str m)),(.p (.str t)),(.p (.int .i64 mi)),(.p (.list .fld f)),(.p (.int .i64 le))],.pack [.obj 41 [(.ptr 1 0),(.ptr 2 0)],.pack [.obj 88 [(.row 1),(.p (.int .i64 n))],.row .upl 86 l],.pack [.obj 118 [(.row 1),(.p (.int .i64 s))],.row .byte 5 b]],.pack [.obj 86 [(.p (.int .i64 ui)),(.p (.int .i64 uz)),(.p (.str uo)),(.p (.list .byte ub)),(.p (.int .i64 us))]]],131,none⟩ (by kernel_rfl) (key5 () hr))
    |with_reducible rfl
    |with_reducible assumption
    |omega
    |exact hs
    |exact hf.1
    |(exact(hf.2 _ ‹_›).1)
    |(exact(hf.2 _ ‹_›).2)
    |exact⟨hf,by decide⟩
    |exact⟨⟨hf,by decide⟩,by assumption⟩
    |(simp only [List.length_cons,List.length_nil];omega)
    |(exfalso;simp_all;done)
    |skip
  exact seam rfl zh mixed [vI,vH,xw,xu,xq,xk,zO,zN,xg,y9,zT,zS,yH,yG,wP,wO,wM,wL,sU,sS,vY,vX] hX [0,1,2,4] ⟨[(0,.v (.one (.ptr 0 0))),(1,.v (.agg [(.p (.int .i64 ui)),(.p (.int .i64 uz)),(.p (.str uo)),(.p (.list .byte ub)),(.p (.int .i64 us))])),(2,.v (.one (.p (.list .byte body)))),(4,.v (.one (.ptr 2 0)))],[.obj 146 [(.ptr 1 0),(.p (.str m)),(.p (.str t)),(.p (.int .i64 mi)),(.p (.list .fld f)),(.p (.int .i64 le))],.pack [.obj 41 [(.ptr 1 0),(.ptr 2 0)],.pack [.obj 88 [(.row 1),(.p (.int .i64 n))],.row .upl 86 l],.pack [.obj 118 [(.row 1),(.p (.int .i64 s))],.row .byte 5 b]],.pack [.obj 86 [(.p (.int .i64 ui)),(.p (.int .i64 uz)),(.p (.str uo)),(.p (.list .byte ub)),(.p (.int .i64 us))]]],131,none⟩ (by kernel_rfl) (key5 () hr)
def WB (I:Alg) (args:List D) (hp:List HO):Option CT:=match args,hp with
  |[.v (.one (.ptr 0 0)),.v (.agg [(.p (.int .i64 ui)),(.p (.int .i64 uz)),(.p (.str uo)),(.p (.list .byte ub)),(.p (.int .i64 us))]),.v (.one (.p (.list .byte body)))],[.obj 146 [(.ptr 1 0),(.p (.str m)),(.p (.str t)),(.p (.int .i64 mi)),(.p (.list .fld f)),(.p (.int .i64 le))],.pack [.obj 41 [(.ptr 1 0),(.ptr 2 0)],.pack [.obj 88 [(.row 1),(.p (.int .i64 n))],.row .upl 86 l],.pack [.obj 118 [(.row 1),(.p (.int .i64 s))],.row .byte 5 b]]]=>(fun(m t:Str) (mi:Int) (f:List Fld) (le:Int) (l:List Upl) (n:Int) (b:Str) (s:Int) (ui uz:Int) (uo ub:Str) (us:Int) (body:Str)=>(some (.one ⟨I.hid (FOk f∧zF l n∧n≤200000∧b.length≤100000∧body.length≤100000∧ub.length≤1000000∧uz≤1000000),(.pan (.ifc 141 true [(.int .i64 (I.hid ((wZ ⟨l,n,b,s⟩ ⟨ui,uz,uo,ub,us⟩ f body).st))),(.list .fld (I.hid ((wZ ⟨l,n,b,s⟩ ⟨ui,uz,uo,ub,us⟩ f body).fs))),(.list .byte (I.hid ([])))])),[.obj 146 [(.ptr 1 0),(.p (.str m)),(.p (.str t)),(.p (.int .i64 mi)),(.p (.list .fld f)),(.p (.int .i64 le))],.pack [.obj 41 [(.ptr 1 0),(.ptr 2 0)],.pack [.obj 88 [(.row 1),(.p (.int .i64 (I.hid ((wZ ⟨l,n,b,s⟩ ⟨ui,uz,uo,ub,us⟩ f body).q.n))))],.row .upl 86 (I.hid ((wZ ⟨l,n,b,s⟩ ⟨ui,uz,uo,ub,us⟩ f body).q.l))],.pack [.obj 118 [(.row 1),(.p (.int .i64 (I.hid ((wZ ⟨l,n,b,s⟩ ⟨ui,uz,uo,ub,us⟩ f body).q.s))))],.row .byte 5 (I.hid ((wZ ⟨l,n,b,s⟩ ⟨ui,uz,uo,ub,us⟩ f body).q.b))]]]⟩):Option CT)) m t mi f le l n b s ui uz uo ub us body
  |_,_=>none
theorem zeF:zx Tryz.prog 101 (WB alg):=by
  intro args hp r h
  unfold WB at h
  split at h
  · cases h;exact fun hn=>zsB _ _ _ _ _ _ _ _ _ _ _ _ _ _ _ hn
  · cases h
def Yo:Know Tryz.prog:=⟨101,WB,zeF⟩
def Yn:Know Tryz.prog:=⟨101,fun I=>zy I (WB I),zf zeF⟩
end Go.Proofs.YtmkcejdibmilmaaGreatDoor
namespace Go.Proofs.YtmkcejdibmilmaaGreatDoor
open Go Go.Sep Go.Ab
set_option maxRecDepth 100000
theorem zlf {l:List Upl} {n:Int} (h:zF l n) (id:Int):(getU l id).bytes.length≤2000∧(getU l id).size≤2000:=by
  unfold getU
  split
  · rename_i hi
    rw [vw hi]
    have:=h.each _ (List.getElem_mem hi)
    exact⟨this.bl,this.s2⟩
  · decide
set_option maxHeartbeats 8000000 in
theorem zsA (m t:Str) (mi:Int) (f:List Fld) (le:Int) (l:List Upl) (n:Int) (b:Str) (s:Int) (body:Str) (hneed:FOk f∧zF l n∧n≤200000∧b.length≤100000∧body.length≤100000):Spc Tryz.prog 67 [.v (.one (.ptr 0 0)),.v (.one (.p (.list .byte body)))] [.obj 146 [(.ptr 1 0),(.p (.str m)),(.p (.str t)),(.p (.int .i64 mi)),(.p (.list .fld f)),(.p (.int .i64 le))],.pack [.obj 41 [(.ptr 1 0),(.ptr 2 0)],.pack [.obj 88 [(.row 1),(.p (.int .i64 n))],.row .upl 86 l],.pack [.obj 118 [(.row 1),(.p (.int .i64 s))],.row .byte 5 b]]] (.pan (.ifc 141 true [(.int .i64 ((zQ ⟨l,n,b,s⟩ m t f body).st)),(.list .fld ((zQ ⟨l,n,b,s⟩ m t f body).fs)),(.list .byte ([]))])) [.obj 146 [(.ptr 1 0),(.p (.str m)),(.p (.str t)),(.p (.int .i64 mi)),(.p (.list .fld f)),(.p (.int .i64 le))],.pack [.obj 41 [(.ptr 1 0),(.ptr 2 0)],.pack [.obj 88 [(.row 1),(.p (.int .i64 ((zQ ⟨l,n,b,s⟩ m t f body).q.n)))],.row .upl 86 ((zQ ⟨l,n,b,s⟩ m t f body).q.l)],.pack [.obj 118 [(.row 1),(.p (.int .i64 ((zQ ⟨l,n,b,s⟩ m t f body).q.s)))],.row .byte 5 ((zQ ⟨l,n,b,s⟩ m t f body).q.b)]]]:=by
  obtain⟨hf,hs,hn,hb,hbl⟩:=hneed
  have hn0:=hs.n0
  have hus:=zlf hs (idV t)
  generalize hr:zQ ⟨l,n,b,s⟩ m t f body=r
  obtain⟨st,fs,⟨l',n',b',s'⟩⟩:=r
  unfold zQ at hr
  try simp only at hr
  refine spcG zh mixed Tryz.func67 (by kernel_rfl) { cfgT with seam:=[3,10],keep:=some [0,1,4,5,7,55]} [wJ,wI,zO,zN,zT,zS,yH,yG,wP,wO,wM,wL,vY,vX,Zf,Ze,zaq,zao,Wy,Wx,Yo,Yn] (by kernel_rfl) ?_
  intro I X hI hX
  refine orcL ?_;go_invoke;refine orcS (by kernel_rfl) ?_
  simp only [zi,Nat.reduceAdd]
  have key10: ∀ (_u:Unit),(if uplB ⟨l,n,b,s⟩ t=false then(⟨404,[],⟨l,n,b,s⟩⟩:TA)
    else if m=zqP then(⟨200,zan (getU l (idV t)),⟨l,n,b,s⟩⟩:TA)
    else if m=Zm then wZ ⟨l,n,b,s⟩ (getU l (idV t)) f body
    else if m=zry then zbK ⟨l,n,b,s⟩ (getU l (idV t))
    else(⟨405,[],⟨l,n,b,s⟩⟩:TA))=⟨st,fs,⟨l',n',b',s'⟩⟩→Ok Tryz.prog X (fun o h=>o=AOut.pan (C.ifc 141 true [P.int IntKind.i64 st,P.list U.fld fs,P.list U.byte []])∧h=[HO.obj 146 [C.ptr 1 0,C.p (P.str m),C.p (P.str t),C.p (P.int IntKind.i64 mi),C.p (P.list U.fld f),C.p (P.int IntKind.i64 le)],HO.pack [HO.obj 41 [C.ptr 1 0,C.ptr 2 0],HO.pack [HO.obj 88 [C.row 1,C.p (P.int IntKind.i64 n')],HO.row U.upl 86 l'],HO.pack [HO.obj 118 [C.row 1,C.p (P.int IntKind.i64 s')],HO.row U.byte 5 b']]]) (go I tab { cfgT with seam:=[3,10],keep:=some [0,1,4,5,7,55]} [wJ,wI,zO,zN,zT,zS,yH,yG,wP,wO,wM,wL,vY,vX,Zf,Ze,zaq,zao,Wy,Wx,Yo,Yn] [⟨uI Tryz.f67,finK I tab { cfgT with seam:=[3,10],keep:=some [0,1,4,5,7,55]} 2 Tryz.f67⟩] 0 [1,1,1,1,0] ⟨[(0,.v (.one (.ptr 0 0))),(1,.v (.one (.p (.list .byte body))))],[.obj 146 [(.ptr 1 0),(.p (.str m)),(.p (.str t)),(.p (.int .i64 mi)),(.p (.list .fld f)),(.p (.int .i64 le))],.pack [.obj 41 [(.ptr 1 0),(.ptr 2 0)],.pack [.obj 88 [(.row 1),(.p (.int .i64 n))],.row .upl 86 l],.pack [.obj 118 [(.row 1),(.p (.int .i64 s))],.row .byte 5 b]]],84,none⟩):=by
    intro _ hr
    refine orcL ?_;go_invoke;refine orcS (by kernel_rfl) ?_
    simp only [zi,Nat.reduceAdd]
    subst hI
    unfold zqP Zm zry at hr
    unfold zbK wsC wsS syS at hr
    try simp only at hr
    simp only [nrmA,nrmB,nrlB,reduceCtorEq,HO.pack.injEq,HO.obj.injEq]
    generalize getU l (idV t)=u at *
    obtain⟨ui,uz,uo,ub,us⟩:=u
    try simp only at *
    by_cases hd1:uplB ⟨l,n,b,s⟩ t=false
    · rw [if_pos hd1] at hr
      simp only [TA.mk.injEq,Sto.mk.injEq] at hr
      obtain⟨q1,q2,q3,q4,q5,q6⟩:=hr
      subst q1 q2 q3 q4 q5 q6
      try simp only [nrmA,nrmB,nrlB,reduceCtorEq,HO.pack.injEq,HO.obj.injEq,decide_true,decide_false,Bool.true_eq_false,Bool.false_eq_true,forall_const,false_implies,true_implies,not_true_eq_false,not_false_eq_true,hd1]
      (repeat' (first|refine And.intro ?_ ?_|intro _))<;>first|omega|exact True.intro|exact False.elim ‹False›|skip
      all_goals first
        |with_reducible rfl
        |with_reducible assumption
        |omega
        |exact hs
        |exact hf.1
        |(exact(hf.2 _ ‹_›).1)
        |(exact(hf.2 _ ‹_›).2)
        |exact⟨hf,by decide⟩
        |exact⟨⟨hf,by decide⟩,by assumption⟩
        |(simp only [List.length_cons,List.length_nil];omega)
        |(exfalso;simp_all;done)
    rw [if_neg hd1] at hr
    try simp only [Bool.not_eq_false,ne_eq,Decidable.not_not] at hd1
    try simp only [nrmA,nrmB,nrlB,reduceCtorEq,HO.pack.injEq,HO.obj.injEq,decide_true,decide_false,Bool.true_eq_false,Bool.false_eq_true,forall_const,false_implies,true_implies,not_true_eq_false,not_false_eq_true,hd1]
    by_cases hd2:m=[72,69,65,68]
    · rw [if_pos hd2] at hr
      simp only [TA.mk.injEq,Sto.mk.injEq] at hr
      obtain⟨q1,q2,q3,q4,q5,q6⟩:=hr
      subst q1 q2 q3 q4 q5 q6
      try simp only [nrmA,nrmB,nrlB,reduceCtorEq,HO.pack.injEq,HO.obj.injEq,decide_true,decide_false,Bool.true_eq_false,Bool.false_eq_true,forall_const,false_implies,true_implies,not_true_eq_false,not_false_eq_true,hd2]
      (repeat' (first|refine And.intro ?_ ?_|intro _))<;>first|omega|exact True.intro|exact False.elim ‹False›|skip
      all_goals first
        |with_reducible rfl
        |with_reducible assumption
        |omega
        |exact hs
        |exact hf.1
        |(exact(hf.2 _ ‹_›).1)
        |(exact(hf.2 _ ‹_›).2)
        |exact⟨hf,by decide⟩
        |exact⟨⟨hf,by decide⟩,by assumption⟩
        |(simp only [List.length_cons,List.length_nil];omega)
        |(exfalso;simp_all;done)
    rw [if_neg hd2] at hr
    try simp only [Bool.not_eq_false,ne_eq,Decidable.not_not] at hd2
    try simp only [nrmA,nrmB,nrlB,reduceCtorEq,HO.pack.injEq,HO.obj.injEq,decide_true,decide_false,Bool.true_eq_false,Bool.false_eq_true,forall_const,false_implies,true_implies,not_true_eq_false,not_false_eq_true,hd2]
    by_cases hd3:m=[80,65,84,67,72]
    · rw [if_pos hd3] at hr
      simp only [nrmA,nrmB,nrlB,reduceCtorEq,HO.pack.injEq,HO.obj.injEq,decide_true,decide_false,Bool.true_eq_false,Bool.false_eq_true,forall_const,false_implies,true_implies,not_true_eq_false,not_false_eq_true,hd3,hr]
      (repeat' (first|refine And.intro ?_ ?_|intro _))<;>first|omega|exact True.intro|exact False.elim ‹False›|skip
      all_goals first
        |with_reducible rfl
        |with_reducible assumption
        |omega
        |exact hs
        |exact hf.1
        |(exact(hf.2 _ ‹_›).1)
        |(exact(hf.2 _ ‹_›).2)
        |exact⟨hf,by decide⟩
        |exact⟨⟨hf,by decide⟩,by assumption⟩
        |(simp only [List.length_cons,List.length_nil];omega)
        |(exfalso;simp_all;done)
    rw [if_neg hd3] at hr
    try simp only [Bool.not_eq_false,ne_eq,Decidable.not_not] at hd3
    try simp only [nrmA,nrmB,nrlB,reduceCtorEq,HO.pack.injEq,HO.obj.injEq,decide_true,decide_false,Bool.true_eq_false,Bool.false_eq_true,forall_const,false_implies,true_implies,not_true_eq_false,not_false_eq_true,hd3]
    by_cases hd:m=[68,69,76,69,84,69]
    · rw [if_pos hd] at hr
      by_cases h1:wrtC l n b ⟨4,ui,0,[]⟩=0
      · rw [if_neg (fun h=>h h1)] at hr
        simp only [TA.mk.injEq,Sto.mk.injEq] at hr
        obtain⟨q1,q2,q3,q4,q5,q6⟩:=hr
        subst q1 q2 q3 q4 q5 q6
        simp only [nrmA,nrmB,nrlB,reduceCtorEq,HO.pack.injEq,HO.obj.injEq,decide_true,decide_false,Bool.true_eq_false,Bool.false_eq_true,forall_const,false_implies,true_implies,not_true_eq_false,not_false_eq_true,hd,h1]
        (repeat' (first|refine And.intro ?_ ?_|intro _))<;>first|omega|exact True.intro|exact False.elim ‹False›|skip
        all_goals first
          |with_reducible rfl
          |with_reducible assumption
          |omega
          |exact hs
          |exact hf.1
          |(exact(hf.2 _ ‹_›).1)
          |(exact(hf.2 _ ‹_›).2)
          |exact⟨hf,by decide⟩
          |exact⟨⟨hf,by decide⟩,by assumption⟩
          |(simp only [List.length_cons,List.length_nil];omega)
          |(exfalso;simp_all;done)
      · rw [if_pos h1] at hr
        simp only [TA.mk.injEq,Sto.mk.injEq] at hr
        obtain⟨q1,q2,q3,q4,q5,q6⟩:=hr
        subst q1 q2 q3 q4 q5 q6
        have e1:wrtL l n b ⟨4,ui,0,[]⟩=l:=by simp only [wrtL,if_neg h1]
        have e2:wrtN l n b ⟨4,ui,0,[]⟩=n:=by simp only [wrtN,if_neg h1]
        have e3:wrtB l n b ⟨4,ui,0,[]⟩=b:=by simp only [wrtB,if_neg h1]
        try rw [e1,e2,e3]
        simp only [nrmA,nrmB,nrlB,reduceCtorEq,HO.pack.injEq,HO.obj.injEq,decide_true,decide_false,Bool.true_eq_false,Bool.false_eq_true,forall_const,false_implies,true_implies,not_true_eq_false,not_false_eq_true,hd,h1]
        (repeat' (first|refine And.intro ?_ ?_|intro _))<;>first|omega|exact True.intro|exact False.elim ‹False›|skip
        all_goals first
          |with_reducible rfl
          |with_reducible assumption
          |omega
          |exact hs
          |exact hf.1
          |(exact(hf.2 _ ‹_›).1)
          |(exact(hf.2 _ ‹_›).2)
          |exact⟨hf,by decide⟩
          |exact⟨⟨hf,by decide⟩,by assumption⟩
          |(simp only [List.length_cons,List.length_nil];omega)
          |(exfalso;simp_all;done)
    · rw [if_neg hd] at hr
      simp only [TA.mk.injEq,Sto.mk.injEq] at hr
      obtain⟨q1,q2,q3,q4,q5,q6⟩:=hr
      subst q1 q2 q3 q4 q5 q6
      simp only [nrmA,nrmB,nrlB,reduceCtorEq,HO.pack.injEq,HO.obj.injEq,decide_true,decide_false,Bool.true_eq_false,Bool.false_eq_true,forall_const,false_implies,true_implies,not_true_eq_false,not_false_eq_true,hd]
      (repeat' (first|refine And.intro ?_ ?_|intro _))<;>first|omega|exact True.intro|exact False.elim ‹False›|skip
      all_goals first
        |with_reducible rfl
        |with_reducible assumption
        |omega
        |exact hs
        |exact hf.1
        |(exact(hf.2 _ ‹_›).1)
        |(exact(hf.2 _ ‹_›).2)
        |exact⟨hf,by decide⟩
        |exact⟨⟨hf,by decide⟩,by assumption⟩
        |(simp only [List.length_cons,List.length_nil];omega)
        |(exfalso;simp_all;done)
  have key3: ∀ (q:Bool),q=decide (t=ql)→(if(oneT f zgU).2=9 then(⟨400,[],⟨l,n,b,s⟩⟩:TA)
    else if(oneT f zgU).1≠verS then(⟨412,[⟨zlV,verS⟩],⟨l,n,b,s⟩⟩:TA)
    else if t=ql then(if m≠zno then(⟨405,[],⟨l,n,b,s⟩⟩:TA) else y8 ⟨l,n,b,s⟩ f)
    else(if uplB ⟨l,n,b,s⟩ t=false then(⟨404,[],⟨l,n,b,s⟩⟩:TA)
    else if m=zqP then(⟨200,zan (getU l (idV t)),⟨l,n,b,s⟩⟩:TA)
    else if m=Zm then wZ ⟨l,n,b,s⟩ (getU l (idV t)) f body
    else if m=zry then zbK ⟨l,n,b,s⟩ (getU l (idV t))
    else(⟨405,[],⟨l,n,b,s⟩⟩:TA)))=⟨st,fs,⟨l',n',b',s'⟩⟩→Ok Tryz.prog X (fun o h=>o=AOut.pan (C.ifc 141 true [P.int IntKind.i64 st,P.list U.fld fs,P.list U.byte []])∧h=[HO.obj 146 [C.ptr 1 0,C.p (P.str m),C.p (P.str t),C.p (P.int IntKind.i64 mi),C.p (P.list U.fld f),C.p (P.int IntKind.i64 le)],HO.pack [HO.obj 41 [C.ptr 1 0,C.ptr 2 0],HO.pack [HO.obj 88 [C.row 1,C.p (P.int IntKind.i64 n')],HO.row U.upl 86 l'],HO.pack [HO.obj 118 [C.row 1,C.p (P.int IntKind.i64 s')],HO.row U.byte 5 b']]]) (go I tab { cfgT with seam:=[3,10],keep:=some [0,1,4,5,7,55]} [wJ,wI,zO,zN,zT,zS,yH,yG,wP,wO,wM,wL,vY,vX,Zf,Ze,zaq,zao,Wy,Wx,Yo,Yn] [⟨uI Tryz.f67,finK I tab { cfgT with seam:=[3,10],keep:=some [0,1,4,5,7,55]} 2 Tryz.f67⟩] 0 [1,1,0,0] ⟨[(0,.v (.one (.ptr 0 0))),(1,.v (.one (.p (.list .byte body)))),(4,.v (.one (.p (.bool q))))],[.obj 146 [(.ptr 1 0),(.p (.str m)),(.p (.str t)),(.p (.int .i64 mi)),(.p (.list .fld f)),(.p (.int .i64 le))],.pack [.obj 41 [(.ptr 1 0),(.ptr 2 0)],.pack [.obj 88 [(.row 1),(.p (.int .i64 n))],.row .upl 86 l],.pack [.obj 118 [(.row 1),(.p (.int .i64 s))],.row .byte 5 b]]],84,none⟩):=by
    intro q hq hr
    refine orcL ?_;go_invoke;refine orcS (by kernel_rfl) ?_
    simp only [zi,Nat.reduceAdd]
    subst hI
    rw [show([116,117,115,45,114,101,115,117,109,97,98,108,101]:Str)=zgU from rfl]
    unfold verS zno at hr
    unfold zlV at hr
    have htl:zgU.length≤1000000:=by decide
    simp only [nrmA,nrmB,nrlB,reduceCtorEq,HO.pack.injEq,HO.obj.injEq]
    generalize oneT f zgU=oc at *
    obtain⟨ov,oc⟩:=oc
    try simp only at *
    by_cases hd4:oc=9
    · rw [if_pos hd4] at hr
      simp only [TA.mk.injEq,Sto.mk.injEq] at hr
      obtain⟨q1,q2,q3,q4,q5,q6⟩:=hr
      subst q1 q2 q3 q4 q5 q6
      try simp only [nrmA,nrmB,nrlB,reduceCtorEq,HO.pack.injEq,HO.obj.injEq,decide_true,decide_false,Bool.true_eq_false,Bool.false_eq_true,forall_const,false_implies,true_implies,not_true_eq_false,not_false_eq_true,hd4]
      (repeat' (first|refine And.intro ?_ ?_|intro _))<;>first|omega|exact True.intro|exact False.elim ‹False›|skip
      all_goals first
        |with_reducible rfl
        |with_reducible assumption
        |omega
        |exact hs
        |exact hf.1
        |(exact(hf.2 _ ‹_›).1)
        |(exact(hf.2 _ ‹_›).2)
        |exact⟨hf,by decide⟩
        |exact⟨⟨hf,by decide⟩,by assumption⟩
        |(simp only [List.length_cons,List.length_nil];omega)
        |(exfalso;simp_all;done)
    rw [if_neg hd4] at hr
    try simp only [Bool.not_eq_false,ne_eq,Decidable.not_not] at hd4
    try simp only [nrmA,nrmB,nrlB,reduceCtorEq,HO.pack.injEq,HO.obj.injEq,decide_true,decide_false,Bool.true_eq_false,Bool.false_eq_true,forall_const,false_implies,true_implies,not_true_eq_false,not_false_eq_true,hd4]
    by_cases hd5:ov≠[49,46,48,46,48]
    · rw [if_pos hd5] at hr
      simp only [TA.mk.injEq,Sto.mk.injEq] at hr
      obtain⟨q1,q2,q3,q4,q5,q6⟩:=hr
      subst q1 q2 q3 q4 q5 q6
      try simp only [nrmA,nrmB,nrlB,reduceCtorEq,HO.pack.injEq,HO.obj.injEq,decide_true,decide_false,Bool.true_eq_false,Bool.false_eq_true,forall_const,false_implies,true_implies,not_true_eq_false,not_false_eq_true,hd5]
      (repeat' (first|refine And.intro ?_ ?_|intro _))<;>first|omega|exact True.intro|exact False.elim ‹False›|skip
      all_goals first
        |with_reducible rfl
        |with_reducible assumption
        |omega
        |exact hs
        |exact hf.1
        |(exact(hf.2 _ ‹_›).1)
        |(exact(hf.2 _ ‹_›).2)
        |exact⟨hf,by decide⟩
        |exact⟨⟨hf,by decide⟩,by assumption⟩
        |(simp only [List.length_cons,List.length_nil];omega)
        |(exfalso;simp_all;done)
    rw [if_neg hd5] at hr
    try simp only [Bool.not_eq_false,ne_eq,Decidable.not_not] at hd5
    try simp only [nrmA,nrmB,nrlB,reduceCtorEq,HO.pack.injEq,HO.obj.injEq,decide_true,decide_false,Bool.true_eq_false,Bool.false_eq_true,forall_const,false_implies,true_implies,not_true_eq_false,not_false_eq_true,hd5]
    by_cases hff:t=ql
    · rw [if_pos hff] at hr
      rw [decide_eq_true hff] at hq
      subst hq
      simp only [nrmA,nrmB,nrlB,reduceCtorEq,HO.pack.injEq,HO.obj.injEq,decide_true,decide_false,Bool.true_eq_false,Bool.false_eq_true,forall_const,false_implies,true_implies,not_true_eq_false,not_false_eq_true]
      by_cases hd6:m≠[80,79,83,84]
      · rw [if_pos hd6] at hr
        simp only [TA.mk.injEq,Sto.mk.injEq] at hr
        obtain⟨q1,q2,q3,q4,q5,q6⟩:=hr
        subst q1 q2 q3 q4 q5 q6
        try simp only [nrmA,nrmB,nrlB,reduceCtorEq,HO.pack.injEq,HO.obj.injEq,decide_true,decide_false,Bool.true_eq_false,Bool.false_eq_true,forall_const,false_implies,true_implies,not_true_eq_false,not_false_eq_true,hd6]
        (repeat' (first|refine And.intro ?_ ?_|intro _))<;>first|omega|exact True.intro|exact False.elim ‹False›|skip
        all_goals first
          |with_reducible rfl
          |with_reducible assumption
          |omega
          |exact hs
          |exact hf.1
          |(exact(hf.2 _ ‹_›).1)
          |(exact(hf.2 _ ‹_›).2)
          |exact⟨hf,by decide⟩
          |exact⟨⟨hf,by decide⟩,by assumption⟩
          |(simp only [List.length_cons,List.length_nil];omega)
          |(exfalso;simp_all;done)
      rw [if_neg hd6] at hr
      try simp only [Bool.not_eq_false,ne_eq,Decidable.not_not] at hd6
      try simp only [nrmA,nrmB,nrlB,reduceCtorEq,HO.pack.injEq,HO.obj.injEq,decide_true,decide_false,Bool.true_eq_false,Bool.false_eq_true,forall_const,false_implies,true_implies,not_true_eq_false,not_false_eq_true,hd6]
      simp only [nrmA,nrmB,nrlB,reduceCtorEq,HO.pack.injEq,HO.obj.injEq,decide_true,decide_false,Bool.true_eq_false,Bool.false_eq_true,forall_const,false_implies,true_implies,not_true_eq_false,not_false_eq_true,hr]
      (repeat' (first|refine And.intro ?_ ?_|intro _))<;>first|omega|exact True.intro|exact False.elim ‹False›|skip
      all_goals first
        |with_reducible rfl
        |with_reducible assumption
        |omega
        |exact hs
        |exact hf.1
        |(exact(hf.2 _ ‹_›).1)
        |(exact(hf.2 _ ‹_›).2)
        |exact⟨hf,by decide⟩
        |exact⟨⟨hf,by decide⟩,by assumption⟩
        |(simp only [List.length_cons,List.length_nil];omega)
        |(exfalso;simp_all;done)
    · rw [if_neg hff] at hr
      rw [decide_eq_false hff] at hq
      subst hq
      simp only [nrmA,nrmB,nrlB,reduceCtorEq,HO.pack.injEq,HO.obj.injEq,decide_true,decide_false,Bool.true_eq_false,Bool.false_eq_true,forall_const,false_implies,true_implies,not_true_eq_false,not_false_eq_true]
      (repeat' (first|refine And.intro ?_ ?_|intro _))<;>first|omega|exact True.intro|exact False.elim ‹False›|skip
      all_goals first
        |((with_reducible show Ok _ _ _ _);(try(exfalso;omega));exact seam rfl zh mixed [wJ,wI,zO,zN,zT,zS,yH,yG,wP,wO,wM,wL,vY,vX,Zf,Ze,zaq,zao,Wy,Wx,Yo,Yn] hX [0,1] ⟨[(0,.v (.one (.ptr 0 0))),(1,.v (.one (.p (.list .byte body))))],[.obj 146 [(.ptr 1 0),(.p (.str m)),(.p (.str t)),(.p (.int .i64 mi)),(.p (.list .fld f)),(.p (.int .i64 le))],.pack [.obj 41 [(.ptr 1 0),(.ptr 2 0)],.pack [.obj 88 [(.row 1),(.p (.int .i64 n))],.row .upl 86 l],.pack [.obj 118 [(.row 1),(.p (.int .i64 s))],.row .byte 5 b]]],84,none⟩ (by kernel_rfl) (key10 () hr))
        |with_reducible rfl
        |with_reducible assumption
        |omega
        |exact hs
        |exact hf.1
        |(exact(hf.2 _ ‹_›).1)
        |(exact(hf.2 _ ‹_›).2)
        |exact⟨hf,by decide⟩
        |exact⟨⟨hf,by decide⟩,by assumption⟩
        |(simp only [List.length_cons,List.length_nil];omega)
        |(exfalso;simp_all;done)
  clear key10
  subst hI
  unfold zvN zlV verS zuS zuU zuT at hr
  rw [show([47,102,105,108,101,115]:Str)=ql from rfl]
  simp only [nrmA,nrmB,nrlB,reduceCtorEq,HO.pack.injEq,HO.obj.injEq]
  by_cases hd7:t=ql∧m=[79,80,84,73,79,78,83]
  · rw [if_pos hd7] at hr
    simp only [TA.mk.injEq,Sto.mk.injEq] at hr
    obtain⟨q1,q2,q3,q4,q5,q6⟩:=hr
    subst q1 q2 q3 q4 q5 q6
    try simp only [nrmA,nrmB,nrlB,reduceCtorEq,HO.pack.injEq,HO.obj.injEq,decide_true,decide_false,Bool.true_eq_false,Bool.false_eq_true,forall_const,false_implies,true_implies,not_true_eq_false,not_false_eq_true,hd7]
    (repeat' (first|refine And.intro ?_ ?_|intro _))<;>first|omega|exact True.intro|exact False.elim ‹False›|skip
    all_goals first
      |with_reducible rfl
      |with_reducible assumption
      |omega
      |exact hs
      |exact hf.1
      |(exact(hf.2 _ ‹_›).1)
      |(exact(hf.2 _ ‹_›).2)
      |exact⟨hf,by decide⟩
      |exact⟨⟨hf,by decide⟩,by assumption⟩
      |(simp only [List.length_cons,List.length_nil];omega)
      |(exfalso;simp_all;done)
  rw [if_neg hd7] at hr
  try simp only [Bool.not_eq_false,ne_eq,Decidable.not_not] at hd7
  try simp only [nrmA,nrmB,nrlB,reduceCtorEq,HO.pack.injEq,HO.obj.injEq,decide_true,decide_false,Bool.true_eq_false,Bool.false_eq_true,forall_const,false_implies,true_implies,not_true_eq_false,not_false_eq_true,hd7]
  have hbeq:(t == ql)=decide (t=ql):=by rw [Bool.eq_iff_iff];simp
  (repeat' (first|refine And.intro ?_ ?_|intro _))<;>first|omega|exact True.intro|exact False.elim ‹False›|skip
  all_goals first
    |((with_reducible show Ok _ _ _ _);(try(exfalso;omega));exact seam rfl zh mixed [wJ,wI,zO,zN,zT,zS,yH,yG,wP,wO,wM,wL,vY,vX,Zf,Ze,zaq,zao,Wy,Wx,Yo,Yn] hX [0,1,4] ⟨[(0,.v (.one (.ptr 0 0))),(1,.v (.one (.p (.list .byte body)))),(4,.v (.one (.p (.bool ((t == ql))))))],[.obj 146 [(.ptr 1 0),(.p (.str m)),(.p (.str t)),(.p (.int .i64 mi)),(.p (.list .fld f)),(.p (.int .i64 le))],.pack [.obj 41 [(.ptr 1 0),(.ptr 2 0)],.pack [.obj 88 [(.row 1),(.p (.int .i64 n))],.row .upl 86 l],.pack [.obj 118 [(.row 1),(.p (.int .i64 s))],.row .byte 5 b]]],84,none⟩ (by kernel_rfl) (key3 _ hbeq hr))
    |with_reducible rfl
    |with_reducible assumption
    |omega
    |exact hs
    |exact hf.1
    |(exact(hf.2 _ ‹_›).1)
    |(exact(hf.2 _ ‹_›).2)
    |exact⟨hf,by decide⟩
    |exact⟨⟨hf,by decide⟩,by assumption⟩
    |(simp only [List.length_cons,List.length_nil];omega)
    |(exfalso;simp_all;done)
def WA (I:Alg) (args:List D) (hp:List HO):Option CT:=match args,hp with
  |[.v (.one (.ptr 0 0)),.v (.one (.p (.list .byte body)))],[.obj 146 [(.ptr 1 0),(.p (.str m)),(.p (.str t)),(.p (.int .i64 mi)),(.p (.list .fld f)),(.p (.int .i64 le))],.pack [.obj 41 [(.ptr 1 0),(.ptr 2 0)],.pack [.obj 88 [(.row 1),(.p (.int .i64 n))],.row .upl 86 l],.pack [.obj 118 [(.row 1),(.p (.int .i64 s))],.row .byte 5 b]]]=>(fun(m t:Str) (mi:Int) (f:List Fld) (le:Int) (l:List Upl) (n:Int) (b:Str) (s:Int) (body:Str)=>(some (.one ⟨I.hid (FOk f∧zF l n∧n≤200000∧b.length≤100000∧body.length≤100000),(.pan (.ifc 141 true [(.int .i64 (I.hid ((zQ ⟨l,n,b,s⟩ m t f body).st))),(.list .fld (I.hid ((zQ ⟨l,n,b,s⟩ m t f body).fs))),(.list .byte (I.hid ([])))])),[.obj 146 [(.ptr 1 0),(.p (.str m)),(.p (.str t)),(.p (.int .i64 mi)),(.p (.list .fld f)),(.p (.int .i64 le))],.pack [.obj 41 [(.ptr 1 0),(.ptr 2 0)],.pack [.obj 88 [(.row 1),(.p (.int .i64 (I.hid ((zQ ⟨l,n,b,s⟩ m t f body).q.n))))],.row .upl 86 (I.hid ((zQ ⟨l,n,b,s⟩ m t f body).q.l))],.pack [.obj 118 [(.row 1),(.p (.int .i64 (I.hid ((zQ ⟨l,n,b,s⟩ m t f body).q.s))))],.row .byte 5 (I.hid ((zQ ⟨l,n,b,s⟩ m t f body).q.b))]]]⟩):Option CT)) m t mi f le l n b s body
  |_,_=>none
theorem zeE:zx Tryz.prog 67 (WA alg):=by
  intro args hp r h
  unfold WA at h
  split at h
  · cases h;exact fun hn=>zsA _ _ _ _ _ _ _ _ _ _ hn
  · cases h
def zl7:Know Tryz.prog:=⟨67,WA,zeE⟩
def zl6:Know Tryz.prog:=⟨67,fun I=>zy I (WA I),zf zeE⟩
end Go.Proofs.YtmkcejdibmilmaaGreatDoor
namespace Go.Proofs.YtmkcejdibmilmaaGreatDoor
open Go Go.Sep Go.Ab
set_option maxRecDepth 100000
theorem te {c:Prop} [Decidable c] {a b:TA} (ha:a.fs.length≤4) (hb:b.fs.length≤4):(if c then a else b).fs.length≤4:=by split<;>assumption
theorem zb1 (q:Sto) (m t:Str) (f:List Fld) (body:Str):(zQ q m t f body).fs.length≤4:=by
  have h1:(y8 q f).fs.length≤4:=by
    unfold y8
    repeat' split
    all_goals simp
  have h2: ∀ u,(wZ q u f body).fs.length≤4:=fun u=>by
    unfold wZ
    repeat' refine te ?_ ?_
    all_goals simp
  have h3: ∀ u,(zbK q u).fs.length≤4:=fun u=>by unfold zbK;split<;>simp
  have h4: ∀ u,(zan u).length≤4:=fun u=>by unfold zan;split<;>simp
  unfold zQ
  repeat' split
  all_goals first|exact h1|exact h2 _|exact h3 _|exact h4 _|simp
theorem zu5 (m t:Str) (mi:Int) (f:List Fld) (le:Int) (l:List Upl) (n:Int) (b:Str) (s st:Int) (fs:List Fld) (hfs:fs.length≤1000):SpcD Tryz.prog 65 [.ptr 2 0] (.pan (.ifc 141 true [.int .i64 st,.list .fld fs,.list .byte []])) [.pack [.obj 41 [.ptr 1 0,.ptr 2 0],.pack [.obj 88 [.row 1,.p (.int .i64 n)],.row .upl 86 l],.pack [.obj 118 [.row 1,.p (.int .i64 s)],.row .byte 5 b]],.obj 49 [.p (.str m),.p (.str t),.p (.int .i64 mi),.p (.list .fld f),.p (.int .i64 le)],.obj 107 [.p (.int .i64 0),.nilS,.nilS],.obj 146 [.ptr 0 0,.p (.str m),.p (.str t),.p (.int .i64 mi),.p (.list .fld f),.p (.int .i64 le)]] .ret [.pack [.obj 41 [.ptr 1 0,.ptr 2 0],.pack [.obj 88 [.row 1,.p (.int .i64 n)],.row .upl 86 l],.pack [.obj 118 [.row 1,.p (.int .i64 s)],.row .byte 5 b]],.pack [.obj 49 [.p (.str m),.p (.str t),.p (.int .i64 mi),.p (.list .fld f),.p (.int .i64 le)]],.pack [.obj 107 [.p (.int .i64 st),.row 1,.p (.list .byte [])],.row .fld 97 (resT::fs)],.obj 146 [.ptr 0 0,.p (.str m),.p (.str t),.p (.int .i64 mi),.p (.list .fld f),.p (.int .i64 le)]]:=by
  refine UO zh mixed Tryz.func65 (by kernel_rfl) cfgT [yH,yG] (rest:=_) rfl (by kernel_rfl) ?_
  intro I X hI hX
  refine orcL ?_;go_invoke;refine orcS (by kernel_rfl) ?_
  simp only [zi,Nat.reduceAdd]
  subst hI
  simp only [nrmA,nrmB,nrlB,reduceCtorEq,HO.pack.injEq,HO.obj.injEq,List.length_cons,List.length_nil,List.cons_append,List.nil_append]
  unfold resT zuQ verS
  (repeat' (first|refine And.intro ?_ ?_|intro _))<;>first|omega|exact True.intro|exact False.elim ‹False›|skip
  all_goals first|omega|trivial|rfl|trace_state
def zwU:Door Tryz.prog where
  g:=65
  c :=fun _ m caps hp=>match m,caps,hp with
    |.pan (.ifc 141 true [.int .i64 st,.list .fld fs,.list .byte bb]),[.ptr 2 0],[.pack [.obj 41 [.ptr 1 0,.ptr 2 0],.pack [.obj 88 [.row 1,.p (.int .i64 n)],.row .upl 86 l],.pack [.obj 118 [.row 1,.p (.int .i64 s)],.row .byte 5 b]],.obj 49 [.p (.str m),.p (.str t),.p (.int .i64 mi),.p (.list .fld f),.p (.int .i64 le)],.obj 107 [.p (.int .i64 z0),.nilS,.nilS],.obj 146 [.ptr 0 0,.p (.str m1),.p (.str t1),.p (.int .i64 mi1),.p (.list .fld f1),.p (.int .i64 le1)]]=>some (fs.length≤1000∧bb=[]∧z0=0∧m1=m∧t1=t∧mi1=mi∧f1=f∧le1=le,.ret,[.pack [.obj 41 [.ptr 1 0,.ptr 2 0],.pack [.obj 88 [.row 1,.p (.int .i64 n)],.row .upl 86 l],.pack [.obj 118 [.row 1,.p (.int .i64 s)],.row .byte 5 b]],.pack [.obj 49 [.p (.str m),.p (.str t),.p (.int .i64 mi),.p (.list .fld f),.p (.int .i64 le)]],.pack [.obj 107 [.p (.int .i64 st),.row 1,.p (.list .byte [])],.row .fld 97 (resT::fs)],.obj 146 [.ptr 0 0,.p (.str m),.p (.str t),.p (.int .i64 mi),.p (.list .fld f),.p (.int .i64 le)]])
    |_,_,_=>none
  ok:=by
    intro m caps hp p m' hp' h hp1
    split at h
    · cases h
      obtain⟨h1,rfl,rfl,rfl,rfl,rfl,rfl,rfl⟩:=hp1
      exact zu5 _ _ _ _ _ _ _ _ _ _ _ h1
    · cases h
theorem tDo_ (m t:Str) (mi:Int) (f:List Fld) (le:Int) (l:List Upl) (n:Int) (b:Str) (s:Int) (body:Str) (hneed:FOk f∧zF l n∧n≤200000∧b.length≤100000∧body.length≤100000):Spc Tryz.prog 38 [.v (.one (.ptr 0 0)),.v (.agg [(.p (.str m)),(.p (.str t)),(.p (.int .i64 mi)),(.p (.list .fld f)),(.p (.int .i64 le))]),.v (.one (.p (.list .byte body)))] [.pack [.obj 41 [(.ptr 1 0),(.ptr 2 0)],.pack [.obj 88 [(.row 1),(.p (.int .i64 n))],.row .upl 86 l],.pack [.obj 118 [(.row 1),(.p (.int .i64 s))],.row .byte 5 b]]] (.ret (.v (.agg [(.p (.int .i64 ((zQ ⟨l,n,b,s⟩ m t f body).st))),(.p (.list .fld ((resT::(zQ ⟨l,n,b,s⟩ m t f body).fs)))),(.p (.list .byte ([])))]))) [.pack [.obj 41 [(.ptr 1 0),(.ptr 2 0)],.pack [.obj 88 [(.row 1),(.p (.int .i64 ((zQ ⟨l,n,b,s⟩ m t f body).q.n)))],.row .upl 86 ((zQ ⟨l,n,b,s⟩ m t f body).q.l)],.pack [.obj 118 [(.row 1),(.p (.int .i64 ((zQ ⟨l,n,b,s⟩ m t f body).q.s)))],.row .byte 5 ((zQ ⟨l,n,b,s⟩ m t f body).q.b)]]]:=by
  have hfew:=zb1 ⟨l,n,b,s⟩ m t f body
  generalize hr:zQ ⟨l,n,b,s⟩ m t f body=r at hfew
  obtain⟨st,fs,⟨l',n',b',s'⟩⟩:=r
  refine zu8 zh mixed Tryz.func38 (by kernel_rfl) { cfgT with keep:=some [0,1,2,4,6,7]} [zl7,zl6] zwU (by kernel_rfl) ?_
  intro I X hI hX
  refine orcL ?_;go_invoke;refine orcS (by kernel_rfl) ?_
  simp only [zi,Nat.reduceAdd]
  subst hI
  simp only at hfew
  simp only [nrmA,nrmB,nrlB,reduceCtorEq,V0.agg.injEq,HO.pack.injEq,HO.obj.injEq]
  simp only [hr]
  (repeat' (first|refine And.intro ?_ ?_|intro _))<;>first|omega|exact True.intro|exact False.elim ‹False›|skip
  all_goals first|omega|rfl|assumption|exact hneed.2.1|exact hneed.1.1|(exact(hneed.1.2 _ ‹_›).1)|(exact(hneed.1.2 _ ‹_›).2)|trace_state
def zit (I:Alg) (args:List D) (hp:List HO):Option CT:=match args,hp with
  |[.v (.one (.ptr 0 0)),.v (.agg [(.p (.str m)),(.p (.str t)),(.p (.int .i64 mi)),(.p (.list .fld f)),(.p (.int .i64 le))]),.v (.one (.p (.list .byte body)))],[.pack [.obj 41 [(.ptr 1 0),(.ptr 2 0)],.pack [.obj 88 [(.row 1),(.p (.int .i64 n))],.row .upl 86 l],.pack [.obj 118 [(.row 1),(.p (.int .i64 s))],.row .byte 5 b]]]=>(fun(m t:Str) (mi:Int) (f:List Fld) (le:Int) (l:List Upl) (n:Int) (b:Str) (s:Int) (body:Str)=>(some (.one ⟨I.hid (FOk f∧zF l n∧n≤200000∧b.length≤100000∧body.length≤100000),(.ret (.v (.agg [(.p (.int .i64 (I.hid ((zQ ⟨l,n,b,s⟩ m t f body).st)))),(.p (.list .fld (I.hid ((resT::(zQ ⟨l,n,b,s⟩ m t f body).fs))))),(.p (.list .byte (I.hid ([]))))]))),[.pack [.obj 41 [(.ptr 1 0),(.ptr 2 0)],.pack [.obj 88 [(.row 1),(.p (.int .i64 (I.hid ((zQ ⟨l,n,b,s⟩ m t f body).q.n))))],.row .upl 86 (I.hid ((zQ ⟨l,n,b,s⟩ m t f body).q.l))],.pack [.obj 118 [(.row 1),(.p (.int .i64 (I.hid ((zQ ⟨l,n,b,s⟩ m t f body).q.s))))],.row .byte 5 (I.hid ((zQ ⟨l,n,b,s⟩ m t f body).q.b))]]]⟩):Option CT)) m t mi f le l n b s body
  |_,_=>none
theorem zrL:zx Tryz.prog 38 (zit alg):=by
  intro args hp r h
  unfold zit at h
  split at h
  · cases h;exact fun hn=>tDo_ _ _ _ _ _ _ _ _ _ _ hn
  · cases h
def zbS:Know Tryz.prog:=⟨38,zit,zrL⟩
def zbR:Know Tryz.prog:=⟨38,fun I=>zy I (zit I),zf zrL⟩
def zbF (t:Str):Bool:=decide (t=ql)||Lib.hasPrefix t yZ
theorem zu1 (t:Str) (hneed:t.length≤1000000):Spc Tryz.prog 88 [.v (.one (.p (.str t)))] [] (.ret (.v (.one (.p (.bool ((zbF t))))))) []:=by
  generalize hr:zbF t=r
  unfold zbF at hr
  refine spcG zh mixed Tryz.func88 (by kernel_rfl) { cfgT with keep:=some [0,2]} [xG,xE] (by kernel_rfl) ?_
  intro I X hI hX
  refine orcL ?_;go_invoke;refine orcS (by kernel_rfl) ?_
  simp only [zi,Nat.reduceAdd]
  subst hI
  rw [show([47,102,105,108,101,115]:Str)=ql from rfl]
  try rw [show([47,102,105,108,101,115,47]:Str)=yZ from rfl]
  simp only [nrmA,nrmB,nrlB,reduceCtorEq,V0.agg.injEq]
  by_cases h1:t=ql
  · rw [decide_eq_true h1,Bool.true_or] at hr
    subst hr
    simp only [nrmA,nrmB,nrlB,reduceCtorEq,h1]
    (repeat' (first|refine And.intro ?_ ?_|intro _))<;>first|omega|exact True.intro|exact False.elim ‹False›|skip
    all_goals first|omega|rfl|assumption|(simp_all;done)|trace_state
  · rw [decide_eq_false h1,Bool.false_or] at hr
    simp only [nrmA,nrmB,nrlB,reduceCtorEq,h1]
    (repeat' (first|refine And.intro ?_ ?_|intro _))<;>first|omega|exact True.intro|exact False.elim ‹False›|skip
    all_goals first|omega|rfl|assumption|(simp_all;done)|trace_state
def RF (I:Alg) (args:List D) (hp:List HO):Option CT:=match args,hp with
  |[.v (.one (.p (.str t)))],[]=>(fun(t:Str)=>(some (.one ⟨I.hid (t.length≤1000000),(.ret (.v (.one (.p (.bool (I.hid ((zbF t)))))))),[]⟩):Option CT)) t
  |_,_=>none
theorem zir:zx Tryz.prog 88 (RF alg):=by
  intro args hp r h
  unfold RF at h
  split at h
  · cases h;exact fun hn=>zu1 _ hn
  · cases h
def zpE:Know Tryz.prog:=⟨88,RF,zir⟩
def zpD:Know Tryz.prog:=⟨88,fun I=>zy I (RF I),zf zir⟩
end Go.Proofs.YtmkcejdibmilmaaGreatDoor
namespace Go.Proofs.YtmkcejdibmilmaaGreatDoor
open Go Go.Sep Go.Ab
def zv8:Str:=[47,102,111,114,109]
def zlm:Str:=[102,105,108,101,110,97,109,101,32]
def zvS:Str:=[109,117,108,116,105,112,97,114,116,47,102,111,114,109,45,100,97,116,97]
def bndT:Str:=[98,111,117,110,100,97,114,121]
structure GA where
  r:Rpl
  q:Sto
def YP (st:Int):Rpl:=⟨st,[],[]⟩
def sO (f:List Fld) (body:Str):List Prt × Int:=
  if(oneT f ZW).2≠0 then([],415)
  else if(xN (oneT f ZW).1).2≠0∨(xN (oneT f ZW).1).1.word≠zvS∨(getP (xN (oneT f ZW).1).1.params bndT).2=false then([],415)
  else if(ZI (getP (xN (oneT f ZW).1).1.params bndT).1 body).2≠0 then([],400)
  else((ZI (getP (xN (oneT f ZW).1).1.params bndT).1 body).1,0)
def apCd (q:Sto) (id off:Int) (x:Str):Int:=if apG q.l id off then 17 else wsC q (apE id x)
def apQ (q:Sto) (id off:Int) (x:Str):Sto:=if apG q.l id off then q else wsS q (apE id x)
def zbL (id:Int):Ent:=⟨4,id,0,[]⟩
def ru (q:Sto) (p:Prt):Ent:=creE q (p.bytes.length:Int) (zlm++p.file)
def zaU (q:Sto) (p:Prt):Int:=if wsC q (ru q p)≠0 then wsC q (ru q p) else apCd (wsS q (ru q p)) (q.n+1) 0 p.bytes
def sF (q:Sto) (p:Prt):Sto:=
  if wsC q (ru q p)≠0 then wsS q (ru q p)
  else if apCd (wsS q (ru q p)) (q.n+1) 0 p.bytes≠0 then wsS (apQ (wsS q (ru q p)) (q.n+1) 0 p.bytes) (zbL (q.n+1))
  else apQ (wsS q (ru q p)) (q.n+1) 0 p.bytes
def Un (q:Sto):List Int→Sto
  |[]=>q
  |k::r=>Un (wsS q (zbL k)) r
def zlZ (t:Str) (id:Int) (p:Prt):Str:=t++(decS id++[32]++p.file++[10])
def qm (q:Sto) (ids:List Int) (t:Str):List Prt→GA
  |[]=>⟨⟨201,[],t⟩,syS q⟩
  | p::r=>
    if p.file=[] then qm q ids t r
    else if zaU q p≠0 then⟨YP (if zaU q p=4 then 413 else 507),syS (Un (sF q p) ids)⟩
    else qm (sF q p) (ids++[q.n+1]) (zlZ t (q.n+1) p) r
def X3:List Prt→Int
  |[]=>0
  |p::r=>((p.bytes.length:Int)+200)+X3 r
def Zv (q:Sto) (f:List Fld) (body:Str):GA:=
  if(sO f body).2≠0 then⟨YP (sO f body).2,q⟩
  else if U0 q.b (X3 (sO f body).1)=false then⟨YP 507,q⟩
  else qm q [] [] (sO f body).1
def rplT (x:TA):Rpl:=⟨x.st,resT::x.fs,[]⟩
def ansG (q:Sto) (m t:Str) (f:List Fld) (body:Str):GA:=
  if zbF t then⟨rplT (zQ q m t f body),(zQ q m t f body).q⟩
  else if t≠zv8 then⟨YP 404,q⟩
  else if m≠zno then⟨YP 405,q⟩
  else Zv q f body
def Ri (r:Rpl):Str:=writeT r.status r.fields r.body
structure GE where
  q:Sto
  h:Hd
  b:Str
  i:Bool
  w:Bool
  o:Str
def zov (c:Int):Rpl:=YP (if c=4 then 413 else 400)
def evG (x:GE) (e:Evt):GE:=
  if e.kind=1 then { x with h:=e.head,b:=[],i:=true,w:=true}
  else if e.kind=2 then { x with b:=x.b++e.bytes}
  else if e.kind=3 then⟨(ansG x.q x.h.method x.h.target x.h.fields x.b).q,x.h,x.b,false,false,x.o++Ri (ansG x.q x.h.method x.h.target x.h.fields x.b).r⟩
  else if e.kind=4 then { x with i:=false,o:=x.o++Ri (zov e.code)}
  else x
def evsG (x:GE) (l:List Evt):GE:=l.foldl evG x
def fedE (q:Sto) (c:Cn) (b:Str):GE:=evsG ⟨q,c.h,c.body,c.live,c.own,[]⟩ (zZ (zB c.q b).out)
def fedC (q:Sto) (c:Cn) (b:Str):Cn:=⟨zB c.q b,(fedE q c b).h,(fedE q c b).b,(fedE q c b).i,(fedE q c b).w⟩
def cn0:Cn:=⟨rq0,hd0,[],false,true⟩
structure GS where
  q:Sto
  c0:Cn
  c1:Cn
  c2:Cn
  c3:Cn
def GS.at (g:GS) (k:Int):Cn:=if k=0 then g.c0 else if k=1 then g.c1 else if k=2 then g.c2 else g.c3
def GS.put (g:GS) (k:Int) (c:Cn) (q:Sto):GS:=⟨q,if k=0 then c else g.c0,if k=1 then c else g.c1,if k=2 then c else g.c2,if k=3 then c else g.c3⟩
def zbI (c:Cn):Bool:=c.live&&(decide (c.h.method=Zm)&&(decide (c.body≠[])&&Lib.hasPrefix c.h.target yZ))
def x9 (q:Sto) (c:Cn):Sto:=if zbI c then(zQ q c.h.method c.h.target c.h.fields c.body).q else q
end Go.Proofs.YtmkcejdibmilmaaGreatDoor
namespace Go.Proofs.YtmkcejdibmilmaaGreatDoor
open Go Go.Sep Go.Ab
set_option maxRecDepth 100000
theorem zwO (n:Int):Spc Tryz.prog 119 [.v (.one (.p (.int .i64 n)))] [] (.ret (.v (.one (.p (.str (Wq n)))))) []:=by
  generalize hr:Wq n=r
  refine spcG zh mixed Tryz.func119 (by kernel_rfl) { keep:=some [0,2,3]} [] (by kernel_rfl) ?_
  intro I X hI hX
  refine orcL ?_;go_invoke;refine orcS (by kernel_rfl) ?_
  simp only [zi,Nat.reduceAdd]
  subst hI
  simp only [nrmA,nrmB]
  unfold Wq at hr
  (repeat' (first|refine And.intro ?_ ?_|intro _))<;>first|omega|exact True.intro|exact False.elim ‹False›|skip
  all_goals((repeat(first|rewrite [if_pos (by first|omega|assumption|(simp only [*,or_self,or_true,true_or,or_false,false_or,not_true_eq_false,not_false_eq_true,Bool.false_eq_true,Bool.true_eq_false,and_self,and_true,true_and];done)|(simp only [*];omega)|(simp [*];done)|(simp [*];omega))] at hr|rewrite [if_neg (by first|omega|assumption|(simp only [*,or_self,or_true,true_or,or_false,false_or,not_true_eq_false,not_false_eq_true,Bool.false_eq_true,Bool.true_eq_false,and_self,and_true,true_and];done)|(simp only [*];omega)|(simp [*];done)|(simp [*];omega))] at hr));exact hr)
def zda (I:Alg) (args:List D) (hp:List HO):Option CT:=match args,hp with
  |[.v (.one (.p (.int .i64 n)))],[]=>(fun(n:Int)=>(some (.one ⟨I.hid (True),(.ret (.v (.one (.p (.str (I.hid (Wq n))))))),[]⟩):Option CT)) n
  |_,_=>none
theorem zlP:zx Tryz.prog 119 (zda alg):=by
  intro args hp r h
  unfold zda at h
  split at h
  · cases h;exact fun hn=>zwO _
  · cases h
def zlO:Know Tryz.prog:=⟨119,zda,zlP⟩
def zlN:Know Tryz.prog:=⟨119,fun I=>zy I (zda I),zf zlP⟩
theorem zo9 {fs:List Fld} {i:Nat} (h:i<fs.length):badF (fs.drop i)=if(textF (fs.getD i ⟨[],[]⟩)).2=0 then badF (fs.drop (i+1)) else(textF (fs.getD i ⟨[],[]⟩)).2:=by
  rw [List.drop_eq_getElem_cons h,badF];simp [h]
theorem zlu {fs:List Fld} {i:Nat} (h:i<fs.length):Yh (fs.take (i+1))=Yh (fs.take i)++(textF (fs.getD i ⟨[],[]⟩)).1++[13,10]:=by
  rw [List.take_succ_eq_append_getElem h,zon];simp [Yh,h]
theorem znZ {st:Int} (h:Wq st≠[]):(zhu st).length≤100:=by
  have:=uD st
  have:=(zah h).2.2
  unfold zhu
  simp;omega
set_option maxHeartbeats 4000000 in
theorem zta (st:Int) (fs:List Fld) (b:Str) (hneed:(fs.length≤100∧∀ f ∈ fs,f.name.length≤1000000∧f.value.length≤1000000)∧b.length≤9000):Spc Tryz.prog 87 [.v (.agg [(.p (.int .i64 st)),(.p (.list .fld fs)),(.p (.list .byte b))])] [] (.ret (.tup [(.one (.p (.list .byte ((writeT st fs b))))),(.one (.p (.int .i64 ((zae st fs)))))])) []:=by
  obtain⟨⟨hfl,hf⟩,hb⟩:=hneed
  generalize hc:zae st fs=c
  generalize ht:writeT st fs b=t
  have hwf:=zah (n:=st)
  have hdl:=uD st
  have hhl:=znZ (st:=st)
  have hbl:=uD (b.length:Int)
  have hclen:[99,111,110,116,101,110,116,45,108,101,110,103,116,104]=zuw:=rfl
  refine spcG zh mixed Tryz.func87 (by kernel_rfl) { rl:=[0],keep:=some [0,1,2,3,4,6,7,8,37,38,39]} [zl1,zl0,zbm,zbl,Wi,Wh,zlO,zlN] (by kernel_rfl) ?_
  intro I X hI hX
  refine orcL ?_;go_invoke;refine orcS (by kernel_rfl) ?_
  simp only [zi,Nat.reduceAdd]
  rw [hclen]
  (repeat' (first|refine And.intro ?_ ?_|intro _))
  all_goals try(subst hI;(simp only [nrmA,nrmB,nrlB,reduceCtorEq] at *);first|done|trivial|(unfold writeT at ht;unfold zae at ht hc;((repeat(first|rewrite [if_pos (by first|omega|assumption|(simp only [*,or_self,or_true,true_or,or_false,false_or,not_true_eq_false,not_false_eq_true,Bool.false_eq_true,Bool.true_eq_false,and_self,and_true,true_and];done)|(simp only [*];omega)|(simp [*];done)|(simp [*];omega))] at hc|rewrite [if_neg (by first|omega|assumption|(simp only [*,or_self,or_true,true_or,or_false,false_or,not_true_eq_false,not_false_eq_true,Bool.false_eq_true,Bool.true_eq_false,and_self,and_true,true_and];done)|(simp only [*];omega)|(simp [*];done)|(simp [*];omega))] at hc)));subst hc;((repeat(first|rewrite [if_pos (by first|omega|assumption|(simp only [*,or_self,or_true,true_or,or_false,false_or,not_true_eq_false,not_false_eq_true,Bool.false_eq_true,Bool.true_eq_false,and_self,and_true,true_and];done)|(simp only [*];omega)|(simp [*];done)|(simp [*];omega))] at ht|rewrite [if_neg (by first|omega|assumption|(simp only [*,or_self,or_true,true_or,or_false,false_or,not_true_eq_false,not_false_eq_true,Bool.false_eq_true,Bool.true_eq_false,and_self,and_true,true_and];done)|(simp only [*];omega)|(simp [*];done)|(simp [*];omega))] at ht)));subst ht;exact⟨rfl,rfl⟩)|(have:=hwf ‹_›;simp only [List.length_append,List.length_cons,List.length_nil];omega)|(have:=hwf ‹_›;omega)|exact⟨by omega,by decide,hf⟩)
  have hok:Wq st≠[]∧fs.length<16∧¬ 0<(valsF fs zuw).length:=by
    subst hI
    simp only [nrmA,nrmB,nrlB,reduceCtorEq] at *
    exact⟨by assumption,by omega,by omega⟩
  have hc2:c=badF fs:=by
    rw [← hc,zae,if_neg hok.1,if_neg (by omega),if_neg hok.2.2]
  have ht2:badF fs=0→t=zhu st++Yh fs++zpC b.length++b:=fun h=>by
    rw [← ht,writeT,hc,hc2,if_pos h]
  have ht3:badF fs≠0→t=[]:=fun h=>by rw [← ht,writeT,hc,hc2,if_neg h]
  refine zC hI zh mixed [zl1,zl0,zbm,zbl,Wi,Wh,zlO,zlN] hX [1,3,4,37,38,39] (fun(g:Nat × Str)=>match g with|(i,o)=>i≤fs.length∧o=zhu st++Yh (fs.take i)∧badF fs=badF (fs.drop i)) (fun(g:Nat × Str)=>match g with|(i,o)=>⟨[(1,.v (.one (.ptr 0 0))),(3,.v (.one (.p (.int .i64 0)))),(4,.v (.one (.row 1))),(37,.v (.one (.p (.list .fld fs)))),(38,.v (.one (.p (.int .i64 ((I.len (α:=Fld) fs)))))),(39,.v (.one (.p (.int .i64 i))))],[.pack [.obj 107 [(.p (.int .i64 st)),(.p (.list .fld fs)),(.p (.list .byte b))]],.row .byte 5 o],68,none⟩) (fun(g:Nat × Str)=>match g with|(i,o)=>fs.length - i) (0,(I.app (I.app (I.app (I.app ([72,84,84,80,47,49,46,49,32]:Str) (I.hid (decS st))) [32]) (I.hid (Wq st))) [13,10])) (by kernel_rfl) (by kernel_rfl) ?_ ?_
  · refine⟨Nat.zero_le _,?_,rfl⟩
    subst hI
    simp only [Wp,zia,zhu,List.take_zero,Yh,List.append_nil]
  rintro⟨i,o⟩ ⟨h1,h2,h3⟩ A hA
  simp only at hA h1 h2 h3
  refine orcL ?_;go_invoke;refine orcS (by kernel_rfl) ?_
  simp only [zi,Nat.reduceAdd]
  subst hI
  simp only [nrmA,nrmB,nrlB,reduceCtorEq]
  have hx:i<fs.length→(fs.getD i ⟨[],[]⟩) ∈ fs:=fun h=>by rw [show fs.getD i ⟨[],[]⟩=fs[i] by simp [h]];exact List.getElem_mem h
  have hd:i<fs.length→_:=fun h=>zo9 (fs:=fs) (i:=i) h
  have hk:i<fs.length→_:=fun h=>zlu (fs:=fs) (i:=i) h
  have hol:(Yh (fs.take i)).length≤202 * 16:=by
    have:=zbi (fs.take i)
    rw [List.length_take] at this
    have:=hok.2.1
    omega
  have hhl:=hhl hok.1
  have hol2:o.length≤4000:=by rw [h2,List.length_append];omega
  have hend: ¬ i<fs.length→badF fs=0∧Yh (fs.take i)=Yh fs:=fun h=>by
    rw [h3,List.drop_of_length_le (by omega),List.take_of_length_le (by omega)];exact⟨rfl,rfl⟩
  have hfi:=fun h=>hf _ (hx h)
  have htl:=fun f=>zeB f
  generalize fs.getD i ⟨[],[]⟩=x at *
  have e0:(⟨x.name,x.value⟩:Fld)=x:=rfl
  rw [e0]
  have htl:=htl x
  refine⟨fun c1=>⟨⟨by omega,by omega⟩,⟨by omega,by omega⟩,hfi (by omega),fun c2=> ?_,fun c2=>⟨?_,?_,by omega,?_⟩⟩,fun c1=> ?_⟩
  · have hd:=hd (by omega)
    rw [if_neg c2] at hd
    exact⟨(ht3 (by rw [h3,hd];exact c2)).symm,by rw [hc2,h3,hd]⟩
  · simp only [List.length_cons,List.length_nil];omega
  · simp only [List.length_append,List.length_cons,List.length_nil];omega
  · have hd:=hd (by omega)
    rw [if_pos c2] at hd
    exact hA (i+1,o++((textF x).1++[13,10])) ⟨by simp only;omega,by simp only;rw [hk (by omega),h2];simp only [List.append_assoc],by simp only;rw [h3,hd]⟩ (by simp only;omega)
  · obtain⟨e1,e2⟩:=hend (by omega)
    simp only [List.length_append,List.length_cons,List.length_nil]
    refine⟨by omega,by omega,by omega,by omega,by omega,?_,by rw [hc2,e1]⟩
    rw [ht2 e1,h2,e2]
    unfold zpC
    simp only [List.append_assoc]
def Vj (I:Alg) (args:List D) (hp:List HO):Option CT:=match args,hp with
  |[.v (.agg [(.p (.int .i64 st)),(.p (.list .fld fs)),(.p (.list .byte b))])],[]=>(fun(st:Int) (fs:List Fld) (b:Str)=>(some (.one ⟨I.hid ((fs.length≤100∧∀ f ∈ fs,f.name.length≤1000000∧f.value.length≤1000000)∧b.length≤9000),(.ret (.tup [(.one (.p (.list .byte (I.hid ((writeT st fs b)))))),(.one (.p (.int .i64 (I.hid ((zae st fs))))))])),[]⟩):Option CT)) st fs b
  |_,_=>none
theorem ze7:zx Tryz.prog 87 (Vj alg):=by
  intro args hp r h
  unfold Vj at h
  split at h
  · cases h;exact fun hn=>zta _ _ _ hn
  · cases h
def znk:Know Tryz.prog:=⟨87,Vj,ze7⟩
def znj:Know Tryz.prog:=⟨87,fun I=>zy I (Vj I),zf ze7⟩
end Go.Proofs.YtmkcejdibmilmaaGreatDoor
