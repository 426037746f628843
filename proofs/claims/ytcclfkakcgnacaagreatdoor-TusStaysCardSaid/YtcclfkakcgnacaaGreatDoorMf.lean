/- Texts of this proof, one behind the other: TusE TusF TusG TusH TusI TusJ TusK TusM. -/
import Derived.Test.YtcclfkakcgnacaaGreatDoorMe
set_option linter.all false
namespace Go.Proofs.YtcclfkakcgnacaaGreatDoor
open Go Go.Sep Go.Ab
set_option maxRecDepth 100000
theorem zfB {l:List Upl} {n:Int} (h:zy l n) (id:Int):(getU l id).bytes.length≤2000∧(getU l id).size≤2000:=by
  unfold getU
  split
  · rename_i hi
    rw [xq hi]
    have:=h.each _ (List.getElem_mem hi)
    exact⟨this.bl,this.s2⟩
  · decide
set_option maxHeartbeats 8000000 in
theorem zkH (m t:Str) (mi:Int) (f:List Fld) (le:Int) (l:List Upl) (n:Int) (b:Str) (s:Int) (body:Str) (hneed:FOk f∧zy l n∧n≤200000∧b.length≤100000∧body.length≤100000):Spc Tryz.prog 29 [.v (.one (.ptr 0 0)),.v (.one (.p (.list .byte body)))] [.obj 78 [(.ptr 1 0),(.p (.str m)),(.p (.str t)),(.p (.int .i64 mi)),(.p (.list .fld f)),(.p (.int .i64 le))],.pack [.obj 48 [(.ptr 1 0),(.ptr 2 0)],.pack [.obj 90 [(.row 1),(.p (.int .i64 n))],.row .upl 67 l],.pack [.obj 104 [(.row 1),(.p (.int .i64 s))],.row .byte 5 b]]] (.pan (.ifc 73 true [(.int .i64 ((zB ⟨l,n,b,s⟩ m t f body).st)),(.list .fld ((zB ⟨l,n,b,s⟩ m t f body).fs)),(.list .byte ([]))])) [.obj 78 [(.ptr 1 0),(.p (.str m)),(.p (.str t)),(.p (.int .i64 mi)),(.p (.list .fld f)),(.p (.int .i64 le))],.pack [.obj 48 [(.ptr 1 0),(.ptr 2 0)],.pack [.obj 90 [(.row 1),(.p (.int .i64 ((zB ⟨l,n,b,s⟩ m t f body).q.n)))],.row .upl 67 ((zB ⟨l,n,b,s⟩ m t f body).q.l)],.pack [.obj 104 [(.row 1),(.p (.int .i64 ((zB ⟨l,n,b,s⟩ m t f body).q.s)))],.row .byte 5 ((zB ⟨l,n,b,s⟩ m t f body).q.b)]]]:=by
  obtain⟨hf,hs,hn,hb,hbl⟩:=hneed
  have hn0:=hs.n0
  have hus:=zfB hs (idV t)
  generalize hr:zB ⟨l,n,b,s⟩ m t f body=r
  obtain⟨st,fs,⟨l',n',b',s'⟩⟩:=r
  unfold zB at hr
  try simp only at hr
  refine spcG zi mixed Tryz.func29 (by kernel_rfl) { cfgT with seam:=[3,10],keep:=some [0,1,4,5,7,55]} [uJ,uI,zY,zX,zJ,zI,zU,zT,yZ,yY,yX,yV,xM,xK,uH,uG,Vu,Vt,ZN,ZM,rQ,rP] (by kernel_rfl) ?_
  intro I X hI hX
  refine zh (let y0:=I.seq t (Array.toList (List.toArray ([47,102,105,108,101,115]:List UInt8)));.br y0 (.br (I.seq m (Array.toList (List.toArray ([79,80,84,73,79,78,83]:List UInt8)))) (.need (I.hid (α:=(Prop)) True) (.need (I.hid (α:=(Prop)) (And (LE.le (0:Int) (2000:Int)) (LT.lt (2000:Int) (1000000000:Int)))) (.need (I.hid (α:=(Prop)) True) (.need (I.hid (α:=(Prop)) True) (.need (I.hid (α:=(Prop)) True) (.fin (.pan (.ifc 73 .true [(.int .i64 204),(.list .fld ([(Go.Ab.Fld.mk (Array.toList (List.toArray ([84,117,115,45,86,101,114,115,105,111,110]:List UInt8))) (Array.toList (List.toArray ([49,46,48,46,48]:List UInt8)))),(Go.Ab.Fld.mk (Array.toList (List.toArray ([84,117,115,45,77,97,120,45,83,105,122,101]:List UInt8))) (I.hid (α:=(List UInt8)) (decS (2000:Int)))),(Go.Ab.Fld.mk (Array.toList (List.toArray ([84,117,115,45,69,120,116,101,110,115,105,111,110]:List UInt8))) (Array.toList (List.toArray ([99,114,101,97,116,105,111,110,44,99,114,101,97,116,105,111,110,45,100,101,102,101,114,45,108,101,110,103,116,104,44,116,101,114,109,105,110,97,116,105,111,110]:List UInt8))))]:List Go.Ab.Fld)),(.list .byte (I.hid (α:=(List UInt8)) ([]:List UInt8)))])) [(.obj 78 [(.ptr 1 0),(.p (.str m)),(.p (.str t)),(.p (.int .i64 mi)),(.p (.list .fld f)),(.p (.int .i64 le))]),(.pack [(.obj 48 [(.ptr 1 0),(.ptr 2 0)]),(.pack [(.obj 90 [(.row 1),(.p (.int .i64 n))]),(.row .upl 67 l)]),(.pack [(.obj 104 [(.row 1),(.p (.int .i64 s))]),(.row .byte 5 b)])])])))))) (.code 0 [1,1,0,0] ⟨[(4,(.v (.one (.p (.bool y0))))),(0,(.v (.one (.ptr 0 0)))),(1,(.v (.one (.p (.list .byte body)))))],[(.obj 78 [(.ptr 1 0),(.p (.str m)),(.p (.str t)),(.p (.int .i64 mi)),(.p (.list .fld f)),(.p (.int .i64 le))]),(.pack [(.obj 48 [(.ptr 1 0),(.ptr 2 0)]),(.pack [(.obj 90 [(.row 1),(.p (.int .i64 n))]),(.row .upl 67 l)]),(.pack [(.obj 104 [(.row 1),(.p (.int .i64 s))]),(.row .byte 5 b)])])],84,none⟩)) (.code 0 [1,1,0,0] ⟨[(4,(.v (.one (.p (.bool y0))))),(0,(.v (.one (.ptr 0 0)))),(1,(.v (.one (.p (.list .byte body)))))],[(.obj 78 [(.ptr 1 0),(.p (.str m)),(.p (.str t)),(.p (.int .i64 mi)),(.p (.list .fld f)),(.p (.int .i64 le))]),(.pack [(.obj 48 [(.ptr 1 0),(.ptr 2 0)]),(.pack [(.obj 90 [(.row 1),(.p (.int .i64 n))]),(.row .upl 67 l)]),(.pack [(.obj 104 [(.row 1),(.p (.int .i64 s))]),(.row .byte 5 b)])])],84,none⟩)) (by kernel_rfl) ?_
  simp only [zl]
  have key10: ∀ (_u:Unit),(if uplB ⟨l,n,b,s⟩ t=false then(⟨404,[],⟨l,n,b,s⟩⟩:TA)
    else if m=zjG then(⟨200,UH (getU l (idV t)),⟨l,n,b,s⟩⟩:TA)
    else if m=zdL then yG ⟨l,n,b,s⟩ (getU l (idV t)) f body
    else if m=zjV then UO ⟨l,n,b,s⟩ (getU l (idV t))
    else(⟨405,[],⟨l,n,b,s⟩⟩:TA))=⟨st,fs,⟨l',n',b',s'⟩⟩→Ok Tryz.prog X (fun o h=>o=AOut.pan (C.ifc 73 true [P.int IntKind.i64 st,P.list U.fld fs,P.list U.byte []])∧h=[HO.obj 78 [C.ptr 1 0,C.p (P.str m),C.p (P.str t),C.p (P.int IntKind.i64 mi),C.p (P.list U.fld f),C.p (P.int IntKind.i64 le)],HO.pack [HO.obj 48 [C.ptr 1 0,C.ptr 2 0],HO.pack [HO.obj 90 [C.row 1,C.p (P.int IntKind.i64 n')],HO.row U.upl 67 l'],HO.pack [HO.obj 104 [C.row 1,C.p (P.int IntKind.i64 s')],HO.row U.byte 5 b']]]) (go I tab { cfgT with seam:=[3,10],keep:=some [0,1,4,5,7,55]} [uJ,uI,zY,zX,zJ,zI,zU,zT,yZ,yY,yX,yV,xM,xK,uH,uG,Vu,Vt,ZN,ZM,rQ,rP] [⟨xP Tryz.f29,finK I tab { cfgT with seam:=[3,10],keep:=some [0,1,4,5,7,55]} 2 Tryz.f29⟩] 0 [1,1,1,1,0] ⟨[(0,.v (.one (.ptr 0 0))),(1,.v (.one (.p (.list .byte body))))],[.obj 78 [(.ptr 1 0),(.p (.str m)),(.p (.str t)),(.p (.int .i64 mi)),(.p (.list .fld f)),(.p (.int .i64 le))],.pack [.obj 48 [(.ptr 1 0),(.ptr 2 0)],.pack [.obj 90 [(.row 1),(.p (.int .i64 n))],.row .upl 67 l],.pack [.obj 104 [(.row 1),(.p (.int .i64 s))],.row .byte 5 b]]],84,none⟩):=by
    intro _ hr
    refine zh (let y0:=I.hid (α:=Int) (Go.Ab.Upl.id (getU l (idV t)));let y1:=I.hid (α:=(List UInt8)) (Go.Ab.Upl.bytes (getU l (idV t)));let y2:=I.hid (α:=Int) (Go.Ab.Upl.size (getU l (idV t)));let y3:=I.hid (α:=(List UInt8)) (Go.Ab.Upl.note (getU l (idV t)));let y4:=I.hid (α:=Int) (Go.Ab.Upl.sent (getU l (idV t)));let y5:=I.hid (α:=Int) (wrtC l n b (Go.Ab.Ent.mk (4:Int) y0 (0:Int) ([]:List UInt8)));let y6:=I.hid (α:=(List UInt8)) ([]:List UInt8);let y7:=I.hid (α:=(List UInt8)) (wrtB l n b (Go.Ab.Ent.mk (4:Int) y0 (0:Int) ([]:List UInt8)));let y8:=I.hid (α:=(List Go.Ab.Upl)) (wrtL l n b (Go.Ab.Ent.mk (4:Int) y0 (0:Int) ([]:List UInt8)));let y9:=I.hid (α:=Int) (wrtN l n b (Go.Ab.Ent.mk (4:Int) y0 (0:Int) ([]:List UInt8)));let y10:=I.hid (α:=(List Go.Ab.Fld)) ([]:List Go.Ab.Fld);.br (I.hid (α:=Bool) (uplB (Sto.mk l n b s) t)) (.need (I.hid (α:=(Prop)) (And (zy l n) (Eq (uplB (Sto.mk l n b s) t) Bool.true))) (.br (I.seq m (Array.toList (List.toArray ([72,69,65,68]:List UInt8)))) (.need (I.hid (α:=(Prop)) (And (LT.lt y2 (1000000000:Int)) (LT.lt (List.length y1) 1000000))) (.fin (.pan (.ifc 73 .true [(.int .i64 200),(.list .fld (I.hid (α:=(List Go.Ab.Fld)) (UH (Go.Ab.Upl.mk y0 y2 y3 y1 y4)))),(.list .byte y6)])) [(.obj 78 [(.ptr 1 0),(.p (.str m)),(.p (.str t)),(.p (.int .i64 mi)),(.p (.list .fld f)),(.p (.int .i64 le))]),(.pack [(.obj 48 [(.ptr 1 0),(.ptr 2 0)]),(.pack [(.obj 90 [(.row 1),(.p (.int .i64 n))]),(.row .upl 67 l)]),(.pack [(.obj 104 [(.row 1),(.p (.int .i64 s))]),(.row .byte 5 b)])])])) (.br (I.seq m (Array.toList (List.toArray ([80,65,84,67,72]:List UInt8)))) (.need (I.hid (α:=(Prop)) (And (FOk f) (And (zy l n) (And (LE.le n (200000:Int)) (And (LE.le (List.length b) 100000) (And (LE.le (List.length body) 100000) (And (LE.le (List.length y1) 1000000) (LE.le y2 (1000000:Int))))))))) (.fin (.pan (.ifc 73 .true [(.int .i64 (I.hid (α:=Int) (TA.st (yG (Sto.mk l n b s) (Go.Ab.Upl.mk y0 y2 y3 y1 y4) f body)))),(.list .fld (I.hid (α:=(List Go.Ab.Fld)) (TA.fs (yG (Sto.mk l n b s) (Go.Ab.Upl.mk y0 y2 y3 y1 y4) f body)))),(.list .byte y6)])) [(.obj 78 [(.ptr 1 0),(.p (.str m)),(.p (.str t)),(.p (.int .i64 mi)),(.p (.list .fld f)),(.p (.int .i64 le))]),(.pack [(.obj 48 [(.ptr 1 0),(.ptr 2 0)]),(.pack [(.obj 90 [(.row 1),(.p (.int .i64 (I.hid (α:=Int) (Sto.n (TA.q (yG (Sto.mk l n b s) (Go.Ab.Upl.mk y0 y2 y3 y1 y4) f body))))))]),(.row .upl 67 (I.hid (α:=(List Go.Ab.Upl)) (Sto.l (TA.q (yG (Sto.mk l n b s) (Go.Ab.Upl.mk y0 y2 y3 y1 y4) f body)))))]),(.pack [(.obj 104 [(.row 1),(.p (.int .i64 (I.hid (α:=Int) (Sto.s (TA.q (yG (Sto.mk l n b s) (Go.Ab.Upl.mk y0 y2 y3 y1 y4) f body))))))]),(.row .byte 5 (I.hid (α:=(List UInt8)) (Sto.b (TA.q (yG (Sto.mk l n b s) (Go.Ab.Upl.mk y0 y2 y3 y1 y4) f body)))))])])])) (.br (I.seq m (Array.toList (List.toArray ([68,69,76,69,84,69]:List UInt8)))) (.need (I.hid (α:=(Prop)) (And (zy l n) (And (LE.le n (200000:Int)) (LE.le (List.length b) 100000)))) (.br (I.hid (α:=Bool) (Decidable.decide (Eq y5 (0:Int)))) (.need (I.hid (α:=(Prop)) (Eq y5 (0:Int))) (.need (I.hid (α:=(Prop)) True) (.need (I.hid (α:=(Prop)) True) (.fin (.pan (.ifc 73 .true [(.int .i64 204),(.list .fld ([]:List Go.Ab.Fld)),(.list .byte y6)])) [(.obj 78 [(.ptr 1 0),(.p (.str m)),(.p (.str t)),(.p (.int .i64 mi)),(.p (.list .fld f)),(.p (.int .i64 le))]),(.pack [(.obj 48 [(.ptr 1 0),(.ptr 2 0)]),(.pack [(.obj 90 [(.row 1),(.p (.int .i64 y9))]),(.row .upl 67 y8)]),(.pack [(.obj 104 [(.row 1),(.p (.int .i64 (I.hid (α:=Int) (Nat.cast (List.length y7)))))]),(.row .byte 5 y7)])])])))) (.need (I.hid (α:=(Prop)) (Not (Eq y5 (0:Int)))) (.fin (.pan (.ifc 73 .true [(.int .i64 (I.hid (α:=Int) (uK y5))),(.list .fld y10),(.list .byte y6)])) [(.obj 78 [(.ptr 1 0),(.p (.str m)),(.p (.str t)),(.p (.int .i64 mi)),(.p (.list .fld f)),(.p (.int .i64 le))]),(.pack [(.obj 48 [(.ptr 1 0),(.ptr 2 0)]),(.pack [(.obj 90 [(.row 1),(.p (.int .i64 y9))]),(.row .upl 67 y8)]),(.pack [(.obj 104 [(.row 1),(.p (.int .i64 s))]),(.row .byte 5 y7)])])])))) (.need (I.hid (α:=(Prop)) True) (.fin (.pan (.ifc 73 .true [(.int .i64 405),(.list .fld ([]:List Go.Ab.Fld)),(.list .byte y6)])) [(.obj 78 [(.ptr 1 0),(.p (.str m)),(.p (.str t)),(.p (.int .i64 mi)),(.p (.list .fld f)),(.p (.int .i64 le))]),(.pack [(.obj 48 [(.ptr 1 0),(.ptr 2 0)]),(.pack [(.obj 90 [(.row 1),(.p (.int .i64 n))]),(.row .upl 67 l)]),(.pack [(.obj 104 [(.row 1),(.p (.int .i64 s))]),(.row .byte 5 b)])])])))))) (.need (I.hid (α:=(Prop)) (And (zy l n) (Eq (uplB (Sto.mk l n b s) t) Bool.false))) (.fin (.pan (.ifc 73 .true [(.int .i64 404),(.list .fld y10),(.list .byte y6)])) [(.obj 78 [(.ptr 1 0),(.p (.str m)),(.p (.str t)),(.p (.int .i64 mi)),(.p (.list .fld f)),(.p (.int .i64 le))]),(.pack [(.obj 48 [(.ptr 1 0),(.ptr 2 0)]),(.pack [(.obj 90 [(.row 1),(.p (.int .i64 n))]),(.row .upl 67 l)]),(.pack [(.obj 104 [(.row 1),(.p (.int .i64 s))]),(.row .byte 5 b)])])]))) (by kernel_rfl) ?_
    simp only [zl]
    subst hI
    unfold zjG zdL zjV at hr
    unfold UO wsC wsS syS at hr
    try simp only at hr
    simp only [nrmA,nrmB,nrlB,reduceCtorEq,HO.pack.injEq,HO.obj.injEq]
    generalize getU l (idV t)=u at *
    obtain⟨ui,uz,uo,ub,us⟩:=u
    try simp only at *
    by_cases hd1:uplB ⟨l,n,b,s⟩ t=false
    · rw [if_pos hd1] at hr
      simp only [TA.mk.injEq,Sto.mk.injEq] at hr
      obtain⟨q1,q2,q3,q4,q5,q6⟩:=hr
      subst q1 q2 q3 q4 q5 q6
      try simp only [nrmA,nrmB,nrlB,reduceCtorEq,HO.pack.injEq,HO.obj.injEq,decide_true,decide_false,Bool.true_eq_false,Bool.false_eq_true,forall_const,false_implies,true_implies,not_true_eq_false,not_false_eq_true,hd1]
      (repeat' (first|refine And.intro ?_ ?_|intro _))<;>first|omega|exact True.intro|exact False.elim ‹False›|skip
      all_goals first
        |with_reducible rfl
        |with_reducible assumption
        |omega
        |exact hs
        |exact hf.1
        |(exact(hf.2 _ ‹_›).1)
        |(exact(hf.2 _ ‹_›).2)
        |exact⟨hf,by decide⟩
        |exact⟨⟨hf,by decide⟩,by assumption⟩
        |(simp only [List.length_cons,List.length_nil];omega)
        |(exfalso;simp_all;done)
        |trace_state
    rw [if_neg hd1] at hr
    try simp only [Bool.not_eq_false,ne_eq,Decidable.not_not] at hd1
    try simp only [nrmA,nrmB,nrlB,reduceCtorEq,HO.pack.injEq,HO.obj.injEq,decide_true,decide_false,Bool.true_eq_false,Bool.false_eq_true,forall_const,false_implies,true_implies,not_true_eq_false,not_false_eq_true,hd1]
    by_cases hd2:m=[72,69,65,68]
    · rw [if_pos hd2] at hr
      simp only [TA.mk.injEq,Sto.mk.injEq] at hr
      obtain⟨q1,q2,q3,q4,q5,q6⟩:=hr
      subst q1 q2 q3 q4 q5 q6
      try simp only [nrmA,nrmB,nrlB,reduceCtorEq,HO.pack.injEq,HO.obj.injEq,decide_true,decide_false,Bool.true_eq_false,Bool.false_eq_true,forall_const,false_implies,true_implies,not_true_eq_false,not_false_eq_true,hd2]
      (repeat' (first|refine And.intro ?_ ?_|intro _))<;>first|omega|exact True.intro|exact False.elim ‹False›|skip
      all_goals first
        |with_reducible rfl
        |with_reducible assumption
        |omega
        |exact hs
        |exact hf.1
        |(exact(hf.2 _ ‹_›).1)
        |(exact(hf.2 _ ‹_›).2)
        |exact⟨hf,by decide⟩
        |exact⟨⟨hf,by decide⟩,by assumption⟩
        |(simp only [List.length_cons,List.length_nil];omega)
        |(exfalso;simp_all;done)
        |trace_state
    rw [if_neg hd2] at hr
    try simp only [Bool.not_eq_false,ne_eq,Decidable.not_not] at hd2
    try simp only [nrmA,nrmB,nrlB,reduceCtorEq,HO.pack.injEq,HO.obj.injEq,decide_true,decide_false,Bool.true_eq_false,Bool.false_eq_true,forall_const,false_implies,true_implies,not_true_eq_false,not_false_eq_true,hd2]
    by_cases hd3:m=[80,65,84,67,72]
    · rw [if_pos hd3] at hr
      simp only [nrmA,nrmB,nrlB,reduceCtorEq,HO.pack.injEq,HO.obj.injEq,decide_true,decide_false,Bool.true_eq_false,Bool.false_eq_true,forall_const,false_implies,true_implies,not_true_eq_false,not_false_eq_true,hd3,hr]
      (repeat' (first|refine And.intro ?_ ?_|intro _))<;>first|omega|exact True.intro|exact False.elim ‹False›|skip
      all_goals first
        |with_reducible rfl
        |with_reducible assumption
        |omega
        |exact hs
        |exact hf.1
        |(exact(hf.2 _ ‹_›).1)
        |(exact(hf.2 _ ‹_›).2)
        |exact⟨hf,by decide⟩
        |exact⟨⟨hf,by decide⟩,by assumption⟩
        |(simp only [List.length_cons,List.length_nil];omega)
        |(exfalso;simp_all;done)
        |trace_state
    rw [if_neg hd3] at hr
    try simp only [Bool.not_eq_false,ne_eq,Decidable.not_not] at hd3
    try simp only [nrmA,nrmB,nrlB,reduceCtorEq,HO.pack.injEq,HO.obj.injEq,decide_true,decide_false,Bool.true_eq_false,Bool.false_eq_true,forall_const,false_implies,true_implies,not_true_eq_false,not_false_eq_true,hd3]
    by_cases hd:m=[68,69,76,69,84,69]
    · rw [if_pos hd] at hr
      by_cases h1:wrtC l n b ⟨4,ui,0,[]⟩=0
      · rw [if_neg (fun h=>h h1)] at hr
        simp only [TA.mk.injEq,Sto.mk.injEq] at hr
        obtain⟨q1,q2,q3,q4,q5,q6⟩:=hr
        subst q1 q2 q3 q4 q5 q6
        simp only [nrmA,nrmB,nrlB,reduceCtorEq,HO.pack.injEq,HO.obj.injEq,decide_true,decide_false,Bool.true_eq_false,Bool.false_eq_true,forall_const,false_implies,true_implies,not_true_eq_false,not_false_eq_true,hd,h1]
        (repeat' (first|refine And.intro ?_ ?_|intro _))<;>first|omega|exact True.intro|exact False.elim ‹False›|skip
        all_goals first
          |with_reducible rfl
          |with_reducible assumption
          |omega
          |exact hs
          |exact hf.1
          |(exact(hf.2 _ ‹_›).1)
          |(exact(hf.2 _ ‹_›).2)
          |exact⟨hf,by decide⟩
          |exact⟨⟨hf,by decide⟩,by assumption⟩
          |(simp only [List.length_cons,List.length_nil];omega)
          |(exfalso;simp_all;done)
          |trace_state
      · rw [if_pos h1] at hr
        simp only [TA.mk.injEq,Sto.mk.injEq] at hr
        obtain⟨q1,q2,q3,q4,q5,q6⟩:=hr
        subst q1 q2 q3 q4 q5 q6
        have e1:wrtL l n b ⟨4,ui,0,[]⟩=l:=by simp only [wrtL,if_neg h1]
        have e2:wrtN l n b ⟨4,ui,0,[]⟩=n:=by simp only [wrtN,if_neg h1]
        have e3:wrtB l n b ⟨4,ui,0,[]⟩=b:=by simp only [wrtB,if_neg h1]
        try rw [e1,e2,e3]
        simp only [nrmA,nrmB,nrlB,reduceCtorEq,HO.pack.injEq,HO.obj.injEq,decide_true,decide_false,Bool.true_eq_false,Bool.false_eq_true,forall_const,false_implies,true_implies,not_true_eq_false,not_false_eq_true,hd,h1]
        (repeat' (first|refine And.intro ?_ ?_|intro _))<;>first|omega|exact True.intro|exact False.elim ‹False›|skip
        all_goals first
          |with_reducible rfl
          |with_reducible assumption
          |omega
          |exact hs
          |exact hf.1
          |(exact(hf.2 _ ‹_›).1)
          |(exact(hf.2 _ ‹_›).2)
          |exact⟨hf,by decide⟩
          |exact⟨⟨hf,by decide⟩,by assumption⟩
          |(simp only [List.length_cons,List.length_nil];omega)
          |(exfalso;simp_all;done)
          |trace_state
    · rw [if_neg hd] at hr
      simp only [TA.mk.injEq,Sto.mk.injEq] at hr
      obtain⟨q1,q2,q3,q4,q5,q6⟩:=hr
      subst q1 q2 q3 q4 q5 q6
      simp only [nrmA,nrmB,nrlB,reduceCtorEq,HO.pack.injEq,HO.obj.injEq,decide_true,decide_false,Bool.true_eq_false,Bool.false_eq_true,forall_const,false_implies,true_implies,not_true_eq_false,not_false_eq_true,hd]
      (repeat' (first|refine And.intro ?_ ?_|intro _))<;>first|omega|exact True.intro|exact False.elim ‹False›|skip
      all_goals first
        |with_reducible rfl
        |with_reducible assumption
        |omega
        |exact hs
        |exact hf.1
        |(exact(hf.2 _ ‹_›).1)
        |(exact(hf.2 _ ‹_›).2)
        |exact⟨hf,by decide⟩
        |exact⟨⟨hf,by decide⟩,by assumption⟩
        |(simp only [List.length_cons,List.length_nil];omega)
        |(exfalso;simp_all;done)
        |trace_state
  have key3: ∀ (q:Bool),q=decide (t=uU)→(if(oneT f zbZ).2=9 then(⟨400,[],⟨l,n,b,s⟩⟩:TA)
    else if(oneT f zbZ).1≠verS then(⟨412,[⟨zf9,verS⟩],⟨l,n,b,s⟩⟩:TA)
    else if t=uU then(if m≠zk1 then(⟨405,[],⟨l,n,b,s⟩⟩:TA) else zO ⟨l,n,b,s⟩ f)
    else(if uplB ⟨l,n,b,s⟩ t=false then(⟨404,[],⟨l,n,b,s⟩⟩:TA)
    else if m=zjG then(⟨200,UH (getU l (idV t)),⟨l,n,b,s⟩⟩:TA)
    else if m=zdL then yG ⟨l,n,b,s⟩ (getU l (idV t)) f body
    else if m=zjV then UO ⟨l,n,b,s⟩ (getU l (idV t))
    else(⟨405,[],⟨l,n,b,s⟩⟩:TA)))=⟨st,fs,⟨l',n',b',s'⟩⟩→Ok Tryz.prog X (fun o h=>o=AOut.pan (C.ifc 73 true [P.int IntKind.i64 st,P.list U.fld fs,P.list U.byte []])∧h=[HO.obj 78 [C.ptr 1 0,C.p (P.str m),C.p (P.str t),C.p (P.int IntKind.i64 mi),C.p (P.list U.fld f),C.p (P.int IntKind.i64 le)],HO.pack [HO.obj 48 [C.ptr 1 0,C.ptr 2 0],HO.pack [HO.obj 90 [C.row 1,C.p (P.int IntKind.i64 n')],HO.row U.upl 67 l'],HO.pack [HO.obj 104 [C.row 1,C.p (P.int IntKind.i64 s')],HO.row U.byte 5 b']]]) (go I tab { cfgT with seam:=[3,10],keep:=some [0,1,4,5,7,55]} [uJ,uI,zY,zX,zJ,zI,zU,zT,yZ,yY,yX,yV,xM,xK,uH,uG,Vu,Vt,ZN,ZM,rQ,rP] [⟨xP Tryz.f29,finK I tab { cfgT with seam:=[3,10],keep:=some [0,1,4,5,7,55]} 2 Tryz.f29⟩] 0 [1,1,0,0] ⟨[(0,.v (.one (.ptr 0 0))),(1,.v (.one (.p (.list .byte body)))),(4,.v (.one (.p (.bool q))))],[.obj 78 [(.ptr 1 0),(.p (.str m)),(.p (.str t)),(.p (.int .i64 mi)),(.p (.list .fld f)),(.p (.int .i64 le))],.pack [.obj 48 [(.ptr 1 0),(.ptr 2 0)],.pack [.obj 90 [(.row 1),(.p (.int .i64 n))],.row .upl 67 l],.pack [.obj 104 [(.row 1),(.p (.int .i64 s))],.row .byte 5 b]]],84,none⟩):=by
    intro q hq hr
    refine zh (let y0:=I.hid (α:=(List UInt8)) (Prod.fst (oneT f (Array.toList (List.toArray ([116,117,115,45,114,101,115,117,109,97,98,108,101]:List UInt8)))));let y1:=I.hid (α:=(List UInt8)) ([]:List UInt8);.br (I.hid (α:=Bool) (Decidable.decide (Eq (Prod.snd (oneT f (Array.toList (List.toArray ([116,117,115,45,114,101,115,117,109,97,98,108,101]:List UInt8))))) (9:Int)))) (.need (I.hid (α:=(Prop)) (And (And (FOk f) (LE.le (List.length (Array.toList (List.toArray ([116,117,115,45,114,101,115,117,109,97,98,108,101]:List UInt8)))) 1000000)) (Eq (Prod.snd (oneT f (Array.toList (List.toArray ([116,117,115,45,114,101,115,117,109,97,98,108,101]:List UInt8))))) (9:Int)))) (.fin (.pan (.ifc 73 .true [(.int .i64 400),(.list .fld (I.hid (α:=(List Go.Ab.Fld)) ([]:List Go.Ab.Fld))),(.list .byte y1)])) [(.obj 78 [(.ptr 1 0),(.p (.str m)),(.p (.str t)),(.p (.int .i64 mi)),(.p (.list .fld f)),(.p (.int .i64 le))]),(.pack [(.obj 48 [(.ptr 1 0),(.ptr 2 0)]),(.pack [(.obj 90 [(.row 1),(.p (.int .i64 n))]),(.row .upl 67 l)]),(.pack [(.obj 104 [(.row 1),(.p (.int .i64 s))]),(.row .byte 5 b)])])])) (.need (I.hid (α:=(Prop)) (And (And (FOk f) (LE.le (List.length (Array.toList (List.toArray ([116,117,115,45,114,101,115,117,109,97,98,108,101]:List UInt8)))) 1000000)) (Not (Eq (Prod.snd (oneT f (Array.toList (List.toArray ([116,117,115,45,114,101,115,117,109,97,98,108,101]:List UInt8))))) (9:Int))))) (.br (I.bnot (I.seq y0 (Array.toList (List.toArray ([49,46,48,46,48]:List UInt8))))) (.need (I.hid (α:=(Prop)) True) (.need (I.hid (α:=(Prop)) True) (.fin (.pan (.ifc 73 .true [(.int .i64 412),(.list .fld ([(Go.Ab.Fld.mk (Array.toList (List.toArray ([84,117,115,45,86,101,114,115,105,111,110]:List UInt8))) (Array.toList (List.toArray ([49,46,48,46,48]:List UInt8))))]:List Go.Ab.Fld)),(.list .byte y1)])) [(.obj 78 [(.ptr 1 0),(.p (.str m)),(.p (.str t)),(.p (.int .i64 mi)),(.p (.list .fld f)),(.p (.int .i64 le))]),(.pack [(.obj 48 [(.ptr 1 0),(.ptr 2 0)]),(.pack [(.obj 90 [(.row 1),(.p (.int .i64 n))]),(.row .upl 67 l)]),(.pack [(.obj 104 [(.row 1),(.p (.int .i64 s))]),(.row .byte 5 b)])])]))) (.br q (.br (I.bnot (I.seq m (Array.toList (List.toArray ([80,79,83,84]:List UInt8))))) (.need (I.hid (α:=(Prop)) True) (.fin (.pan (.ifc 73 .true [(.int .i64 405),(.list .fld ([]:List Go.Ab.Fld)),(.list .byte y1)])) [(.obj 78 [(.ptr 1 0),(.p (.str m)),(.p (.str t)),(.p (.int .i64 mi)),(.p (.list .fld f)),(.p (.int .i64 le))]),(.pack [(.obj 48 [(.ptr 1 0),(.ptr 2 0)]),(.pack [(.obj 90 [(.row 1),(.p (.int .i64 n))]),(.row .upl 67 l)]),(.pack [(.obj 104 [(.row 1),(.p (.int .i64 s))]),(.row .byte 5 b)])])])) (.need (I.hid (α:=(Prop)) (And (FOk f) (And (zy l n) (And (LE.le n (200000:Int)) (LE.le (List.length b) 100000))))) (.fin (.pan (.ifc 73 .true [(.int .i64 (I.hid (α:=Int) (TA.st (zO (Sto.mk l n b s) f)))),(.list .fld (I.hid (α:=(List Go.Ab.Fld)) (TA.fs (zO (Sto.mk l n b s) f)))),(.list .byte y1)])) [(.obj 78 [(.ptr 1 0),(.p (.str m)),(.p (.str t)),(.p (.int .i64 mi)),(.p (.list .fld f)),(.p (.int .i64 le))]),(.pack [(.obj 48 [(.ptr 1 0),(.ptr 2 0)]),(.pack [(.obj 90 [(.row 1),(.p (.int .i64 (I.hid (α:=Int) (Sto.n (TA.q (zO (Sto.mk l n b s) f))))))]),(.row .upl 67 (I.hid (α:=(List Go.Ab.Upl)) (Sto.l (TA.q (zO (Sto.mk l n b s) f)))))]),(.pack [(.obj 104 [(.row 1),(.p (.int .i64 (I.hid (α:=Int) (Sto.s (TA.q (zO (Sto.mk l n b s) f))))))]),(.row .byte 5 (I.hid (α:=(List UInt8)) (Sto.b (TA.q (zO (Sto.mk l n b s) f)))))])])]))) (.code 0 [1,1,1,1,0] ⟨[(5,(.v (.one (.p (.str y0))))),(0,(.v (.one (.ptr 0 0)))),(1,(.v (.one (.p (.list .byte body))))),(4,(.v (.one (.p (.bool q)))))],[(.obj 78 [(.ptr 1 0),(.p (.str m)),(.p (.str t)),(.p (.int .i64 mi)),(.p (.list .fld f)),(.p (.int .i64 le))]),(.pack [(.obj 48 [(.ptr 1 0),(.ptr 2 0)]),(.pack [(.obj 90 [(.row 1),(.p (.int .i64 n))]),(.row .upl 67 l)]),(.pack [(.obj 104 [(.row 1),(.p (.int .i64 s))]),(.row .byte 5 b)])])],84,none⟩))))) (by kernel_rfl) ?_
    simp only [zl]
    subst hI
    rw [show([116,117,115,45,114,101,115,117,109,97,98,108,101]:Str)=zbZ from rfl]
    unfold verS zk1 at hr
    unfold zf9 at hr
    have htl:zbZ.length≤1000000:=by decide
    simp only [nrmA,nrmB,nrlB,reduceCtorEq,HO.pack.injEq,HO.obj.injEq]
    generalize oneT f zbZ=oc at *
    obtain⟨ov,oc⟩:=oc
    try simp only at *
    by_cases hd4:oc=9
    · rw [if_pos hd4] at hr
      simp only [TA.mk.injEq,Sto.mk.injEq] at hr
      obtain⟨q1,q2,q3,q4,q5,q6⟩:=hr
      subst q1 q2 q3 q4 q5 q6
      try simp only [nrmA,nrmB,nrlB,reduceCtorEq,HO.pack.injEq,HO.obj.injEq,decide_true,decide_false,Bool.true_eq_false,Bool.false_eq_true,forall_const,false_implies,true_implies,not_true_eq_false,not_false_eq_true,hd4]
      (repeat' (first|refine And.intro ?_ ?_|intro _))<;>first|omega|exact True.intro|exact False.elim ‹False›|skip
      all_goals first
        |with_reducible rfl
        |with_reducible assumption
        |omega
        |exact hs
        |exact hf.1
        |(exact(hf.2 _ ‹_›).1)
        |(exact(hf.2 _ ‹_›).2)
        |exact⟨hf,by decide⟩
        |exact⟨⟨hf,by decide⟩,by assumption⟩
        |(simp only [List.length_cons,List.length_nil];omega)
        |(exfalso;simp_all;done)
        |trace_state
    rw [if_neg hd4] at hr
    try simp only [Bool.not_eq_false,ne_eq,Decidable.not_not] at hd4
    try simp only [nrmA,nrmB,nrlB,reduceCtorEq,HO.pack.injEq,HO.obj.injEq,decide_true,decide_false,Bool.true_eq_false,Bool.false_eq_true,forall_const,false_implies,true_implies,not_true_eq_false,not_false_eq_true,hd4]
    by_cases hd5:ov≠[49,46,48,46,48]
    · rw [if_pos hd5] at hr
      simp only [TA.mk.injEq,Sto.mk.injEq] at hr
      obtain⟨q1,q2,q3,q4,q5,q6⟩:=hr
      subst q1 q2 q3 q4 q5 q6
      try simp only [nrmA,nrmB,nrlB,reduceCtorEq,HO.pack.injEq,HO.obj.injEq,decide_true,decide_false,Bool.true_eq_false,Bool.false_eq_true,forall_const,false_implies,true_implies,not_true_eq_false,not_false_eq_true,hd5]
      (repeat' (first|refine And.intro ?_ ?_|intro _))<;>first|omega|exact True.intro|exact False.elim ‹False›|skip
      all_goals first
        |with_reducible rfl
        |with_reducible assumption
        |omega
        |exact hs
        |exact hf.1
        |(exact(hf.2 _ ‹_›).1)
        |(exact(hf.2 _ ‹_›).2)
        |exact⟨hf,by decide⟩
        |exact⟨⟨hf,by decide⟩,by assumption⟩
        |(simp only [List.length_cons,List.length_nil];omega)
        |(exfalso;simp_all;done)
        |trace_state
    rw [if_neg hd5] at hr
    try simp only [Bool.not_eq_false,ne_eq,Decidable.not_not] at hd5
    try simp only [nrmA,nrmB,nrlB,reduceCtorEq,HO.pack.injEq,HO.obj.injEq,decide_true,decide_false,Bool.true_eq_false,Bool.false_eq_true,forall_const,false_implies,true_implies,not_true_eq_false,not_false_eq_true,hd5]
    by_cases hff:t=uU
    · rw [if_pos hff] at hr
      rw [decide_eq_true hff] at hq
      subst hq
      simp only [nrmA,nrmB,nrlB,reduceCtorEq,HO.pack.injEq,HO.obj.injEq,decide_true,decide_false,Bool.true_eq_false,Bool.false_eq_true,forall_const,false_implies,true_implies,not_true_eq_false,not_false_eq_true]
      by_cases hd6:m≠[80,79,83,84]
      · rw [if_pos hd6] at hr
        simp only [TA.mk.injEq,Sto.mk.injEq] at hr
        obtain⟨q1,q2,q3,q4,q5,q6⟩:=hr
        subst q1 q2 q3 q4 q5 q6
        try simp only [nrmA,nrmB,nrlB,reduceCtorEq,HO.pack.injEq,HO.obj.injEq,decide_true,decide_false,Bool.true_eq_false,Bool.false_eq_true,forall_const,false_implies,true_implies,not_true_eq_false,not_false_eq_true,hd6]
        (repeat' (first|refine And.intro ?_ ?_|intro _))<;>first|omega|exact True.intro|exact False.elim ‹False›|skip
        all_goals first
          |with_reducible rfl
          |with_reducible assumption
          |omega
          |exact hs
          |exact hf.1
          |(exact(hf.2 _ ‹_›).1)
          |(exact(hf.2 _ ‹_›).2)
          |exact⟨hf,by decide⟩
          |exact⟨⟨hf,by decide⟩,by assumption⟩
          |(simp only [List.length_cons,List.length_nil];omega)
          |(exfalso;simp_all;done)
          |trace_state
      rw [if_neg hd6] at hr
      try simp only [Bool.not_eq_false,ne_eq,Decidable.not_not] at hd6
      try simp only [nrmA,nrmB,nrlB,reduceCtorEq,HO.pack.injEq,HO.obj.injEq,decide_true,decide_false,Bool.true_eq_false,Bool.false_eq_true,forall_const,false_implies,true_implies,not_true_eq_false,not_false_eq_true,hd6]
      simp only [nrmA,nrmB,nrlB,reduceCtorEq,HO.pack.injEq,HO.obj.injEq,decide_true,decide_false,Bool.true_eq_false,Bool.false_eq_true,forall_const,false_implies,true_implies,not_true_eq_false,not_false_eq_true,hr]
      (repeat' (first|refine And.intro ?_ ?_|intro _))<;>first|omega|exact True.intro|exact False.elim ‹False›|skip
      all_goals first
        |with_reducible rfl
        |with_reducible assumption
        |omega
        |exact hs
        |exact hf.1
        |(exact(hf.2 _ ‹_›).1)
        |(exact(hf.2 _ ‹_›).2)
        |exact⟨hf,by decide⟩
        |exact⟨⟨hf,by decide⟩,by assumption⟩
        |(simp only [List.length_cons,List.length_nil];omega)
        |(exfalso;simp_all;done)
        |trace_state
    · rw [if_neg hff] at hr
      rw [decide_eq_false hff] at hq
      subst hq
      simp only [nrmA,nrmB,nrlB,reduceCtorEq,HO.pack.injEq,HO.obj.injEq,decide_true,decide_false,Bool.true_eq_false,Bool.false_eq_true,forall_const,false_implies,true_implies,not_true_eq_false,not_false_eq_true]
      (repeat' (first|refine And.intro ?_ ?_|intro _))<;>first|omega|exact True.intro|exact False.elim ‹False›|skip
      all_goals first
        |((with_reducible show Ok _ _ _ _);(try(exfalso;omega));exact seam rfl zi mixed [uJ,uI,zY,zX,zJ,zI,zU,zT,yZ,yY,yX,yV,xM,xK,uH,uG,Vu,Vt,ZN,ZM,rQ,rP] hX [0,1] ⟨[(0,.v (.one (.ptr 0 0))),(1,.v (.one (.p (.list .byte body))))],[.obj 78 [(.ptr 1 0),(.p (.str m)),(.p (.str t)),(.p (.int .i64 mi)),(.p (.list .fld f)),(.p (.int .i64 le))],.pack [.obj 48 [(.ptr 1 0),(.ptr 2 0)],.pack [.obj 90 [(.row 1),(.p (.int .i64 n))],.row .upl 67 l],.pack [.obj 104 [(.row 1),(.p (.int .i64 s))],.row .byte 5 b]]],84,none⟩ (by kernel_rfl) (key10 () hr))
        |with_reducible rfl
        |with_reducible assumption
        |omega
        |exact hs
        |exact hf.1
        |(exact(hf.2 _ ‹_›).1)
        |(exact(hf.2 _ ‹_›).2)
        |exact⟨hf,by decide⟩
        |exact⟨⟨hf,by decide⟩,by assumption⟩
        |(simp only [List.length_cons,List.length_nil];omega)
        |(exfalso;simp_all;done)
        |trace_state
  clear key10
  subst hI
  unfold zmJ zf9 verS zl0 zl2 zl1 at hr
  rw [show([47,102,105,108,101,115]:Str)=uU from rfl]
  simp only [nrmA,nrmB,nrlB,reduceCtorEq,HO.pack.injEq,HO.obj.injEq]
  by_cases hd7:t=uU∧m=[79,80,84,73,79,78,83]
  · rw [if_pos hd7] at hr
    simp only [TA.mk.injEq,Sto.mk.injEq] at hr
    obtain⟨q1,q2,q3,q4,q5,q6⟩:=hr
    subst q1 q2 q3 q4 q5 q6
    try simp only [nrmA,nrmB,nrlB,reduceCtorEq,HO.pack.injEq,HO.obj.injEq,decide_true,decide_false,Bool.true_eq_false,Bool.false_eq_true,forall_const,false_implies,true_implies,not_true_eq_false,not_false_eq_true,hd7]
    (repeat' (first|refine And.intro ?_ ?_|intro _))<;>first|omega|exact True.intro|exact False.elim ‹False›|skip
    all_goals first
      |with_reducible rfl
      |with_reducible assumption
      |omega
      |exact hs
      |exact hf.1
      |(exact(hf.2 _ ‹_›).1)
      |(exact(hf.2 _ ‹_›).2)
      |exact⟨hf,by decide⟩
      |exact⟨⟨hf,by decide⟩,by assumption⟩
      |(simp only [List.length_cons,List.length_nil];omega)
      |(exfalso;simp_all;done)
      |trace_state
  rw [if_neg hd7] at hr
  try simp only [Bool.not_eq_false,ne_eq,Decidable.not_not] at hd7
  try simp only [nrmA,nrmB,nrlB,reduceCtorEq,HO.pack.injEq,HO.obj.injEq,decide_true,decide_false,Bool.true_eq_false,Bool.false_eq_true,forall_const,false_implies,true_implies,not_true_eq_false,not_false_eq_true,hd7]
  have hbeq:(t == uU)=decide (t=uU):=by rw [Bool.eq_iff_iff];simp
  (repeat' (first|refine And.intro ?_ ?_|intro _))<;>first|omega|exact True.intro|exact False.elim ‹False›|skip
  all_goals first
    |((with_reducible show Ok _ _ _ _);(try(exfalso;omega));exact seam rfl zi mixed [uJ,uI,zY,zX,zJ,zI,zU,zT,yZ,yY,yX,yV,xM,xK,uH,uG,Vu,Vt,ZN,ZM,rQ,rP] hX [0,1,4] ⟨[(0,.v (.one (.ptr 0 0))),(1,.v (.one (.p (.list .byte body)))),(4,.v (.one (.p (.bool ((t == uU))))))],[.obj 78 [(.ptr 1 0),(.p (.str m)),(.p (.str t)),(.p (.int .i64 mi)),(.p (.list .fld f)),(.p (.int .i64 le))],.pack [.obj 48 [(.ptr 1 0),(.ptr 2 0)],.pack [.obj 90 [(.row 1),(.p (.int .i64 n))],.row .upl 67 l],.pack [.obj 104 [(.row 1),(.p (.int .i64 s))],.row .byte 5 b]]],84,none⟩ (by kernel_rfl) (key3 _ hbeq hr))
    |with_reducible rfl
    |with_reducible assumption
    |omega
    |exact hs
    |exact hf.1
    |(exact(hf.2 _ ‹_›).1)
    |(exact(hf.2 _ ‹_›).2)
    |exact⟨hf,by decide⟩
    |exact⟨⟨hf,by decide⟩,by assumption⟩
    |(simp only [List.length_cons,List.length_nil];omega)
    |(exfalso;simp_all;done)
    |trace_state
def ZO (I:Alg) (args:List D) (hp:List HO):Option CT:=match args,hp with
  |[.v (.one (.ptr 0 0)),.v (.one (.p (.list .byte body)))],[.obj 78 [(.ptr 1 0),(.p (.str m)),(.p (.str t)),(.p (.int .i64 mi)),(.p (.list .fld f)),(.p (.int .i64 le))],.pack [.obj 48 [(.ptr 1 0),(.ptr 2 0)],.pack [.obj 90 [(.row 1),(.p (.int .i64 n))],.row .upl 67 l],.pack [.obj 104 [(.row 1),(.p (.int .i64 s))],.row .byte 5 b]]]=>(fun(m t:Str) (mi:Int) (f:List Fld) (le:Int) (l:List Upl) (n:Int) (b:Str) (s:Int) (body:Str)=>(some (.one ⟨I.hid (FOk f∧zy l n∧n≤200000∧b.length≤100000∧body.length≤100000),(.pan (.ifc 73 true [(.int .i64 (I.hid ((zB ⟨l,n,b,s⟩ m t f body).st))),(.list .fld (I.hid ((zB ⟨l,n,b,s⟩ m t f body).fs))),(.list .byte (I.hid ([])))])),[.obj 78 [(.ptr 1 0),(.p (.str m)),(.p (.str t)),(.p (.int .i64 mi)),(.p (.list .fld f)),(.p (.int .i64 le))],.pack [.obj 48 [(.ptr 1 0),(.ptr 2 0)],.pack [.obj 90 [(.row 1),(.p (.int .i64 (I.hid ((zB ⟨l,n,b,s⟩ m t f body).q.n))))],.row .upl 67 (I.hid ((zB ⟨l,n,b,s⟩ m t f body).q.l))],.pack [.obj 104 [(.row 1),(.p (.int .i64 (I.hid ((zB ⟨l,n,b,s⟩ m t f body).q.s))))],.row .byte 5 (I.hid ((zB ⟨l,n,b,s⟩ m t f body).q.b))]]]⟩):Option CT)) m t mi f le l n b s body
  |_,_=>none
theorem zal:zo Tryz.prog 29 (ZO alg):=by
  intro args hp r h
  unfold ZO at h
  split at h
  · cases h;exact fun hn=>zkH _ _ _ _ _ _ _ _ _ _ hn
  · cases h
def zgg:Know Tryz.prog:=⟨29,ZO,zal⟩
def zgf:Know Tryz.prog:=⟨29,fun I=>zu I (ZO I),zf zal⟩
end Go.Proofs.YtcclfkakcgnacaaGreatDoor
namespace Go.Proofs.YtcclfkakcgnacaaGreatDoor
open Go Go.Sep Go.Ab
set_option maxRecDepth 100000
theorem te {c:Prop} [Decidable c] {a b:TA} (ha:a.fs.length≤4) (hb:b.fs.length≤4):(if c then a else b).fs.length≤4:=by split<;>assumption
theorem ze8 (q:Sto) (m t:Str) (f:List Fld) (body:Str):(zB q m t f body).fs.length≤4:=by
  have h1:(zO q f).fs.length≤4:=by
    unfold zO
    repeat' split
    all_goals simp
  have h2: ∀ u,(yG q u f body).fs.length≤4:=fun u=>by
    unfold yG
    repeat' refine te ?_ ?_
    all_goals simp
  have h3: ∀ u,(UO q u).fs.length≤4:=fun u=>by unfold UO;split<;>simp
  have h4: ∀ u,(UH u).length≤4:=fun u=>by unfold UH;split<;>simp
  unfold zB
  repeat' split
  all_goals first|exact h1|exact h2 _|exact h3 _|exact h4 _|simp
theorem zmc (m t:Str) (mi:Int) (f:List Fld) (le:Int) (l:List Upl) (n:Int) (b:Str) (s st:Int) (fs:List Fld) (hfs:fs.length≤1000):SpcD Tryz.prog 27 [.ptr 2 0] (.pan (.ifc 73 true [.int .i64 st,.list .fld fs,.list .byte []])) [.pack [.obj 48 [.ptr 1 0,.ptr 2 0],.pack [.obj 90 [.row 1,.p (.int .i64 n)],.row .upl 67 l],.pack [.obj 104 [.row 1,.p (.int .i64 s)],.row .byte 5 b]],.obj 35 [.p (.str m),.p (.str t),.p (.int .i64 mi),.p (.list .fld f),.p (.int .i64 le)],.obj 32 [.p (.int .i64 0),.nilS,.nilS],.obj 78 [.ptr 0 0,.p (.str m),.p (.str t),.p (.int .i64 mi),.p (.list .fld f),.p (.int .i64 le)]] .ret [.pack [.obj 48 [.ptr 1 0,.ptr 2 0],.pack [.obj 90 [.row 1,.p (.int .i64 n)],.row .upl 67 l],.pack [.obj 104 [.row 1,.p (.int .i64 s)],.row .byte 5 b]],.pack [.obj 35 [.p (.str m),.p (.str t),.p (.int .i64 mi),.p (.list .fld f),.p (.int .i64 le)]],.pack [.obj 32 [.p (.int .i64 st),.row 1,.p (.list .byte [])],.row .fld 58 (resT::fs)],.obj 78 [.ptr 0 0,.p (.str m),.p (.str t),.p (.int .i64 mi),.p (.list .fld f),.p (.int .i64 le)]]:=by
  refine YV zi mixed Tryz.func27 (by kernel_rfl) cfgT [zU,zT] (rest:=_) rfl (by kernel_rfl) ?_
  intro I X hI hX
  refine zh (let y0:=I.few (I.add (I.len (α:=Go.Ab.Fld) ([(Go.Ab.Fld.mk (Array.toList (List.toArray ([84,117,115,45,82,101,115,117,109,97,98,108,101]:List UInt8))) (Array.toList (List.toArray ([49,46,48,46,48]:List UInt8))))]:List Go.Ab.Fld)) (I.len (α:=Go.Ab.Fld) fs)) 100000000;.both (.need (I.hid (α:=(Prop)) True) (.both (.need y0 (.fin (.ret (.tup [])) [(.pack [(.obj 48 [(.ptr 1 0),(.ptr 2 0)]),(.pack [(.obj 90 [(.row 1),(.p (.int .i64 n))]),(.row .upl 67 l)]),(.pack [(.obj 104 [(.row 1),(.p (.int .i64 s))]),(.row .byte 5 b)])]),(.pack [(.obj 35 [(.p (.str m)),(.p (.str t)),(.p (.int .i64 mi)),(.p (.list .fld f)),(.p (.int .i64 le))])]),(.pack [(.obj 32 [(.p (.int .i64 st)),(.row 1),(.p (.list .byte ([]:List UInt8)))]),(.row .fld 58 (I.app (α:=Go.Ab.Fld) ([(Go.Ab.Fld.mk (Array.toList (List.toArray ([84,117,115,45,82,101,115,117,109,97,98,108,101]:List UInt8))) (Array.toList (List.toArray ([49,46,48,46,48]:List UInt8))))]:List Go.Ab.Fld) fs))]),(.obj 78 [(.ptr 0 0),(.p (.str m)),(.p (.str t)),(.p (.int .i64 mi)),(.p (.list .fld f)),(.p (.int .i64 le))])])) (.need y0 (.fin (.ret (.tup [])) [(.pack [(.obj 48 [(.ptr 1 0),(.ptr 2 0)]),(.pack [(.obj 90 [(.row 1),(.p (.int .i64 n))]),(.row .upl 67 l)]),(.pack [(.obj 104 [(.row 1),(.p (.int .i64 s))]),(.row .byte 5 b)])]),(.pack [(.obj 35 [(.p (.str m)),(.p (.str t)),(.p (.int .i64 mi)),(.p (.list .fld f)),(.p (.int .i64 le))])]),(.pack [(.obj 32 [(.p (.int .i64 st)),(.row 1),(.p (.list .byte ([]:List UInt8)))]),(.row .fld 58 (I.app (α:=Go.Ab.Fld) ([(Go.Ab.Fld.mk (Array.toList (List.toArray ([84,117,115,45,82,101,115,117,109,97,98,108,101]:List UInt8))) (Array.toList (List.toArray ([49,46,48,46,48]:List UInt8))))]:List Go.Ab.Fld) fs))]),(.obj 78 [(.ptr 0 0),(.p (.str m)),(.p (.str t)),(.p (.int .i64 mi)),(.p (.list .fld f)),(.p (.int .i64 le))])])))) (.need (I.hid (α:=(Prop)) True) (.need y0 (.fin (.ret (.tup [])) [(.pack [(.obj 48 [(.ptr 1 0),(.ptr 2 0)]),(.pack [(.obj 90 [(.row 1),(.p (.int .i64 n))]),(.row .upl 67 l)]),(.pack [(.obj 104 [(.row 1),(.p (.int .i64 s))]),(.row .byte 5 b)])]),(.pack [(.obj 35 [(.p (.str m)),(.p (.str t)),(.p (.int .i64 mi)),(.p (.list .fld f)),(.p (.int .i64 le))])]),(.pack [(.obj 32 [(.p (.int .i64 st)),(.row 1),(.p (.list .byte ([]:List UInt8)))]),(.row .fld 58 (I.app (α:=Go.Ab.Fld) ([(Go.Ab.Fld.mk (Array.toList (List.toArray ([84,117,115,45,82,101,115,117,109,97,98,108,101]:List UInt8))) (Array.toList (List.toArray ([49,46,48,46,48]:List UInt8))))]:List Go.Ab.Fld) fs))]),(.obj 78 [(.ptr 0 0),(.p (.str m)),(.p (.str t)),(.p (.int .i64 mi)),(.p (.list .fld f)),(.p (.int .i64 le))])])))) (by kernel_rfl) ?_
  simp only [zl]
  subst hI
  simp only [nrmA,nrmB,nrlB,reduceCtorEq,HO.pack.injEq,HO.obj.injEq,List.length_cons,List.length_nil,List.cons_append,List.nil_append]
  unfold resT ziZ verS
  (repeat' (first|refine And.intro ?_ ?_|intro _))<;>first|omega|exact True.intro|exact False.elim ‹False›|skip
  all_goals first|omega|trivial|rfl|trace_state
def znD:Door Tryz.prog where
  g:=27
  c :=fun _ m caps hp=>match m,caps,hp with
    |.pan (.ifc 73 true [.int .i64 st,.list .fld fs,.list .byte bb]),[.ptr 2 0],[.pack [.obj 48 [.ptr 1 0,.ptr 2 0],.pack [.obj 90 [.row 1,.p (.int .i64 n)],.row .upl 67 l],.pack [.obj 104 [.row 1,.p (.int .i64 s)],.row .byte 5 b]],.obj 35 [.p (.str m),.p (.str t),.p (.int .i64 mi),.p (.list .fld f),.p (.int .i64 le)],.obj 32 [.p (.int .i64 z0),.nilS,.nilS],.obj 78 [.ptr 0 0,.p (.str m1),.p (.str t1),.p (.int .i64 mi1),.p (.list .fld f1),.p (.int .i64 le1)]]=>some (fs.length≤1000∧bb=[]∧z0=0∧m1=m∧t1=t∧mi1=mi∧f1=f∧le1=le,.ret,[.pack [.obj 48 [.ptr 1 0,.ptr 2 0],.pack [.obj 90 [.row 1,.p (.int .i64 n)],.row .upl 67 l],.pack [.obj 104 [.row 1,.p (.int .i64 s)],.row .byte 5 b]],.pack [.obj 35 [.p (.str m),.p (.str t),.p (.int .i64 mi),.p (.list .fld f),.p (.int .i64 le)]],.pack [.obj 32 [.p (.int .i64 st),.row 1,.p (.list .byte [])],.row .fld 58 (resT::fs)],.obj 78 [.ptr 0 0,.p (.str m),.p (.str t),.p (.int .i64 mi),.p (.list .fld f),.p (.int .i64 le)]])
    |_,_,_=>none
  ok:=by
    intro m caps hp p m' hp' h hp1
    split at h
    · cases h
      obtain⟨h1,rfl,rfl,rfl,rfl,rfl,rfl,rfl⟩:=hp1
      exact zmc _ _ _ _ _ _ _ _ _ _ _ h1
    · cases h
theorem tDo_ (m t:Str) (mi:Int) (f:List Fld) (le:Int) (l:List Upl) (n:Int) (b:Str) (s:Int) (body:Str) (hneed:FOk f∧zy l n∧n≤200000∧b.length≤100000∧body.length≤100000):Spc Tryz.prog 10 [.v (.one (.ptr 0 0)),.v (.agg [(.p (.str m)),(.p (.str t)),(.p (.int .i64 mi)),(.p (.list .fld f)),(.p (.int .i64 le))]),.v (.one (.p (.list .byte body)))] [.pack [.obj 48 [(.ptr 1 0),(.ptr 2 0)],.pack [.obj 90 [(.row 1),(.p (.int .i64 n))],.row .upl 67 l],.pack [.obj 104 [(.row 1),(.p (.int .i64 s))],.row .byte 5 b]]] (.ret (.v (.agg [(.p (.int .i64 ((zB ⟨l,n,b,s⟩ m t f body).st))),(.p (.list .fld ((resT::(zB ⟨l,n,b,s⟩ m t f body).fs)))),(.p (.list .byte ([])))]))) [.pack [.obj 48 [(.ptr 1 0),(.ptr 2 0)],.pack [.obj 90 [(.row 1),(.p (.int .i64 ((zB ⟨l,n,b,s⟩ m t f body).q.n)))],.row .upl 67 ((zB ⟨l,n,b,s⟩ m t f body).q.l)],.pack [.obj 104 [(.row 1),(.p (.int .i64 ((zB ⟨l,n,b,s⟩ m t f body).q.s)))],.row .byte 5 ((zB ⟨l,n,b,s⟩ m t f body).q.b)]]]:=by
  have hfew:=ze8 ⟨l,n,b,s⟩ m t f body
  generalize hr:zB ⟨l,n,b,s⟩ m t f body=r at hfew
  obtain⟨st,fs,⟨l',n',b',s'⟩⟩:=r
  refine zme zi mixed Tryz.func10 (by kernel_rfl) { cfgT with keep:=some [0,1,2,4,6,7]} [zgg,zgf] znD (by kernel_rfl) ?_
  intro I X hI hX
  refine zh (let y0:=I.hid (α:=(List Go.Ab.Fld)) (TA.fs (zB (Sto.mk l n b s) m t f body));.need (I.hid (α:=(Prop)) (And (FOk f) (And (zy l n) (And (LE.le n (200000:Int)) (And (LE.le (List.length b) 100000) (LE.le (List.length body) 100000)))))) (.need (And (LE.le (List.length y0) 1000) (And (Eq (I.hid (α:=(List UInt8)) ([]:List UInt8)) ([]:List UInt8)) (And (Eq (0:Int) (0:Int)) (And (Eq m m) (And (Eq t t) (And (Eq mi mi) (And (Eq f f) (Eq le le)))))))) (.fin (.ret (.v (.agg [(.p (.int .i64 (I.hid (α:=Int) (TA.st (zB (Sto.mk l n b s) m t f body))))),(.p (.list .fld (resT::y0))),(.p (.list .byte ([]:List UInt8)))]))) [(.pack [(.obj 48 [(.ptr 1 0),(.ptr 2 0)]),(.pack [(.obj 90 [(.row 1),(.p (.int .i64 (I.hid (α:=Int) (Sto.n (TA.q (zB (Sto.mk l n b s) m t f body))))))]),(.row .upl 67 (I.hid (α:=(List Go.Ab.Upl)) (Sto.l (TA.q (zB (Sto.mk l n b s) m t f body)))))]),(.pack [(.obj 104 [(.row 1),(.p (.int .i64 (I.hid (α:=Int) (Sto.s (TA.q (zB (Sto.mk l n b s) m t f body))))))]),(.row .byte 5 (I.hid (α:=(List UInt8)) (Sto.b (TA.q (zB (Sto.mk l n b s) m t f body)))))])])]))) (by kernel_rfl) ?_
  simp only [zl]
  subst hI
  simp only at hfew
  simp only [nrmA,nrmB,nrlB,reduceCtorEq,V0.agg.injEq,HO.pack.injEq,HO.obj.injEq]
  simp only [hr]
  (repeat' (first|refine And.intro ?_ ?_|intro _))<;>first|omega|exact True.intro|exact False.elim ‹False›|skip
  all_goals first|omega|rfl|assumption|exact hneed.2.1|exact hneed.1.1|(exact(hneed.1.2 _ ‹_›).1)|(exact(hneed.1.2 _ ‹_›).2)|trace_state
def zdj (I:Alg) (args:List D) (hp:List HO):Option CT:=match args,hp with
  |[.v (.one (.ptr 0 0)),.v (.agg [(.p (.str m)),(.p (.str t)),(.p (.int .i64 mi)),(.p (.list .fld f)),(.p (.int .i64 le))]),.v (.one (.p (.list .byte body)))],[.pack [.obj 48 [(.ptr 1 0),(.ptr 2 0)],.pack [.obj 90 [(.row 1),(.p (.int .i64 n))],.row .upl 67 l],.pack [.obj 104 [(.row 1),(.p (.int .i64 s))],.row .byte 5 b]]]=>(fun(m t:Str) (mi:Int) (f:List Fld) (le:Int) (l:List Upl) (n:Int) (b:Str) (s:Int) (body:Str)=>(some (.one ⟨I.hid (FOk f∧zy l n∧n≤200000∧b.length≤100000∧body.length≤100000),(.ret (.v (.agg [(.p (.int .i64 (I.hid ((zB ⟨l,n,b,s⟩ m t f body).st)))),(.p (.list .fld (I.hid ((resT::(zB ⟨l,n,b,s⟩ m t f body).fs))))),(.p (.list .byte (I.hid ([]))))]))),[.pack [.obj 48 [(.ptr 1 0),(.ptr 2 0)],.pack [.obj 90 [(.row 1),(.p (.int .i64 (I.hid ((zB ⟨l,n,b,s⟩ m t f body).q.n))))],.row .upl 67 (I.hid ((zB ⟨l,n,b,s⟩ m t f body).q.l))],.pack [.obj 104 [(.row 1),(.p (.int .i64 (I.hid ((zB ⟨l,n,b,s⟩ m t f body).q.s))))],.row .byte 5 (I.hid ((zB ⟨l,n,b,s⟩ m t f body).q.b))]]]⟩):Option CT)) m t mi f le l n b s body
  |_,_=>none
theorem zka:zo Tryz.prog 10 (zdj alg):=by
  intro args hp r h
  unfold zdj at h
  split at h
  · cases h;exact fun hn=>tDo_ _ _ _ _ _ _ _ _ _ _ hn
  · cases h
def zar:Know Tryz.prog:=⟨10,zdj,zka⟩
def zaq:Know Tryz.prog:=⟨10,fun I=>zu I (zdj I),zf zka⟩
def zg3 (t:Str):Bool:=decide (t=uU)||Lib.hasPrefix t vC
theorem zl9 (t:Str) (hneed:t.length≤1000000):Spc Tryz.prog 17 [.v (.one (.p (.str t)))] [] (.ret (.v (.one (.p (.bool ((zg3 t))))))) []:=by
  generalize hr:zg3 t=r
  unfold zg3 at hr
  refine spcG zi mixed Tryz.func17 (by kernel_rfl) { cfgT with keep:=some [0,2]} [zbb,zba] (by kernel_rfl) ?_
  intro I X hI hX
  refine zh (.br (I.seq t (Array.toList (List.toArray ([47,102,105,108,101,115]:List UInt8)))) (.fin (.ret (.v (.one (.p (.bool Bool.true))))) []) (.need (I.hid (α:=(Prop)) True) (.fin (.ret (.v (.one (.p (.bool (I.hid (α:=Bool) (Go.Lib.hasPrefix t (Array.toList (List.toArray ([47,102,105,108,101,115,47]:List UInt8)))))))))) []))) (by kernel_rfl) ?_
  simp only [zl]
  subst hI
  rw [show([47,102,105,108,101,115]:Str)=uU from rfl]
  try rw [show([47,102,105,108,101,115,47]:Str)=vC from rfl]
  simp only [nrmA,nrmB,nrlB,reduceCtorEq,V0.agg.injEq]
  by_cases h1:t=uU
  · rw [decide_eq_true h1,Bool.true_or] at hr
    subst hr
    simp only [nrmA,nrmB,nrlB,reduceCtorEq,h1]
    (repeat' (first|refine And.intro ?_ ?_|intro _))<;>first|omega|exact True.intro|exact False.elim ‹False›|skip
    all_goals first|omega|rfl|assumption|(simp_all;done)|trace_state
  · rw [decide_eq_false h1,Bool.false_or] at hr
    simp only [nrmA,nrmB,nrlB,reduceCtorEq,h1]
    (repeat' (first|refine And.intro ?_ ?_|intro _))<;>first|omega|exact True.intro|exact False.elim ‹False›|skip
    all_goals first|omega|rfl|assumption|(simp_all;done)|trace_state
def XZ (I:Alg) (args:List D) (hp:List HO):Option CT:=match args,hp with
  |[.v (.one (.p (.str t)))],[]=>(fun(t:Str)=>(some (.one ⟨I.hid (t.length≤1000000),(.ret (.v (.one (.p (.bool (I.hid ((zg3 t)))))))),[]⟩):Option CT)) t
  |_,_=>none
theorem zdh:zo Tryz.prog 17 (XZ alg):=by
  intro args hp r h
  unfold XZ at h
  split at h
  · cases h;exact fun hn=>zl9 _ hn
  · cases h
def zi4:Know Tryz.prog:=⟨17,XZ,zdh⟩
def zi3:Know Tryz.prog:=⟨17,fun I=>zu I (XZ I),zf zdh⟩
end Go.Proofs.YtcclfkakcgnacaaGreatDoor
namespace Go.Proofs.YtcclfkakcgnacaaGreatDoor
open Go Go.Sep Go.Ab
set_option maxRecDepth 100000
def askN (x:Ab.Ask):Int:=x.body.length+x.h.target.length+x.h.method.length
def askG:Nat→Int→List Ab.Ask→Bool × Int
  |0,n,_=>(false,n)
  |_+1,n,[]=>(false,n)
  |k+1,n,x::r=>if uS x.h.fields=true then(true,n) else askG k (n+askN x) r
def YB (l:List Ab.Ask):Bool:=(askG 200 0 l).1||(decide (100<l.length)||decide (20000<(askG 200 0 l).2))
def AskW (x:Ab.Ask):Prop:=x.body.length≤140737488355328∧x.h.target.length≤140737488355328∧x.h.method.length≤140737488355328∧∀ f ∈ x.h.fields,f.name.length≤140737488355328∧f.value.length≤140737488355328
theorem zlr (l:List Ab.Ask) (hneed:l.length≤140737488355328∧∀ x ∈ l,AskW x):Spc Tryz.prog 7 [.v (.one (.p (.list .ask l)))] [] (.ret (.v (.one (.p (.bool (YB l)))))) []:=by
  obtain⟨hlen,hw⟩:=hneed
  generalize hr:YB l=r
  refine spcG zi mixed Tryz.func7 (by kernel_rfl) { keep:=some [0,2,3,4]} [zen,zem] (by kernel_rfl) ?_
  intro I X hI hX
  refine zh (.code 0 [1,1,0,1,0] ⟨[(4,(.v (.one (.p (.int .i64 0))))),(3,(.v (.one (.p (.int .i64 0))))),(2,(.v (.one (.p (.val (.bool .false)))))),(0,(.v (.one (.p (.list .ask l)))))],[],53,none⟩) (by kernel_rfl) ?_
  simp only [zl]
  refine zA hI zi mixed [zen,zem] hX [0,3,4] (fun(g:Nat × Int)=>match g with|(i,n)=>i≤l.length∧i≤200∧0≤n∧n≤(i:Int) * 422212465065984∧askG (200 - i) n (l.drop i)=askG 200 0 l) (fun(g:Nat × Int)=>match g with|(i,n)=>⟨[(0,.v (.one (.p (.list .ask l)))),(3,.v (.one (.p (.int .i64 n)))),(4,.v (.one (.p (.int .i64 i))))],[],53,none⟩) (fun(g:Nat × Int)=>match g with|(i,n)=>l.length - i) (0,0) (by kernel_rfl) (by kernel_rfl) ?_ ?_
  · exact⟨Nat.zero_le _,by omega,by omega,by omega,rfl⟩
  rintro⟨i,n⟩ ⟨h1,h2,h3,h4,h5⟩ A hA
  simp only at hA h3 h4
  refine zh (.br (I.ilt (Nat.cast i) (I.len (α:=Go.Ab.Ask) l)) (.br (I.ilt (Nat.cast i) 200) (.need (I.inb (Nat.cast i) (I.len (α:=Go.Ab.Ask) l)) (.need (I.inb (Nat.cast i) (I.len (α:=Go.Ab.Ask) l)) (.need (I.inb (Nat.cast i) (I.len (α:=Go.Ab.Ask) l)) (.need (I.inb (Nat.cast i) (I.len (α:=Go.Ab.Ask) l)) (.need (I.inr Go.IntKind.i64 (I.add (I.len (α:=UInt8) (Go.Ab.Ask.body (I.get (α:=Go.Ab.Ask) l (Go.Ab.Ask.mk (Go.Ab.Hd.mk ([]:List UInt8) ([]:List UInt8) (0:Int) ([]:List Go.Ab.Fld) (0:Int)) ([]:List UInt8)) (Nat.cast i)))) (I.len (α:=UInt8) (Go.Ab.Hd.target (Go.Ab.Ask.h (I.get (α:=Go.Ab.Ask) l (Go.Ab.Ask.mk (Go.Ab.Hd.mk ([]:List UInt8) ([]:List UInt8) (0:Int) ([]:List Go.Ab.Fld) (0:Int)) ([]:List UInt8)) (Nat.cast i))))))) (.need (I.inb (Nat.cast i) (I.len (α:=Go.Ab.Ask) l)) (.need (I.inb (Nat.cast i) (I.len (α:=Go.Ab.Ask) l)) (.need (I.inr Go.IntKind.i64 (I.add (I.add (I.len (α:=UInt8) (Go.Ab.Ask.body (I.get (α:=Go.Ab.Ask) l (Go.Ab.Ask.mk (Go.Ab.Hd.mk ([]:List UInt8) ([]:List UInt8) (0:Int) ([]:List Go.Ab.Fld) (0:Int)) ([]:List UInt8)) (Nat.cast i)))) (I.len (α:=UInt8) (Go.Ab.Hd.target (Go.Ab.Ask.h (I.get (α:=Go.Ab.Ask) l (Go.Ab.Ask.mk (Go.Ab.Hd.mk ([]:List UInt8) ([]:List UInt8) (0:Int) ([]:List Go.Ab.Fld) (0:Int)) ([]:List UInt8)) (Nat.cast i)))))) (I.len (α:=UInt8) (Go.Ab.Hd.method (Go.Ab.Ask.h (I.get (α:=Go.Ab.Ask) l (Go.Ab.Ask.mk (Go.Ab.Hd.mk ([]:List UInt8) ([]:List UInt8) (0:Int) ([]:List Go.Ab.Fld) (0:Int)) ([]:List UInt8)) (Nat.cast i))))))) (.need (I.inr Go.IntKind.i64 (I.add n (I.add (I.add (I.len (α:=UInt8) (Go.Ab.Ask.body (I.get (α:=Go.Ab.Ask) l (Go.Ab.Ask.mk (Go.Ab.Hd.mk ([]:List UInt8) ([]:List UInt8) (0:Int) ([]:List Go.Ab.Fld) (0:Int)) ([]:List UInt8)) (Nat.cast i)))) (I.len (α:=UInt8) (Go.Ab.Hd.target (Go.Ab.Ask.h (I.get (α:=Go.Ab.Ask) l (Go.Ab.Ask.mk (Go.Ab.Hd.mk ([]:List UInt8) ([]:List UInt8) (0:Int) ([]:List Go.Ab.Fld) (0:Int)) ([]:List UInt8)) (Nat.cast i)))))) (I.len (α:=UInt8) (Go.Ab.Hd.method (Go.Ab.Ask.h (I.get (α:=Go.Ab.Ask) l (Go.Ab.Ask.mk (Go.Ab.Hd.mk ([]:List UInt8) ([]:List UInt8) (0:Int) ([]:List Go.Ab.Fld) (0:Int)) ([]:List UInt8)) (Nat.cast i)))))))) (.need (I.inb (Nat.cast i) (I.len (α:=Go.Ab.Ask) l)) (.need (I.inb (Nat.cast i) (I.len (α:=Go.Ab.Ask) l)) (.need (I.hid (α:=(Prop)) (∀ (f:Fld),
    f ∈ (I.get l (dflt U.ask) ↑i).h.fields→List.length f.name≤140737488355328∧List.length f.value≤140737488355328)) (.br (I.hid (α:=Bool) (Go.Proofs.YtcclfkakcgnacaaGreatDoor.uS (Go.Ab.Hd.fields (Go.Ab.Ask.h (I.get (α:=Go.Ab.Ask) l (Go.Ab.Ask.mk (Go.Ab.Hd.mk ([]:List UInt8) ([]:List UInt8) (0:Int) ([]:List Go.Ab.Fld) (0:Int)) ([]:List UInt8)) (Nat.cast i)))))) (.fin (.ret (.v (.one (.p (.bool Bool.true))))) []) (.need (I.inr Go.IntKind.i64 (I.add (Nat.cast i) 1)) (.need (A ⟨[(0,(.v (.one (.p (.list .ask l))))),(3,(.v (.one (.p (.int .i64 (I.add n (I.add (I.add (I.len (α:=UInt8) (Go.Ab.Ask.body (I.get (α:=Go.Ab.Ask) l (Go.Ab.Ask.mk (Go.Ab.Hd.mk ([]:List UInt8) ([]:List UInt8) (0:Int) ([]:List Go.Ab.Fld) (0:Int)) ([]:List UInt8)) (Nat.cast i)))) (I.len (α:=UInt8) (Go.Ab.Hd.target (Go.Ab.Ask.h (I.get (α:=Go.Ab.Ask) l (Go.Ab.Ask.mk (Go.Ab.Hd.mk ([]:List UInt8) ([]:List UInt8) (0:Int) ([]:List Go.Ab.Fld) (0:Int)) ([]:List UInt8)) (Nat.cast i)))))) (I.len (α:=UInt8) (Go.Ab.Hd.method (Go.Ab.Ask.h (I.get (α:=Go.Ab.Ask) l (Go.Ab.Ask.mk (Go.Ab.Hd.mk ([]:List UInt8) ([]:List UInt8) (0:Int) ([]:List Go.Ab.Fld) (0:Int)) ([]:List UInt8)) (Nat.cast i)))))))))))),(4,(.v (.one (.p (.int .i64 (I.add (Nat.cast i) 1))))))],[],53,none⟩) .qed))))))))))))))) (.br (I.ilt 100 (I.len (α:=Go.Ab.Ask) l)) (.fin (.ret (.v (.one (.p (.bool Bool.true))))) []) (.fin (.ret (.v (.one (.p (.bool (I.ilt 20000 n)))))) []))) (.br (I.ilt 100 (I.len (α:=Go.Ab.Ask) l)) (.fin (.ret (.v (.one (.p (.bool Bool.true))))) []) (.fin (.ret (.v (.one (.p (.bool (I.ilt 20000 n)))))) []))) (by kernel_rfl) ?_
  simp only [zl]
  subst hI
  simp only [nrmA,nrmB]
  have hx:i<l.length→AskW (l.getD i ⟨⟨[],[],0,[],0⟩,[]⟩):=fun h=>hw _ (by
    rw [show l.getD i ⟨⟨[],[],0,[],0⟩,[]⟩=l[i] by simp [h]]
    exact List.getElem_mem h)
  have hx0:i<l.length→AskW (l.getD i (dflt U.ask)):=hx
  have hd:i<l.length→i<200→askG (200 - i) n (l.drop i)=if uS (l.getD i ⟨⟨[],[],0,[],0⟩,[]⟩).h.fields=true then(true,n) else askG (200 - (i+1)) (n+askN (l.getD i ⟨⟨[],[],0,[],0⟩,[]⟩)) (l.drop (i+1)):=fun h h'=>by
    rw [List.drop_eq_getElem_cons h,show 200 - i=(200 - (i+1))+1 by omega,askG];simp [h]
  have hend: ¬ i<l.length→(false,n)=askG 200 0 l:=fun h=>by
    rw [← h5,List.drop_of_length_le (by omega)]
    cases 200 - i<;>rfl
  have hend2: ¬ i<200→(false,n)=askG 200 0 l:=fun h=>by
    rw [← h5,show 200 - i=0 by omega];rfl
  generalize l.getD i ⟨⟨[],[],0,[],0⟩,[]⟩=x at *
  unfold askN at hd
  unfold YB at hr
  (repeat' (first|refine And.intro ?_ ?_|intro _))<;>first|omega|exact True.intro|exact False.elim ‹False›|skip
  all_goals first
    |(have:=hx (by omega);unfold AskW at this;omega)
    |(rename_i hm;exact((hx0 (by omega)).2.2.2 _ hm).1)
    |(rename_i hm;exact((hx0 (by omega)).2.2.2 _ hm).2)
    |(rw [← hr,← h5,hd (by omega) (by omega),if_pos (by assumption)];rfl)
    | (have hq:=hx (by omega)
       unfold AskW at hq
       rw [hd (by omega) (by omega),if_neg (by rw [‹uS x.h.fields=false›];exact Bool.false_ne_true)] at h5
       exact hA (i+1,n+((x.body.length:Int)+x.h.target.length+x.h.method.length)) ⟨by simp only;omega,by simp only;omega,by simp only;omega,by simp only;omega,h5⟩ (by simp only;omega))
    |(rw [← hr,← hend (by omega)];simp only [Bool.false_or];rw [decide_eq_true (by omega),Bool.true_or];done)
    |(rw [← hr,← hend (by omega)];simp only [Bool.false_or];rw [decide_eq_false (p:=100<l.length) (by omega),Bool.false_or];done)
    |(rw [← hr,← hend2 (by omega)];simp only [Bool.false_or];rw [decide_eq_true (by omega),Bool.true_or];done)
    |(rw [← hr,← hend2 (by omega)];simp only [Bool.false_or];rw [decide_eq_false (p:=100<l.length) (by omega),Bool.false_or];done)
    |trace_state
def YA (I:Alg) (args:List D) (hp:List HO):Option CT:=match args,hp with
  |[.v (.one (.p (.list .ask l)))],[]=>(fun(l:List Ab.Ask)=>(some (.one ⟨I.hid (l.length≤140737488355328∧∀ x ∈ l,AskW x),(.ret (.v (.one (.p (.bool (I.hid (YB l))))))),[]⟩):Option CT)) l
  |_,_=>none
theorem zbg:zo Tryz.prog 7 (YA alg):=by
  intro args hp r h
  unfold YA at h
  split at h
  · cases h;exact fun hn=>zlr _ hn
  · cases h
def Yz:Know Tryz.prog:=⟨7,YA,zbg⟩
def Yy:Know Tryz.prog:=⟨7,fun I=>zu I (YA I),zf zbg⟩
end Go.Proofs.YtcclfkakcgnacaaGreatDoor
namespace Go.Proofs.YtcclfkakcgnacaaGreatDoor
open Go Go.Sep Go.Ab
set_option maxRecDepth 100000
def prs:List Str→List Fld
  |a::b::r=>⟨a,b⟩::prs r
  |_=>[]
def cfgH:Cfg:= { sl:=[⟨35,3,.fld,some 58⟩]}
theorem zn5 (m t:Str) (v:List Str) (hneed:v.length≤1000):Spc Tryz.prog 23 [.v (.one (.p (.str m))),.v (.one (.p (.str t))),.v (.one (.p (.list .str v)))] [] (.ret (.v (.agg [(.p (.str m)),(.p (.str t)),(.p (.int .i64 1)),(.p (.list .fld ((resT::prs v)))),(.p (.int .i64 0))]))) []:=by
  refine spcG zi mixed Tryz.func23 (by kernel_rfl) { cfgH with keep:=some [0,1,2,6,7,8]} [] (by kernel_rfl) ?_
  intro I X hI hX
  refine zh (.code 0 [1,1,0,1,0] ⟨[(8,(.v (.one (.p (.int .i64 0))))),(7,(.v (.one (.ptr 2 0)))),(6,(.v (.one (.ptr 0 0)))),(0,(.v (.one (.p (.str m))))),(1,(.v (.one (.p (.str t))))),(2,(.v (.one (.p (.list .str v)))))],[(.obj 35 [(.p (.str ([]:List UInt8))),(.p (.str ([]:List UInt8))),(.p (.int .i64 0)),.nilS,(.p (.int .i64 0))]),(.row .fld 58 ([(Go.Ab.Fld.mk (Array.toList (List.toArray ([84,117,115,45,82,101,115,117,109,97,98,108,101]:List UInt8))) (Array.toList (List.toArray ([49,46,48,46,48]:List UInt8))))]:List Go.Ab.Fld)),(.obj 35 [(.p (.str m)),(.p (.str t)),(.p (.int .i64 1)),(.row 1),(.p (.int .i64 0))])],37,none⟩) (by kernel_rfl) ?_
  simp only [zl]
  refine zA hI zi mixed [] hX [0,1,2,6,7,8] (fun(g:Nat × List Fld)=>match g with|(j,l)=>2 * j≤v.length∧l.length=j∧prs v=l++prs (v.drop (2 * j))) (fun(g:Nat × List Fld)=>match g with|(j,l)=>⟨[(0,.v (.one (.p (.str m)))),(1,.v (.one (.p (.str t)))),(2,.v (.one (.p (.list .str v)))),(6,.v (.one (.ptr 0 0))),(7,.v (.one (.ptr 1 0))),(8,.v (.one (.p (.int .i64 ((2 * (j:Int)))))))],[.pack [.obj 35 [(.p (.str ([]))),(.p (.str ([]))),(.p (.int .i64 0)),(.row 1),(.p (.int .i64 0))],.row .fld 58 ([])],.pack [.obj 35 [(.p (.str m)),(.p (.str t)),(.p (.int .i64 1)),(.row 1),(.p (.int .i64 0))],.row .fld 58 ((resT::l))]],37,none⟩) (fun(g:Nat × List Fld)=>match g with|(j,l)=>v.length - 2 * j) (0,[]) (by kernel_rfl) (by kernel_rfl) ?_ ?_
  · exact⟨by omega,rfl,rfl⟩
  rintro⟨j,l⟩ ⟨h1,h2,h3⟩ A hA
  simp only at hA
  refine zh (let y0:=I.add (HMul.hMul (2:Int) (Nat.cast j)) 1;let y3:=I.get (α:=(List UInt8)) v ([]:List UInt8) (HMul.hMul (2:Int) (Nat.cast j));let y5:=I.get (α:=(List UInt8)) v ([]:List UInt8) y0;let y1:=I.few (I.add (I.len (α:=Go.Ab.Fld) (resT::l)) (I.len (α:=Go.Ab.Fld) ([(Go.Ab.Fld.mk y3 y5)]:List Go.Ab.Fld))) 100000000;let y2:=I.add (HMul.hMul (2:Int) (Nat.cast j)) 2;let y4:=I.inb (HMul.hMul (2:Int) (Nat.cast j)) (I.len (α:=(List UInt8)) v);let y6:=I.inb y0 (I.len (α:=(List UInt8)) v);.need (I.inr Go.IntKind.i64 y0) (.br (I.ilt y0 (I.len (α:=(List UInt8)) v)) (.need y4 (.need y4 (.need (I.inr Go.IntKind.i64 y0) (.need y6 (.need y6 (.both (.need y1 (.need (I.inr Go.IntKind.i64 y2) (.need (A ⟨[(0,(.v (.one (.p (.str m))))),(1,(.v (.one (.p (.str t))))),(2,(.v (.one (.p (.list .str v))))),(6,(.v (.one (.ptr 0 0)))),(7,(.v (.one (.ptr 1 0)))),(8,(.v (.one (.p (.int .i64 y2)))))],[(.pack [(.obj 35 [(.p (.str ([]:List UInt8))),(.p (.str ([]:List UInt8))),(.p (.int .i64 0)),(.row 1),(.p (.int .i64 0))]),(.row .fld 58 ([]:List Go.Ab.Fld))]),(.pack [(.obj 35 [(.p (.str m)),(.p (.str t)),(.p (.int .i64 1)),(.row 1),(.p (.int .i64 0))]),(.row .fld 58 (I.app (α:=Go.Ab.Fld) (resT::l) ([(Go.Ab.Fld.mk y3 y5)]:List Go.Ab.Fld)))])],37,none⟩) .qed))) (.need y1 (.need (I.inr Go.IntKind.i64 y2) (.need (A ⟨[(0,(.v (.one (.p (.str m))))),(1,(.v (.one (.p (.str t))))),(2,(.v (.one (.p (.list .str v))))),(6,(.v (.one (.ptr 0 0)))),(7,(.v (.one (.ptr 1 0)))),(8,(.v (.one (.p (.int .i64 y2)))))],[(.pack [(.obj 35 [(.p (.str ([]:List UInt8))),(.p (.str ([]:List UInt8))),(.p (.int .i64 0)),(.row 1),(.p (.int .i64 0))]),(.row .fld 58 ([]:List Go.Ab.Fld))]),(.pack [(.obj 35 [(.p (.str m)),(.p (.str t)),(.p (.int .i64 1)),(.row 1),(.p (.int .i64 0))]),(.row .fld 58 (I.app (α:=Go.Ab.Fld) (resT::l) ([(Go.Ab.Fld.mk y3 y5)]:List Go.Ab.Fld)))])],37,none⟩) .qed))))))))) (.fin (.ret (.v (.agg [(.p (.str m)),(.p (.str t)),(.p (.int .i64 1)),(.p (.list .fld (resT::l))),(.p (.int .i64 0))]))) []))) (by kernel_rfl) ?_
  simp only [zl]
  subst hI
  simp only [nrmA,nrmB,nrlB,reduceCtorEq,V0.agg.injEq,HO.pack.injEq,HO.obj.injEq]
  have e1:(2 * (j:Int)).toNat=2 * j:=by omega
  have e2:(2 * (j:Int)+1).toNat=2 * j+1:=by omega
  rw [e1,e2]
  have hstep:2 * j+1<v.length→prs (v.drop (2 * j))=⟨v.getD (2 * j) [],v.getD (2 * j+1) []⟩::prs (v.drop (2 * (j+1))):=fun h=>by
    rw [List.drop_eq_getElem_cons (by omega:2 * j<v.length),List.drop_eq_getElem_cons h,prs]
    simp [show 2 * j<v.length by omega,h,Nat.mul_add]
  have hstop: ¬ 2 * j+1<v.length→l=prs v:=fun h=>by
    rw [h3]
    have:(v.drop (2 * j)).length≤1:=by rw [List.length_drop];omega
    match hq:v.drop (2 * j),this with
    |[],_=>simp [prs]
    |[_],_=>simp [prs]
  generalize v.getD (2 * j) []=x at *
  generalize v.getD (2 * j+1) []=y at *
  have hgo:2 * j+1<v.length→_:=fun h=>hA (j+1,l++[⟨x,y⟩]) ⟨by simp only;omega,by simp only [List.length_append,List.length_cons,List.length_nil];omega,by rw [h3,hstep h];simp⟩ (by simp only;omega)
  simp only at hgo
  (repeat' (first|refine And.intro ?_ ?_|intro _))<;>first|omega|exact True.intro|exact False.elim ‹False›|skip
  all_goals first
    |(simp only [List.length_cons,List.length_nil];omega)
    |exact hstop (by omega)
    |exact hgo (by omega)
    |trace_state
def Qv (I:Alg) (args:List D) (hp:List HO):Option CT:=match args,hp with
  |[.v (.one (.p (.str m))),.v (.one (.p (.str t))),.v (.one (.p (.list .str v)))],[]=>(fun(m t:Str) (v:List Str)=>(some (.one ⟨I.hid (v.length≤1000),(.ret (.v (.agg [(.p (.str m)),(.p (.str t)),(.p (.int .i64 1)),(.p (.list .fld (I.hid ((resT::prs v))))),(.p (.int .i64 0))]))),[]⟩):Option CT)) m t v
  |_,_=>none
theorem zhM:zo Tryz.prog 23 (Qv alg):=by
  intro args hp r h
  unfold Qv at h
  split at h
  · cases h;exact fun hn=>zn5 _ _ _ hn
  · cases h
def zlp:Know Tryz.prog:=⟨23,Qv,zhM⟩
def zlo:Know Tryz.prog:=⟨23,fun I=>zu I (Qv I),zf zhM⟩
end Go.Proofs.YtcclfkakcgnacaaGreatDoor
namespace Go.Proofs.YtcclfkakcgnacaaGreatDoor
open Go Go.Sep Go.Ab
set_option maxRecDepth 100000
def QOk (n0:Int) (q:Sto):Prop:=zy q.l q.n∧q.b.length≤100000∧n0≤q.n∧q.n≤n0+1
theorem te2 {n0:Int} {c:Prop} [Decidable c] {a b:TA} (ha:QOk n0 a.q) (hb:QOk n0 b.q):QOk n0 (if c then a else b).q:=by split<;>assumption
theorem zgT {n0:Int} {q:Sto} {e:Ent} (h:QOk n0 q) (he:e.kind≠1):QOk n0 (wsS q e):=by
  have:=zad (l:=q.l) (n:=q.n) (b:=q.b) he
  refine⟨zfX h.1 _ _,SB _ h.2.1,?_,?_⟩
  · show n0≤wrtN q.l q.n q.b e;rw [this];exact h.2.2.1
  · show wrtN q.l q.n q.b e≤n0+1;rw [this];exact h.2.2.2
theorem wU {q:Sto} (h:zy q.l q.n) (hb:q.b.length≤100000) (m t:Str) (f:List Fld) (body:Str):QOk q.n (zB q m t f body).q:=by
  have h0:QOk q.n q:=⟨h,hb,by omega,by omega⟩
  have hc:QOk q.n (zO q f).q:=by
    unfold zO
    have hw: ∀ e,QOk q.n (wsS q e):=fun e=>⟨zfX h _ _,SB _ hb,(zfY _ _ _ _).1,(zfY _ _ _ _).2⟩
    repeat' with_reducible refine te2 ?_ ?_
    all_goals first|exact h0|exact hw _
  have hd: ∀ u,QOk q.n (UO q u).q:=fun u=>by
    unfold UO
    refine te2 h0 ?_
    exact zgT h0 (by simp)
  have hp: ∀ u,QOk q.n (yG q u f body).q:=fun u=>by
    unfold yG
    have h1:QOk q.n (wsS q (apE u.id body)):=zgT h0 (by simp [apE])
    have h2: ∀ z,QOk q.n (wsS (wsS q (apE u.id body)) ⟨3,u.id,z,[]⟩):=fun z=>zgT h1 (by simp)
    repeat' with_reducible refine te2 ?_ ?_
    all_goals first|exact h0|exact h1|exact h2 _
  unfold zB
  repeat' with_reducible refine te2 ?_ ?_
  all_goals first|exact h0|exact hc|exact hd _|exact hp _
set_option maxHeartbeats 4000000 in
theorem zgb:Spc Tryz.prog 6 [] [] (.ret (.v (.one (.p (.bool true))))) []:=by
  refine spcG zi mixed Tryz.func6 (by kernel_rfl) { cfgT with fz:=[23,10],keep:=some [0,1,2,3,4]} [rV,rU,zar,zaq,zi4,zi3,zlp,zlo] (by kernel_rfl) ?_
  intro I X hI hX
  refine zh (let y11:=I.hid (α:=(List Go.Ab.Upl)) ([]:List Go.Ab.Upl);let y12:=I.hid (α:=(List UInt8)) ([]:List UInt8);let y1:=I.hid (α:=(List Go.Ab.Fld)) (resT::(prs ([(Array.toList (List.toArray ([85,112,108,111,97,100,45,76,101,110,103,116,104]:List UInt8))),(Array.toList (List.toArray ([51]:List UInt8)))]:List (List UInt8))));let y4:=I.hid (α:=(List Go.Ab.Upl)) (Sto.l (TA.q (zB (Sto.mk y11 (0:Int) y12 (0:Int)) (Array.toList (List.toArray ([80,79,83,84]:List UInt8))) (Array.toList (List.toArray ([47,102,105,108,101,115]:List UInt8))) y1 ([]:List UInt8))));let y3:=I.hid (α:=Int) (Sto.n (TA.q (zB (Sto.mk y11 (0:Int) y12 (0:Int)) (Array.toList (List.toArray ([80,79,83,84]:List UInt8))) (Array.toList (List.toArray ([47,102,105,108,101,115]:List UInt8))) y1 ([]:List UInt8))));let y5:=I.hid (α:=(List UInt8)) (Sto.b (TA.q (zB (Sto.mk y11 (0:Int) y12 (0:Int)) (Array.toList (List.toArray ([80,79,83,84]:List UInt8))) (Array.toList (List.toArray ([47,102,105,108,101,115]:List UInt8))) y1 ([]:List UInt8))));let y6:=I.hid (α:=Int) (Sto.s (TA.q (zB (Sto.mk y11 (0:Int) y12 (0:Int)) (Array.toList (List.toArray ([80,79,83,84]:List UInt8))) (Array.toList (List.toArray ([47,102,105,108,101,115]:List UInt8))) y1 ([]:List UInt8))));let y2:=I.hid (α:=(List Go.Ab.Fld)) (resT::(prs ([(Array.toList (List.toArray ([67,111,110,116,101,110,116,45,84,121,112,101]:List UInt8))),(Array.toList (List.toArray ([97,112,112,108,105,99,97,116,105,111,110,47,111,102,102,115,101,116,43,111,99,116,101,116,45,115,116,114,101,97,109]:List UInt8))),(Array.toList (List.toArray ([85,112,108,111,97,100,45,79,102,102,115,101,116]:List UInt8))),(Array.toList (List.toArray ([48]:List UInt8)))]:List (List UInt8))));let y8:=I.hid (α:=(List Go.Ab.Upl)) (Sto.l (TA.q (zB (Sto.mk y4 y3 y5 y6) (Array.toList (List.toArray ([80,65,84,67,72]:List UInt8))) (Array.toList (List.toArray ([47,102,105,108,101,115,47,49]:List UInt8))) y2 ([(I.i2b 97),(I.i2b 98)]:List UInt8))));let y7:=I.hid (α:=Int) (Sto.n (TA.q (zB (Sto.mk y4 y3 y5 y6) (Array.toList (List.toArray ([80,65,84,67,72]:List UInt8))) (Array.toList (List.toArray ([47,102,105,108,101,115,47,49]:List UInt8))) y2 ([(I.i2b 97),(I.i2b 98)]:List UInt8))));let y9:=I.hid (α:=(List UInt8)) (Sto.b (TA.q (zB (Sto.mk y4 y3 y5 y6) (Array.toList (List.toArray ([80,65,84,67,72]:List UInt8))) (Array.toList (List.toArray ([47,102,105,108,101,115,47,49]:List UInt8))) y2 ([(I.i2b 97),(I.i2b 98)]:List UInt8))));let y10:=I.hid (α:=(List Go.Ab.Fld)) (resT::(prs ([]:List (List UInt8))));let y0:=I.hid (α:=(List Go.Ab.Fld)) (resT::(TA.fs (zB (Sto.mk y8 y7 y9 (I.hid (α:=Int) (Sto.s (TA.q (zB (Sto.mk y4 y3 y5 y6) (Array.toList (List.toArray ([80,65,84,67,72]:List UInt8))) (Array.toList (List.toArray ([47,102,105,108,101,115,47,49]:List UInt8))) y2 ([(I.i2b 97),(I.i2b 98)]:List UInt8)))))) (Array.toList (List.toArray ([72,69,65,68]:List UInt8))) (Array.toList (List.toArray ([47,102,105,108,101,115,47,49]:List UInt8))) y10 ([]:List UInt8))));let y13:=I.inb 1 (I.len (α:=Go.Ab.Fld) y0);.need (I.hid (α:=(Prop)) True) (.need (I.hid (α:=(Prop)) (LE.le (List.length ([(Array.toList (List.toArray ([85,112,108,111,97,100,45,76,101,110,103,116,104]:List UInt8))),(Array.toList (List.toArray ([51]:List UInt8)))]:List (List UInt8))) 1000)) (.need (I.hid (α:=(Prop)) (And (FOk y1) (And (zy y11 (0:Int)) (And (LE.le (0:Int) (200000:Int)) (And (LE.le (List.length y12) 100000) (LE.le (List.length ([]:List UInt8)) 100000)))))) (.need (I.hid (α:=(Prop)) (LE.le (List.length ([(Array.toList (List.toArray ([67,111,110,116,101,110,116,45,84,121,112,101]:List UInt8))),(Array.toList (List.toArray ([97,112,112,108,105,99,97,116,105,111,110,47,111,102,102,115,101,116,43,111,99,116,101,116,45,115,116,114,101,97,109]:List UInt8))),(Array.toList (List.toArray ([85,112,108,111,97,100,45,79,102,102,115,101,116]:List UInt8))),(Array.toList (List.toArray ([48]:List UInt8)))]:List (List UInt8))) 1000)) (.need (I.inr Go.IntKind.u8 97) (.need (I.inr Go.IntKind.u8 98) (.need (I.inb 0 (I.len (α:=UInt8) ([(I.i2b 97),(I.i2b 98)]:List UInt8))) (.need (I.hid (α:=(Prop)) (And (FOk y2) (And (zy y4 y3) (And (LE.le y3 (200000:Int)) (And (LE.le (List.length y5) 100000) (LE.le (List.length ([(I.i2b 97),(I.i2b 98)]:List UInt8)) 100000)))))) (.need (I.hid (α:=(Prop)) (LE.le (List.length ([]:List (List UInt8))) 1000)) (.need (I.hid (α:=(Prop)) (And (FOk y10) (And (zy y8 y7) (And (LE.le y7 (200000:Int)) (And (LE.le (List.length y9) 100000) (LE.le (List.length ([]:List UInt8)) 100000)))))) (.br (I.ieq (I.hid (α:=Int) (TA.st (zB (Sto.mk y11 (0:Int) y12 (0:Int)) (Array.toList (List.toArray ([80,79,83,84]:List UInt8))) (Array.toList (List.toArray ([47,102,105,108,101,115]:List UInt8))) y1 ([]:List UInt8)))) 201) (.br (I.ieq (I.hid (α:=Int) (TA.st (zB (Sto.mk y4 y3 y5 y6) (Array.toList (List.toArray ([80,65,84,67,72]:List UInt8))) (Array.toList (List.toArray ([47,102,105,108,101,115,47,49]:List UInt8))) y2 ([(I.i2b 97),(I.i2b 98)]:List UInt8)))) 204) (.br (I.ieq (I.hid (α:=Int) (TA.st (zB (Sto.mk y8 y7 y9 (I.hid (α:=Int) (Sto.s (TA.q (zB (Sto.mk y4 y3 y5 y6) (Array.toList (List.toArray ([80,65,84,67,72]:List UInt8))) (Array.toList (List.toArray ([47,102,105,108,101,115,47,49]:List UInt8))) y2 ([(I.i2b 97),(I.i2b 98)]:List UInt8)))))) (Array.toList (List.toArray ([72,69,65,68]:List UInt8))) (Array.toList (List.toArray ([47,102,105,108,101,115,47,49]:List UInt8))) y10 ([]:List UInt8)))) 200) (.br (I.ieq (I.len (α:=Go.Ab.Fld) y0) 4) (.need y13 (.need y13 (.br (I.seq (Go.Ab.Fld.value (I.get (α:=Go.Ab.Fld) y0 (Go.Ab.Fld.mk ([]:List UInt8) ([]:List UInt8)) 1)) (Array.toList (List.toArray ([50]:List UInt8)))) (.need (I.hid (α:=(Prop)) (LE.le (List.length (Array.toList (List.toArray ([47,102,105,108,101,115,47]:List UInt8)))) 1000000)) (.fin (.ret (.v (.one (.p (.bool (I.hid (α:=Bool) (zg3 (Array.toList (List.toArray ([47,102,105,108,101,115,47]:List UInt8)))))))))) [])) (.fin (.ret (.v (.one (.p (.bool Bool.false))))) [])))) (.fin (.ret (.v (.one (.p (.bool Bool.false))))) [])) (.fin (.ret (.v (.one (.p (.bool Bool.false))))) [])) (.fin (.ret (.v (.one (.p (.bool Bool.false))))) [])) (.fin (.ret (.v (.one (.p (.bool Bool.false))))) [])))))))))))) (by kernel_rfl) ?_
  simp only [zl]
  subst hI
  simp only [nrmA,nrmB,nrlB,reduceCtorEq]
  (repeat' (first|refine And.intro ?_ ?_|(intro h;first|exact absurd h (by decide+kernel)|clear h)))
  all_goals first
    |exact tV
    |exact(wU tV (by decide) _ _ _ _).1
    |exact(wU (wU tV (by decide) _ _ _ _).1 (wU tV (by decide) _ _ _ _).2.1 _ _ _ _).1
    |exact(wU tV (by decide) _ _ _ _).2.1
    |exact(wU (wU tV (by decide) _ _ _ _).1 (wU tV (by decide) _ _ _ _).2.1 _ _ _ _).2.1
    |decide+kernel
    |trace_state
def tq (I:Alg) (args:List D) (hp:List HO):Option CT:=match args,hp with
  |[],[]=>(fun(_:Unit)=>(some (.one ⟨I.hid (True),(.ret (.v (.one (.p (.bool true))))),[]⟩):Option CT)) ()
  |_,_=>none
theorem Vq:zo Tryz.prog 6 (tq alg):=by
  intro args hp r h
  unfold tq at h
  split at h
  · cases h;exact fun hn=>zgb
  · cases h
def uZ:Know Tryz.prog:=⟨6,tq,Vq⟩
def uY:Know Tryz.prog:=⟨6,fun I=>zu I (tq I),zf Vq⟩
end Go.Proofs.YtcclfkakcgnacaaGreatDoor
namespace Go.Proofs.YtcclfkakcgnacaaGreatDoor
open Go Go.Sep Go.Ab Go.Jrn
theorem zlO {l:List Upl} {id:Int} {u:Upl} (h:atU l id<l.length) (hu:u.id=id):atU (l.set (atU l id) u) id=atU l id:=by
  have hlen:(l.set (atU l id) u).length=l.length:=List.length_set ..
  have h2: ∀ (l:List Upl) (i:Nat),i<l.length→(l.getD i upl0).id=u.id→(l.set i u).findIdx (fun x=>x.id == id)=l.findIdx (fun x=>x.id == id):=by
    intro l
    induction l with
    |nil=>intro i hi;simp at hi
    | cons a r ih=>
      intro i hi hid
      cases i with
      | zero=>
        simp only [List.getD_cons_zero] at hid
        simp [List.set,List.findIdx_cons,hid]
      | succ i=>
        simp only [List.length_cons] at hi
        simp only [List.getD_cons_succ] at hid
        simp only [List.set,List.findIdx_cons]
        rw [ih i (by omega) hid]
  have h3:=ZJ h
  unfold zS at h3
  exact h2 l (atU l id) h (by rw [hu];exact h3)
theorem zby (e:Ent) (hk:1≤e.kind∧e.kind≤6):(encM e).length≤31+e.text.length∧(e.n=0→(encM e).length≤22+e.text.length):=by
  unfold encM
  split
  · have h1:=yC ((enc3 e).length+1)
    have h2:=yC (e.id+1).toNat
    have h3:=yC (e.n+1).toNat
    have h4:(sev (e.kind+1).toNat).length=1:=by rw [uM (by omega)];rfl
    unfold encB enc3
    unfold enc3 at h1
    have h5:e.n=0→(sev (e.n+1).toNat).length=1:=fun h=>by rw [h];rfl
    simp only [List.length_append] at *
    refine⟨by omega,fun h=> ?_⟩
    have:=h5 h
    omega
  · exact⟨by simp,fun _=>by simp⟩
theorem zii {q:Sto} {u:Upl} {body:Str} {nv sz:Int} (hb:getB q.l u.id=true) (hu:getU q.l u.id=u) (hnv:nv=(u.bytes.length:Int)) (hid:1≤u.id∧u.id≤200000)
    (h1:wsC q (apE u.id body)=0) (hz:0≤sz) (hz2:sz≤2000) (hz3:nv+(body.length:Int)≤sz) (hus:u.size<0) (hr:Zj q.b ((body.length:Int)+60)=true):wsC (wsS q (apE u.id body)) ⟨3,u.id,sz,[]⟩=0:=by
  have hat:atU q.l u.id<q.l.length:=by unfold getB at hb;simpa using hb
  have hup:zS q.l u.id=u:=by unfold getU at hu;rwa [if_pos hat] at hu
  unfold Zj at hr
  have hroom:0≤(body.length:Int)+60∧(body.length:Int)+60≤100000 - (q.b.length:Int):=by simpa using hr
  unfold wsC at h1 ⊢
  have hl:(wsS q (apE u.id body)).l=q.l.set (atU q.l u.id) { zS q.l u.id with bytes:=(zS q.l u.id).bytes++body}:=by
    show wrtL _ _ _ _=_
    unfold wrtL
    rw [if_pos h1]
    have hap:appC q.l u.id (getU q.l u.id).bytes.length body=0:=by
      unfold wrtC at h1
      split at h1
      · contradiction
      · rename_i hc
        simp only [Decidable.not_not] at hc
        exact hc
    show Yl _ _ _=_
    unfold Yl
    rw [if_neg (by simp [apE]),if_pos (by simp [apE])]
    show appL q.l u.id (getU q.l u.id).bytes.length body=_
    unfold appL
    rw [if_pos hap]
  have hB:(wsS q (apE u.id body)).b=q.b++encB (apE u.id body):=by
    show wrtB _ _ _ _=_
    unfold wrtB
    rw [if_pos h1]
  have hat2:atU (wsS q (apE u.id body)).l u.id=atU q.l u.id:=by rw [hl];exact zlO hat (by rw [hup])
  have hlen:(wsS q (apE u.id body)).l.length=q.l.length:=by rw [hl,List.length_set]
  have hup2:zS (wsS q (apE u.id body)).l u.id= { u with bytes:=u.bytes++body}:=by
    unfold zS
    rw [hat2,hl]
    simp [List.getD_eq_getElem?_getD,hat,hup]
  unfold wrtC
  have hp:Ry (wsS q (apE u.id body)).l (wsS q (apE u.id body)).n ⟨3,u.id,sz,[]⟩=0:=by
    show decC (wsS q (apE u.id body)).l u.id sz=0
    unfold decC
    rw [hat2,hlen,hup2,if_neg (by omega),if_neg (by simp only;omega),if_neg (by omega),if_neg (by simp only [List.length_append];omega)]
  have hm:mayM (apE u.id body)=true:=by
    unfold wrtC at h1
    rw [if_neg (by intro hc;rw [if_pos hc] at h1;exact hc h1)] at h1
    unfold encC at h1
    cases hq:mayM (apE u.id body) with
    |true=>rfl
    |false=>rw [hq] at h1;simp at h1
  have he:encC ⟨3,u.id,sz,[]⟩=0:=by
    unfold encC
    rw [if_pos (by unfold mayM few;simp only [Bool.and_eq_true,decide_eq_true_eq,List.length_nil];omega)]
  rw [hp,he,if_neg (by simp),if_neg (by simp)]
  have e1:=(zby (apE u.id body) (by simp [apE])).2 rfl
  have e2:=(zby ⟨3,u.id,sz,[]⟩ (by simp)).1
  unfold wrC
  rw [hB]
  rw [if_pos]
  unfold encM at e1
  rw [if_pos hm] at e1
  simp only [List.length_append,List.length_nil] at *
  simp only [apE] at *
  omega
end Go.Proofs.YtcclfkakcgnacaaGreatDoor
namespace Go.Proofs.YtcclfkakcgnacaaGreatDoor
open Go Go.Sep Go.Ab Go.Jrn
def UR (q:Sto) (r:TA):Prop:=(400≤r.st→r.q=q)∧(r.st<400→r.q=q∨r.q.s=(r.q.b.length:Int))
theorem te3 {q:Sto} {c:Prop} [Decidable c] {a b:TA} (ha:c→UR q a) (hb: ¬ c→UR q b):UR q (if c then a else b):=by split<;>simp_all
theorem statT_ge (c:Int):400≤uK c:=by
  unfold uK
  repeat' split
  all_goals omega
theorem yg {q:Sto} {st:Int} {fs:List Fld}:UR q ⟨st,fs,q⟩:=⟨fun _=>rfl,fun _=>.inl rfl⟩
theorem X4 {q q':Sto} {st:Int} {fs:List Fld} (h:st<400):UR q ⟨st,fs,syS q'⟩:=⟨fun h2=>by simp only at h2;omega,fun _=>.inr rfl⟩
theorem zbF (q:Sto) (f:List Fld):UR q (zO q f):=by
  unfold zO
  repeat' with_reducible refine te3 (fun _=> ?_) (fun _=> ?_)
  all_goals first|exact yg|exact X4 (by decide)
theorem zfF (q:Sto) (u:Upl):UR q (UO q u):=by
  unfold UO
  exact te3 (fun _=>yg) (fun _=>X4 (by decide))
theorem zcj {q:Sto} {u:Upl} (f:List Fld) (body:Str) (hb:getB q.l u.id=true) (hu:getU q.l u.id=u) (hid:1≤u.id∧u.id≤200000):UR q (yG q u f body):=by
  unfold yG
  refine te3 (fun _=>yg) (fun _=>te3 (fun _=>yg) (fun _=>te3 (fun _=>yg) (fun _=>te3 (fun _=>yg) (fun h1=>te3 (fun _=>yg) (fun h2=>te3 (fun _=>yg) (fun _=>te3 (fun _=>yg) (fun h3=>te3 (fun _=>yg) (fun h4=>te3 (fun _=>yg) (fun h5=>te3 (fun _=>yg) (fun h6=>te3 (fun h7=>te3 (fun h8=> ?_) (fun _=>X4 (by decide))) (fun _=>X4 (by decide))))))))))))
  refine absurd (zii (nv:=zG f vZ) (sz:=zG f yh) hb hu (by simpa using h2) hid ?_ h7.1 ?_ ?_ h7.2 (by simpa using h5)) h8
  · by_cases hg:apG q.l u.id (zG f vZ)=true
    · rw [if_pos hg] at h6;exact absurd (by decide) h6
    · rw [if_neg hg] at h6;simpa using h6
  · have h9: ¬ (2000<zG f yh∨zG f yh<zG f vZ+(body.length:Int)):=fun h=>h4 ⟨h7.1,h7.2,h⟩
    omega
  · have h9: ¬ (2000<zG f yh∨zG f yh<zG f vZ+(body.length:Int)):=fun h=>h4 ⟨h7.1,h7.2,h⟩
    omega
theorem zls {l:List Upl} {id:Int} (h:getB l id=true):(getU l id).id=id∧getU l id ∈ l:=by
  have hat:atU l id<l.length:=by unfold getB at h;simpa using h
  unfold getU
  rw [if_pos hat]
  exact⟨ZJ hat,wB hat⟩
theorem zb7 {q:Sto} (hs:zy q.l q.n) (hn:q.n≤200000) (m t:Str) (f:List Fld) (body:Str):UR q (zB q m t f body):=by
  unfold zB
  refine te3 (fun _=>yg) (fun _=>te3 (fun _=>yg) (fun _=>te3 (fun _=>yg) (fun _=>te3 (fun _=>te3 (fun _=>yg) (fun _=>zbF _ _)) (fun _=>te3 (fun _=>yg) (fun h1=>te3 (fun _=>yg) (fun _=>te3 (fun _=> ?_) (fun _=>te3 (fun _=>zfF _ _) (fun _=>yg))))))))
  have h2:getB q.l (idV t)=true:=by
    unfold uplB at h1
    simp only [Bool.not_eq_false,Bool.and_eq_true] at h1
    exact h1.2
  have h3:=zls h2
  have h4:=hs.ids _ h3.2
  exact zcj f body (by rw [h3.1];exact h2) (by rw [h3.1]) (by omega)
end Go.Proofs.YtcclfkakcgnacaaGreatDoor
namespace Go.Proofs.YtcclfkakcgnacaaGreatDoor
open Go Go.Sep Go.Ab
set_option maxRecDepth 100000
theorem zeT: ∀ (k:Nat) (n:Int) (a:List Ab.Ask),0≤n→(askG k n a).1=false→a.length≤k→n≤(askG k n a).2∧∀ x ∈ a,uS x.h.fields=false∧n+x.body.length+x.h.target.length+x.h.method.length≤(askG k n a).2
  | 0,n,a,_,_,h=>by
    have:a=[]:=List.length_eq_zero_iff.1 (by omega)
    subst this
    exact⟨Int.le_refl _,fun x hx=>by simp at hx⟩
  |k+1,n,[],_,_,_=>⟨Int.le_refl _,fun x hx=>by simp at hx⟩
  | k + 1,n,x::r,h0,h1,h2=>by
    unfold askG at h1 ⊢
    by_cases hg:uS x.h.fields=true
    · rw [if_pos hg] at h1;simp at h1
    · rw [if_neg hg] at h1 ⊢
      simp only [List.length_cons] at h2
      have ih:=zeT k (n+askN x) r (by unfold askN;omega) h1 (by omega)
      have hx0:0≤askN x:=by unfold askN;omega
      refine⟨by omega,fun y hy=> ?_⟩
      rcases List.mem_cons.1 hy with rfl|hy
      · exact⟨by simpa using hg,by have:=ih.1;unfold askN at this ⊢;omega⟩
      · have:=ih.2 y hy
        exact⟨this.1,by omega⟩
theorem zhT {f:List Fld} (h:uS f=false):f.length≤100∧∀ x ∈ f,x.name.length≤1000∧x.value.length≤1000:=by
  unfold uS at h
  simp only [Bool.or_eq_false_iff,decide_eq_false_iff_not,List.any_eq_false,decide_eq_true_eq] at h
  exact⟨by omega,fun x hx=>by have:=h.2 x hx;omega⟩
theorem zfA {a:List Ab.Ask} (h:YB a=false):a.length≤100∧∀ x ∈ a,FOk x.h.fields∧x.body.length≤20000∧x.h.target.length≤20000∧x.h.method.length≤20000:=by
  unfold YB at h
  simp only [Bool.or_eq_false_iff,decide_eq_false_iff_not] at h
  have hl:a.length≤100:=by omega
  have:=zeT 200 0 a (by omega) h.1 (by omega)
  refine⟨hl,fun x hx=> ?_⟩
  have h2:=this.2 x hx
  have h3:=zhT h2.1
  exact⟨⟨by omega,fun y hy=>by have:=h3.2 y hy;omega⟩,by omega,by omega,by omega⟩
set_option maxHeartbeats 4000000 in
theorem zga (a:List Ab.Ask) (hneed:a.length≤140737488355328∧∀ x ∈ a,AskW x):Spc Tryz.prog 4 [.v (.one (.p (.list .ask a)))] [] (.ret (.v (.one (.p (.bool true))))) []:=by
  obtain⟨hlen,hw⟩:=hneed
  refine spcG zi mixed Tryz.func4 (by kernel_rfl) { cfgT with fz:=[10],seam:=[12],keep:=some [0,2,3,4,5,6,7,8,9,10,11,12]} [yO,yN,Yb,Ya,rX,rW,Yd,Yc,rV,rU,ZV,ZU,qI,qH,Z7,Z5,zar,zaq,Yz,Yy,uZ,uY] (by kernel_rfl) ?_
  intro I X hI hX
  refine zh (.need (I.hid (α:=(Prop)) True) (.br (I.bnot Bool.true) (.fin (.ret (.v (.one (.p (.bool Bool.false))))) []) (.need (I.hid (α:=(Prop)) (And (LE.le (List.length a) 140737488355328) (∀ (x:Ab.Ask),x ∈ a→AskW x))) (.br (I.hid (α:=Bool) (YB a)) (.fin (.ret (.v (.one (.p (.bool Bool.true))))) []) (.need (I.hid (α:=(Prop)) True) (.code 0 [1,1,1,1,0,1,0] ⟨[(4,(.v (.one (.p (.int .i64 0))))),(3,(.v (.one (.ptr 0 0)))),(2,(.v (.one (.p (.val (.bool .false)))))),(0,(.v (.one (.p (.list .ask a)))))],[(.pack [(.obj 48 [(.ptr 1 0),(.ptr 2 0)]),(.pack [(.obj 90 [(.row 1),(.p (.int .i64 0))]),(.row .upl 67 (I.hid (α:=(List Go.Ab.Upl)) ([]:List Go.Ab.Upl)))]),(.pack [(.obj 104 [(.row 1),(.p (.int .i64 0))]),(.row .byte 5 (I.hid (α:=(List UInt8)) ([]:List UInt8)))])])],119,none⟩)))))) (by kernel_rfl) ?_
  simp only [zl]
  have hg0:I.hid (YB a)=YB a:=by subst hI;rfl
  refine⟨?_,?_,?_⟩
  · subst hI;trivial
  · subst hI;simp only [nrmA,nrmB]
  refine fun _=>⟨?_,?_,?_⟩
  · subst hI;exact⟨hlen,hw⟩
  · intro _;trivial
  intro hg
  rw [hg0] at hg
  have hfew:=zfA hg
  refine⟨by subst hI;trivial,?_⟩
  have hh: ∀ {α:Type} (x:α),I.hid x=x:=by subst hI;intros;rfl
  simp only [hh]
  refine zA hI zi mixed [yO,yN,Yb,Ya,rX,rW,Yd,Yc,rV,rU,ZV,ZU,qI,qH,Z7,Z5,zar,zaq,Yz,Yy,uZ,uY] hX [0,3,4] (fun(g:Nat × List Upl × Int × Str × Int)=>match g with|(i,l,n,b,s)=>i≤a.length∧zy l n∧n≤i∧b.length≤100000) (fun(g:Nat × List Upl × Int × Str × Int)=>match g with|(i,l,n,b,s)=>⟨[(0,.v (.one (.p (.list .ask a)))),(3,.v (.one (.ptr 0 0))),(4,.v (.one (.p (.int .i64 i))))],[.pack [.obj 48 [(.ptr 1 0),(.ptr 2 0)],.pack [.obj 90 [(.row 1),(.p (.int .i64 n))],.row .upl 67 l],.pack [.obj 104 [(.row 1),(.p (.int .i64 s))],.row .byte 5 b]]],119,none⟩) (fun(g:Nat × List Upl × Int × Str × Int)=>match g with|(i,l,n,b,s)=>a.length - i) (0,[],0,[],0) (by kernel_rfl) (by kernel_rfl) ?_ ?_
  · exact⟨Nat.zero_le _,tV,by simp,by simp⟩
  rintro⟨i,l,n,b,s⟩ ⟨h1,h2,h3,h4⟩ A hA
  simp only at hA h3 h4
  have key12: ∀ (m st:Int) (fs:List Fld) (l2:List Upl) (n2:Int) (b2:Str) (s2:Int),m=n+1→fs.head?=some resT→zy l2 n2→n2≤i+1→b2.length≤100000→UR ⟨l,n,b,s⟩ ⟨st,fs,⟨l2,n2,b2,s2⟩⟩→i<a.length→Ok Tryz.prog X (fun o h=>o=AOut.ret (D.v (V0.one (C.p (P.bool true))))∧h=[]) (go I tab { cfgT with fz:=[10],seam:=[12],keep:=some [0,2,3,4,5,6,7,8,9,10,11,12]} [yO,yN,Yb,Ya,rX,rW,Yd,Yc,rV,rU,ZV,ZU,qI,qH,Z7,Z5,zar,zaq,Yz,Yy,uZ,uY] (round I tab { cfgT with fz:=[10],seam:=[12],keep:=some [0,2,3,4,5,6,7,8,9,10,11,12]} 0 [0,3,4] A [⟨xP Tryz.f4,finK I tab { cfgT with fz:=[10],seam:=[12],keep:=some [0,2,3,4,5,6,7,8,9,10,11,12]} 0 Tryz.f4⟩] 0 [1,1,1,1,0,1,0]::[⟨xP Tryz.f4,finK I tab { cfgT with fz:=[10],seam:=[12],keep:=some [0,2,3,4,5,6,7,8,9,10,11,12]} 0 Tryz.f4⟩]) 0 [1,0,0,1,1,1,0] ⟨[(0,.v (.one (.p (.list .ask a)))),(3,.v (.one (.ptr 0 0))),(4,.v (.one (.p (.int .i64 i)))),(5,.v (.one (.row 1))),(6,.v (.one (.p (.int .i64 m)))),(7,.v (.one (.row 2))),(8,.v (.one (.p (.int .i64 s)))),(9,.v (.one (.ptr 3 0)))],[.pack [.obj 48 [(.ptr 1 0),(.ptr 2 0)],.pack [.obj 90 [(.row 1),(.p (.int .i64 n2))],.row .upl 67 l2],.pack [.obj 104 [(.row 1),(.p (.int .i64 s2))],.row .byte 5 b2]],.row .upl 67 l,.row .byte 5 b,.pack [.obj 32 [(.p (.int .i64 st)),(.p (.list .fld fs)),(.p (.list .byte ([])))]]],119,none⟩):=by
    intro m st fs l2 n2 b2 s2 hm hf q1 q2 q3 q4 hi
    refine zh (let y0:=I.bnot (I.ban (I.seq (Go.Ab.Fld.name (I.get (α:=Go.Ab.Fld) fs (Go.Ab.Fld.mk ([]:List UInt8) ([]:List UInt8)) 0)) (Array.toList (List.toArray ([84,117,115,45,82,101,115,117,109,97,98,108,101]:List UInt8)))) (I.seq (Go.Ab.Fld.value (I.get (α:=Go.Ab.Fld) fs (Go.Ab.Fld.mk ([]:List UInt8) ([]:List UInt8)) 0)) (Array.toList (List.toArray ([49,46,48,46,48]:List UInt8)))));let y1:=I.inb 0 (I.len (α:=Go.Ab.Fld) fs);let y2:=I.ilt 0 (I.len (α:=UInt8) ([]:List UInt8));let y3:=I.inr Go.IntKind.i64 (I.add (Nat.cast i) 1);let y4:=I.ieq (I.len (α:=Go.Ab.Fld) fs) 0;let y5:=I.bnot (I.ieq s2 (I.len (α:=UInt8) b2));.need (I.hid (α:=(Prop)) (LE.le (List.length b2) 100000)) (.need (I.hid (α:=(Prop)) (zy l2 n2)) (.need (I.hid (α:=(Prop)) (And (LE.le (List.length l) 1000000) (LE.le (List.length l2) 1000000))) (.br (I.hid (α:=Bool) (Decidable.decide (Eq l l2))) (.need (I.hid (α:=(Prop)) (And (LE.le (0:Int) n2) (LE.le n2 (1000000:Int)))) (.br (I.ieq m (I.hid (α:=Int) (HAdd.hAdd n2 (1:Int)))) (.need (I.hid (α:=(Prop)) True) (.br (I.hid (α:=Bool) (BEq.beq b b2)) (.br (I.ile 400 st) (.br (I.bnot (I.ieq s s2)) (.fin (.ret (.v (.one (.p (.bool Bool.false))))) []) (.br (I.bnot (I.ieq s s2)) (.br y5 (.fin (.ret (.v (.one (.p (.bool Bool.false))))) []) (.br y4 (.fin (.ret (.v (.one (.p (.bool Bool.false))))) []) (.need y1 (.need y1 (.br y0 (.fin (.ret (.v (.one (.p (.bool Bool.false))))) []) (.br y2 (.fin (.ret (.v (.one (.p (.bool Bool.false))))) []) (.need y3 (.need (A ⟨[(0,(.v (.one (.p (.list .ask a))))),(3,(.v (.one (.ptr 0 0)))),(4,(.v (.one (.p (.int .i64 (I.add (Nat.cast i) 1))))))],[(.pack [(.obj 48 [(.ptr 1 0),(.ptr 2 0)]),(.pack [(.obj 90 [(.row 1),(.p (.int .i64 n2))]),(.row .upl 67 l2)]),(.pack [(.obj 104 [(.row 1),(.p (.int .i64 s2))]),(.row .byte 5 b2)])])],119,none⟩) .qed)))))))) (.br y4 (.fin (.ret (.v (.one (.p (.bool Bool.false))))) []) (.need y1 (.need y1 (.br y0 (.fin (.ret (.v (.one (.p (.bool Bool.false))))) []) (.br y2 (.fin (.ret (.v (.one (.p (.bool Bool.false))))) []) (.need y3 (.need (A ⟨[(0,(.v (.one (.p (.list .ask a))))),(3,(.v (.one (.ptr 0 0)))),(4,(.v (.one (.p (.int .i64 (I.add (Nat.cast i) 1))))))],[(.pack [(.obj 48 [(.ptr 1 0),(.ptr 2 0)]),(.pack [(.obj 90 [(.row 1),(.p (.int .i64 n2))]),(.row .upl 67 l2)]),(.pack [(.obj 104 [(.row 1),(.p (.int .i64 s2))]),(.row .byte 5 b2)])])],119,none⟩) .qed))))))))) (.br (I.bnot (I.ieq s s2)) (.br y5 (.fin (.ret (.v (.one (.p (.bool Bool.false))))) []) (.br y4 (.fin (.ret (.v (.one (.p (.bool Bool.false))))) []) (.need y1 (.need y1 (.br y0 (.fin (.ret (.v (.one (.p (.bool Bool.false))))) []) (.br y2 (.fin (.ret (.v (.one (.p (.bool Bool.false))))) []) (.need y3 (.need (A ⟨[(0,(.v (.one (.p (.list .ask a))))),(3,(.v (.one (.ptr 0 0)))),(4,(.v (.one (.p (.int .i64 (I.add (Nat.cast i) 1))))))],[(.pack [(.obj 48 [(.ptr 1 0),(.ptr 2 0)]),(.pack [(.obj 90 [(.row 1),(.p (.int .i64 n2))]),(.row .upl 67 l2)]),(.pack [(.obj 104 [(.row 1),(.p (.int .i64 s2))]),(.row .byte 5 b2)])])],119,none⟩) .qed)))))))) (.br y4 (.fin (.ret (.v (.one (.p (.bool Bool.false))))) []) (.need y1 (.need y1 (.br y0 (.fin (.ret (.v (.one (.p (.bool Bool.false))))) []) (.br y2 (.fin (.ret (.v (.one (.p (.bool Bool.false))))) []) (.need y3 (.need (A ⟨[(0,(.v (.one (.p (.list .ask a))))),(3,(.v (.one (.ptr 0 0)))),(4,(.v (.one (.p (.int .i64 (I.add (Nat.cast i) 1))))))],[(.pack [(.obj 48 [(.ptr 1 0),(.ptr 2 0)]),(.pack [(.obj 90 [(.row 1),(.p (.int .i64 n2))]),(.row .upl 67 l2)]),(.pack [(.obj 104 [(.row 1),(.p (.int .i64 s2))]),(.row .byte 5 b2)])])],119,none⟩) .qed))))))))) (.br (I.ile 400 st) (.fin (.ret (.v (.one (.p (.bool Bool.false))))) []) (.br y5 (.fin (.ret (.v (.one (.p (.bool Bool.false))))) []) (.br y4 (.fin (.ret (.v (.one (.p (.bool Bool.false))))) []) (.need y1 (.need y1 (.br y0 (.fin (.ret (.v (.one (.p (.bool Bool.false))))) []) (.br y2 (.fin (.ret (.v (.one (.p (.bool Bool.false))))) []) (.need y3 (.need (A ⟨[(0,(.v (.one (.p (.list .ask a))))),(3,(.v (.one (.ptr 0 0)))),(4,(.v (.one (.p (.int .i64 (I.add (Nat.cast i) 1))))))],[(.pack [(.obj 48 [(.ptr 1 0),(.ptr 2 0)]),(.pack [(.obj 90 [(.row 1),(.p (.int .i64 n2))]),(.row .upl 67 l2)]),(.pack [(.obj 104 [(.row 1),(.p (.int .i64 s2))]),(.row .byte 5 b2)])])],119,none⟩) .qed))))))))))) (.br (I.ile 400 st) (.fin (.ret (.v (.one (.p (.bool Bool.false))))) []) (.br y5 (.fin (.ret (.v (.one (.p (.bool Bool.false))))) []) (.br y4 (.fin (.ret (.v (.one (.p (.bool Bool.false))))) []) (.need y1 (.need y1 (.br y0 (.fin (.ret (.v (.one (.p (.bool Bool.false))))) []) (.br y2 (.fin (.ret (.v (.one (.p (.bool Bool.false))))) []) (.need y3 (.need (A ⟨[(0,(.v (.one (.p (.list .ask a))))),(3,(.v (.one (.ptr 0 0)))),(4,(.v (.one (.p (.int .i64 (I.add (Nat.cast i) 1))))))],[(.pack [(.obj 48 [(.ptr 1 0),(.ptr 2 0)]),(.pack [(.obj 90 [(.row 1),(.p (.int .i64 n2))]),(.row .upl 67 l2)]),(.pack [(.obj 104 [(.row 1),(.p (.int .i64 s2))]),(.row .byte 5 b2)])])],119,none⟩) .qed))))))))))) (.br (I.ile 400 st) (.fin (.ret (.v (.one (.p (.bool Bool.false))))) []) (.br y5 (.fin (.ret (.v (.one (.p (.bool Bool.false))))) []) (.br y4 (.fin (.ret (.v (.one (.p (.bool Bool.false))))) []) (.need y1 (.need y1 (.br y0 (.fin (.ret (.v (.one (.p (.bool Bool.false))))) []) (.br y2 (.fin (.ret (.v (.one (.p (.bool Bool.false))))) []) (.need y3 (.need (A ⟨[(0,(.v (.one (.p (.list .ask a))))),(3,(.v (.one (.ptr 0 0)))),(4,(.v (.one (.p (.int .i64 (I.add (Nat.cast i) 1))))))],[(.pack [(.obj 48 [(.ptr 1 0),(.ptr 2 0)]),(.pack [(.obj 90 [(.row 1),(.p (.int .i64 n2))]),(.row .upl 67 l2)]),(.pack [(.obj 104 [(.row 1),(.p (.int .i64 s2))]),(.row .byte 5 b2)])])],119,none⟩) .qed))))))))))))) (by kernel_rfl) ?_
    simp only [zl]
    subst hI
    obtain⟨f',rfl⟩: ∃ f',fs=resT::f':=by
      cases fs with
      |nil=>simp at hf
      |cons x r=>simp only [List.head?_cons,Option.some.injEq] at hf;exact⟨r,by rw [hf]⟩
    have hg:=hA (i+1,l2,n2,b2,s2) ⟨by simp only;omega,q1,by simp only;omega,q3⟩ (by simp only;omega)
    simp only at hg
    have hs:(l=l2∧n=n2∧b=b2∧s=s2)∨(st<400∧s2=(b2.length:Int)):=by
      obtain⟨w1,w2⟩:=q4
      simp only [Sto.mk.injEq] at w1 w2
      rcases Int.lt_or_le st 400 with h|h
      · rcases w2 h with h2|h2
        · exact .inl ⟨h2.1.symm,h2.2.1.symm,h2.2.2.1.symm,h2.2.2.2.symm⟩
        · exact .inr ⟨h,h2⟩
      · have h2:=w1 h
        exact .inl ⟨h2.1.symm,h2.2.1.symm,h2.2.2.1.symm,h2.2.2.2.symm⟩
    have hl1:=h2.cnt
    have hl2:=q1.cnt
    have hn1:=h2.n0
    have hn2:=q1.n0
    have hi2:(i:Int)<140737488355328:=by omega
    clear hA q4 hw
    subst hm
    rcases hs with⟨rfl,rfl,rfl,rfl⟩|⟨hs1,hs2⟩
    · simp only [nrmA,nrmB,List.getD_cons_zero,resT,ziZ,verS,decide_true,beq_self_eq_true,forall_const,true_implies,false_implies,not_true_eq_false,not_false_eq_true,and_self,List.length_cons,List.length_nil,implies_true]
      (repeat' (first|refine And.intro ?_ ?_|intro _))<;>first|omega|exact True.intro|exact False.elim ‹False›|skip
      all_goals first
        |omega
        |with_reducible assumption
        |exact⟨q1,by omega⟩
        |exact hg
        |(simp_all;done)
        |trace_state
    · subst hs2
      simp only [nrmA,nrmB,List.getD_cons_zero,resT,ziZ,verS,decide_true,beq_self_eq_true,forall_const,true_implies,false_implies,not_true_eq_false,not_false_eq_true,and_self,List.length_cons,List.length_nil,implies_true]
      (repeat' (first|refine And.intro ?_ ?_|intro _))<;>first|omega|exact True.intro|exact False.elim ‹False›|skip
      all_goals first
        |omega
        |with_reducible assumption
        |exact hg
        |(simp_all;done)
        |trace_state
  refine zh (let y0:=I.get (α:=Go.Ab.Ask) a (Go.Ab.Ask.mk (Go.Ab.Hd.mk ([]:List UInt8) ([]:List UInt8) (0:Int) ([]:List Go.Ab.Fld) (0:Int)) ([]:List UInt8)) (Nat.cast i);let y1:=I.hid (α:=(Prop)) (And (FOk (Go.Ab.Hd.fields (Go.Ab.Ask.h y0))) (And (zy l n) (And (LE.le n (200000:Int)) (And (LE.le (List.length b) 100000) (LE.le (List.length (Go.Ab.Ask.body y0)) 100000)))));let y2:=I.hid (α:=(List Go.Ab.Fld)) (resT::(TA.fs (zB (Sto.mk l n b s) (Go.Ab.Hd.method (Go.Ab.Ask.h y0)) (Go.Ab.Hd.target (Go.Ab.Ask.h y0)) (Go.Ab.Hd.fields (Go.Ab.Ask.h y0)) (Go.Ab.Ask.body y0))));let y3:=I.hid (α:=(List Go.Ab.Upl)) (Sto.l (TA.q (zB (Sto.mk l n b s) (Go.Ab.Hd.method (Go.Ab.Ask.h y0)) (Go.Ab.Hd.target (Go.Ab.Ask.h y0)) (Go.Ab.Hd.fields (Go.Ab.Ask.h y0)) (Go.Ab.Ask.body y0))));let y4:=I.hid (α:=(List UInt8)) (Sto.b (TA.q (zB (Sto.mk l n b s) (Go.Ab.Hd.method (Go.Ab.Ask.h y0)) (Go.Ab.Hd.target (Go.Ab.Ask.h y0)) (Go.Ab.Hd.fields (Go.Ab.Ask.h y0)) (Go.Ab.Ask.body y0))));let y5:=I.hid (α:=Int) (Sto.n (TA.q (zB (Sto.mk l n b s) (Go.Ab.Hd.method (Go.Ab.Ask.h y0)) (Go.Ab.Hd.target (Go.Ab.Ask.h y0)) (Go.Ab.Hd.fields (Go.Ab.Ask.h y0)) (Go.Ab.Ask.body y0))));let y6:=I.hid (α:=Int) (Sto.s (TA.q (zB (Sto.mk l n b s) (Go.Ab.Hd.method (Go.Ab.Ask.h y0)) (Go.Ab.Hd.target (Go.Ab.Ask.h y0)) (Go.Ab.Hd.fields (Go.Ab.Ask.h y0)) (Go.Ab.Ask.body y0))));let y7:=I.hid (α:=Int) (TA.st (zB (Sto.mk l n b s) (Go.Ab.Hd.method (Go.Ab.Ask.h y0)) (Go.Ab.Hd.target (Go.Ab.Ask.h y0)) (Go.Ab.Hd.fields (Go.Ab.Ask.h y0)) (Go.Ab.Ask.body y0)));let y8:=I.inb (Nat.cast i) (I.len (α:=Go.Ab.Ask) a);let y9:=I.hid (α:=(List UInt8)) ([]:List UInt8);let y10:=I.hid (α:=Int) (HAdd.hAdd n (1:Int));let y11:=I.hid (α:=(Prop)) (And (LE.le (0:Int) n) (LE.le n (1000000:Int)));let y12:=I.hid (α:=(Prop)) (LE.le (List.length b) 100000);.br (I.ilt (Nat.cast i) (I.len (α:=Go.Ab.Ask) a)) (.both (.both (.need (I.hid (α:=(Prop)) (zy l n)) (.need y11 (.need y12 (.need y8 (.need y8 (.need y8 (.need y8 (.both (.need y1 (.code 0 [1,0,0,1,1,1,0] ⟨[(9,(.v (.one (.ptr 5 0)))),(8,(.v (.one (.p (.int .i64 s))))),(7,(.v (.one (.row 4)))),(6,(.v (.one (.p (.int .i64 y10))))),(5,(.v (.one (.row 3)))),(0,(.v (.one (.p (.list .ask a))))),(3,(.v (.one (.ptr 0 0)))),(4,(.v (.one (.p (.int .i64 (Nat.cast i))))))],[(.pack [(.obj 48 [(.ptr 1 0),(.ptr 2 0)]),(.pack [(.obj 90 [(.row 1),(.p (.int .i64 y5))]),(.row .upl 67 y3)]),(.pack [(.obj 104 [(.row 1),(.p (.int .i64 y6))]),(.row .byte 5 y4)])]),.gone,.gone,(.row .upl 67 l),(.row .byte 5 b),(.obj 32 [(.p (.int .i64 y7)),(.p (.list .fld y2)),(.p (.list .byte y9))])],119,none⟩)) (.need y1 (.code 0 [1,0,0,1,1,1,0] ⟨[(9,(.v (.one (.ptr 5 0)))),(8,(.v (.one (.p (.int .i64 s))))),(7,(.v (.one (.row 4)))),(6,(.v (.one (.p (.int .i64 y10))))),(5,(.v (.one (.row 3)))),(0,(.v (.one (.p (.list .ask a))))),(3,(.v (.one (.ptr 0 0)))),(4,(.v (.one (.p (.int .i64 (Nat.cast i))))))],[(.pack [(.obj 48 [(.ptr 1 0),(.ptr 2 0)]),(.pack [(.obj 90 [(.row 1),(.p (.int .i64 y5))]),(.row .upl 67 y3)]),(.pack [(.obj 104 [(.row 1),(.p (.int .i64 y6))]),(.row .byte 5 y4)])]),.gone,.gone,(.row .upl 67 l),(.row .byte 5 b),(.obj 32 [(.p (.int .i64 y7)),(.p (.list .fld y2)),(.p (.list .byte y9))])],119,none⟩)))))))))) (.need (I.hid (α:=(Prop)) (zy l n)) (.need y11 (.need y12 (.need y8 (.need y8 (.need y8 (.need y8 (.both (.need y1 (.code 0 [1,0,0,1,1,1,0] ⟨[(9,(.v (.one (.ptr 5 0)))),(8,(.v (.one (.p (.int .i64 s))))),(7,(.v (.one (.row 4)))),(6,(.v (.one (.p (.int .i64 y10))))),(5,(.v (.one (.row 3)))),(0,(.v (.one (.p (.list .ask a))))),(3,(.v (.one (.ptr 0 0)))),(4,(.v (.one (.p (.int .i64 (Nat.cast i))))))],[(.pack [(.obj 48 [(.ptr 1 0),(.ptr 2 0)]),(.pack [(.obj 90 [(.row 1),(.p (.int .i64 y5))]),(.row .upl 67 y3)]),(.pack [(.obj 104 [(.row 1),(.p (.int .i64 y6))]),(.row .byte 5 y4)])]),.gone,.gone,(.row .upl 67 l),(.row .byte 5 b),(.obj 32 [(.p (.int .i64 y7)),(.p (.list .fld y2)),(.p (.list .byte y9))])],119,none⟩)) (.need y1 (.code 0 [1,0,0,1,1,1,0] ⟨[(9,(.v (.one (.ptr 5 0)))),(8,(.v (.one (.p (.int .i64 s))))),(7,(.v (.one (.row 4)))),(6,(.v (.one (.p (.int .i64 y10))))),(5,(.v (.one (.row 3)))),(0,(.v (.one (.p (.list .ask a))))),(3,(.v (.one (.ptr 0 0)))),(4,(.v (.one (.p (.int .i64 (Nat.cast i))))))],[(.pack [(.obj 48 [(.ptr 1 0),(.ptr 2 0)]),(.pack [(.obj 90 [(.row 1),(.p (.int .i64 y5))]),(.row .upl 67 y3)]),(.pack [(.obj 104 [(.row 1),(.p (.int .i64 y6))]),(.row .byte 5 y4)])]),.gone,.gone,(.row .upl 67 l),(.row .byte 5 b),(.obj 32 [(.p (.int .i64 y7)),(.p (.list .fld y2)),(.p (.list .byte y9))])],119,none⟩))))))))))) (.need (I.hid (α:=(Prop)) (zy l n)) (.need y11 (.need y12 (.need y8 (.need y8 (.need y8 (.need y8 (.both (.need y1 (.code 0 [1,0,0,1,1,1,0] ⟨[(9,(.v (.one (.ptr 5 0)))),(8,(.v (.one (.p (.int .i64 s))))),(7,(.v (.one (.row 4)))),(6,(.v (.one (.p (.int .i64 y10))))),(5,(.v (.one (.row 3)))),(0,(.v (.one (.p (.list .ask a))))),(3,(.v (.one (.ptr 0 0)))),(4,(.v (.one (.p (.int .i64 (Nat.cast i))))))],[(.pack [(.obj 48 [(.ptr 1 0),(.ptr 2 0)]),(.pack [(.obj 90 [(.row 1),(.p (.int .i64 y5))]),(.row .upl 67 y3)]),(.pack [(.obj 104 [(.row 1),(.p (.int .i64 y6))]),(.row .byte 5 y4)])]),.gone,.gone,(.row .upl 67 l),(.row .byte 5 b),(.obj 32 [(.p (.int .i64 y7)),(.p (.list .fld y2)),(.p (.list .byte y9))])],119,none⟩)) (.need y1 (.code 0 [1,0,0,1,1,1,0] ⟨[(9,(.v (.one (.ptr 5 0)))),(8,(.v (.one (.p (.int .i64 s))))),(7,(.v (.one (.row 4)))),(6,(.v (.one (.p (.int .i64 y10))))),(5,(.v (.one (.row 3)))),(0,(.v (.one (.p (.list .ask a))))),(3,(.v (.one (.ptr 0 0)))),(4,(.v (.one (.p (.int .i64 (Nat.cast i))))))],[(.pack [(.obj 48 [(.ptr 1 0),(.ptr 2 0)]),(.pack [(.obj 90 [(.row 1),(.p (.int .i64 y5))]),(.row .upl 67 y3)]),(.pack [(.obj 104 [(.row 1),(.p (.int .i64 y6))]),(.row .byte 5 y4)])]),.gone,.gone,(.row .upl 67 l),(.row .byte 5 b),(.obj 32 [(.p (.int .i64 y7)),(.p (.list .fld y2)),(.p (.list .byte y9))])],119,none⟩))))))))))) (.fin (.ret (.v (.one (.p (.bool Bool.true))))) [])) (by kernel_rfl) ?_
  simp only [zl]
  subst hI
  simp only [nrmA,nrmB]
  have hx0: ∀ d,i<a.length→a.getD i d ∈ a:=fun d h=>by
    rw [show a.getD i d=a[i] by simp [h]]
    exact List.getElem_mem h
  have hx:=hx0 ⟨⟨[],[],0,[],0⟩,[]⟩
  clear hx0
  generalize a.getD i ⟨⟨[],[],0,[],0⟩,[]⟩=x at *
  obtain⟨⟨xm,xt,xi,xf,xl⟩,xb⟩:=x
  simp only at *
  have hq1:=wU (q:=⟨l,n,b,s⟩) h2 h4 xm xt xf xb
  have hq2:=zb7 (q:=⟨l,n,b,s⟩) h2 (by simp only;omega) xm xt xf xb
  generalize zB ⟨l,n,b,s⟩ xm xt xf xb=r at *
  obtain⟨st,fs,⟨l2,n2,b2,s2⟩⟩:=r
  have hn0:=h2.n0
  have hfx:i<a.length→FOk xf∧xb.length≤20000:=fun h=>⟨(hfew.2 _ (hx h)).1,(hfew.2 _ (hx h)).2.1⟩
  have hk:=fun(h:i<a.length)=>key12 (n+1) st (resT::fs) l2 n2 b2 s2 rfl rfl hq1.1 (by have:=hq1.2.2.2;simp only at this;omega) hq1.2.1 hq2 h
  clear key12 hA hq2 hw
  obtain⟨hf100,-⟩:=hfew
  (repeat' (first|refine And.intro ?_ ?_|intro _))<;>first|omega|exact True.intro|exact False.elim ‹False›|skip
  all_goals first
    |omega
    |with_reducible rfl
    |with_reducible assumption
    |exact⟨(hfx (by omega)).1,h2,by omega,h4,by have:=(hfx (by omega)).2;omega⟩
    |exact(hfx (by omega)).1.1
    |exact((hfx (by omega)).1.2 _ ‹_›).1
    |exact((hfx (by omega)).1.2 _ ‹_›).2
    |exact seam (by first|rfl|exact hI) zi mixed [yO,yN,Yb,Ya,rX,rW,Yd,Yc,rV,rU,ZV,ZU,qI,qH,Z7,Z5,zar,zaq,Yz,Yy,uZ,uY] hX [0,3,4,5,6,7,8,9] ⟨[(0,.v (.one (.p (.list .ask a)))),(3,.v (.one (.ptr 0 0))),(4,.v (.one (.p (.int .i64 i)))),(5,.v (.one (.row 1))),(6,.v (.one (.p (.int .i64 ((n+1)))))),(7,.v (.one (.row 2))),(8,.v (.one (.p (.int .i64 s)))),(9,.v (.one (.ptr 3 0)))],[.pack [.obj 48 [(.ptr 1 0),(.ptr 2 0)],.pack [.obj 90 [(.row 1),(.p (.int .i64 n2))],.row .upl 67 l2],.pack [.obj 104 [(.row 1),(.p (.int .i64 s2))],.row .byte 5 b2]],.row .upl 67 l,.row .byte 5 b,.pack [.obj 32 [(.p (.int .i64 st)),(.p (.list .fld ((resT::fs)))),(.p (.list .byte ([])))]]],119,none⟩ (by kernel_rfl) (hk (by omega))
    |trace_state
def uX (I:Alg) (args:List D) (hp:List HO):Option CT:=match args,hp with
  |[.v (.one (.p (.list .ask a)))],[]=>(fun(a:List Ab.Ask)=>(some (.one ⟨I.hid (a.length≤140737488355328∧∀ x ∈ a,AskW x),(.ret (.v (.one (.p (.bool true))))),[]⟩):Option CT)) a
  |_,_=>none
theorem Vp:zo Tryz.prog 4 (uX alg):=by
  intro args hp r h
  unfold uX at h
  split at h
  · cases h;exact fun hn=>zga _ hn
  · cases h
def tusStays__k:Know Tryz.prog:=⟨4,uX,Vp⟩
def tusStays__l:Know Tryz.prog:=⟨4,fun I=>zu I (uX I),zf Vp⟩
end Go.Proofs.YtcclfkakcgnacaaGreatDoor
