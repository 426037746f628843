/- Texts of this proof, one behind the other: TusO TusP SamF TusM TusQ. -/
import Derived.Test.YtcclfkakcgnacaaGreatDoorMe
set_option linter.all false
namespace Go.Proofs.YtcclfkakcgnacaaGreatDoor
open Go Go.Sep Go.Ab Go.Jrn
set_option maxRecDepth 100000
set_option maxHeartbeats 8000000 in
theorem zlG (m t:Str) (mi:Int) (f:List Fld) (le:Int) (l:List Upl) (n:Int) (b:Str) (s:Int) (ui uz:Int) (uo ub:Str) (us:Int) (body:Str) (hneed:FOk f∧zu l n∧n≤200000∧b.length≤100000∧body.length≤100000∧getB l ui=true∧getU l ui=⟨ui,uz,uo,ub,us⟩):Spc Tryz.prog 37 [.v (.one (.ptr 0 0)),.v (.agg [(.p (.str m)),(.p (.str t)),(.p (.int .i64 mi)),(.p (.list .fld f)),(.p (.int .i64 le))]),.v (.agg [(.p (.int .i64 ui)),(.p (.int .i64 uz)),(.p (.str uo)),(.p (.list .byte ub)),(.p (.int .i64 us))]),.v (.one (.p (.list .byte body)))] [.pack [.obj 53 [(.ptr 1 0),(.row 2),(.p (.int .i64 s))],.pack [.obj 50 [(.row 1),(.p (.int .i64 n))],.row .upl 67 l],.row .byte 5 b]] (.ret (.v (.agg [(.p (.int .i64 ((zX ⟨l,n,b,s⟩ ⟨ui,uz,uo,ub,us⟩ f body).st))),(.p (.list .fld ((resT::(zX ⟨l,n,b,s⟩ ⟨ui,uz,uo,ub,us⟩ f body).fs)))),(.p (.list .byte ([])))]))) [.pack [.obj 53 [(.ptr 1 0),(.row 2),(.p (.int .i64 ((zX ⟨l,n,b,s⟩ ⟨ui,uz,uo,ub,us⟩ f body).q.s)))],.pack [.obj 50 [(.row 1),(.p (.int .i64 ((zX ⟨l,n,b,s⟩ ⟨ui,uz,uo,ub,us⟩ f body).q.n)))],.row .upl 67 ((zX ⟨l,n,b,s⟩ ⟨ui,uz,uo,ub,us⟩ f body).q.l)],.row .byte 5 ((zX ⟨l,n,b,s⟩ ⟨ui,uz,uo,ub,us⟩ f body).q.b)]]:=by
  obtain⟨hf,hs,hn,hb,hbl,hgB,hgU⟩:=hneed
  have hn0:=hs.n0
  have hus:=Wl hs ui
  have hat:getU l ui ∈ l:=by
    have hat:atU l ui<l.length:=by unfold getB at hgB;simpa using hgB
    unfold getU
    rw [if_pos hat];exact vG hat
  have hid:=hs.ids _ hat
  rw [hgU] at hus hid
  simp only at hus hid
  have hdf:=fun(nv sz:Int) (h1:nv=(ub.length:Int)) (h2:wsC ⟨l,n,b,s⟩ (apE ui body)=0) (h3:0≤sz) (h4:sz≤2000) (h5:nv+(body.length:Int)≤sz) (h6:uz<0) (h7:tJ b ((body.length:Int)+60)=true)=>zh7 (q:=⟨l,n,b,s⟩) (u:=⟨ui,uz,uo,ub,us⟩) (body:=body) (nv:=nv) (sz:=sz) hgB hgU h1 ⟨hid.1,by simp only;omega⟩ h2 h3 h4 h5 h6 h7
  have hcm:=vk f Wv
  have hol:=V3 hf Wv
  have hs2:=zdh hs b (apE ui body)
  have hnn:wrtN l n b (apE ui body)=n:=Uk (by simp [apE])
  have hbb:=Vl (l:=l) (n:=n) (b:=b) (apE ui body) hb
  clear hgB hgU hat
  generalize hr:zX ⟨l,n,b,s⟩ ⟨ui,uz,uo,ub,us⟩ f body=r
  obtain⟨st,fs,⟨l',n',b',s'⟩⟩:=r
  unfold zX wsC wsS syS at hr
  unfold wsC wsS at hdf
  simp only at hr hdf
  refine spcG zi mixed Tryz.func37 (by kernel_rfl) { sl:=xG.sl,fz:=[30],seam:=[7,12,15,18],keep:=some [0,1,2,3,5,6,8,9,10,11,12,13,14,15,16,17]} [zT,zS,yA,yx,vg,ve,xJ,xI,yZ,yY,wZ,wY,zK,zJ,zC,zB,zF,zD,yw,yu] (by kernel_rfl) ?_
  intro I X hI hX
  refine zh (let y2:=([99,111,110,116,101,110,116,45,116,121,112,101]:Str);let y0:=I.hid (α:=Str) (Prod.fst (oneF (valsF f y2)));let y1:HO:=.pack [(.obj 53 [(.ptr 1 0),(.row 2),(.p (.int .i64 s))]),(.pack [(.obj 50 [(.row 1),(.p (.int .i64 n))]),(.row .upl 67 l)]),(.row .byte 5 b)];let y3:=I.hid (α:=(Prop)) (LE.le (List.length ([]:List (Str))) 1000);let y4:=I.hid (α:=(List Fld)) (resT::(prs ([]:List (Str))));let y5:=I.hid (α:=Str) (Go.Ab.Med.word (Prod.fst (xY y0)));let y6:=I.hid (α:=Int) (Prod.snd (oneF (valsF f y2)));let y7:=I.hid (α:=Int) (Prod.snd (xY y0));.need (I.hid (α:=(Prop)) (And (LE.le (List.length f) 1000) (And (LE.le (List.length y2) 1000000) (∀ (f_1:Fld),f_1 ∈ f→List.length f_1.name≤1000000∧List.length f_1.value≤1000000)))) (.br (I.ieq y6 9) (.need y3 (.fin (.ret (.v (.agg [(.p (.int .i64 400)),(.p (.list .fld y4)),(.p (.list .byte (I.hid (α:=Str) ([]:Str))))]))) [y1])) (.need (I.hid (α:=(Prop)) (LE.le (List.length y0) 1000000)) (.br (I.bnot (I.ieq y7 0)) (.need y3 (.fin (.ret (.v (.agg [(.p (.int .i64 415)),(.p (.list .fld y4)),(.p (.list .byte (I.hid (α:=Str) ([]:Str))))]))) [y1])) (.br (I.bnot (I.seq y5 ([97,112,112,108,105,99,97,116,105,111,110,47,111,102,102,115,101,116,43,111,99,116,101,116,45,115,116,114,101,97,109]:Str))) (.need y3 (.fin (.ret (.v (.agg [(.p (.int .i64 415)),(.p (.list .fld y4)),(.p (.list .byte (I.hid (α:=Str) ([]:Str))))]))) [y1])) (.code 0 [1,1,1,1,1,0] ⟨[(12,(.v (.one (.p (.int .i64 y7))))),(11,(.v (.one (.ptr 4 0)))),(10,(.v (.one (.p (.int .i64 y6))))),(9,(.v (.one (.p (.str y0))))),(8,(.v (.one (.ptr 3 0)))),(6,(.v (.one (.ptr 2 0)))),(5,(.v (.one (.ptr 1 0)))),(0,(.v (.one (.ptr 0 0)))),(1,(.v (.agg [(.p (.str m)),(.p (.str t)),(.p (.int .i64 mi)),(.p (.list .fld f)),(.p (.int .i64 le))]))),(2,(.v (.agg [(.p (.int .i64 ui)),(.p (.int .i64 uz)),(.p (.str uo)),(.p (.list .byte ub)),(.p (.int .i64 us))]))),(3,(.v (.one (.p (.list .byte body)))))],[y1,(.obj 35 [(.p (.str m)),(.p (.str t)),(.p (.int .i64 mi)),(.p (.list .fld f)),(.p (.int .i64 le))]),(.obj 67 [(.p (.int .i64 ui)),(.p (.int .i64 uz)),(.p (.str uo)),(.p (.list .byte ub)),(.p (.int .i64 us))]),(.obj 32 [(.p (.int .i64 0)),.nilS,.nilS]),(.obj 115 [(.p (.str y5)),(.p (.list .fld (I.hid (α:=(List Fld)) (Go.Ab.Med.params (Prod.fst (xY y0))))))])],135,none⟩)))))) (by kernel_rfl) ?_
  simp only [zk]
  have hh: ∀ {α:Type} (x:α),I.hid x=x:=by subst hI;intros;rfl
  have key18: ∀ (nv sz:Int) (tl:Bool),nv=(ub.length:Int)→tl=decide (0≤sz∧uz<0)→(0≤sz∧uz<0→sz≤2000∧nv+(body.length:Int)≤sz)→(if tJ b ((body.length:Int)+60)=false then(⟨507,[],⟨l,n,b,s⟩⟩:TA) else(if(if apG l ui nv then 17 else wrtC l n b (apE ui body))≠0 then(⟨wE (if apG l ui nv then 17 else wrtC l n b (apE ui body)),[],⟨l,n,b,s⟩⟩:TA)
    else if 0≤sz∧uz<0 then
      if wrtC (wrtL l n b (apE ui body)) (wrtN l n b (apE ui body)) (wrtB l n b (apE ui body)) ⟨3,ui,sz,[]⟩≠0 then(⟨wE (wrtC (wrtL l n b (apE ui body)) (wrtN l n b (apE ui body)) (wrtB l n b (apE ui body)) ⟨3,ui,sz,[]⟩),[],⟨wrtL l n b (apE ui body),wrtN l n b (apE ui body),wrtB l n b (apE ui body),s⟩⟩:TA)
      else(⟨204,[⟨qh,decS (nv+(body.length:Int))⟩],⟨wrtL (wrtL l n b (apE ui body)) (wrtN l n b (apE ui body)) (wrtB l n b (apE ui body)) ⟨3,ui,sz,[]⟩,wrtN (wrtL l n b (apE ui body)) (wrtN l n b (apE ui body)) (wrtB l n b (apE ui body)) ⟨3,ui,sz,[]⟩,wrtB (wrtL l n b (apE ui body)) (wrtN l n b (apE ui body)) (wrtB l n b (apE ui body)) ⟨3,ui,sz,[]⟩,((wrtB (wrtL l n b (apE ui body)) (wrtN l n b (apE ui body)) (wrtB l n b (apE ui body)) ⟨3,ui,sz,[]⟩).length:Int)⟩⟩:TA)
    else(⟨204,[⟨qh,decS (nv+(body.length:Int))⟩],⟨wrtL l n b (apE ui body),wrtN l n b (apE ui body),wrtB l n b (apE ui body),((wrtB l n b (apE ui body)).length:Int)⟩⟩:TA)))=⟨st,fs,⟨l',n',b',s'⟩⟩→Ok Tryz.prog X (fun o h=>o=(.ret (.v (.agg [(.p (.int .i64 st)),(.p (.list .fld ((resT::fs)))),(.p (.list .byte ([])))])))∧h=[.pack [.obj 53 [(.ptr 1 0),(.row 2),(.p (.int .i64 (s')))],.pack [.obj 50 [(.row 1),(.p (.int .i64 (n')))],.row .upl 67 (l')],.row .byte 5 (b')]]) (go I tab { sl:=xG.sl,fz:=[30],seam:=[7,12,15,18],keep:=some [0,1,2,3,5,6,8,9,10,11,12,13,14,15,16,17]} [zT,zS,yA,yx,vg,ve,xJ,xI,yZ,yY,wZ,wY,zK,zJ,zC,zB,zF,zD,yw,yu] [⟨yH Tryz.f37,finK I tab { sl:=xG.sl,fz:=[30],seam:=[7,12,15,18],keep:=some [0,1,2,3,5,6,8,9,10,11,12,13,14,15,16,17]} 1 Tryz.f37⟩] 0 [1,1,1,1,1,1,1,1,1,1,1,1,0,0] ⟨[(0,.v (.one (.ptr 0 0))),(3,.v (.one (.p (.list .byte body)))),(5,.v (.one (.ptr 1 0))),(6,.v (.one (.ptr 2 0))),(8,.v (.one (.ptr 3 0))),(13,.v (.one (.p (.int .i64 nv)))),(15,.v (.one (.p (.int .i64 sz)))),(16,.v (.one (.p (.bool tl))))],[.pack [.obj 53 [(.ptr 1 0),(.row 2),(.p (.int .i64 s))],.pack [.obj 50 [(.row 1),(.p (.int .i64 n))],.row .upl 67 l],.row .byte 5 b],.pack [.obj 35 [(.p (.str m)),(.p (.str t)),(.p (.int .i64 mi)),(.p (.list .fld f)),(.p (.int .i64 le))]],.pack [.obj 67 [(.p (.int .i64 ui)),(.p (.int .i64 uz)),(.p (.str uo)),(.p (.list .byte ub)),(.p (.int .i64 us))]],.pack [.obj 32 [(.p (.int .i64 0)),.nilS,.nilS]]],135,none⟩):=by
    intro nv sz tl hnv htl hle hr
    refine zh (let y6:=I.hid (α:=(List Upl)) (ite (Eq (apG l ui nv) Bool.true) l (wrtL l n b (Ent.mk (2:Int) ui (0:Int) body)));let y4:=I.hid (α:=Int) (ite (Eq (apG l ui nv) Bool.true) n (wrtN l n b (Ent.mk (2:Int) ui (0:Int) body)));let y7:=I.hid (α:=Str) (ite (Eq (apG l ui nv) Bool.true) b (wrtB l n b (Ent.mk (2:Int) ui (0:Int) body)));let y0:HO:=.pack [(.obj 53 [(.ptr 1 0),(.row 2),(.p (.int .i64 (I.hid (α:=Int) (Nat.cast (List.length (I.hid (α:=Str) (wrtB y6 y4 y7 (Ent.mk (3:Int) ui sz ([]:Str)))))))))]),(.pack [(.obj 50 [(.row 1),(.p (.int .i64 (I.hid (α:=Int) (wrtN y6 y4 y7 (Ent.mk (3:Int) ui sz ([]:Str))))))]),(.row .upl 67 (I.hid (α:=(List Upl)) (wrtL y6 y4 y7 (Ent.mk (3:Int) ui sz ([]:Str)))))]),(.row .byte 5 (I.hid (α:=Str) (wrtB y6 y4 y7 (Ent.mk (3:Int) ui sz ([]:Str)))))];let y1:HO:=.pack [(.obj 53 [(.ptr 1 0),(.row 2),(.p (.int .i64 (I.hid (α:=Int) (Nat.cast (List.length y7)))))]),(.pack [(.obj 50 [(.row 1),(.p (.int .i64 y4))]),(.row .upl 67 y6)]),(.row .byte 5 y7)];let y2:=([85,112,108,111,97,100,45,79,102,102,115,101,116]:Str);let y3:=I.add nv (I.len (α:=UInt8) body);let y5:=I.hid (α:=Int) (ite (Eq (apG l ui nv) Bool.true) (17:Int) (wrtC l n b (Ent.mk (2:Int) ui (0:Int) body)));let y8:=I.hid (α:=(Prop)) (LE.le (List.length ([y2,(I.hid (α:=Str) ([45,49]:Str))]:List (Str))) 1000);let y9:=I.hid (α:=(Prop)) (LE.le (List.length ([y2,(I.hid (α:=Str) (decS y3))]:List (Str))) 1000);let y10:=I.hid (α:=(List Fld)) (resT::(prs ([y2,(I.hid (α:=Str) ([45,49]:Str))]:List (Str))));let y11:=I.hid (α:=(List Fld)) (resT::(prs ([y2,(I.hid (α:=Str) (decS y3))]:List (Str))));let y12:=I.hid (α:=(Prop)) (And (LE.le (0:Int) y3) (LT.lt y3 (1000000000:Int)));let y13:=I.add (I.len (α:=UInt8) body) 60;let y14:=I.hid (α:=(Prop)) (LE.le (List.length ([]:List (Str))) 1000);let y15:=I.hid (α:=(List Fld)) (resT::(prs ([]:List (Str))));let y16:=I.hid (α:=Bool) (Decidable.decide (LE.le (0:Int) y3));let y17:=I.hid (α:=(Prop)) (Eq y3 (Neg.neg (1:Int)));let y18:HO:=.obj 53 [(.ptr 1 0),(.row 2),(.p (.int .i64 s))];.need (I.inr Go.IntKind.i64 y13) (.need (I.hid (α:=(Prop)) (LE.le (List.length b) 100000)) (.br (I.bnot (I.hid (α:=Bool) (Bool.and (Decidable.decide (LE.le (0:Int) y13)) (Decidable.decide (LE.le y13 (HSub.hSub (100000:Int) (Nat.cast (List.length b)))))))) (.need y14 (.fin (.ret (.v (.agg [(.p (.int .i64 507)),(.p (.list .fld y15)),(.p (.list .byte (I.hid (α:=Str) ([]:Str))))]))) [(.pack [y18,(.pack [(.obj 50 [(.row 1),(.p (.int .i64 n))]),(.row .upl 67 l)]),(.row .byte 5 b)])])) (.need (I.hid (α:=(Prop)) (And (zu l n) (And (LE.le n (200000:Int)) (And (LE.le (List.length body) 1000000) (LE.le (List.length b) 100000))))) (.br (I.bnot (I.ieq y5 0)) (.need (I.hid (α:=(Prop)) True) (.need y14 (.fin (.ret (.v (.agg [(.p (.int .i64 (I.hid (α:=Int) (wE y5)))),(.p (.list .fld y15)),(.p (.list .byte (I.hid (α:=Str) ([]:Str))))]))) [(.pack [y18,(.pack [(.obj 50 [(.row 1),(.p (.int .i64 y4))]),(.row .upl 67 y6)]),(.row .byte 5 y7)])]))) (.br tl (.need (I.hid (α:=(Prop)) (And (zu y6 y4) (And (LE.le y4 (200000:Int)) (LE.le (List.length y7) 100000)))) (.need (I.hid (α:=(Prop)) True) (.need (I.inr Go.IntKind.i64 y3) (.br y16 (.need y12 (.need y9 (.fin (.ret (.v (.agg [(.p (.int .i64 204)),(.p (.list .fld y11)),(.p (.list .byte (I.hid (α:=Str) ([]:Str))))]))) [y0]))) (.need y17 (.need y8 (.fin (.ret (.v (.agg [(.p (.int .i64 204)),(.p (.list .fld y10)),(.p (.list .byte (I.hid (α:=Str) ([]:Str))))]))) [y0]))))))) (.need (I.hid (α:=(Prop)) True) (.need (I.inr Go.IntKind.i64 y3) (.br y16 (.need y12 (.need y9 (.fin (.ret (.v (.agg [(.p (.int .i64 204)),(.p (.list .fld y11)),(.p (.list .byte (I.hid (α:=Str) ([]:Str))))]))) [y1]))) (.need y17 (.need y8 (.fin (.ret (.v (.agg [(.p (.int .i64 204)),(.p (.list .fld y10)),(.p (.list .byte (I.hid (α:=Str) ([]:Str))))]))) [y1])))))))))))) (by kernel_rfl) ?_
    simp only [zk]
    clear hX hcm hol
    have hdf:=hdf nv sz hnv
    unfold qh at hr
    unfold apE at *
    subst hI
    simp only [nrmA,nrmB,nrlB,reduceCtorEq,V0.agg.injEq,HO.pack.injEq,HO.obj.injEq]
    by_cases hroom:tJ b ((body.length:Int)+60)=true
    · have hro:0≤(body.length:Int)+60∧(body.length:Int)+60≤100000 - (b.length:Int):=by unfold tJ at hroom;simpa using hroom
      rw [if_neg (by rw [hroom];simp)] at hr
      by_cases hg:apG l ui nv=true
      · simp only [hg,if_true] at hr ⊢
        rw [if_pos (by decide)] at hr
        clear hs2 hnn hbb
        simp only [TA.mk.injEq,Sto.mk.injEq] at hr
        obtain⟨q1,q2,q3,q4,q5,q6⟩:=hr
        subst q1 q2 q3 q4 q5 q6
        (repeat' (first|refine And.intro ?_ ?_|intro _))<;>first|omega|exact True.intro|exact False.elim ‹False›|skip
        all_goals first
          |with_reducible rfl
          |(exfalso;have:=of_decide_eq_false ‹_›;omega)
          |with_reducible assumption
          |omega
          |exact hs
          |exact hs2
          |exact hf.1
          |(exact(hf.2 _ ‹_›).1)
          |(exact(hf.2 _ ‹_›).2)
          |exact⟨hf,by decide⟩
          |(simp only [List.length_cons,List.length_nil];omega)
          |rfl
          |(exfalso;simp_all;done)
      simp only [hg,Bool.false_eq_true,if_false] at hr ⊢
      clear hg
      by_cases h1:wrtC l n b ⟨2,ui,0,body⟩=0
      · rw [if_neg (fun h=>h h1)] at hr
        have hdf:=hdf h1
        simp only [h1] at ⊢
        clear h1
        generalize wrtL l n b ⟨2,ui,0,body⟩=l2 at *
        generalize wrtN l n b ⟨2,ui,0,body⟩=n2 at *
        generalize wrtB l n b ⟨2,ui,0,body⟩=b2 at *
        by_cases h2:0≤sz∧uz<0
        · have h3:=hdf h2.1 (hle h2).1 (hle h2).2 h2.2 hroom
          rw [if_pos h2,if_neg (fun h=>h h3)] at hr
          rw [decide_eq_true h2] at htl
          subst htl
          simp only [TA.mk.injEq,Sto.mk.injEq] at hr
          obtain⟨q1,q2,q3,q4,q5,q6⟩:=hr
          subst q1 q2 q3 q4 q5 q6
          simp only [nrmA,nrmB,nrlB,reduceCtorEq,V0.agg.injEq,HO.pack.injEq,HO.obj.injEq,decide_true,decide_false,Bool.true_eq_false,Bool.false_eq_true,forall_const,false_implies,true_implies,not_true_eq_false,not_false_eq_true]
          (repeat' (first|refine And.intro ?_ ?_|intro _))<;>first|omega|exact True.intro|exact False.elim ‹False›|skip
          all_goals first
            |with_reducible rfl
            |(exfalso;have:=of_decide_eq_false ‹_›;omega)
            |with_reducible assumption
            |omega
            |exact hs
            |exact hs2
            |exact hf.1
            |(exact(hf.2 _ ‹_›).1)
            |(exact(hf.2 _ ‹_›).2)
            |exact⟨hf,by decide⟩
            |(simp only [List.length_cons,List.length_nil];omega)
            |rfl
            |(exfalso;simp_all;done)
        · rw [if_neg h2] at hr
          rw [decide_eq_false h2] at htl
          subst htl
          simp only [TA.mk.injEq,Sto.mk.injEq] at hr
          obtain⟨q1,q2,q3,q4,q5,q6⟩:=hr
          subst q1 q2 q3 q4 q5 q6
          simp only [nrmA,nrmB,nrlB,reduceCtorEq,V0.agg.injEq,HO.pack.injEq,HO.obj.injEq,decide_true,decide_false,Bool.true_eq_false,Bool.false_eq_true,forall_const,false_implies,true_implies,not_true_eq_false,not_false_eq_true]
          (repeat' (first|refine And.intro ?_ ?_|intro _))<;>first|omega|exact True.intro|exact False.elim ‹False›|skip
          all_goals first
            |with_reducible rfl
            |(exfalso;have:=of_decide_eq_false ‹_›;omega)
            |with_reducible assumption
            |omega
            |exact hs
            |exact hs2
            |exact hf.1
            |(exact(hf.2 _ ‹_›).1)
            |(exact(hf.2 _ ‹_›).2)
            |exact⟨hf,by decide⟩
            |(simp only [List.length_cons,List.length_nil];omega)
            |rfl
            |(exfalso;simp_all;done)
      · rw [if_pos h1] at hr
        simp only [TA.mk.injEq,Sto.mk.injEq] at hr
        obtain⟨q1,q2,q3,q4,q5,q6⟩:=hr
        subst q1 q2 q3 q4 q5 q6
        have e1:wrtL l n b ⟨2,ui,0,body⟩=l:=by simp only [wrtL,if_neg h1]
        have e2:wrtN l n b ⟨2,ui,0,body⟩=n:=by simp only [wrtN,if_neg h1]
        have e3:wrtB l n b ⟨2,ui,0,body⟩=b:=by simp only [wrtB,if_neg h1]
        rw [e1,e2,e3]
        clear e1 e2 e3 hs2 hnn hbb
        generalize wrtC l n b ⟨2,ui,0,body⟩=c2 at *
        simp only [nrmA,nrmB,nrlB,reduceCtorEq,V0.agg.injEq,HO.pack.injEq,HO.obj.injEq,decide_true,decide_false,Bool.true_eq_false,Bool.false_eq_true,forall_const,false_implies,true_implies,not_true_eq_false,not_false_eq_true,h1]
        (repeat' (first|refine And.intro ?_ ?_|intro _))<;>first|omega|exact True.intro|exact False.elim ‹False›|skip
        all_goals first
          |with_reducible rfl
          |(exfalso;have:=of_decide_eq_false ‹_›;omega)
          |with_reducible assumption
          |omega
          |exact hs
          |exact hs2
          |exact hf.1
          |(exact(hf.2 _ ‹_›).1)
          |(exact(hf.2 _ ‹_›).2)
          |exact⟨hf,by decide⟩
          |(simp only [List.length_cons,List.length_nil];omega)
          |rfl
          |(exfalso;simp_all;done)
    · have hro: ¬ (0≤(body.length:Int)+60∧(body.length:Int)+60≤100000 - (b.length:Int)):=by unfold tJ at hroom;simpa using hroom
      rw [if_pos (by simpa using hroom)] at hr
      clear hs2 hnn hbb
      simp only [TA.mk.injEq,Sto.mk.injEq] at hr
      obtain⟨q1,q2,q3,q4,q5,q6⟩:=hr
      subst q1 q2 q3 q4 q5 q6
      (repeat' (first|refine And.intro ?_ ?_|intro _))<;>first|omega|exact True.intro|exact False.elim ‹False›|skip
      all_goals first
        |with_reducible rfl
        |(exfalso;have:=of_decide_eq_false ‹_›;omega)
        |with_reducible assumption
        |omega
        |exact hs
        |exact hs2
        |exact hf.1
        |(exact(hf.2 _ ‹_›).1)
        |(exact(hf.2 _ ‹_›).2)
        |exact⟨hf,by decide⟩
        |(simp only [List.length_cons,List.length_nil];omega)
        |rfl
        |(exfalso;simp_all;done)
        |(exfalso;have w:=(by assumption:_∧_);exact hro ⟨of_decide_eq_true w.1,of_decide_eq_true w.2⟩)
  have key15: ∀ (nv sz:Int),nv=(ub.length:Int)→(if 0≤sz∧uz<0∧(2000<sz∨sz<nv+(body.length:Int)) then(⟨413,[],⟨l,n,b,s⟩⟩:TA) else(if tJ b ((body.length:Int)+60)=false then(⟨507,[],⟨l,n,b,s⟩⟩:TA) else(if(if apG l ui nv then 17 else wrtC l n b (apE ui body))≠0 then(⟨wE (if apG l ui nv then 17 else wrtC l n b (apE ui body)),[],⟨l,n,b,s⟩⟩:TA)
    else if 0≤sz∧uz<0 then
      if wrtC (wrtL l n b (apE ui body)) (wrtN l n b (apE ui body)) (wrtB l n b (apE ui body)) ⟨3,ui,sz,[]⟩≠0 then(⟨wE (wrtC (wrtL l n b (apE ui body)) (wrtN l n b (apE ui body)) (wrtB l n b (apE ui body)) ⟨3,ui,sz,[]⟩),[],⟨wrtL l n b (apE ui body),wrtN l n b (apE ui body),wrtB l n b (apE ui body),s⟩⟩:TA)
      else(⟨204,[⟨qh,decS (nv+(body.length:Int))⟩],⟨wrtL (wrtL l n b (apE ui body)) (wrtN l n b (apE ui body)) (wrtB l n b (apE ui body)) ⟨3,ui,sz,[]⟩,wrtN (wrtL l n b (apE ui body)) (wrtN l n b (apE ui body)) (wrtB l n b (apE ui body)) ⟨3,ui,sz,[]⟩,wrtB (wrtL l n b (apE ui body)) (wrtN l n b (apE ui body)) (wrtB l n b (apE ui body)) ⟨3,ui,sz,[]⟩,((wrtB (wrtL l n b (apE ui body)) (wrtN l n b (apE ui body)) (wrtB l n b (apE ui body)) ⟨3,ui,sz,[]⟩).length:Int)⟩⟩:TA)
    else(⟨204,[⟨qh,decS (nv+(body.length:Int))⟩],⟨wrtL l n b (apE ui body),wrtN l n b (apE ui body),wrtB l n b (apE ui body),((wrtB l n b (apE ui body)).length:Int)⟩⟩:TA))))=⟨st,fs,⟨l',n',b',s'⟩⟩→Ok Tryz.prog X (fun o h=>o=(.ret (.v (.agg [(.p (.int .i64 st)),(.p (.list .fld ((resT::fs)))),(.p (.list .byte ([])))])))∧h=[.pack [.obj 53 [(.ptr 1 0),(.row 2),(.p (.int .i64 (s')))],.pack [.obj 50 [(.row 1),(.p (.int .i64 (n')))],.row .upl 67 (l')],.row .byte 5 (b')]]) (go I tab { sl:=xG.sl,fz:=[30],seam:=[7,12,15,18],keep:=some [0,1,2,3,5,6,8,9,10,11,12,13,14,15,16,17]} [zT,zS,yA,yx,vg,ve,xJ,xI,yZ,yY,wZ,wY,zK,zJ,zC,zB,zF,zD,yw,yu] [⟨yH Tryz.f37,finK I tab { sl:=xG.sl,fz:=[30],seam:=[7,12,15,18],keep:=some [0,1,2,3,5,6,8,9,10,11,12,13,14,15,16,17]} 1 Tryz.f37⟩] 0 [1,1,1,1,1,1,1,1,1,1,0] ⟨[(0,.v (.one (.ptr 0 0))),(3,.v (.one (.p (.list .byte body)))),(5,.v (.one (.ptr 1 0))),(6,.v (.one (.ptr 2 0))),(8,.v (.one (.ptr 3 0))),(13,.v (.one (.p (.int .i64 nv)))),(15,.v (.one (.p (.int .i64 sz))))],[.pack [.obj 53 [(.ptr 1 0),(.row 2),(.p (.int .i64 s))],.pack [.obj 50 [(.row 1),(.p (.int .i64 n))],.row .upl 67 l],.row .byte 5 b],.pack [.obj 35 [(.p (.str m)),(.p (.str t)),(.p (.int .i64 mi)),(.p (.list .fld f)),(.p (.int .i64 le))]],.pack [.obj 67 [(.p (.int .i64 ui)),(.p (.int .i64 uz)),(.p (.str uo)),(.p (.list .byte ub)),(.p (.int .i64 us))]],.pack [.obj 32 [(.p (.int .i64 0)),.nilS,.nilS]]],135,none⟩):=by
    intro nv sz hnv hr
    refine zh (let y0:HO:=.pack [(.obj 53 [(.ptr 1 0),(.row 2),(.p (.int .i64 s))]),(.pack [(.obj 50 [(.row 1),(.p (.int .i64 n))]),(.row .upl 67 l)]),(.row .byte 5 b)];let y1:HO:=.pack [(.obj 35 [(.p (.str m)),(.p (.str t)),(.p (.int .i64 mi)),(.p (.list .fld f)),(.p (.int .i64 le))])];let y2:HO:=.obj 67 [(.p (.int .i64 ui)),(.p (.int .i64 uz)),(.p (.str uo)),(.p (.list .byte ub)),(.p (.int .i64 us))];let y3:HO:=.pack [(.obj 32 [(.p (.int .i64 0)),.nilS,.nilS])];let y4:=I.hid (α:=(Prop)) (LE.le (List.length ([]:List (Str))) 1000);let y5:=I.hid (α:=(List Fld)) (resT::(prs ([]:List (Str))));let y6:=I.add nv (I.len (α:=UInt8) body);.br (I.ile 0 sz) (.br (I.ilt uz 0) (.br (I.ilt 2000 sz) (.need y4 (.fin (.ret (.v (.agg [(.p (.int .i64 413)),(.p (.list .fld y5)),(.p (.list .byte (I.hid (α:=Str) ([]:Str))))]))) [y0])) (.need (I.inr Go.IntKind.i64 y6) (.br (I.ilt sz y6) (.need y4 (.fin (.ret (.v (.agg [(.p (.int .i64 413)),(.p (.list .fld y5)),(.p (.list .byte (I.hid (α:=Str) ([]:Str))))]))) [y0])) (.code 0 [1,1,1,1,1,1,1,1,1,1,1,1,0,0] ⟨[(16,(.v (.one (.p (.bool (I.ilt uz 0)))))),(0,(.v (.one (.ptr 0 0)))),(3,(.v (.one (.p (.list .byte body))))),(5,(.v (.one (.ptr 1 0)))),(6,(.v (.one (.ptr 2 0)))),(8,(.v (.one (.ptr 3 0)))),(13,(.v (.one (.p (.int .i64 nv))))),(15,(.v (.one (.p (.int .i64 sz)))))],[y0,y1,y2,y3],135,none⟩)))) (.code 0 [1,1,1,1,1,1,1,1,1,1,1,1,0,0] ⟨[(16,(.v (.one (.p (.bool (I.ilt uz 0)))))),(0,(.v (.one (.ptr 0 0)))),(3,(.v (.one (.p (.list .byte body))))),(5,(.v (.one (.ptr 1 0)))),(6,(.v (.one (.ptr 2 0)))),(8,(.v (.one (.ptr 3 0)))),(13,(.v (.one (.p (.int .i64 nv))))),(15,(.v (.one (.p (.int .i64 sz)))))],[y0,y1,y2,y3],135,none⟩)) (.code 0 [1,1,1,1,1,1,1,1,1,1,1,1,0,0] ⟨[(16,(.v (.one (.p (.val (.bool .false)))))),(0,(.v (.one (.ptr 0 0)))),(3,(.v (.one (.p (.list .byte body))))),(5,(.v (.one (.ptr 1 0)))),(6,(.v (.one (.ptr 2 0)))),(8,(.v (.one (.ptr 3 0)))),(13,(.v (.one (.p (.int .i64 nv))))),(15,(.v (.one (.p (.int .i64 sz)))))],[y0,y1,(.pack [y2]),y3],135,none⟩)) (by kernel_rfl) ?_
    simp only [zk]
    clear hcm hol hs2 hnn hbb hdf
    subst hI
    simp only [nrmA,nrmB,nrlB,reduceCtorEq,V0.agg.injEq,HO.pack.injEq,HO.obj.injEq]
    by_cases h2:0≤sz∧uz<0∧(2000<sz∨sz<nv+(body.length:Int))
    · rw [if_pos h2] at hr
      clear key18
      simp only [TA.mk.injEq,Sto.mk.injEq] at hr
      obtain⟨q1,q2,q3,q4,q5,q6⟩:=hr
      subst q1 q2 q3 q4 q5 q6
      (repeat' (first|refine And.intro ?_ ?_|intro _))<;>first|omega|exact True.intro|exact False.elim ‹False›|skip
      all_goals first
        |with_reducible rfl
        |(exfalso;have:=of_decide_eq_false ‹_›;omega)
        |with_reducible assumption
        |omega
        |exact hs
        |exact hs2
        |exact hf.1
        |(exact(hf.2 _ ‹_›).1)
        |(exact(hf.2 _ ‹_›).2)
        |exact⟨hf,by decide⟩
        |(simp only [List.length_cons,List.length_nil];omega)
        |rfl
        |(exfalso;simp_all;done)
    rw [if_neg h2] at hr
    have hk:=fun(tl:Bool) (h:tl=decide (0≤sz∧uz<0))=>key18 nv sz tl hnv h (fun h3=>by omega) hr
    clear key18
    (repeat' (first|refine And.intro ?_ ?_|intro _))<;>first|omega|exact True.intro|exact False.elim ‹False›|skip
    all_goals first
      |((with_reducible show Ok _ _ _ _);(try(exfalso;omega));first|exact seam (by first|rfl|exact hI) zi mixed [zT,zS,yA,yx,vg,ve,xJ,xI,yZ,yY,wZ,wY,zK,zJ,zC,zB,zF,zD,yw,yu] hX [0,3,5,6,8,13,15,16] ⟨[(0,.v (.one (.ptr 0 0))),(3,.v (.one (.p (.list .byte body)))),(5,.v (.one (.ptr 1 0))),(6,.v (.one (.ptr 2 0))),(8,.v (.one (.ptr 3 0))),(13,.v (.one (.p (.int .i64 nv)))),(15,.v (.one (.p (.int .i64 sz)))),(16,.v (.one (.p (.bool ((decide (uz<0)))))))],[.pack [.obj 53 [(.ptr 1 0),(.row 2),(.p (.int .i64 s))],.pack [.obj 50 [(.row 1),(.p (.int .i64 n))],.row .upl 67 l],.row .byte 5 b],.pack [.obj 35 [(.p (.str m)),(.p (.str t)),(.p (.int .i64 mi)),(.p (.list .fld f)),(.p (.int .i64 le))]],.pack [.obj 67 [(.p (.int .i64 ui)),(.p (.int .i64 uz)),(.p (.str uo)),(.p (.list .byte ub)),(.p (.int .i64 us))]],.pack [.obj 32 [(.p (.int .i64 0)),.nilS,.nilS]]],135,none⟩ (by kernel_rfl) (hk _ (by have h0:0≤sz:=(by omega);simp [h0]))|exact seam (by first|rfl|exact hI) zi mixed [zT,zS,yA,yx,vg,ve,xJ,xI,yZ,yY,wZ,wY,zK,zJ,zC,zB,zF,zD,yw,yu] hX [0,3,5,6,8,13,15,16] ⟨[(0,.v (.one (.ptr 0 0))),(3,.v (.one (.p (.list .byte body)))),(5,.v (.one (.ptr 1 0))),(6,.v (.one (.ptr 2 0))),(8,.v (.one (.ptr 3 0))),(13,.v (.one (.p (.int .i64 nv)))),(15,.v (.one (.p (.int .i64 sz)))),(16,.v (.one (.p (.bool false))))],[.pack [.obj 53 [(.ptr 1 0),(.row 2),(.p (.int .i64 s))],.pack [.obj 50 [(.row 1),(.p (.int .i64 n))],.row .upl 67 l],.row .byte 5 b],.pack [.obj 35 [(.p (.str m)),(.p (.str t)),(.p (.int .i64 mi)),(.p (.list .fld f)),(.p (.int .i64 le))]],.pack [.obj 67 [(.p (.int .i64 ui)),(.p (.int .i64 uz)),(.p (.str uo)),(.p (.list .byte ub)),(.p (.int .i64 us))]],.pack [.obj 32 [(.p (.int .i64 0)),.nilS,.nilS]]],135,none⟩ (by kernel_rfl) (hk _ (by rw [eq_comm,decide_eq_false_iff_not];omega)))
      |with_reducible rfl
      |(exfalso;have:=of_decide_eq_false ‹_›;omega)
      |with_reducible assumption
      |omega
      |exact hs
      |exact hs2
      |exact hf.1
      |(exact(hf.2 _ ‹_›).1)
      |(exact(hf.2 _ ‹_›).2)
      |exact⟨hf,by decide⟩
      |(simp only [List.length_cons,List.length_nil];omega)
      |rfl
      |(exfalso;simp_all;done)
  have key12: ∀ (nv:Int),nv=(ub.length:Int)→(if xq f zI=false then(⟨400,[],⟨l,n,b,s⟩⟩:TA) else if 0≤(zA f zI)∧0≤uz∧(zA f zI)≠uz then(⟨400,[],⟨l,n,b,s⟩⟩:TA) else(if 0≤(zA f zI)∧uz<0∧(2000<(zA f zI)∨(zA f zI)<nv+(body.length:Int)) then(⟨413,[],⟨l,n,b,s⟩⟩:TA) else(if tJ b ((body.length:Int)+60)=false then(⟨507,[],⟨l,n,b,s⟩⟩:TA) else(if(if apG l ui nv then 17 else wrtC l n b (apE ui body))≠0 then(⟨wE (if apG l ui nv then 17 else wrtC l n b (apE ui body)),[],⟨l,n,b,s⟩⟩:TA)
    else if 0≤(zA f zI)∧uz<0 then
      if wrtC (wrtL l n b (apE ui body)) (wrtN l n b (apE ui body)) (wrtB l n b (apE ui body)) ⟨3,ui,(zA f zI),[]⟩≠0 then(⟨wE (wrtC (wrtL l n b (apE ui body)) (wrtN l n b (apE ui body)) (wrtB l n b (apE ui body)) ⟨3,ui,(zA f zI),[]⟩),[],⟨wrtL l n b (apE ui body),wrtN l n b (apE ui body),wrtB l n b (apE ui body),s⟩⟩:TA)
      else(⟨204,[⟨qh,decS (nv+(body.length:Int))⟩],⟨wrtL (wrtL l n b (apE ui body)) (wrtN l n b (apE ui body)) (wrtB l n b (apE ui body)) ⟨3,ui,(zA f zI),[]⟩,wrtN (wrtL l n b (apE ui body)) (wrtN l n b (apE ui body)) (wrtB l n b (apE ui body)) ⟨3,ui,(zA f zI),[]⟩,wrtB (wrtL l n b (apE ui body)) (wrtN l n b (apE ui body)) (wrtB l n b (apE ui body)) ⟨3,ui,(zA f zI),[]⟩,((wrtB (wrtL l n b (apE ui body)) (wrtN l n b (apE ui body)) (wrtB l n b (apE ui body)) ⟨3,ui,(zA f zI),[]⟩).length:Int)⟩⟩:TA)
    else(⟨204,[⟨qh,decS (nv+(body.length:Int))⟩],⟨wrtL l n b (apE ui body),wrtN l n b (apE ui body),wrtB l n b (apE ui body),((wrtB l n b (apE ui body)).length:Int)⟩⟩:TA)))))=⟨st,fs,⟨l',n',b',s'⟩⟩→Ok Tryz.prog X (fun o h=>o=(.ret (.v (.agg [(.p (.int .i64 st)),(.p (.list .fld ((resT::fs)))),(.p (.list .byte ([])))])))∧h=[.pack [.obj 53 [(.ptr 1 0),(.row 2),(.p (.int .i64 (s')))],.pack [.obj 50 [(.row 1),(.p (.int .i64 (n')))],.row .upl 67 (l')],.row .byte 5 (b')]]) (go I tab { sl:=xG.sl,fz:=[30],seam:=[7,12,15,18],keep:=some [0,1,2,3,5,6,8,9,10,11,12,13,14,15,16,17]} [zT,zS,yA,yx,vg,ve,xJ,xI,yZ,yY,wZ,wY,zK,zJ,zC,zB,zF,zD,yw,yu] [⟨yH Tryz.f37,finK I tab { sl:=xG.sl,fz:=[30],seam:=[7,12,15,18],keep:=some [0,1,2,3,5,6,8,9,10,11,12,13,14,15,16,17]} 1 Tryz.f37⟩] 0 [1,1,1,1,1,1,1,1,0] ⟨[(0,.v (.one (.ptr 0 0))),(3,.v (.one (.p (.list .byte body)))),(5,.v (.one (.ptr 1 0))),(6,.v (.one (.ptr 2 0))),(8,.v (.one (.ptr 3 0))),(13,.v (.one (.p (.int .i64 nv))))],[.pack [.obj 53 [(.ptr 1 0),(.row 2),(.p (.int .i64 s))],.pack [.obj 50 [(.row 1),(.p (.int .i64 n))],.row .upl 67 l],.row .byte 5 b],.pack [.obj 35 [(.p (.str m)),(.p (.str t)),(.p (.int .i64 mi)),(.p (.list .fld f)),(.p (.int .i64 le))]],.pack [.obj 67 [(.p (.int .i64 ui)),(.p (.int .i64 uz)),(.p (.str uo)),(.p (.list .byte ub)),(.p (.int .i64 us))]],.pack [.obj 32 [(.p (.int .i64 0)),.nilS,.nilS]]],135,none⟩):=by
    intro nv hnv hr
    refine zh (let y0:=([117,112,108,111,97,100,45,108,101,110,103,116,104]:Str);let y1:HO:=.pack [(.obj 53 [(.ptr 1 0),(.row 2),(.p (.int .i64 s))]),(.pack [(.obj 50 [(.row 1),(.p (.int .i64 n))]),(.row .upl 67 l)]),(.row .byte 5 b)];let y2:HO:=.obj 67 [(.p (.int .i64 ui)),(.p (.int .i64 uz)),(.p (.str uo)),(.p (.list .byte ub)),(.p (.int .i64 us))];let y3:HO:=.obj 35 [(.p (.str m)),(.p (.str t)),(.p (.int .i64 mi)),(.p (.list .fld f)),(.p (.int .i64 le))];let y4:HO:=.pack [(.obj 32 [(.p (.int .i64 0)),.nilS,.nilS])];let y5:=I.hid (α:=(Prop)) (LE.le (List.length ([]:List (Str))) 1000);let y6:=I.hid (α:=(List Fld)) (resT::(prs ([]:List (Str))));.need (I.hid (α:=(Prop)) (And (FOk f) (LE.le (List.length y0) 1000000))) (.br (I.bnot (I.hid (α:=Bool) (xq f y0))) (.need y5 (.fin (.ret (.v (.agg [(.p (.int .i64 400)),(.p (.list .fld y6)),(.p (.list .byte (I.hid (α:=Str) ([]:Str))))]))) [y1])) (.br (I.ile 0 (I.hid (α:=Int) (zA f y0))) (.br (I.ile 0 uz) (.br (I.bnot (I.ieq (I.hid (α:=Int) (zA f y0)) uz)) (.need y5 (.fin (.ret (.v (.agg [(.p (.int .i64 400)),(.p (.list .fld y6)),(.p (.list .byte (I.hid (α:=Str) ([]:Str))))]))) [y1])) (.code 0 [1,1,1,1,1,1,1,1,1,1,0] ⟨[(14,(.v (.one (.p (.bool (I.hid (α:=Bool) (xq f y0))))))),(15,(.v (.one (.p (.int .i64 (I.hid (α:=Int) (zA f y0))))))),(0,(.v (.one (.ptr 0 0)))),(3,(.v (.one (.p (.list .byte body))))),(5,(.v (.one (.ptr 1 0)))),(6,(.v (.one (.ptr 2 0)))),(8,(.v (.one (.ptr 3 0)))),(13,(.v (.one (.p (.int .i64 nv)))))],[y1,y3,y2,y4],135,none⟩)) (.code 0 [1,1,1,1,1,1,1,1,1,1,0] ⟨[(14,(.v (.one (.p (.bool (I.hid (α:=Bool) (xq f y0))))))),(15,(.v (.one (.p (.int .i64 (I.hid (α:=Int) (zA f y0))))))),(0,(.v (.one (.ptr 0 0)))),(3,(.v (.one (.p (.list .byte body))))),(5,(.v (.one (.ptr 1 0)))),(6,(.v (.one (.ptr 2 0)))),(8,(.v (.one (.ptr 3 0)))),(13,(.v (.one (.p (.int .i64 nv)))))],[y1,y3,y2,y4],135,none⟩)) (.code 0 [1,1,1,1,1,1,1,1,1,1,0] ⟨[(14,(.v (.one (.p (.bool (I.hid (α:=Bool) (xq f y0))))))),(15,(.v (.one (.p (.int .i64 (I.hid (α:=Int) (zA f y0))))))),(0,(.v (.one (.ptr 0 0)))),(3,(.v (.one (.p (.list .byte body))))),(5,(.v (.one (.ptr 1 0)))),(6,(.v (.one (.ptr 2 0)))),(8,(.v (.one (.ptr 3 0)))),(13,(.v (.one (.p (.int .i64 nv)))))],[y1,y3,(.pack [y2]),y4],135,none⟩)))) (by kernel_rfl) ?_
    simp only [zk]
    clear hcm hol hs2 hnn hbb hdf key18
    subst hI
    unfold zI at *
    simp only [nrmA,nrmB,nrlB,reduceCtorEq,V0.agg.injEq,HO.pack.injEq,HO.obj.injEq]
    generalize zA f [117,112,108,111,97,100,45,108,101,110,103,116,104]=sz at *
    by_cases hd1:xq f [117,112,108,111,97,100,45,108,101,110,103,116,104]=false
    · rw [if_pos hd1] at hr
      simp only [TA.mk.injEq,Sto.mk.injEq] at hr
      obtain⟨q1,q2,q3,q4,q5,q6⟩:=hr
      subst q1 q2 q3 q4 q5 q6
      simp only [nrmA,nrmB,nrlB,reduceCtorEq,V0.agg.injEq,HO.pack.injEq,HO.obj.injEq,decide_true,decide_false,Bool.true_eq_false,Bool.false_eq_true,forall_const,false_implies,true_implies,not_true_eq_false,not_false_eq_true,hd1]
      (repeat' (first|refine And.intro ?_ ?_|intro _))<;>first|omega|exact True.intro|exact False.elim ‹False›|skip
      all_goals first
        |with_reducible rfl
        |(exfalso;have:=of_decide_eq_false ‹_›;omega)
        |with_reducible assumption
        |omega
        |exact hs
        |exact hs2
        |exact hf.1
        |(exact(hf.2 _ ‹_›).1)
        |(exact(hf.2 _ ‹_›).2)
        |exact⟨hf,by decide⟩
        |(simp only [List.length_cons,List.length_nil];omega)
        |rfl
        |(exfalso;simp_all;done)
    rw [if_neg hd1] at hr
    try simp only [Bool.not_eq_false] at hd1
    simp only [nrmA,nrmB,nrlB,reduceCtorEq,V0.agg.injEq,HO.pack.injEq,HO.obj.injEq,decide_true,decide_false,Bool.true_eq_false,Bool.false_eq_true,forall_const,false_implies,true_implies,not_true_eq_false,not_false_eq_true,hd1]
    by_cases hd2:0≤sz∧0≤uz∧sz≠uz
    · rw [if_pos hd2] at hr
      simp only [TA.mk.injEq,Sto.mk.injEq] at hr
      obtain⟨q1,q2,q3,q4,q5,q6⟩:=hr
      subst q1 q2 q3 q4 q5 q6
      (repeat' (first|refine And.intro ?_ ?_|intro _))<;>first|omega|exact True.intro|exact False.elim ‹False›|skip
      all_goals first
        |with_reducible rfl
        |(exfalso;have:=of_decide_eq_false ‹_›;omega)
        |with_reducible assumption
        |omega
        |exact hs
        |exact hs2
        |exact hf.1
        |(exact(hf.2 _ ‹_›).1)
        |(exact(hf.2 _ ‹_›).2)
        |exact⟨hf,by decide⟩
        |(simp only [List.length_cons,List.length_nil];omega)
        |rfl
        |(exfalso;simp_all;done)
    rw [if_neg hd2] at hr
    (repeat' (first|refine And.intro ?_ ?_|intro _))<;>first|omega|exact True.intro|exact False.elim ‹False›|skip
    all_goals first
      |((with_reducible show Ok _ _ _ _);(try(exfalso;omega));exact seam (by first|rfl|exact hI) zi mixed [zT,zS,yA,yx,vg,ve,xJ,xI,yZ,yY,wZ,wY,zK,zJ,zC,zB,zF,zD,yw,yu] hX [0,3,5,6,8,13,15] ⟨[(0,.v (.one (.ptr 0 0))),(3,.v (.one (.p (.list .byte body)))),(5,.v (.one (.ptr 1 0))),(6,.v (.one (.ptr 2 0))),(8,.v (.one (.ptr 3 0))),(13,.v (.one (.p (.int .i64 nv)))),(15,.v (.one (.p (.int .i64 sz))))],[.pack [.obj 53 [(.ptr 1 0),(.row 2),(.p (.int .i64 s))],.pack [.obj 50 [(.row 1),(.p (.int .i64 n))],.row .upl 67 l],.row .byte 5 b],.pack [.obj 35 [(.p (.str m)),(.p (.str t)),(.p (.int .i64 mi)),(.p (.list .fld f)),(.p (.int .i64 le))]],.pack [.obj 67 [(.p (.int .i64 ui)),(.p (.int .i64 uz)),(.p (.str uo)),(.p (.list .byte ub)),(.p (.int .i64 us))]],.pack [.obj 32 [(.p (.int .i64 0)),.nilS,.nilS]]],135,none⟩ (by kernel_rfl) (key15 nv sz hnv hr))
      |with_reducible rfl
      |(exfalso;have:=of_decide_eq_false ‹_›;omega)
      |with_reducible assumption
      |omega
      |exact hs
      |exact hs2
      |exact hf.1
      |(exact(hf.2 _ ‹_›).1)
      |(exact(hf.2 _ ‹_›).2)
      |exact⟨hf,by decide⟩
      |(simp only [List.length_cons,List.length_nil];omega)
      |rfl
      |(exfalso;simp_all;done)
  have key7: ∀ (_u:Unit),(if xq f uw=false then(⟨400,[],⟨l,n,b,s⟩⟩:TA) else if(zA f uw)<0 then(⟨400,[],⟨l,n,b,s⟩⟩:TA) else if(zA f uw)≠(ub.length:Int) then(⟨409,[],⟨l,n,b,s⟩⟩:TA) else(if xq f zI=false then(⟨400,[],⟨l,n,b,s⟩⟩:TA) else if 0≤(zA f zI)∧0≤uz∧(zA f zI)≠uz then(⟨400,[],⟨l,n,b,s⟩⟩:TA) else(if 0≤(zA f zI)∧uz<0∧(2000<(zA f zI)∨(zA f zI)<(zA f uw)+(body.length:Int)) then(⟨413,[],⟨l,n,b,s⟩⟩:TA) else(if tJ b ((body.length:Int)+60)=false then(⟨507,[],⟨l,n,b,s⟩⟩:TA) else(if(if apG l ui (zA f uw) then 17 else wrtC l n b (apE ui body))≠0 then(⟨wE (if apG l ui (zA f uw) then 17 else wrtC l n b (apE ui body)),[],⟨l,n,b,s⟩⟩:TA)
    else if 0≤(zA f zI)∧uz<0 then
      if wrtC (wrtL l n b (apE ui body)) (wrtN l n b (apE ui body)) (wrtB l n b (apE ui body)) ⟨3,ui,(zA f zI),[]⟩≠0 then(⟨wE (wrtC (wrtL l n b (apE ui body)) (wrtN l n b (apE ui body)) (wrtB l n b (apE ui body)) ⟨3,ui,(zA f zI),[]⟩),[],⟨wrtL l n b (apE ui body),wrtN l n b (apE ui body),wrtB l n b (apE ui body),s⟩⟩:TA)
      else(⟨204,[⟨qh,decS ((zA f uw)+(body.length:Int))⟩],⟨wrtL (wrtL l n b (apE ui body)) (wrtN l n b (apE ui body)) (wrtB l n b (apE ui body)) ⟨3,ui,(zA f zI),[]⟩,wrtN (wrtL l n b (apE ui body)) (wrtN l n b (apE ui body)) (wrtB l n b (apE ui body)) ⟨3,ui,(zA f zI),[]⟩,wrtB (wrtL l n b (apE ui body)) (wrtN l n b (apE ui body)) (wrtB l n b (apE ui body)) ⟨3,ui,(zA f zI),[]⟩,((wrtB (wrtL l n b (apE ui body)) (wrtN l n b (apE ui body)) (wrtB l n b (apE ui body)) ⟨3,ui,(zA f zI),[]⟩).length:Int)⟩⟩:TA)
    else(⟨204,[⟨qh,decS ((zA f uw)+(body.length:Int))⟩],⟨wrtL l n b (apE ui body),wrtN l n b (apE ui body),wrtB l n b (apE ui body),((wrtB l n b (apE ui body)).length:Int)⟩⟩:TA))))))=⟨st,fs,⟨l',n',b',s'⟩⟩→Ok Tryz.prog X (fun o h=>o=(.ret (.v (.agg [(.p (.int .i64 st)),(.p (.list .fld ((resT::fs)))),(.p (.list .byte ([])))])))∧h=[.pack [.obj 53 [(.ptr 1 0),(.row 2),(.p (.int .i64 (s')))],.pack [.obj 50 [(.row 1),(.p (.int .i64 (n')))],.row .upl 67 (l')],.row .byte 5 (b')]]) (go I tab { sl:=xG.sl,fz:=[30],seam:=[7,12,15,18],keep:=some [0,1,2,3,5,6,8,9,10,11,12,13,14,15,16,17]} [zT,zS,yA,yx,vg,ve,xJ,xI,yZ,yY,wZ,wY,zK,zJ,zC,zB,zF,zD,yw,yu] [⟨yH Tryz.f37,finK I tab { sl:=xG.sl,fz:=[30],seam:=[7,12,15,18],keep:=some [0,1,2,3,5,6,8,9,10,11,12,13,14,15,16,17]} 1 Tryz.f37⟩] 0 [1,1,1,1,1,0] ⟨[(0,.v (.one (.ptr 0 0))),(3,.v (.one (.p (.list .byte body)))),(5,.v (.one (.ptr 1 0))),(6,.v (.one (.ptr 2 0))),(8,.v (.one (.ptr 3 0)))],[.pack [.obj 53 [(.ptr 1 0),(.row 2),(.p (.int .i64 s))],.pack [.obj 50 [(.row 1),(.p (.int .i64 n))],.row .upl 67 l],.row .byte 5 b],.pack [.obj 35 [(.p (.str m)),(.p (.str t)),(.p (.int .i64 mi)),(.p (.list .fld f)),(.p (.int .i64 le))]],.pack [.obj 67 [(.p (.int .i64 ui)),(.p (.int .i64 uz)),(.p (.str uo)),(.p (.list .byte ub)),(.p (.int .i64 us))]],.pack [.obj 32 [(.p (.int .i64 0)),.nilS,.nilS]]],135,none⟩):=by
    intro _ hr
    refine zh (let y0:HO:=.pack [(.obj 53 [(.ptr 1 0),(.row 2),(.p (.int .i64 s))]),(.pack [(.obj 50 [(.row 1),(.p (.int .i64 n))]),(.row .upl 67 l)]),(.row .byte 5 b)];let y1:=([117,112,108,111,97,100,45,111,102,102,115,101,116]:Str);let y2:=I.hid (α:=(Prop)) (LE.le (List.length ([]:List (Str))) 1000);let y3:=I.hid (α:=(List Fld)) (resT::(prs ([]:List (Str))));.need (I.hid (α:=(Prop)) (And (FOk f) (LE.le (List.length y1) 1000000))) (.br (I.bnot (I.hid (α:=Bool) (xq f y1))) (.need y2 (.fin (.ret (.v (.agg [(.p (.int .i64 400)),(.p (.list .fld y3)),(.p (.list .byte (I.hid (α:=Str) ([]:Str))))]))) [y0])) (.br (I.ilt (I.hid (α:=Int) (zA f y1)) 0) (.need y2 (.fin (.ret (.v (.agg [(.p (.int .i64 400)),(.p (.list .fld y3)),(.p (.list .byte (I.hid (α:=Str) ([]:Str))))]))) [y0])) (.br (I.bnot (I.ieq (I.hid (α:=Int) (zA f y1)) (I.len (α:=UInt8) ub))) (.need y2 (.fin (.ret (.v (.agg [(.p (.int .i64 409)),(.p (.list .fld y3)),(.p (.list .byte (I.hid (α:=Str) ([]:Str))))]))) [y0])) (.code 0 [1,1,1,1,1,1,1,1,0] ⟨[(14,(.v (.one (.p (.bool (I.hid (α:=Bool) (xq f y1))))))),(13,(.v (.one (.p (.int .i64 (I.hid (α:=Int) (zA f y1))))))),(0,(.v (.one (.ptr 0 0)))),(3,(.v (.one (.p (.list .byte body))))),(5,(.v (.one (.ptr 1 0)))),(6,(.v (.one (.ptr 2 0)))),(8,(.v (.one (.ptr 3 0))))],[y0,(.obj 35 [(.p (.str m)),(.p (.str t)),(.p (.int .i64 mi)),(.p (.list .fld f)),(.p (.int .i64 le))]),(.obj 67 [(.p (.int .i64 ui)),(.p (.int .i64 uz)),(.p (.str uo)),(.p (.list .byte ub)),(.p (.int .i64 us))]),(.pack [(.obj 32 [(.p (.int .i64 0)),.nilS,.nilS])])],135,none⟩))))) (by kernel_rfl) ?_
    simp only [zk]
    clear hcm hol hs2 hnn hbb hdf key18 key15
    subst hI
    unfold uw at *
    simp only [nrmA,nrmB,nrlB,reduceCtorEq,V0.agg.injEq,HO.pack.injEq,HO.obj.injEq]
    generalize zA f [117,112,108,111,97,100,45,111,102,102,115,101,116]=nv at *
    by_cases hd3:xq f [117,112,108,111,97,100,45,111,102,102,115,101,116]=false
    · rw [if_pos hd3] at hr
      simp only [TA.mk.injEq,Sto.mk.injEq] at hr
      obtain⟨q1,q2,q3,q4,q5,q6⟩:=hr
      subst q1 q2 q3 q4 q5 q6
      simp only [nrmA,nrmB,nrlB,reduceCtorEq,V0.agg.injEq,HO.pack.injEq,HO.obj.injEq,decide_true,decide_false,Bool.true_eq_false,Bool.false_eq_true,forall_const,false_implies,true_implies,not_true_eq_false,not_false_eq_true,hd3]
      (repeat' (first|refine And.intro ?_ ?_|intro _))<;>first|omega|exact True.intro|exact False.elim ‹False›|skip
      all_goals first
        |with_reducible rfl
        |(exfalso;have:=of_decide_eq_false ‹_›;omega)
        |with_reducible assumption
        |omega
        |exact hs
        |exact hs2
        |exact hf.1
        |(exact(hf.2 _ ‹_›).1)
        |(exact(hf.2 _ ‹_›).2)
        |exact⟨hf,by decide⟩
        |(simp only [List.length_cons,List.length_nil];omega)
        |rfl
        |(exfalso;simp_all;done)
    rw [if_neg hd3] at hr
    try simp only [Bool.not_eq_false] at hd3
    simp only [nrmA,nrmB,nrlB,reduceCtorEq,V0.agg.injEq,HO.pack.injEq,HO.obj.injEq,decide_true,decide_false,Bool.true_eq_false,Bool.false_eq_true,forall_const,false_implies,true_implies,not_true_eq_false,not_false_eq_true,hd3]
    by_cases hd4:nv<0
    · rw [if_pos hd4] at hr
      simp only [TA.mk.injEq,Sto.mk.injEq] at hr
      obtain⟨q1,q2,q3,q4,q5,q6⟩:=hr
      subst q1 q2 q3 q4 q5 q6
      (repeat' (first|refine And.intro ?_ ?_|intro _))<;>first|omega|exact True.intro|exact False.elim ‹False›|skip
      all_goals first
        |with_reducible rfl
        |(exfalso;have:=of_decide_eq_false ‹_›;omega)
        |with_reducible assumption
        |omega
        |exact hs
        |exact hs2
        |exact hf.1
        |(exact(hf.2 _ ‹_›).1)
        |(exact(hf.2 _ ‹_›).2)
        |exact⟨hf,by decide⟩
        |(simp only [List.length_cons,List.length_nil];omega)
        |rfl
        |(exfalso;simp_all;done)
    rw [if_neg hd4] at hr
    by_cases hd5:nv≠(ub.length:Int)
    · rw [if_pos hd5] at hr
      simp only [TA.mk.injEq,Sto.mk.injEq] at hr
      obtain⟨q1,q2,q3,q4,q5,q6⟩:=hr
      subst q1 q2 q3 q4 q5 q6
      (repeat' (first|refine And.intro ?_ ?_|intro _))<;>first|omega|exact True.intro|exact False.elim ‹False›|skip
      all_goals first
        |with_reducible rfl
        |(exfalso;have:=of_decide_eq_false ‹_›;omega)
        |with_reducible assumption
        |omega
        |exact hs
        |exact hs2
        |exact hf.1
        |(exact(hf.2 _ ‹_›).1)
        |(exact(hf.2 _ ‹_›).2)
        |exact⟨hf,by decide⟩
        |(simp only [List.length_cons,List.length_nil];omega)
        |rfl
        |(exfalso;simp_all;done)
    rw [if_neg hd5] at hr
    (repeat' (first|refine And.intro ?_ ?_|intro _))<;>first|omega|exact True.intro|exact False.elim ‹False›|skip
    all_goals first
      |((with_reducible show Ok _ _ _ _);(try(exfalso;omega));exact seam (by first|rfl|exact hI) zi mixed [zT,zS,yA,yx,vg,ve,xJ,xI,yZ,yY,wZ,wY,zK,zJ,zC,zB,zF,zD,yw,yu] hX [0,3,5,6,8,13] ⟨[(0,.v (.one (.ptr 0 0))),(3,.v (.one (.p (.list .byte body)))),(5,.v (.one (.ptr 1 0))),(6,.v (.one (.ptr 2 0))),(8,.v (.one (.ptr 3 0))),(13,.v (.one (.p (.int .i64 nv))))],[.pack [.obj 53 [(.ptr 1 0),(.row 2),(.p (.int .i64 s))],.pack [.obj 50 [(.row 1),(.p (.int .i64 n))],.row .upl 67 l],.row .byte 5 b],.pack [.obj 35 [(.p (.str m)),(.p (.str t)),(.p (.int .i64 mi)),(.p (.list .fld f)),(.p (.int .i64 le))]],.pack [.obj 67 [(.p (.int .i64 ui)),(.p (.int .i64 uz)),(.p (.str uo)),(.p (.list .byte ub)),(.p (.int .i64 us))]],.pack [.obj 32 [(.p (.int .i64 0)),.nilS,.nilS]]],135,none⟩ (by kernel_rfl) (key12 nv (by omega) hr))
      |with_reducible rfl
      |(exfalso;have:=of_decide_eq_false ‹_›;omega)
      |with_reducible assumption
      |omega
      |exact hs
      |exact hs2
      |exact hf.1
      |(exact(hf.2 _ ‹_›).1)
      |(exact(hf.2 _ ‹_›).2)
      |exact⟨hf,by decide⟩
      |(simp only [List.length_cons,List.length_nil];omega)
      |rfl
      |(exfalso;simp_all;done)
  clear hs2 hnn hbb hdf key18 key15 key12
  subst hI
  rw [show([99,111,110,116,101,110,116,45,116,121,112,101]:Str)=Wv from rfl]
  rw [show([97,112,112,108,105,99,97,116,105,111,110,47,111,102,102,115,101,116,43,111,99,116,101,116,45,115,116,114,101,97,109]:Str)=octS from rfl]
  simp only [nrmA,nrmB,nrlB,reduceCtorEq,V0.agg.injEq,HO.pack.injEq,HO.obj.injEq]
  have hcl:Wv.length≤1000000:=by decide
  unfold oneT at *
  generalize oneF (valsF f Wv)=oc at *
  obtain⟨ov,oc⟩:=oc
  try simp only at *
  generalize xY ov=pm at *
  obtain⟨⟨pw,pp⟩,pc⟩:=pm
  try simp only at *
  by_cases hd6:oc=9
  · rw [if_pos hd6] at hr
    simp only [TA.mk.injEq,Sto.mk.injEq] at hr
    obtain⟨q1,q2,q3,q4,q5,q6⟩:=hr
    subst q1 q2 q3 q4 q5 q6
    simp only [nrmA,nrmB,nrlB,reduceCtorEq,V0.agg.injEq,HO.pack.injEq,HO.obj.injEq,decide_true,decide_false,Bool.true_eq_false,Bool.false_eq_true,forall_const,false_implies,true_implies,not_true_eq_false,not_false_eq_true,hd6]
    (repeat' (first|refine And.intro ?_ ?_|intro _))<;>first|omega|exact True.intro|exact False.elim ‹False›|skip
    all_goals first
      |with_reducible rfl
      |(exfalso;have:=of_decide_eq_false ‹_›;omega)
      |with_reducible assumption
      |omega
      |exact hs
      |exact hs2
      |exact hf.1
      |(exact(hf.2 _ ‹_›).1)
      |(exact(hf.2 _ ‹_›).2)
      |exact⟨hf,by decide⟩
      |(simp only [List.length_cons,List.length_nil];omega)
      |rfl
      |(exfalso;simp_all;done)
  rw [if_neg hd6] at hr
  try simp only [Bool.not_eq_false] at hd6
  simp only [nrmA,nrmB,nrlB,reduceCtorEq,V0.agg.injEq,HO.pack.injEq,HO.obj.injEq,decide_true,decide_false,Bool.true_eq_false,Bool.false_eq_true,forall_const,false_implies,true_implies,not_true_eq_false,not_false_eq_true,hd6]
  by_cases hd7:pc≠0∨pw≠octS
  · rw [if_pos hd7] at hr
    simp only [TA.mk.injEq,Sto.mk.injEq] at hr
    obtain⟨q1,q2,q3,q4,q5,q6⟩:=hr
    subst q1 q2 q3 q4 q5 q6
    (repeat' (first|refine And.intro ?_ ?_|intro _))<;>first|omega|exact True.intro|exact False.elim ‹False›|skip
    all_goals first
      |with_reducible rfl
      |(exfalso;have:=of_decide_eq_false ‹_›;omega)
      |with_reducible assumption
      |omega
      |exact hs
      |exact hs2
      |exact hf.1
      |(exact(hf.2 _ ‹_›).1)
      |(exact(hf.2 _ ‹_›).2)
      |exact⟨hf,by decide⟩
      |(simp only [List.length_cons,List.length_nil];omega)
      |rfl
      |(exfalso;simp_all;done)
  rw [if_neg hd7] at hr
  simp only [not_or,ne_eq,Decidable.not_not] at hd7
  obtain⟨g1,g2⟩:=hd7
  clear hcm
  subst g1 g2
  simp only [nrmA,nrmB,nrlB,reduceCtorEq,V0.agg.injEq,HO.pack.injEq,HO.obj.injEq,not_true_eq_false,false_implies,true_and,and_true]
  (repeat' (first|refine And.intro ?_ ?_|intro _))<;>first|omega|exact True.intro|exact False.elim ‹False›|skip
  all_goals first
    |((with_reducible show Ok _ _ _ _);(try(exfalso;omega));exact seam (by first|rfl|exact hI) zi mixed [zT,zS,yA,yx,vg,ve,xJ,xI,yZ,yY,wZ,wY,zK,zJ,zC,zB,zF,zD,yw,yu] hX [0,3,5,6,8] ⟨[(0,.v (.one (.ptr 0 0))),(3,.v (.one (.p (.list .byte body)))),(5,.v (.one (.ptr 1 0))),(6,.v (.one (.ptr 2 0))),(8,.v (.one (.ptr 3 0)))],[.pack [.obj 53 [(.ptr 1 0),(.row 2),(.p (.int .i64 s))],.pack [.obj 50 [(.row 1),(.p (.int .i64 n))],.row .upl 67 l],.row .byte 5 b],.pack [.obj 35 [(.p (.str m)),(.p (.str t)),(.p (.int .i64 mi)),(.p (.list .fld f)),(.p (.int .i64 le))]],.pack [.obj 67 [(.p (.int .i64 ui)),(.p (.int .i64 uz)),(.p (.str uo)),(.p (.list .byte ub)),(.p (.int .i64 us))]],.pack [.obj 32 [(.p (.int .i64 0)),.nilS,.nilS]]],135,none⟩ (by kernel_rfl) (key7 () hr))
    |with_reducible rfl
    |(exfalso;have:=of_decide_eq_false ‹_›;omega)
    |with_reducible assumption
    |omega
    |exact hs
    |exact hs2
    |exact hf.1
    |(exact(hf.2 _ ‹_›).1)
    |(exact(hf.2 _ ‹_›).2)
    |exact⟨hf,by decide⟩
    |(simp only [List.length_cons,List.length_nil];omega)
    |rfl
    |(exfalso;simp_all;done)
def Xx (I:Alg) (args:List D) (hp:List HO):Option CT:=match args,hp with
  |[.v (.one (.ptr 0 0)),.v (.agg [(.p (.str m)),(.p (.str t)),(.p (.int .i64 mi)),(.p (.list .fld f)),(.p (.int .i64 le))]),.v (.agg [(.p (.int .i64 ui)),(.p (.int .i64 uz)),(.p (.str uo)),(.p (.list .byte ub)),(.p (.int .i64 us))]),.v (.one (.p (.list .byte body)))],[.pack [.obj 53 [(.ptr 1 0),(.row 2),(.p (.int .i64 s))],.pack [.obj 50 [(.row 1),(.p (.int .i64 n))],.row .upl 67 l],.row .byte 5 b]]=>(fun(m t:Str) (mi:Int) (f:List Fld) (le:Int) (l:List Upl) (n:Int) (b:Str) (s:Int) (ui uz:Int) (uo ub:Str) (us:Int) (body:Str)=>(some (.one ⟨I.hid (FOk f∧zu l n∧n≤200000∧b.length≤100000∧body.length≤100000∧getB l ui=true∧getU l ui=⟨ui,uz,uo,ub,us⟩),(.ret (.v (.agg [(.p (.int .i64 (I.hid ((zX ⟨l,n,b,s⟩ ⟨ui,uz,uo,ub,us⟩ f body).st)))),(.p (.list .fld (I.hid ((resT::(zX ⟨l,n,b,s⟩ ⟨ui,uz,uo,ub,us⟩ f body).fs))))),(.p (.list .byte (I.hid ([]))))]))),[.pack [.obj 53 [(.ptr 1 0),(.row 2),(.p (.int .i64 (I.hid ((zX ⟨l,n,b,s⟩ ⟨ui,uz,uo,ub,us⟩ f body).q.s))))],.pack [.obj 50 [(.row 1),(.p (.int .i64 (I.hid ((zX ⟨l,n,b,s⟩ ⟨ui,uz,uo,ub,us⟩ f body).q.n))))],.row .upl 67 (I.hid ((zX ⟨l,n,b,s⟩ ⟨ui,uz,uo,ub,us⟩ f body).q.l))],.row .byte 5 (I.hid ((zX ⟨l,n,b,s⟩ ⟨ui,uz,uo,ub,us⟩ f body).q.b))]]⟩):Option CT)) m t mi f le l n b s ui uz uo ub us body
  |_,_=>none
theorem zbJ:zo Tryz.prog 37 (Xx alg):=by
  intro args hp r h
  unfold Xx at h
  split at h
  · cases h;exact fun hn=>zlG _ _ _ _ _ _ _ _ _ _ _ _ _ _ _ hn
  · cases h
def yj:Know Tryz.prog:=⟨37,Xx,zbJ⟩
def yh:Know Tryz.prog:=⟨37,fun I=>zq I (Xx I),zf zbJ⟩
end Go.Proofs.YtcclfkakcgnacaaGreatDoor
namespace Go.Proofs.YtcclfkakcgnacaaGreatDoor
open Go Go.Sep Go.Ab Go.Jrn
set_option maxRecDepth 100000
theorem pre7 (t:Str):Lib.hasPrefix t yT=decide (t.take 7=yT):=by
  unfold Lib.hasPrefix
  by_cases h:t.take 7=yT
  · rw [decide_eq_true h]
    rw [List.isPrefixOf_iff_prefix,List.prefix_iff_eq_take]
    exact h.symm
  · rw [decide_eq_false h]
    cases hq:yT.isPrefixOf t with
    |false=>rfl
    | true=>
      rw [List.isPrefixOf_iff_prefix,List.prefix_iff_eq_take] at hq
      exact absurd hq.symm h
theorem zkB {q:Sto} {t:Str} (h: ¬ (7<t.length∧t.take 7=yT)):uplB q t=false:=by
  unfold uplB idB
  rw [pre7]
  by_cases h1:t.take 7=yT
  · have h2:t.length=7:=by
      have:=congrArg List.length h1
      rw [List.length_take] at this
      have e:yT.length=7:=rfl
      rw [e] at this
      rcases Nat.lt_or_ge 7 t.length with h2|h2
      · exact absurd ⟨h2,h1⟩ h
      · omega
    have h3:t.drop 7=[]:=List.drop_of_length_le (by omega)
    rw [h3,show(numA [] 10 9).2=false from by decide+kernel]
    simp
  · rw [decide_eq_false h1];rfl
theorem zkA {q:Sto} {t:Str} (h:(numA (t.drop 7) 10 9).2=false):uplB q t=false:=by
  unfold uplB idB;rw [h];simp
theorem zkz {q:Sto} {t:Str} (h: ¬ decS (numA (t.drop 7) 10 9).1=t.drop 7):uplB q t=false:=by
  unfold uplB idB;rw [decide_eq_false h];simp
theorem zky {q:Sto} {t:Str} (h1:t.take 7=yT) (h2:(numA (t.drop 7) 10 9).2=true) (h3:decS (numA (t.drop 7) 10 9).1=t.drop 7):uplB q t=decide (atU q.l (idV t)<q.l.length):=by
  unfold uplB idB getB
  rw [pre7,decide_eq_true h1,h2,decide_eq_true h3];rfl
set_option maxHeartbeats 8000000 in
theorem zmz (m t:Str) (mi:Int) (f:List Fld) (le:Int) (l:List Upl) (n:Int) (b:Str) (s:Int) (body:Str) (hneed:FOk f∧zu l n∧n≤200000∧b.length≤100000∧body.length≤100000):Spc Tryz.prog 11 [.v (.one (.ptr 0 0)),.v (.agg [(.p (.str m)),(.p (.str t)),(.p (.int .i64 mi)),(.p (.list .fld f)),(.p (.int .i64 le))]),.v (.one (.p (.list .byte body)))] [.pack [.obj 53 [(.ptr 1 0),(.row 2),(.p (.int .i64 s))],.pack [.obj 50 [(.row 1),(.p (.int .i64 n))],.row .upl 67 l],.row .byte 5 b]] (.ret (.v (.agg [(.p (.int .i64 ((zH ⟨l,n,b,s⟩ m t f body).st))),(.p (.list .fld ((resT::(zH ⟨l,n,b,s⟩ m t f body).fs)))),(.p (.list .byte ([])))]))) [.pack [.obj 53 [(.ptr 1 0),(.row 2),(.p (.int .i64 ((zH ⟨l,n,b,s⟩ m t f body).q.s)))],.pack [.obj 50 [(.row 1),(.p (.int .i64 ((zH ⟨l,n,b,s⟩ m t f body).q.n)))],.row .upl 67 ((zH ⟨l,n,b,s⟩ m t f body).q.l)],.row .byte 5 ((zH ⟨l,n,b,s⟩ m t f body).q.b)]]:=by
  obtain⟨hf,hs,hn,hb,hbl⟩:=hneed
  have hn0:=hs.n0
  have hus:=Wl hs (idV t)
  have hcnt:=hs.cnt
  generalize hr:zH ⟨l,n,b,s⟩ m t f body=r
  obtain⟨st,fs,⟨l',n',b',s'⟩⟩:=r
  unfold zH yM wsC wsS syS creE at hr
  simp only at hr
  refine spcG zi mixed Tryz.func11 (by kernel_rfl) { sl:=xG.sl,fz:=[30,37],seam:=[3,8,11,17,20,25,30,33],keep:=some [0,1,2,4,6,7,8,9,10,11,12,13,14,15,16,17,18,19,20,158]} [zT,zS,zM,zL,xM,xK,yA,yx,zO,zN,yg,yc,zK,zJ,zC,zB,zF,zD,yw,yu,yj,yh] (by kernel_rfl) ?_
  intro I X hI hX
  refine zh (let y0:=([99,114,101,97,116,105,111,110,44,99,114,101,97,116,105,111,110,45,100,101,102,101,114,45,108,101,110,103,116,104,44,116,101,114,109,105,110,97,116,105,111,110]:Str);let y1:HO:=.pack [(.obj 53 [(.ptr 1 0),(.row 2),(.p (.int .i64 s))]),(.pack [(.obj 50 [(.row 1),(.p (.int .i64 n))]),(.row .upl 67 l)]),(.row .byte 5 b)];let y2:=([84,117,115,45,69,120,116,101,110,115,105,111,110]:Str);let y3:=([84,117,115,45,77,97,120,45,83,105,122,101]:Str);let y4:=([84,117,115,45,86,101,114,115,105,111,110]:Str);let y5:HO:=.obj 35 [(.p (.str m)),(.p (.str t)),(.p (.int .i64 mi)),(.p (.list .fld f)),(.p (.int .i64 le))];let y6:HO:=.obj 32 [(.p (.int .i64 0)),.nilS,.nilS];let y7:=I.hid (α:=Str) (decS (2000:Int));let y8:=I.hid (α:=Str) ([45,49]:Str);.br (I.seq t ([47,102,105,108,101,115]:Str)) (.br (I.seq m ([79,80,84,73,79,78,83]:Str)) (.br (I.hid (α:=Bool) (Decidable.decide (LE.le (0:Int) (2000:Int)))) (.need (I.hid (α:=(Prop)) (And (LE.le (0:Int) (2000:Int)) (LT.lt (2000:Int) (1000000000:Int)))) (.need (I.hid (α:=(Prop)) (LE.le (List.length ([y4,([49,46,48,46,48]:Str),y3,y7,y2,y0]:List (Str))) 1000)) (.fin (.ret (.v (.agg [(.p (.int .i64 204)),(.p (.list .fld (I.hid (α:=(List Fld)) (resT::(prs ([y4,([49,46,48,46,48]:Str),y3,y7,y2,y0]:List (Str))))))),(.p (.list .byte (I.hid (α:=Str) ([]:Str))))]))) [y1]))) (.need (I.hid (α:=(Prop)) (Eq (2000:Int) (Neg.neg (1:Int)))) (.need (I.hid (α:=(Prop)) (LE.le (List.length ([y4,([49,46,48,46,48]:Str),y3,y8,y2,y0]:List (Str))) 1000)) (.fin (.ret (.v (.agg [(.p (.int .i64 204)),(.p (.list .fld (I.hid (α:=(List Fld)) (resT::(prs ([y4,([49,46,48,46,48]:Str),y3,y8,y2,y0]:List (Str))))))),(.p (.list .byte (I.hid (α:=Str) ([]:Str))))]))) [y1])))) (.code 0 [1,1,0] ⟨[(6,(.v (.one (.ptr 2 0)))),(4,(.v (.one (.ptr 1 0)))),(0,(.v (.one (.ptr 0 0)))),(1,(.v (.agg [(.p (.str m)),(.p (.str t)),(.p (.int .i64 mi)),(.p (.list .fld f)),(.p (.int .i64 le))]))),(2,(.v (.one (.p (.list .byte body)))))],[y1,y5,y6],208,none⟩)) (.code 0 [1,1,0] ⟨[(6,(.v (.one (.ptr 2 0)))),(4,(.v (.one (.ptr 1 0)))),(0,(.v (.one (.ptr 0 0)))),(1,(.v (.agg [(.p (.str m)),(.p (.str t)),(.p (.int .i64 mi)),(.p (.list .fld f)),(.p (.int .i64 le))]))),(2,(.v (.one (.p (.list .byte body)))))],[y1,y5,y6],208,none⟩)) (by kernel_rfl) ?_
  simp only [zk]
  have hh: ∀ {α:Type} (x:α),I.hid x=x:=by subst hI;intros;rfl
  have key33: ∀ (ui uz:Int) (uo ub:Str) (us:Int),getU l (idV t)=⟨ui,uz,uo,ub,us⟩→uplB ⟨l,n,b,s⟩ t=true→(if m=Si then(⟨200,Yr ⟨ui,uz,uo,ub,us⟩,⟨l,n,b,s⟩⟩:TA) else if m=Yx then zX ⟨l,n,b,s⟩ ⟨ui,uz,uo,ub,us⟩ f body else if m=Sl then XF ⟨l,n,b,s⟩ ⟨ui,uz,uo,ub,us⟩ else(⟨405,[],⟨l,n,b,s⟩⟩:TA))=⟨st,fs,⟨l',n',b',s'⟩⟩→Ok Tryz.prog X (fun o h=>o=(.ret (.v (.agg [(.p (.int .i64 st)),(.p (.list .fld ((resT::fs)))),(.p (.list .byte ([])))])))∧h=[.pack [.obj 53 [(.ptr 1 0),(.row 2),(.p (.int .i64 (s')))],.pack [.obj 50 [(.row 1),(.p (.int .i64 (n')))],.row .upl 67 (l')],.row .byte 5 (b')]]) (go I tab { sl:=xG.sl,fz:=[30,37],seam:=[3,8,11,17,20,25,30,33],keep:=some [0,1,2,4,6,7,8,9,10,11,12,13,14,15,16,17,18,19,20,158]} [zT,zS,zM,zL,xM,xK,yA,yx,zO,zN,yg,yc,zK,zJ,zC,zB,zF,zD,yw,yu,yj,yh] [⟨yH Tryz.f11,finK I tab { sl:=xG.sl,fz:=[30,37],seam:=[3,8,11,17,20,25,30,33],keep:=some [0,1,2,4,6,7,8,9,10,11,12,13,14,15,16,17,18,19,20,158]} 1 Tryz.f11⟩] 0 [1,1,1,1,1,1,1,1,1,1,0,0] ⟨[(0,.v (.one (.ptr 0 0))),(2,.v (.one (.p (.list .byte body)))),(4,.v (.one (.ptr 1 0))),(6,.v (.one (.ptr 2 0))),(18,.v (.one (.ptr 3 0)))],[.pack [.obj 53 [(.ptr 1 0),(.row 2),(.p (.int .i64 s))],.pack [.obj 50 [(.row 1),(.p (.int .i64 n))],.row .upl 67 l],.row .byte 5 b],.pack [.obj 35 [(.p (.str m)),(.p (.str t)),(.p (.int .i64 mi)),(.p (.list .fld f)),(.p (.int .i64 le))]],.pack [.obj 32 [(.p (.int .i64 0)),.nilS,.nilS]],.pack [.obj 67 [(.p (.int .i64 ui)),(.p (.int .i64 uz)),(.p (.str uo)),(.p (.list .byte ub)),(.p (.int .i64 us))]]],208,none⟩):=by
    intro ui uz uo ub us hu hB hr
    have hgB:getB l (idV t)=true:=by
      unfold uplB at hB
      simp only [Bool.and_eq_true] at hB
      exact hB.2
    have hgo:=zlL hgB
    have huo:=hs.each _ hgo.2
    have hid:=hgo.1
    rw [hu] at hus huo hid
    simp only at hid
    subst hid
    have hz1:=huo.s1
    have hz2:=huo.s2
    have hnt:=huo.nl
    try simp only at hz1
    try simp only at hz2
    try simp only at hnt
    try simp only at hus
    refine zh (let y0:=([85,112,108,111,97,100,45,79,102,102,115,101,116]:Str);let y1:=([85,112,108,111,97,100,45,76,101,110,103,116,104]:Str);let y2:=([67,97,99,104,101,45,67,111,110,116,114,111,108]:Str);let y3:=([85,112,108,111,97,100,45,68,101,102,101,114,45,76,101,110,103,116,104]:Str);let y4:=([110,111,45,115,116,111,114,101]:Str);let y5:HO:=.pack [(.obj 53 [(.ptr 1 0),(.row 2),(.p (.int .i64 s))]),(.pack [(.obj 50 [(.row 1),(.p (.int .i64 n))]),(.row .upl 67 l)]),(.row .byte 5 b)];let y6:=I.hid (α:=Str) ([45,49]:Str);let y7:=([85,112,108,111,97,100,45,77,101,116,97,100,97,116,97]:Str);let y8:=I.hid (α:=Str) (decS (I.len (α:=UInt8) ub));let y9:=I.set (α:=Str) ([y0,y8,y1,(I.hid (α:=Str) (decS uz)),y2,y4]:List (Str)) 2 y3;let y10:=I.set (α:=Str) ([y0,y6,y1,(I.hid (α:=Str) (decS uz)),y2,y4]:List (Str)) 2 y3;let y11:=I.set (α:=Str) (I.set (α:=Str) ([y0,y8,y1,y6,y2,y4]:List (Str)) 2 y3) 3 ([49]:Str);let y12:=I.set (α:=Str) (I.set (α:=Str) ([y0,y6,y1,y6,y2,y4]:List (Str)) 2 y3) 3 ([49]:Str);let y13:=I.len (α:=Str) ([y7,uo]:List (Str));let y14:HO:=.pack [(.obj 50 [(.row 1),(.p (.int .i64 (I.hid (α:=Int) (wrtN l n b (Ent.mk (4:Int) (idV t) (0:Int) ([]:Str))))))]),(.row .upl 67 (I.hid (α:=(List Upl)) (wrtL l n b (Ent.mk (4:Int) (idV t) (0:Int) ([]:Str)))))];let y15:=I.len (α:=Str) ([y0,y8,y1,(I.hid (α:=Str) (decS uz)),y2,y4]:List (Str));let y16:=I.len (α:=Str) ([y0,y6,y1,(I.hid (α:=Str) (decS uz)),y2,y4]:List (Str));let y17:=I.hid (α:=Str) (wrtB l n b (Ent.mk (4:Int) (idV t) (0:Int) ([]:Str)));let y18:=I.set (α:=Str) y10 3 ([49]:Str);let y19:=I.set (α:=Str) y9 3 ([49]:Str);let y20:=I.hid (α:=(Prop)) (LE.le (List.length ([]:List (Str))) 1000);let y21:=I.hid (α:=(List Fld)) (resT::(prs ([]:List (Str))));let y22:=I.len (α:=Str) ([y0,y8,y1,y6,y2,y4]:List (Str));let y23:=I.len (α:=Str) ([y0,y6,y1,y6,y2,y4]:List (Str));let y24:=I.inb 3 (I.len (α:=Str) (I.set (α:=Str) ([y0,y8,y1,y6,y2,y4]:List (Str)) 2 y3));let y25:=I.inb 3 (I.len (α:=Str) (I.set (α:=Str) ([y0,y6,y1,y6,y2,y4]:List (Str)) 2 y3));let y26:=I.hid (α:=Int) (wrtC l n b (Ent.mk (4:Int) (idV t) (0:Int) ([]:Str)));let y27:=I.hid (α:=(Prop)) (And (LE.le (0:Int) uz) (LT.lt uz (1000000000:Int)));let y28:=I.hid (α:=Bool) (Decidable.decide (LE.le (0:Int) uz));let y29:=I.hid (α:=(Prop)) (Eq uz (Neg.neg (1:Int)));.br (I.seq m ([72,69,65,68]:Str)) (.br (I.hid (α:=Bool) (Decidable.decide (LE.le (0:Int) (I.len (α:=UInt8) ub)))) (.need (I.hid (α:=(Prop)) (And (LE.le (0:Int) (I.len (α:=UInt8) ub)) (LT.lt (I.len (α:=UInt8) ub) (1000000000:Int)))) (.br y28 (.need y27 (.br (I.ilt uz 0) (.need (I.inb 2 y15) (.need (I.inb 2 y15) (.need (I.inb 3 (I.len (α:=Str) y9)) (.need (I.inb 3 (I.len (α:=Str) y9)) (.br (I.bnot (I.seq uo ([]:Str))) (.need (I.few (I.add (I.len (α:=Str) y19) y13) 100000000) (.need (I.hid (α:=(Prop)) (LE.le (List.length (I.app (α:=Str) y19 ([y7,uo]:List (Str)))) 1000)) (.fin (.ret (.v (.agg [(.p (.int .i64 200)),(.p (.list .fld (I.hid (α:=(List Fld)) (resT::(prs (I.app (α:=Str) y19 ([y7,uo]:List (Str)))))))),(.p (.list .byte (I.hid (α:=Str) ([]:Str))))]))) [y5]))) (.need (I.hid (α:=(Prop)) (LE.le (List.length y19) 1000)) (.fin (.ret (.v (.agg [(.p (.int .i64 200)),(.p (.list .fld (I.hid (α:=(List Fld)) (resT::(prs y19))))),(.p (.list .byte (I.hid (α:=Str) ([]:Str))))]))) [y5]))))))) (.br (I.bnot (I.seq uo ([]:Str))) (.need (I.few (I.add y15 y13) 100000000) (.need (I.hid (α:=(Prop)) (LE.le (List.length (I.app (α:=Str) ([y0,y8,y1,(I.hid (α:=Str) (decS uz)),y2,y4]:List (Str)) ([y7,uo]:List (Str)))) 1000)) (.fin (.ret (.v (.agg [(.p (.int .i64 200)),(.p (.list .fld (I.hid (α:=(List Fld)) (resT::(prs (I.app (α:=Str) ([y0,y8,y1,(I.hid (α:=Str) (decS uz)),y2,y4]:List (Str)) ([y7,uo]:List (Str)))))))),(.p (.list .byte (I.hid (α:=Str) ([]:Str))))]))) [y5]))) (.need (I.hid (α:=(Prop)) (LE.le (List.length ([y0,y8,y1,(I.hid (α:=Str) (decS uz)),y2,y4]:List (Str))) 1000)) (.fin (.ret (.v (.agg [(.p (.int .i64 200)),(.p (.list .fld (I.hid (α:=(List Fld)) (resT::(prs ([y0,y8,y1,(I.hid (α:=Str) (decS uz)),y2,y4]:List (Str))))))),(.p (.list .byte (I.hid (α:=Str) ([]:Str))))]))) [y5]))))) (.need y29 (.br (I.ilt uz 0) (.need (I.inb 2 y22) (.need (I.inb 2 y22) (.need y24 (.need y24 (.br (I.bnot (I.seq uo ([]:Str))) (.need (I.few (I.add (I.len (α:=Str) y11) y13) 100000000) (.need (I.hid (α:=(Prop)) (LE.le (List.length (I.app (α:=Str) y11 ([y7,uo]:List (Str)))) 1000)) (.fin (.ret (.v (.agg [(.p (.int .i64 200)),(.p (.list .fld (I.hid (α:=(List Fld)) (resT::(prs (I.app (α:=Str) y11 ([y7,uo]:List (Str)))))))),(.p (.list .byte (I.hid (α:=Str) ([]:Str))))]))) [y5]))) (.need (I.hid (α:=(Prop)) (LE.le (List.length y11) 1000)) (.fin (.ret (.v (.agg [(.p (.int .i64 200)),(.p (.list .fld (I.hid (α:=(List Fld)) (resT::(prs y11))))),(.p (.list .byte (I.hid (α:=Str) ([]:Str))))]))) [y5]))))))) (.br (I.bnot (I.seq uo ([]:Str))) (.need (I.few (I.add y22 y13) 100000000) (.need (I.hid (α:=(Prop)) (LE.le (List.length (I.app (α:=Str) ([y0,y8,y1,y6,y2,y4]:List (Str)) ([y7,uo]:List (Str)))) 1000)) (.fin (.ret (.v (.agg [(.p (.int .i64 200)),(.p (.list .fld (I.hid (α:=(List Fld)) (resT::(prs (I.app (α:=Str) ([y0,y8,y1,y6,y2,y4]:List (Str)) ([y7,uo]:List (Str)))))))),(.p (.list .byte (I.hid (α:=Str) ([]:Str))))]))) [y5]))) (.need (I.hid (α:=(Prop)) (LE.le (List.length ([y0,y8,y1,y6,y2,y4]:List (Str))) 1000)) (.fin (.ret (.v (.agg [(.p (.int .i64 200)),(.p (.list .fld (I.hid (α:=(List Fld)) (resT::(prs ([y0,y8,y1,y6,y2,y4]:List (Str))))))),(.p (.list .byte (I.hid (α:=Str) ([]:Str))))]))) [y5]))))))) (.need (I.hid (α:=(Prop)) (Eq (I.len (α:=UInt8) ub) (Neg.neg (1:Int)))) (.br y28 (.need y27 (.br (I.ilt uz 0) (.need (I.inb 2 y16) (.need (I.inb 2 y16) (.need (I.inb 3 (I.len (α:=Str) y10)) (.need (I.inb 3 (I.len (α:=Str) y10)) (.br (I.bnot (I.seq uo ([]:Str))) (.need (I.few (I.add (I.len (α:=Str) y18) y13) 100000000) (.need (I.hid (α:=(Prop)) (LE.le (List.length (I.app (α:=Str) y18 ([y7,uo]:List (Str)))) 1000)) (.fin (.ret (.v (.agg [(.p (.int .i64 200)),(.p (.list .fld (I.hid (α:=(List Fld)) (resT::(prs (I.app (α:=Str) y18 ([y7,uo]:List (Str)))))))),(.p (.list .byte (I.hid (α:=Str) ([]:Str))))]))) [y5]))) (.need (I.hid (α:=(Prop)) (LE.le (List.length y18) 1000)) (.fin (.ret (.v (.agg [(.p (.int .i64 200)),(.p (.list .fld (I.hid (α:=(List Fld)) (resT::(prs y18))))),(.p (.list .byte (I.hid (α:=Str) ([]:Str))))]))) [y5]))))))) (.br (I.bnot (I.seq uo ([]:Str))) (.need (I.few (I.add y16 y13) 100000000) (.need (I.hid (α:=(Prop)) (LE.le (List.length (I.app (α:=Str) ([y0,y6,y1,(I.hid (α:=Str) (decS uz)),y2,y4]:List (Str)) ([y7,uo]:List (Str)))) 1000)) (.fin (.ret (.v (.agg [(.p (.int .i64 200)),(.p (.list .fld (I.hid (α:=(List Fld)) (resT::(prs (I.app (α:=Str) ([y0,y6,y1,(I.hid (α:=Str) (decS uz)),y2,y4]:List (Str)) ([y7,uo]:List (Str)))))))),(.p (.list .byte (I.hid (α:=Str) ([]:Str))))]))) [y5]))) (.need (I.hid (α:=(Prop)) (LE.le (List.length ([y0,y6,y1,(I.hid (α:=Str) (decS uz)),y2,y4]:List (Str))) 1000)) (.fin (.ret (.v (.agg [(.p (.int .i64 200)),(.p (.list .fld (I.hid (α:=(List Fld)) (resT::(prs ([y0,y6,y1,(I.hid (α:=Str) (decS uz)),y2,y4]:List (Str))))))),(.p (.list .byte (I.hid (α:=Str) ([]:Str))))]))) [y5]))))) (.need y29 (.br (I.ilt uz 0) (.need (I.inb 2 y23) (.need (I.inb 2 y23) (.need y25 (.need y25 (.br (I.bnot (I.seq uo ([]:Str))) (.need (I.few (I.add (I.len (α:=Str) y12) y13) 100000000) (.need (I.hid (α:=(Prop)) (LE.le (List.length (I.app (α:=Str) y12 ([y7,uo]:List (Str)))) 1000)) (.fin (.ret (.v (.agg [(.p (.int .i64 200)),(.p (.list .fld (I.hid (α:=(List Fld)) (resT::(prs (I.app (α:=Str) y12 ([y7,uo]:List (Str)))))))),(.p (.list .byte (I.hid (α:=Str) ([]:Str))))]))) [y5]))) (.need (I.hid (α:=(Prop)) (LE.le (List.length y12) 1000)) (.fin (.ret (.v (.agg [(.p (.int .i64 200)),(.p (.list .fld (I.hid (α:=(List Fld)) (resT::(prs y12))))),(.p (.list .byte (I.hid (α:=Str) ([]:Str))))]))) [y5]))))))) (.br (I.bnot (I.seq uo ([]:Str))) (.need (I.few (I.add y23 y13) 100000000) (.need (I.hid (α:=(Prop)) (LE.le (List.length (I.app (α:=Str) ([y0,y6,y1,y6,y2,y4]:List (Str)) ([y7,uo]:List (Str)))) 1000)) (.fin (.ret (.v (.agg [(.p (.int .i64 200)),(.p (.list .fld (I.hid (α:=(List Fld)) (resT::(prs (I.app (α:=Str) ([y0,y6,y1,y6,y2,y4]:List (Str)) ([y7,uo]:List (Str)))))))),(.p (.list .byte (I.hid (α:=Str) ([]:Str))))]))) [y5]))) (.need (I.hid (α:=(Prop)) (LE.le (List.length ([y0,y6,y1,y6,y2,y4]:List (Str))) 1000)) (.fin (.ret (.v (.agg [(.p (.int .i64 200)),(.p (.list .fld (I.hid (α:=(List Fld)) (resT::(prs ([y0,y6,y1,y6,y2,y4]:List (Str))))))),(.p (.list .byte (I.hid (α:=Str) ([]:Str))))]))) [y5])))))))) (.br (I.seq m ([68,69,76,69,84,69]:Str)) (.need (I.hid (α:=(Prop)) (And (zu l n) (And (LE.le n (200000:Int)) (LE.le (List.length b) 100000)))) (.br (I.bnot (I.ieq y26 0)) (.need (I.hid (α:=(Prop)) True) (.need y20 (.fin (.ret (.v (.agg [(.p (.int .i64 (I.hid (α:=Int) (wE y26)))),(.p (.list .fld y21)),(.p (.list .byte (I.hid (α:=Str) ([]:Str))))]))) [(.pack [(.obj 53 [(.ptr 1 0),(.row 2),(.p (.int .i64 s))]),y14,(.row .byte 5 y17)])]))) (.need (I.hid (α:=(Prop)) True) (.need y20 (.fin (.ret (.v (.agg [(.p (.int .i64 204)),(.p (.list .fld y21)),(.p (.list .byte (I.hid (α:=Str) ([]:Str))))]))) [(.pack [(.obj 53 [(.ptr 1 0),(.row 2),(.p (.int .i64 (I.hid (α:=Int) (Nat.cast (List.length y17)))))]),y14,(.row .byte 5 y17)])]))))) (.br (I.seq m ([80,65,84,67,72]:Str)) (.need (I.hid (α:=(Prop)) (And (FOk f) (And (zu l n) (And (LE.le n (200000:Int)) (And (LE.le (List.length b) 100000) (And (LE.le (List.length body) 100000) (And (Eq (getB l (idV t)) Bool.true) (Eq (getU l (idV t)) (Upl.mk (idV t) uz uo ub us))))))))) (.fin (.ret (.v (.agg [(.p (.int .i64 (I.hid (α:=Int) (TA.st (zX (Sto.mk l n b s) (Upl.mk (idV t) uz uo ub us) f body))))),(.p (.list .fld (I.hid (α:=(List Fld)) (resT::(TA.fs (zX (Sto.mk l n b s) (Upl.mk (idV t) uz uo ub us) f body)))))),(.p (.list .byte (I.hid (α:=Str) ([]:Str))))]))) [(.pack [(.obj 53 [(.ptr 1 0),(.row 2),(.p (.int .i64 (I.hid (α:=Int) (Sto.s (TA.q (zX (Sto.mk l n b s) (Upl.mk (idV t) uz uo ub us) f body))))))]),(.pack [(.obj 50 [(.row 1),(.p (.int .i64 (I.hid (α:=Int) (Sto.n (TA.q (zX (Sto.mk l n b s) (Upl.mk (idV t) uz uo ub us) f body))))))]),(.row .upl 67 (I.hid (α:=(List Upl)) (Sto.l (TA.q (zX (Sto.mk l n b s) (Upl.mk (idV t) uz uo ub us) f body)))))]),(.row .byte 5 (I.hid (α:=Str) (Sto.b (TA.q (zX (Sto.mk l n b s) (Upl.mk (idV t) uz uo ub us) f body)))))])])) (.need y20 (.fin (.ret (.v (.agg [(.p (.int .i64 405)),(.p (.list .fld y21)),(.p (.list .byte (I.hid (α:=Str) ([]:Str))))]))) [y5]))))) (by kernel_rfl) ?_
    simp only [zk]
    subst hI
    unfold Si Yx Sl Yr lenF XF wsC wsS syS at hr
    simp only at hr
    simp only [nrmA,nrmB,nrlB,reduceCtorEq,V0.agg.injEq,HO.pack.injEq,HO.obj.injEq]
    by_cases hd1:m=[72,69,65,68]
    · rw [if_pos hd1] at hr
      simp only [TA.mk.injEq,Sto.mk.injEq] at hr
      obtain⟨q1,q2,q3,q4,q5,q6⟩:=hr
      subst q1 q2 q3 q4 q5 q6
      by_cases hz:uz<0
      · have hz3:uz= -1:=by omega
        subst hz3
        by_cases ho:uo=[]
        · simp only [hz,ho,if_true]
          (repeat' (first|refine And.intro ?_ ?_|intro _))<;>first|omega|exact True.intro|exact False.elim ‹False›|skip
          all_goals first
            |with_reducible rfl
            |(exfalso;have:=of_decide_eq_false ‹_›;omega)
            |with_reducible assumption
            |omega
            |(have:=zW (n+1);simp only [List.length_cons,List.length_nil];omega)
            |exact hs
            |exact hf.1
            |(exact(hf.2 _ ‹_›).1)
            |(exact(hf.2 _ ‹_›).2)
            |exact⟨hf,by decide⟩
            |(simp only [List.length_append,List.length_set,List.length_cons,List.length_nil];omega)
            |contradiction
            |rfl
            |(exfalso;simp_all;done)
        · simp only [hz,ho,if_true,if_false]
          (repeat' (first|refine And.intro ?_ ?_|intro _))<;>first|omega|exact True.intro|exact False.elim ‹False›|skip
          all_goals first
            |with_reducible rfl
            |(exfalso;have:=of_decide_eq_false ‹_›;omega)
            |with_reducible assumption
            |omega
            |(have:=zW (n+1);simp only [List.length_cons,List.length_nil];omega)
            |exact hs
            |exact hf.1
            |(exact(hf.2 _ ‹_›).1)
            |(exact(hf.2 _ ‹_›).2)
            |exact⟨hf,by decide⟩
            |(simp only [List.length_append,List.length_set,List.length_cons,List.length_nil];omega)
            |contradiction
            |rfl
            |(exfalso;simp_all;done)
      · by_cases ho:uo=[]
        · simp only [hz,ho,if_true,if_false]
          (repeat' (first|refine And.intro ?_ ?_|intro _))<;>first|omega|exact True.intro|exact False.elim ‹False›|skip
          all_goals first
            |with_reducible rfl
            |(exfalso;have:=of_decide_eq_false ‹_›;omega)
            |with_reducible assumption
            |omega
            |(have:=zW (n+1);simp only [List.length_cons,List.length_nil];omega)
            |exact hs
            |exact hf.1
            |(exact(hf.2 _ ‹_›).1)
            |(exact(hf.2 _ ‹_›).2)
            |exact⟨hf,by decide⟩
            |(simp only [List.length_append,List.length_set,List.length_cons,List.length_nil];omega)
            |contradiction
            |rfl
            |(exfalso;simp_all;done)
        · simp only [hz,ho,if_true,if_false]
          (repeat' (first|refine And.intro ?_ ?_|intro _))<;>first|omega|exact True.intro|exact False.elim ‹False›|skip
          all_goals first
            |with_reducible rfl
            |(exfalso;have:=of_decide_eq_false ‹_›;omega)
            |with_reducible assumption
            |omega
            |(have:=zW (n+1);simp only [List.length_cons,List.length_nil];omega)
            |exact hs
            |exact hf.1
            |(exact(hf.2 _ ‹_›).1)
            |(exact(hf.2 _ ‹_›).2)
            |exact⟨hf,by decide⟩
            |(simp only [List.length_append,List.length_set,List.length_cons,List.length_nil];omega)
            |contradiction
            |rfl
            |(exfalso;simp_all;done)
    rw [if_neg hd1] at hr
    by_cases hd2:m=[80,65,84,67,72]
    · rw [if_pos hd2] at hr
      simp only [nrmA,nrmB,nrlB,reduceCtorEq,V0.agg.injEq,HO.pack.injEq,HO.obj.injEq,decide_true,decide_false,Bool.true_eq_false,Bool.false_eq_true,forall_const,false_implies,true_implies,not_true_eq_false,not_false_eq_true,hd2,hr]
      (repeat' (first|refine And.intro ?_ ?_|intro _))<;>first|omega|exact True.intro|exact False.elim ‹False›|skip
      all_goals first
        |with_reducible rfl
        |(exfalso;have:=of_decide_eq_false ‹_›;omega)
        |with_reducible assumption
        |omega
        |(have:=zW (n+1);simp only [List.length_cons,List.length_nil];omega)
        |exact hs
        |exact hf.1
        |(exact(hf.2 _ ‹_›).1)
        |(exact(hf.2 _ ‹_›).2)
        |exact⟨hf,by decide⟩
        |(simp only [List.length_append,List.length_set,List.length_cons,List.length_nil];omega)
        |exact⟨hf,hs,by omega,hb,hbl,hgB,hu⟩
        |contradiction
        |rfl
        |(exfalso;simp_all;done)
    rw [if_neg hd2] at hr
    by_cases hd3:m=[68,69,76,69,84,69]
    · rw [if_pos hd3] at hr
      by_cases h1:wrtC l n b ⟨4,idV t,0,[]⟩=0
      · rw [if_neg (fun h=>h h1)] at hr
        simp only [TA.mk.injEq,Sto.mk.injEq] at hr
        obtain⟨q1,q2,q3,q4,q5,q6⟩:=hr
        subst q1 q2 q3 q4 q5 q6
        simp only [nrmA,nrmB,nrlB,reduceCtorEq,V0.agg.injEq,HO.pack.injEq,HO.obj.injEq,decide_true,decide_false,Bool.true_eq_false,Bool.false_eq_true,forall_const,false_implies,true_implies,not_true_eq_false,not_false_eq_true,hd3,h1]
        (repeat' (first|refine And.intro ?_ ?_|intro _))<;>first|omega|exact True.intro|exact False.elim ‹False›|skip
        all_goals first
          |with_reducible rfl
          |(exfalso;have:=of_decide_eq_false ‹_›;omega)
          |with_reducible assumption
          |omega
          |(have:=zW (n+1);simp only [List.length_cons,List.length_nil];omega)
          |exact hs
          |exact hf.1
          |(exact(hf.2 _ ‹_›).1)
          |(exact(hf.2 _ ‹_›).2)
          |exact⟨hf,by decide⟩
          |(simp only [List.length_append,List.length_set,List.length_cons,List.length_nil];omega)
          |contradiction
          |rfl
          |(exfalso;simp_all;done)
      · rw [if_pos h1] at hr
        simp only [TA.mk.injEq,Sto.mk.injEq] at hr
        obtain⟨q1,q2,q3,q4,q5,q6⟩:=hr
        subst q1 q2 q3 q4 q5 q6
        have e1:wrtL l n b ⟨4,idV t,0,[]⟩=l:=by simp only [wrtL,if_neg h1]
        have e2:wrtN l n b ⟨4,idV t,0,[]⟩=n:=by simp only [wrtN,if_neg h1]
        have e3:wrtB l n b ⟨4,idV t,0,[]⟩=b:=by simp only [wrtB,if_neg h1]
        rw [e1,e2,e3]
        simp only [nrmA,nrmB,nrlB,reduceCtorEq,V0.agg.injEq,HO.pack.injEq,HO.obj.injEq,decide_true,decide_false,Bool.true_eq_false,Bool.false_eq_true,forall_const,false_implies,true_implies,not_true_eq_false,not_false_eq_true,hd3,h1]
        (repeat' (first|refine And.intro ?_ ?_|intro _))<;>first|omega|exact True.intro|exact False.elim ‹False›|skip
        all_goals first
          |with_reducible rfl
          |(exfalso;have:=of_decide_eq_false ‹_›;omega)
          |with_reducible assumption
          |omega
          |(have:=zW (n+1);simp only [List.length_cons,List.length_nil];omega)
          |exact hs
          |exact hf.1
          |(exact(hf.2 _ ‹_›).1)
          |(exact(hf.2 _ ‹_›).2)
          |exact⟨hf,by decide⟩
          |(simp only [List.length_append,List.length_set,List.length_cons,List.length_nil];omega)
          |contradiction
          |rfl
          |(exfalso;simp_all;done)
    · rw [if_neg hd3] at hr
      simp only [TA.mk.injEq,Sto.mk.injEq] at hr
      obtain⟨q1,q2,q3,q4,q5,q6⟩:=hr
      subst q1 q2 q3 q4 q5 q6
      simp only [nrmA,nrmB,nrlB,reduceCtorEq,V0.agg.injEq,HO.pack.injEq,HO.obj.injEq,decide_true,decide_false,Bool.true_eq_false,Bool.false_eq_true,forall_const,false_implies,true_implies,not_true_eq_false,not_false_eq_true,hd1,hd2,hd3]
      (repeat' (first|refine And.intro ?_ ?_|intro _))<;>first|omega|exact True.intro|exact False.elim ‹False›|skip
      all_goals first
        |with_reducible rfl
        |(exfalso;have:=of_decide_eq_false ‹_›;omega)
        |with_reducible assumption
        |omega
        |(have:=zW (n+1);simp only [List.length_cons,List.length_nil];omega)
        |exact hs
        |exact hf.1
        |(exact(hf.2 _ ‹_›).1)
        |(exact(hf.2 _ ‹_›).2)
        |exact⟨hf,by decide⟩
        |(simp only [List.length_append,List.length_set,List.length_cons,List.length_nil];omega)
        |contradiction
        |rfl
        |(exfalso;simp_all;done)
  have key30: ∀ (ai:Int),ai=(if uplB ⟨l,n,b,s⟩ t=true then(atU l (idV t):Int) else -1)→(if uplB ⟨l,n,b,s⟩ t=false then(⟨404,[],⟨l,n,b,s⟩⟩:TA) else(if m=Si then(⟨200,Yr (getU l (idV t)),⟨l,n,b,s⟩⟩:TA) else if m=Yx then zX ⟨l,n,b,s⟩ (getU l (idV t)) f body else if m=Sl then XF ⟨l,n,b,s⟩ (getU l (idV t)) else(⟨405,[],⟨l,n,b,s⟩⟩:TA)))=⟨st,fs,⟨l',n',b',s'⟩⟩→Ok Tryz.prog X (fun o h=>o=(.ret (.v (.agg [(.p (.int .i64 st)),(.p (.list .fld ((resT::fs)))),(.p (.list .byte ([])))])))∧h=[.pack [.obj 53 [(.ptr 1 0),(.row 2),(.p (.int .i64 (s')))],.pack [.obj 50 [(.row 1),(.p (.int .i64 (n')))],.row .upl 67 (l')],.row .byte 5 (b')]]) (go I tab { sl:=xG.sl,fz:=[30,37],seam:=[3,8,11,17,20,25,30,33],keep:=some [0,1,2,4,6,7,8,9,10,11,12,13,14,15,16,17,18,19,20,158]} [zT,zS,zM,zL,xM,xK,yA,yx,zO,zN,yg,yc,zK,zJ,zC,zB,zF,zD,yw,yu,yj,yh] [⟨yH Tryz.f11,finK I tab { sl:=xG.sl,fz:=[30,37],seam:=[3,8,11,17,20,25,30,33],keep:=some [0,1,2,4,6,7,8,9,10,11,12,13,14,15,16,17,18,19,20,158]} 1 Tryz.f11⟩] 0 [1,1,1,1,1,1,1,1,0,0] ⟨[(0,.v (.one (.ptr 0 0))),(2,.v (.one (.p (.list .byte body)))),(4,.v (.one (.ptr 1 0))),(6,.v (.one (.ptr 2 0))),(15,.v (.one (.p (.int .i64 ai))))],[.pack [.obj 53 [(.ptr 1 0),(.row 2),(.p (.int .i64 s))],.pack [.obj 50 [(.row 1),(.p (.int .i64 n))],.row .upl 67 l],.row .byte 5 b],.pack [.obj 35 [(.p (.str m)),(.p (.str t)),(.p (.int .i64 mi)),(.p (.list .fld f)),(.p (.int .i64 le))]],.pack [.obj 32 [(.p (.int .i64 0)),.nilS,.nilS]]],208,none⟩):=by
    intro ai hat hr
    refine zh (let y0:=I.get (α:=Upl) l (Upl.mk (0:Int) (0:Int) ([]:Str) ([]:Str) (0:Int)) ai;.br (I.ilt ai 0) (.need (I.hid (α:=(Prop)) (LE.le (List.length ([]:List (Str))) 1000)) (.fin (.ret (.v (.agg [(.p (.int .i64 404)),(.p (.list .fld (I.hid (α:=(List Fld)) (resT::(prs ([]:List (Str))))))),(.p (.list .byte (I.hid (α:=Str) ([]:Str))))]))) [(.pack [(.obj 53 [(.ptr 1 0),(.row 2),(.p (.int .i64 s))]),(.pack [(.obj 50 [(.row 1),(.p (.int .i64 n))]),(.row .upl 67 l)]),(.row .byte 5 b)])])) (.need (I.inb ai (I.len (α:=Upl) l)) (.need (I.inb ai (I.len (α:=Upl) l)) (.code 0 [1,1,1,1,1,1,1,1,1,1,0,0] ⟨[(18,(.v (.one (.ptr 6 0)))),(0,(.v (.one (.ptr 0 0)))),(2,(.v (.one (.p (.list .byte body))))),(4,(.v (.one (.ptr 1 0)))),(6,(.v (.one (.ptr 2 0)))),(15,(.v (.one (.p (.int .i64 ai)))))],[(.obj 53 [(.ptr 3 0),(.row 4),(.p (.int .i64 s))]),(.pack [(.obj 35 [(.p (.str m)),(.p (.str t)),(.p (.int .i64 mi)),(.p (.list .fld f)),(.p (.int .i64 le))])]),(.pack [(.obj 32 [(.p (.int .i64 0)),.nilS,.nilS])]),(.obj 50 [(.row 5),(.p (.int .i64 n))]),(.row .byte 5 b),(.row .upl 67 l),(.obj 67 [(.p (.int .i64 (Upl.id y0))),(.p (.int .i64 (Upl.size y0))),(.p (.str (Upl.note y0))),(.p (.list .byte (Upl.bytes y0))),(.p (.int .i64 (Upl.sent y0)))])],208,none⟩)))) (by kernel_rfl) ?_
    simp only [zk]
    subst hI
    simp only [nrmA,nrmB,nrlB,reduceCtorEq,V0.agg.injEq,HO.pack.injEq,HO.obj.injEq]
    cases hB:uplB ⟨l,n,b,s⟩ t with
    | true=>
      rw [hB,if_pos rfl] at hat
      rw [hB,if_neg (by simp)] at hr
      have hgB:getB l (idV t)=true:=by
        unfold uplB at hB
        simp only [Bool.and_eq_true] at hB
        exact hB.2
      have hlt:atU l (idV t)<l.length:=by unfold getB at hgB;simpa using hgB
      have e:l.getD ai.toNat ⟨0,0,[],[],0⟩=getU l (idV t):=by
        unfold getU yJ
        rw [if_pos hlt,hat];rfl
      rw [e]
      have hk:=fun(u:Upl) (h:getU l (idV t)=u)=>key33 u.id u.size u.note u.bytes u.sent (by rw [h]) hB
      clear key33
      generalize hu:getU l (idV t)=u at *
      have hk:=hk u rfl hr
      (repeat' (first|refine And.intro ?_ ?_|intro _))<;>first|omega|exact True.intro|exact False.elim ‹False›|skip
      all_goals first
        |((with_reducible show Ok _ _ _ _);(try(exfalso;omega));exact seam (by first|rfl|exact hI) zi mixed [zT,zS,zM,zL,xM,xK,yA,yx,zO,zN,yg,yc,zK,zJ,zC,zB,zF,zD,yw,yu,yj,yh] hX [0,2,4,6,18] ⟨[(0,.v (.one (.ptr 0 0))),(2,.v (.one (.p (.list .byte body)))),(4,.v (.one (.ptr 1 0))),(6,.v (.one (.ptr 2 0))),(18,.v (.one (.ptr 3 0)))],[.pack [.obj 53 [(.ptr 1 0),(.row 2),(.p (.int .i64 s))],.pack [.obj 50 [(.row 1),(.p (.int .i64 n))],.row .upl 67 l],.row .byte 5 b],.pack [.obj 35 [(.p (.str m)),(.p (.str t)),(.p (.int .i64 mi)),(.p (.list .fld f)),(.p (.int .i64 le))]],.pack [.obj 32 [(.p (.int .i64 0)),.nilS,.nilS]],.pack [.obj 67 [(.p (.int .i64 u.id)),(.p (.int .i64 u.size)),(.p (.str u.note)),(.p (.list .byte u.bytes)),(.p (.int .i64 u.sent))]]],208,none⟩ (by kernel_rfl) (hk))
        |with_reducible rfl
        |(exfalso;have:=of_decide_eq_false ‹_›;omega)
        |with_reducible assumption
        |omega
        |(have:=zW (n+1);simp only [List.length_cons,List.length_nil];omega)
        |exact hs
        |exact hf.1
        |(exact(hf.2 _ ‹_›).1)
        |(exact(hf.2 _ ‹_›).2)
        |exact⟨hf,by decide⟩
        |(simp only [List.length_append,List.length_set,List.length_cons,List.length_nil];omega)
        |contradiction
        |rfl
        |(exfalso;simp_all;done)
    | false=>
      rw [hB,if_neg Bool.false_ne_true] at hat
      rw [hB,if_pos rfl] at hr
      clear key33
      simp only [TA.mk.injEq,Sto.mk.injEq] at hr
      obtain⟨q1,q2,q3,q4,q5,q6⟩:=hr
      subst q1 q2 q3 q4 q5 q6
      (repeat' (first|refine And.intro ?_ ?_|intro _))<;>first|omega|exact True.intro|exact False.elim ‹False›|skip
      all_goals first
        |with_reducible rfl
        |(exfalso;have:=of_decide_eq_false ‹_›;omega)
        |with_reducible assumption
        |omega
        |(have:=zW (n+1);simp only [List.length_cons,List.length_nil];omega)
        |exact hs
        |exact hf.1
        |(exact(hf.2 _ ‹_›).1)
        |(exact(hf.2 _ ‹_›).2)
        |exact⟨hf,by decide⟩
        |(simp only [List.length_append,List.length_set,List.length_cons,List.length_nil];omega)
        |contradiction
        |rfl
        |(exfalso;simp_all;done)
  have key25: ∀ (_u:Unit),(if uplB ⟨l,n,b,s⟩ t=false then(⟨404,[],⟨l,n,b,s⟩⟩:TA) else(if m=Si then(⟨200,Yr (getU l (idV t)),⟨l,n,b,s⟩⟩:TA) else if m=Yx then zX ⟨l,n,b,s⟩ (getU l (idV t)) f body else if m=Sl then XF ⟨l,n,b,s⟩ (getU l (idV t)) else(⟨405,[],⟨l,n,b,s⟩⟩:TA)))=⟨st,fs,⟨l',n',b',s'⟩⟩→Ok Tryz.prog X (fun o h=>o=(.ret (.v (.agg [(.p (.int .i64 st)),(.p (.list .fld ((resT::fs)))),(.p (.list .byte ([])))])))∧h=[.pack [.obj 53 [(.ptr 1 0),(.row 2),(.p (.int .i64 (s')))],.pack [.obj 50 [(.row 1),(.p (.int .i64 (n')))],.row .upl 67 (l')],.row .byte 5 (b')]]) (go I tab { sl:=xG.sl,fz:=[30,37],seam:=[3,8,11,17,20,25,30,33],keep:=some [0,1,2,4,6,7,8,9,10,11,12,13,14,15,16,17,18,19,20,158]} [zT,zS,zM,zL,xM,xK,yA,yx,zO,zN,yg,yc,zK,zJ,zC,zB,zF,zD,yw,yu,yj,yh] [⟨yH Tryz.f11,finK I tab { sl:=xG.sl,fz:=[30,37],seam:=[3,8,11,17,20,25,30,33],keep:=some [0,1,2,4,6,7,8,9,10,11,12,13,14,15,16,17,18,19,20,158]} 1 Tryz.f11⟩] 0 [1,1,1,1,1,1,0] ⟨[(0,.v (.one (.ptr 0 0))),(2,.v (.one (.p (.list .byte body)))),(4,.v (.one (.ptr 1 0))),(6,.v (.one (.ptr 2 0)))],[.pack [.obj 53 [(.ptr 1 0),(.row 2),(.p (.int .i64 s))],.pack [.obj 50 [(.row 1),(.p (.int .i64 n))],.row .upl 67 l],.row .byte 5 b],.pack [.obj 35 [(.p (.str m)),(.p (.str t)),(.p (.int .i64 mi)),(.p (.list .fld f)),(.p (.int .i64 le))]],.pack [.obj 32 [(.p (.int .i64 0)),.nilS,.nilS]]],208,none⟩):=by
    intro _ hr
    refine zh (let y9:=I.cut (α:=UInt8) t 7 (I.len (α:=UInt8) t);let y0:=I.hid (α:=Int) (Prod.fst (numA y9 (10:Int) (9:Int)));let y1:HO:=.obj 35 [(.p (.str m)),(.p (.str t)),(.p (.int .i64 mi)),(.p (.list .fld f)),(.p (.int .i64 le))];let y5:HO:=.pack [(.obj 50 [(.row 1),(.p (.int .i64 n))]),(.row .upl 67 l)];let y2:HO:=.pack [(.obj 53 [(.ptr 1 0),(.row 2),(.p (.int .i64 s))]),y5,(.row .byte 5 b)];let y3:=I.hid (α:=Bool) (Prod.snd (numA y9 (10:Int) (9:Int)));let y4:HO:=.pack [(.obj 32 [(.p (.int .i64 0)),.nilS,.nilS])];let y6:=I.cutb 7 (I.len (α:=UInt8) t) (I.len (α:=UInt8) t);let y7:=I.hid (α:=(Prop)) (LE.le (List.length l) 1000000);let y8:HO:=.obj 53 [(.ptr 3 0),(.row 4),(.p (.int .i64 s))];.br (I.ilt 7 (I.len (α:=UInt8) t)) (.need (I.cutb 0 7 (I.len (α:=UInt8) t)) (.br (I.seq (I.cut (α:=UInt8) t 0 7) ([47,102,105,108,101,115,47]:Str)) (.need y6 (.need (I.hid (α:=(Prop)) True) (.br y3 (.need y6 (.br (I.hid (α:=Bool) (Decidable.decide (LE.le (0:Int) y0))) (.need (I.hid (α:=(Prop)) (And (LE.le (0:Int) y0) (LT.lt y0 (1000000000:Int)))) (.br (I.seq (I.hid (α:=Str) (decS y0)) y9) (.need y7 (.code 0 [1,1,1,1,1,1,1,1,0,0] ⟨[(15,(.v (.one (.p (.int .i64 (I.hid (α:=Int) (ixU l y0))))))),(17,(.v (.one (.p (.bool y3))))),(16,(.v (.one (.p (.int .i64 y0))))),(0,(.v (.one (.ptr 0 0)))),(2,(.v (.one (.p (.list .byte body))))),(4,(.v (.one (.ptr 1 0)))),(6,(.v (.one (.ptr 2 0))))],[y8,y1,y4,y5,(.row .byte 5 b)],208,none⟩)) (.code 0 [1,1,1,1,1,1,1,1,0,0] ⟨[(17,(.v (.one (.p (.bool y3))))),(16,(.v (.one (.p (.int .i64 y0))))),(15,(.v (.one (.p (.int .i64 (Neg.neg (1:Int))))))),(0,(.v (.one (.ptr 0 0)))),(2,(.v (.one (.p (.list .byte body))))),(4,(.v (.one (.ptr 1 0)))),(6,(.v (.one (.ptr 2 0))))],[y2,y1,y4],208,none⟩))) (.need (I.hid (α:=(Prop)) (Eq y0 (Neg.neg (1:Int)))) (.br (I.seq (I.hid (α:=Str) ([45,49]:Str)) y9) (.need y7 (.code 0 [1,1,1,1,1,1,1,1,0,0] ⟨[(15,(.v (.one (.p (.int .i64 (I.hid (α:=Int) (ixU l y0))))))),(17,(.v (.one (.p (.bool y3))))),(16,(.v (.one (.p (.int .i64 y0))))),(0,(.v (.one (.ptr 0 0)))),(2,(.v (.one (.p (.list .byte body))))),(4,(.v (.one (.ptr 1 0)))),(6,(.v (.one (.ptr 2 0))))],[y8,y1,y4,y5,(.row .byte 5 b)],208,none⟩)) (.code 0 [1,1,1,1,1,1,1,1,0,0] ⟨[(17,(.v (.one (.p (.bool y3))))),(16,(.v (.one (.p (.int .i64 y0))))),(15,(.v (.one (.p (.int .i64 (Neg.neg (1:Int))))))),(0,(.v (.one (.ptr 0 0)))),(2,(.v (.one (.p (.list .byte body))))),(4,(.v (.one (.ptr 1 0)))),(6,(.v (.one (.ptr 2 0))))],[y2,y1,y4],208,none⟩))))) (.code 0 [1,1,1,1,1,1,1,1,0,0] ⟨[(17,(.v (.one (.p (.bool y3))))),(16,(.v (.one (.p (.int .i64 y0))))),(15,(.v (.one (.p (.int .i64 (Neg.neg (1:Int))))))),(0,(.v (.one (.ptr 0 0)))),(2,(.v (.one (.p (.list .byte body))))),(4,(.v (.one (.ptr 1 0)))),(6,(.v (.one (.ptr 2 0))))],[y2,y1,y4],208,none⟩)))) (.code 0 [1,1,1,1,1,1,1,1,0,0] ⟨[(15,(.v (.one (.p (.int .i64 (Neg.neg (1:Int))))))),(0,(.v (.one (.ptr 0 0)))),(2,(.v (.one (.p (.list .byte body))))),(4,(.v (.one (.ptr 1 0)))),(6,(.v (.one (.ptr 2 0))))],[y2,y1,y4],208,none⟩))) (.code 0 [1,1,1,1,1,1,1,1,0,0] ⟨[(15,(.v (.one (.p (.int .i64 (Neg.neg (1:Int))))))),(0,(.v (.one (.ptr 0 0)))),(2,(.v (.one (.p (.list .byte body))))),(4,(.v (.one (.ptr 1 0)))),(6,(.v (.one (.ptr 2 0))))],[y2,y1,y4],208,none⟩)) (by kernel_rfl) ?_
    simp only [zk]
    clear key33
    have hna:=sG (t.drop 7)
    have hk:=fun(ai:Int) (h:ai=(if uplB ⟨l,n,b,s⟩ t=true then(atU l (idV t):Int) else -1))=>key30 ai h hr
    clear key30 hr
    subst hI
    simp only [nrmA,nrmB,nrlB,reduceCtorEq,V0.agg.injEq,HO.pack.injEq,HO.obj.injEq]
    rw [show([47,102,105,108,101,115,47]:Str)=yT from rfl]
    have e1:List.take (Int.toNat 7) t=t.take 7:=rfl
    have e2:List.take (t.length - Int.toNat 7) (List.drop (Int.toNat 7) t)=t.drop 7:=by
      rw [show Int.toNat 7=7 from rfl]
      exact List.take_of_length_le (by rw [List.length_drop];omega)
    simp only [e1,e2]
    have k1: ¬ (7<t.length∧t.take 7=yT)→(-1:Int)=(if uplB ⟨l,n,b,s⟩ t=true then(atU l (idV t):Int) else -1):=fun h=>by rw [zkB h];rfl
    have k2:(numA (t.drop 7) 10 9).2=false→(-1:Int)=(if uplB ⟨l,n,b,s⟩ t=true then(atU l (idV t):Int) else -1):=fun h=>by rw [zkA h];rfl
    have k3: ¬ decS (numA (t.drop 7) 10 9).1=t.drop 7→(-1:Int)=(if uplB ⟨l,n,b,s⟩ t=true then(atU l (idV t):Int) else -1):=fun h=>by rw [zkz h];rfl
    have k4:t.take 7=yT→(numA (t.drop 7) 10 9).2=true→decS (numA (t.drop 7) 10 9).1=t.drop 7→ixU l (idV t)=(if uplB ⟨l,n,b,s⟩ t=true then(atU l (idV t):Int) else -1):=fun h1 h2 h3=>by
      rw [zky h1 h2 h3]
      unfold ixU
      simp only [decide_eq_true_eq]
    generalize(if uplB ⟨l,n,b,s⟩ t=true then(atU l (idV t):Int) else -1)=ai at *
    have hk:=hk ai rfl
    unfold idV at k4
    generalize numA (t.drop 7) 10 9=na at *
    obtain⟨nv,nb⟩:=na
    simp only at *
    (repeat' (first|refine And.intro ?_ ?_|intro _))<;>first|omega|exact True.intro|exact False.elim ‹False›|skip
    all_goals first
      |omega
      |(exfalso;have:=of_decide_eq_false ‹_›;omega)
      | ((with_reducible show Ok _ _ _ _);first
        |(have h:=k4 (by assumption) (by assumption) (by assumption);subst h;exact seam (by first|rfl|exact hI) zi mixed [zT,zS,zM,zL,xM,xK,yA,yx,zO,zN,yg,yc,zK,zJ,zC,zB,zF,zD,yw,yu,yj,yh] hX [0,2,4,6,15] ⟨[(0,.v (.one (.ptr 0 0))),(2,.v (.one (.p (.list .byte body)))),(4,.v (.one (.ptr 1 0))),(6,.v (.one (.ptr 2 0))),(15,.v (.one (.p (.int .i64 ((ixU l nv))))))],[.pack [.obj 53 [(.ptr 1 0),(.row 2),(.p (.int .i64 s))],.pack [.obj 50 [(.row 1),(.p (.int .i64 n))],.row .upl 67 l],.row .byte 5 b],.pack [.obj 35 [(.p (.str m)),(.p (.str t)),(.p (.int .i64 mi)),(.p (.list .fld f)),(.p (.int .i64 le))]],.pack [.obj 32 [(.p (.int .i64 0)),.nilS,.nilS]]],208,none⟩ (by kernel_rfl) (hk))
        |(have h:=k1 (fun w=>absurd w.2 ‹_›);subst h;exact seam (by first|rfl|exact hI) zi mixed [zT,zS,zM,zL,xM,xK,yA,yx,zO,zN,yg,yc,zK,zJ,zC,zB,zF,zD,yw,yu,yj,yh] hX [0,2,4,6,15] ⟨[(0,.v (.one (.ptr 0 0))),(2,.v (.one (.p (.list .byte body)))),(4,.v (.one (.ptr 1 0))),(6,.v (.one (.ptr 2 0))),(15,.v (.one (.p (.int .i64 ((-1))))))],[.pack [.obj 53 [(.ptr 1 0),(.row 2),(.p (.int .i64 s))],.pack [.obj 50 [(.row 1),(.p (.int .i64 n))],.row .upl 67 l],.row .byte 5 b],.pack [.obj 35 [(.p (.str m)),(.p (.str t)),(.p (.int .i64 mi)),(.p (.list .fld f)),(.p (.int .i64 le))]],.pack [.obj 32 [(.p (.int .i64 0)),.nilS,.nilS]]],208,none⟩ (by kernel_rfl) (hk))
        |(have h:=k1 (by omega);subst h;exact seam (by first|rfl|exact hI) zi mixed [zT,zS,zM,zL,xM,xK,yA,yx,zO,zN,yg,yc,zK,zJ,zC,zB,zF,zD,yw,yu,yj,yh] hX [0,2,4,6,15] ⟨[(0,.v (.one (.ptr 0 0))),(2,.v (.one (.p (.list .byte body)))),(4,.v (.one (.ptr 1 0))),(6,.v (.one (.ptr 2 0))),(15,.v (.one (.p (.int .i64 ((-1))))))],[.pack [.obj 53 [(.ptr 1 0),(.row 2),(.p (.int .i64 s))],.pack [.obj 50 [(.row 1),(.p (.int .i64 n))],.row .upl 67 l],.row .byte 5 b],.pack [.obj 35 [(.p (.str m)),(.p (.str t)),(.p (.int .i64 mi)),(.p (.list .fld f)),(.p (.int .i64 le))]],.pack [.obj 32 [(.p (.int .i64 0)),.nilS,.nilS]]],208,none⟩ (by kernel_rfl) (hk))
        |(have h:=k2 (by assumption);subst h;exact seam (by first|rfl|exact hI) zi mixed [zT,zS,zM,zL,xM,xK,yA,yx,zO,zN,yg,yc,zK,zJ,zC,zB,zF,zD,yw,yu,yj,yh] hX [0,2,4,6,15] ⟨[(0,.v (.one (.ptr 0 0))),(2,.v (.one (.p (.list .byte body)))),(4,.v (.one (.ptr 1 0))),(6,.v (.one (.ptr 2 0))),(15,.v (.one (.p (.int .i64 ((-1))))))],[.pack [.obj 53 [(.ptr 1 0),(.row 2),(.p (.int .i64 s))],.pack [.obj 50 [(.row 1),(.p (.int .i64 n))],.row .upl 67 l],.row .byte 5 b],.pack [.obj 35 [(.p (.str m)),(.p (.str t)),(.p (.int .i64 mi)),(.p (.list .fld f)),(.p (.int .i64 le))]],.pack [.obj 32 [(.p (.int .i64 0)),.nilS,.nilS]]],208,none⟩ (by kernel_rfl) (hk))
        |(have h:=k3 (by assumption);subst h;exact seam (by first|rfl|exact hI) zi mixed [zT,zS,zM,zL,xM,xK,yA,yx,zO,zN,yg,yc,zK,zJ,zC,zB,zF,zD,yw,yu,yj,yh] hX [0,2,4,6,15] ⟨[(0,.v (.one (.ptr 0 0))),(2,.v (.one (.p (.list .byte body)))),(4,.v (.one (.ptr 1 0))),(6,.v (.one (.ptr 2 0))),(15,.v (.one (.p (.int .i64 ((-1))))))],[.pack [.obj 53 [(.ptr 1 0),(.row 2),(.p (.int .i64 s))],.pack [.obj 50 [(.row 1),(.p (.int .i64 n))],.row .upl 67 l],.row .byte 5 b],.pack [.obj 35 [(.p (.str m)),(.p (.str t)),(.p (.int .i64 mi)),(.p (.list .fld f)),(.p (.int .i64 le))]],.pack [.obj 32 [(.p (.int .i64 0)),.nilS,.nilS]]],208,none⟩ (by kernel_rfl) (hk)))
      |(simp only [List.length_append,List.length_set,List.length_cons,List.length_nil];omega)
  have key20: ∀ (nn:Int) (mt:Str),mt.length≤1000000→(if wrtC l n b ⟨1,n+1,nn,mt⟩≠0 then(⟨wE (wrtC l n b ⟨1,n+1,nn,mt⟩),[],⟨l,n,b,s⟩⟩:TA) else(⟨201,[⟨locN,yT++decS (n+1)⟩],⟨wrtL l n b ⟨1,n+1,nn,mt⟩,wrtN l n b ⟨1,n+1,nn,mt⟩,wrtB l n b ⟨1,n+1,nn,mt⟩,((wrtB l n b ⟨1,n+1,nn,mt⟩).length:Int)⟩⟩:TA))=⟨st,fs,⟨l',n',b',s'⟩⟩→Ok Tryz.prog X (fun o h=>o=(.ret (.v (.agg [(.p (.int .i64 st)),(.p (.list .fld ((resT::fs)))),(.p (.list .byte ([])))])))∧h=[.pack [.obj 53 [(.ptr 1 0),(.row 2),(.p (.int .i64 (s')))],.pack [.obj 50 [(.row 1),(.p (.int .i64 (n')))],.row .upl 67 (l')],.row .byte 5 (b')]]) (go I tab { sl:=xG.sl,fz:=[30,37],seam:=[3,8,11,17,20,25,30,33],keep:=some [0,1,2,4,6,7,8,9,10,11,12,13,14,15,16,17,18,19,20,158]} [zT,zS,zM,zL,xM,xK,yA,yx,zO,zN,yg,yc,zK,zJ,zC,zB,zF,zD,yw,yu,yj,yh] [⟨yH Tryz.f11,finK I tab { sl:=xG.sl,fz:=[30,37],seam:=[3,8,11,17,20,25,30,33],keep:=some [0,1,2,4,6,7,8,9,10,11,12,13,14,15,16,17,18,19,20,158]} 1 Tryz.f11⟩] 0 [1,1,1,1,1,0,1,0,1,1,1,1,1,1,1,0] ⟨[(0,.v (.one (.ptr 0 0))),(2,.v (.one (.p (.list .byte body)))),(4,.v (.one (.ptr 1 0))),(6,.v (.one (.ptr 2 0))),(9,.v (.one (.p (.int .i64 nn)))),(13,.v (.one (.p (.str mt))))],[.pack [.obj 53 [(.ptr 1 0),(.row 2),(.p (.int .i64 s))],.pack [.obj 50 [(.row 1),(.p (.int .i64 n))],.row .upl 67 l],.row .byte 5 b],.pack [.obj 35 [(.p (.str m)),(.p (.str t)),(.p (.int .i64 mi)),(.p (.list .fld f)),(.p (.int .i64 le))]],.pack [.obj 32 [(.p (.int .i64 0)),.nilS,.nilS]]],208,none⟩):=by
    intro nn mt hmt hr
    refine zh (let y0:=I.hid (α:=Int) (ite (Eq (wrtC l n b (Ent.mk (1:Int) (HAdd.hAdd n (1:Int)) nn mt)) (0:Int)) (HAdd.hAdd n (1:Int)) (0:Int));let y1:HO:=.pack [(.obj 53 [(.ptr 1 0),(.row 2),(.p (.int .i64 (I.hid (α:=Int) (Nat.cast (List.length (I.hid (α:=Str) (wrtB l n b (Ent.mk (1:Int) (HAdd.hAdd n (1:Int)) nn mt))))))))]),(.pack [(.obj 50 [(.row 1),(.p (.int .i64 (I.hid (α:=Int) (wrtN l n b (Ent.mk (1:Int) (HAdd.hAdd n (1:Int)) nn mt)))))]),(.row .upl 67 (I.hid (α:=(List Upl)) (wrtL l n b (Ent.mk (1:Int) (HAdd.hAdd n (1:Int)) nn mt))))]),(.row .byte 5 (I.hid (α:=Str) (wrtB l n b (Ent.mk (1:Int) (HAdd.hAdd n (1:Int)) nn mt))))];let y2:=([47,102,105,108,101,115,47]:Str);let y3:=([76,111,99,97,116,105,111,110]:Str);let y4:=I.hid (α:=Int) (wrtC l n b (Ent.mk (1:Int) (HAdd.hAdd n (1:Int)) nn mt));let y5:=I.hid (α:=Str) ([45,49]:Str);.need (I.hid (α:=(Prop)) (And (zu l n) (And (LE.le n (200000:Int)) (And (LE.le (List.length mt) 1000000) (LE.le (List.length b) 100000))))) (.br (I.bnot (I.ieq y4 0)) (.need (I.hid (α:=(Prop)) True) (.need (I.hid (α:=(Prop)) (LE.le (List.length ([]:List (Str))) 1000)) (.fin (.ret (.v (.agg [(.p (.int .i64 (I.hid (α:=Int) (wE y4)))),(.p (.list .fld (I.hid (α:=(List Fld)) (resT::(prs ([]:List (Str))))))),(.p (.list .byte (I.hid (α:=Str) ([]:Str))))]))) [(.pack [(.obj 53 [(.ptr 1 0),(.row 2),(.p (.int .i64 s))]),(.pack [(.obj 50 [(.row 1),(.p (.int .i64 (I.hid (α:=Int) (wrtN l n b (Ent.mk (1:Int) (HAdd.hAdd n (1:Int)) nn mt)))))]),(.row .upl 67 (I.hid (α:=(List Upl)) (wrtL l n b (Ent.mk (1:Int) (HAdd.hAdd n (1:Int)) nn mt))))]),(.row .byte 5 (I.hid (α:=Str) (wrtB l n b (Ent.mk (1:Int) (HAdd.hAdd n (1:Int)) nn mt))))])]))) (.need (I.hid (α:=(Prop)) True) (.br (I.hid (α:=Bool) (Decidable.decide (LE.le (0:Int) y0))) (.need (I.hid (α:=(Prop)) (And (LE.le (0:Int) y0) (LT.lt y0 (1000000000:Int)))) (.need (I.few (I.add (I.len (α:=UInt8) y2) (I.len (α:=UInt8) (I.hid (α:=Str) (decS y0)))) 1000000000) (.need (I.hid (α:=(Prop)) (LE.le (List.length ([y3,(I.app (α:=UInt8) y2 (I.hid (α:=Str) (decS y0)))]:List (Str))) 1000)) (.fin (.ret (.v (.agg [(.p (.int .i64 201)),(.p (.list .fld (I.hid (α:=(List Fld)) (resT::(prs ([y3,(I.app (α:=UInt8) y2 (I.hid (α:=Str) (decS y0)))]:List (Str))))))),(.p (.list .byte (I.hid (α:=Str) ([]:Str))))]))) [y1])))) (.need (I.hid (α:=(Prop)) (Eq y0 (Neg.neg (1:Int)))) (.need (I.few (I.add (I.len (α:=UInt8) y2) (I.len (α:=UInt8) y5)) 1000000000) (.need (I.hid (α:=(Prop)) (LE.le (List.length ([y3,(I.app (α:=UInt8) y2 y5)]:List (Str))) 1000)) (.fin (.ret (.v (.agg [(.p (.int .i64 201)),(.p (.list .fld (I.hid (α:=(List Fld)) (resT::(prs ([y3,(I.app (α:=UInt8) y2 y5)]:List (Str))))))),(.p (.list .byte (I.hid (α:=Str) ([]:Str))))]))) [y1])))))))) (by kernel_rfl) ?_
    simp only [zk]
    clear key33 key30 key25
    subst hI
    unfold locN yT at hr
    simp only [nrmA,nrmB,nrlB,reduceCtorEq,V0.agg.injEq,HO.pack.injEq,HO.obj.injEq]
    by_cases h1:wrtC l n b ⟨1,n+1,nn,mt⟩=0
    · rw [if_neg (fun h=>h h1)] at hr
      simp only [h1,if_true]
      simp only [TA.mk.injEq,Sto.mk.injEq] at hr
      obtain⟨q1,q2,q3,q4,q5,q6⟩:=hr
      subst q1 q2 q3 q4 q5 q6
      simp only [nrmA,nrmB,nrlB,reduceCtorEq,V0.agg.injEq,HO.pack.injEq,HO.obj.injEq,decide_true,decide_false,Bool.true_eq_false,Bool.false_eq_true,forall_const,false_implies,true_implies,not_true_eq_false,not_false_eq_true]
      (repeat' (first|refine And.intro ?_ ?_|intro _))<;>first|omega|exact True.intro|exact False.elim ‹False›|skip
      all_goals first
        |with_reducible rfl
        |(exfalso;have:=of_decide_eq_false ‹_›;omega)
        |with_reducible assumption
        |omega
        |(have:=zW (n+1);simp only [List.length_cons,List.length_nil];omega)
        |exact hs
        |exact hf.1
        |(exact(hf.2 _ ‹_›).1)
        |(exact(hf.2 _ ‹_›).2)
        |exact⟨hf,by decide⟩
        |(simp only [List.length_append,List.length_set,List.length_cons,List.length_nil];omega)
        |contradiction
        |rfl
        |(exfalso;simp_all;done)
    · rw [if_pos h1] at hr
      simp only [TA.mk.injEq,Sto.mk.injEq] at hr
      obtain⟨q1,q2,q3,q4,q5,q6⟩:=hr
      subst q1 q2 q3 q4 q5 q6
      have e1:wrtL l n b ⟨1,n+1,nn,mt⟩=l:=by simp only [wrtL,if_neg h1]
      have e2:wrtN l n b ⟨1,n+1,nn,mt⟩=n:=by simp only [wrtN,if_neg h1]
      have e3:wrtB l n b ⟨1,n+1,nn,mt⟩=b:=by simp only [wrtB,if_neg h1]
      rw [e1,e2,e3]
      clear e1 e2 e3
      generalize wrtC l n b ⟨1,n+1,nn,mt⟩=c2 at *
      simp only [nrmA,nrmB,nrlB,reduceCtorEq,V0.agg.injEq,HO.pack.injEq,HO.obj.injEq,decide_true,decide_false,Bool.true_eq_false,Bool.false_eq_true,forall_const,false_implies,true_implies,not_true_eq_false,not_false_eq_true,h1]
      (repeat' (first|refine And.intro ?_ ?_|intro _))<;>first|omega|exact True.intro|exact False.elim ‹False›|skip
      all_goals first
        |with_reducible rfl
        |(exfalso;have:=of_decide_eq_false ‹_›;omega)
        |with_reducible assumption
        |omega
        |(have:=zW (n+1);simp only [List.length_cons,List.length_nil];omega)
        |exact hs
        |exact hf.1
        |(exact(hf.2 _ ‹_›).1)
        |(exact(hf.2 _ ‹_›).2)
        |exact⟨hf,by decide⟩
        |(simp only [List.length_append,List.length_set,List.length_cons,List.length_nil];omega)
        |contradiction
        |rfl
        |(exfalso;simp_all;done)
  have key17: ∀ (nn:Int),(if(oneT f xU).2=9 then(⟨400,[],⟨l,n,b,s⟩⟩:TA) else(if wrtC l n b ⟨1,n+1,nn,(oneT f xU).1⟩≠0 then(⟨wE (wrtC l n b ⟨1,n+1,nn,(oneT f xU).1⟩),[],⟨l,n,b,s⟩⟩:TA) else(⟨201,[⟨locN,yT++decS (n+1)⟩],⟨wrtL l n b ⟨1,n+1,nn,(oneT f xU).1⟩,wrtN l n b ⟨1,n+1,nn,(oneT f xU).1⟩,wrtB l n b ⟨1,n+1,nn,(oneT f xU).1⟩,((wrtB l n b ⟨1,n+1,nn,(oneT f xU).1⟩).length:Int)⟩⟩:TA)))=⟨st,fs,⟨l',n',b',s'⟩⟩→Ok Tryz.prog X (fun o h=>o=(.ret (.v (.agg [(.p (.int .i64 st)),(.p (.list .fld ((resT::fs)))),(.p (.list .byte ([])))])))∧h=[.pack [.obj 53 [(.ptr 1 0),(.row 2),(.p (.int .i64 (s')))],.pack [.obj 50 [(.row 1),(.p (.int .i64 (n')))],.row .upl 67 (l')],.row .byte 5 (b')]]) (go I tab { sl:=xG.sl,fz:=[30,37],seam:=[3,8,11,17,20,25,30,33],keep:=some [0,1,2,4,6,7,8,9,10,11,12,13,14,15,16,17,18,19,20,158]} [zT,zS,zM,zL,xM,xK,yA,yx,zO,zN,yg,yc,zK,zJ,zC,zB,zF,zD,yw,yu,yj,yh] [⟨yH Tryz.f11,finK I tab { sl:=xG.sl,fz:=[30,37],seam:=[3,8,11,17,20,25,30,33],keep:=some [0,1,2,4,6,7,8,9,10,11,12,13,14,15,16,17,18,19,20,158]} 1 Tryz.f11⟩] 0 [1,1,1,1,1,0,1,0,1,1,1,1,1,0] ⟨[(0,.v (.one (.ptr 0 0))),(2,.v (.one (.p (.list .byte body)))),(4,.v (.one (.ptr 1 0))),(6,.v (.one (.ptr 2 0))),(9,.v (.one (.p (.int .i64 nn))))],[.pack [.obj 53 [(.ptr 1 0),(.row 2),(.p (.int .i64 s))],.pack [.obj 50 [(.row 1),(.p (.int .i64 n))],.row .upl 67 l],.row .byte 5 b],.pack [.obj 35 [(.p (.str m)),(.p (.str t)),(.p (.int .i64 mi)),(.p (.list .fld f)),(.p (.int .i64 le))]],.pack [.obj 32 [(.p (.int .i64 0)),.nilS,.nilS]]],208,none⟩):=by
    intro nn hr
    refine zh (let y0:=([117,112,108,111,97,100,45,109,101,116,97,100,97,116,97]:Str);let y1:HO:=.pack [(.obj 53 [(.ptr 1 0),(.row 2),(.p (.int .i64 s))]),(.pack [(.obj 50 [(.row 1),(.p (.int .i64 n))]),(.row .upl 67 l)]),(.row .byte 5 b)];let y2:=I.hid (α:=Int) (Prod.snd (oneF (valsF f y0)));.need (I.hid (α:=(Prop)) (And (LE.le (List.length f) 1000) (And (LE.le (List.length y0) 1000000) (∀ (f_1:Fld),f_1 ∈ f→List.length f_1.name≤1000000∧List.length f_1.value≤1000000)))) (.br (I.ieq y2 9) (.need (I.hid (α:=(Prop)) (LE.le (List.length ([]:List (Str))) 1000)) (.fin (.ret (.v (.agg [(.p (.int .i64 400)),(.p (.list .fld (I.hid (α:=(List Fld)) (resT::(prs ([]:List (Str))))))),(.p (.list .byte (I.hid (α:=Str) ([]:Str))))]))) [y1])) (.code 0 [1,1,1,1,1,0,1,0,1,1,1,1,1,1,1,0] ⟨[(12,(.v (.one (.p (.int .i64 y2))))),(13,(.v (.one (.p (.str (I.hid (α:=Str) (Prod.fst (oneF (valsF f y0))))))))),(0,(.v (.one (.ptr 0 0)))),(2,(.v (.one (.p (.list .byte body))))),(4,(.v (.one (.ptr 1 0)))),(6,(.v (.one (.ptr 2 0)))),(9,(.v (.one (.p (.int .i64 nn)))))],[y1,(.obj 35 [(.p (.str m)),(.p (.str t)),(.p (.int .i64 mi)),(.p (.list .fld f)),(.p (.int .i64 le))]),(.pack [(.obj 32 [(.p (.int .i64 0)),.nilS,.nilS])])],208,none⟩))) (by kernel_rfl) ?_
    simp only [zk]
    clear key33 key30 key25
    have hol:=V3 hf xU
    have hoc:=vk f xU
    subst hI
    rw [show([117,112,108,111,97,100,45,109,101,116,97,100,97,116,97]:Str)=xU from rfl]
    have hml:xU.length≤1000000:=by decide
    simp only [nrmA,nrmB,nrlB,reduceCtorEq,V0.agg.injEq,HO.pack.injEq,HO.obj.injEq]
    unfold oneT at *
    generalize oneF (valsF f xU)=oc at *
    obtain⟨ov,oc⟩:=oc
    try simp only at *
    by_cases hd1:oc=9
    · rw [if_pos hd1] at hr
      simp only [TA.mk.injEq,Sto.mk.injEq] at hr
      obtain⟨q1,q2,q3,q4,q5,q6⟩:=hr
      subst q1 q2 q3 q4 q5 q6
      simp only [nrmA,nrmB,nrlB,reduceCtorEq,V0.agg.injEq,HO.pack.injEq,HO.obj.injEq,decide_true,decide_false,Bool.true_eq_false,Bool.false_eq_true,forall_const,false_implies,true_implies,not_true_eq_false,not_false_eq_true,hd1]
      (repeat' (first|refine And.intro ?_ ?_|intro _))<;>first|omega|exact True.intro|exact False.elim ‹False›|skip
      all_goals first
        |with_reducible rfl
        |(exfalso;have:=of_decide_eq_false ‹_›;omega)
        |with_reducible assumption
        |omega
        |(have:=zW (n+1);simp only [List.length_cons,List.length_nil];omega)
        |exact hs
        |exact hf.1
        |(exact(hf.2 _ ‹_›).1)
        |(exact(hf.2 _ ‹_›).2)
        |exact⟨hf,by decide⟩
        |(simp only [List.length_append,List.length_set,List.length_cons,List.length_nil];omega)
        |contradiction
        |rfl
        |(exfalso;simp_all;done)
    rw [if_neg hd1] at hr
    try simp only [Bool.not_eq_false,ne_eq,Decidable.not_not] at hd1
    simp only [nrmA,nrmB,nrlB,reduceCtorEq,V0.agg.injEq,HO.pack.injEq,HO.obj.injEq,decide_true,decide_false,Bool.true_eq_false,Bool.false_eq_true,forall_const,false_implies,true_implies,not_true_eq_false,not_false_eq_true,hd1]
    (repeat' (first|refine And.intro ?_ ?_|intro _))<;>first|omega|exact True.intro|exact False.elim ‹False›|skip
    all_goals first
      |((with_reducible show Ok _ _ _ _);(try(exfalso;omega));exact seam (by first|rfl|exact hI) zi mixed [zT,zS,zM,zL,xM,xK,yA,yx,zO,zN,yg,yc,zK,zJ,zC,zB,zF,zD,yw,yu,yj,yh] hX [0,2,4,6,9,13] ⟨[(0,.v (.one (.ptr 0 0))),(2,.v (.one (.p (.list .byte body)))),(4,.v (.one (.ptr 1 0))),(6,.v (.one (.ptr 2 0))),(9,.v (.one (.p (.int .i64 nn)))),(13,.v (.one (.p (.str ov))))],[.pack [.obj 53 [(.ptr 1 0),(.row 2),(.p (.int .i64 s))],.pack [.obj 50 [(.row 1),(.p (.int .i64 n))],.row .upl 67 l],.row .byte 5 b],.pack [.obj 35 [(.p (.str m)),(.p (.str t)),(.p (.int .i64 mi)),(.p (.list .fld f)),(.p (.int .i64 le))]],.pack [.obj 32 [(.p (.int .i64 0)),.nilS,.nilS]]],208,none⟩ (by kernel_rfl) (key20 nn ov hol hr))
      |with_reducible rfl
      |(exfalso;have:=of_decide_eq_false ‹_›;omega)
      |with_reducible assumption
      |omega
      |(have:=zW (n+1);simp only [List.length_cons,List.length_nil];omega)
      |exact hs
      |exact hf.1
      |(exact(hf.2 _ ‹_›).1)
      |(exact(hf.2 _ ‹_›).2)
      |exact⟨hf,by decide⟩
      |(simp only [List.length_append,List.length_set,List.length_cons,List.length_nil];omega)
      |contradiction
      |rfl
      |(exfalso;simp_all;done)
  have key11: ∀ (_u:Unit),(if xq f zI=false then(⟨400,[],⟨l,n,b,s⟩⟩:TA) else if uT f=false then(⟨400,[],⟨l,n,b,s⟩⟩:TA) else if decide (0≤zA f zI)=Yy f then(⟨400,[],⟨l,n,b,s⟩⟩:TA) else(if(oneT f xU).2=9 then(⟨400,[],⟨l,n,b,s⟩⟩:TA) else(if wrtC l n b ⟨1,n+1,(zA f zI),(oneT f xU).1⟩≠0 then(⟨wE (wrtC l n b ⟨1,n+1,(zA f zI),(oneT f xU).1⟩),[],⟨l,n,b,s⟩⟩:TA) else(⟨201,[⟨locN,yT++decS (n+1)⟩],⟨wrtL l n b ⟨1,n+1,(zA f zI),(oneT f xU).1⟩,wrtN l n b ⟨1,n+1,(zA f zI),(oneT f xU).1⟩,wrtB l n b ⟨1,n+1,(zA f zI),(oneT f xU).1⟩,((wrtB l n b ⟨1,n+1,(zA f zI),(oneT f xU).1⟩).length:Int)⟩⟩:TA))))=⟨st,fs,⟨l',n',b',s'⟩⟩→Ok Tryz.prog X (fun o h=>o=(.ret (.v (.agg [(.p (.int .i64 st)),(.p (.list .fld ((resT::fs)))),(.p (.list .byte ([])))])))∧h=[.pack [.obj 53 [(.ptr 1 0),(.row 2),(.p (.int .i64 (s')))],.pack [.obj 50 [(.row 1),(.p (.int .i64 (n')))],.row .upl 67 (l')],.row .byte 5 (b')]]) (go I tab { sl:=xG.sl,fz:=[30,37],seam:=[3,8,11,17,20,25,30,33],keep:=some [0,1,2,4,6,7,8,9,10,11,12,13,14,15,16,17,18,19,20,158]} [zT,zS,zM,zL,xM,xK,yA,yx,zO,zN,yg,yc,zK,zJ,zC,zB,zF,zD,yw,yu,yj,yh] [⟨yH Tryz.f11,finK I tab { sl:=xG.sl,fz:=[30,37],seam:=[3,8,11,17,20,25,30,33],keep:=some [0,1,2,4,6,7,8,9,10,11,12,13,14,15,16,17,18,19,20,158]} 1 Tryz.f11⟩] 0 [1,1,1,1,1,0,1,0,1,0] ⟨[(0,.v (.one (.ptr 0 0))),(2,.v (.one (.p (.list .byte body)))),(4,.v (.one (.ptr 1 0))),(6,.v (.one (.ptr 2 0)))],[.pack [.obj 53 [(.ptr 1 0),(.row 2),(.p (.int .i64 s))],.pack [.obj 50 [(.row 1),(.p (.int .i64 n))],.row .upl 67 l],.row .byte 5 b],.pack [.obj 35 [(.p (.str m)),(.p (.str t)),(.p (.int .i64 mi)),(.p (.list .fld f)),(.p (.int .i64 le))]],.pack [.obj 32 [(.p (.int .i64 0)),.nilS,.nilS]]],208,none⟩):=by
    intro _ hr
    refine zh (let y0:HO:=.pack [(.obj 53 [(.ptr 1 0),(.row 2),(.p (.int .i64 s))]),(.pack [(.obj 50 [(.row 1),(.p (.int .i64 n))]),(.row .upl 67 l)]),(.row .byte 5 b)];let y1:=([117,112,108,111,97,100,45,100,101,102,101,114,45,108,101,110,103,116,104]:Str);let y2:=([117,112,108,111,97,100,45,108,101,110,103,116,104]:Str);let y3:=I.hid (α:=(Prop)) (LE.le (List.length ([]:List (Str))) 1000);let y4:=I.hid (α:=Int) (Prod.snd (oneF (valsF f y1)));let y5:=I.hid (α:=(List Fld)) (resT::(prs ([]:List (Str))));let y6:HO:=.obj 35 [(.p (.str m)),(.p (.str t)),(.p (.int .i64 mi)),(.p (.list .fld f)),(.p (.int .i64 le))];let y7:=I.hid (α:=Str) (Prod.fst (oneF (valsF f y1)));let y8:=I.beq (I.ile 0 (I.hid (α:=Int) (zA f y2))) (I.ieq y4 0);let y9:HO:=.pack [(.obj 32 [(.p (.int .i64 0)),.nilS,.nilS])];.need (I.hid (α:=(Prop)) (And (FOk f) (LE.le (List.length y2) 1000000))) (.br (I.bnot (I.hid (α:=Bool) (xq f y2))) (.need y3 (.fin (.ret (.v (.agg [(.p (.int .i64 400)),(.p (.list .fld y5)),(.p (.list .byte (I.hid (α:=Str) ([]:Str))))]))) [y0])) (.need (I.hid (α:=(Prop)) (And (LE.le (List.length f) 1000) (And (LE.le (List.length y1) 1000000) (∀ (f_1:Fld),f_1 ∈ f→List.length f_1.name≤1000000∧List.length f_1.value≤1000000)))) (.br (I.ieq y4 9) (.need y3 (.fin (.ret (.v (.agg [(.p (.int .i64 400)),(.p (.list .fld y5)),(.p (.list .byte (I.hid (α:=Str) ([]:Str))))]))) [y0])) (.br (I.ieq y4 0) (.br (I.bnot (I.seq y7 ([49]:Str))) (.need y3 (.fin (.ret (.v (.agg [(.p (.int .i64 400)),(.p (.list .fld y5)),(.p (.list .byte (I.hid (α:=Str) ([]:Str))))]))) [y0])) (.br y8 (.need y3 (.fin (.ret (.v (.agg [(.p (.int .i64 400)),(.p (.list .fld y5)),(.p (.list .byte (I.hid (α:=Str) ([]:Str))))]))) [y0])) (.code 0 [1,1,1,1,1,0,1,0,1,1,1,1,1,0] ⟨[(12,(.v (.one (.p (.int .i64 y4))))),(11,(.v (.one (.p (.str y7))))),(10,(.v (.one (.p (.bool (I.hid (α:=Bool) (xq f y2))))))),(9,(.v (.one (.p (.int .i64 (I.hid (α:=Int) (zA f y2))))))),(0,(.v (.one (.ptr 0 0)))),(2,(.v (.one (.p (.list .byte body))))),(4,(.v (.one (.ptr 1 0)))),(6,(.v (.one (.ptr 2 0))))],[y0,y6,y9],208,none⟩))) (.br y8 (.need y3 (.fin (.ret (.v (.agg [(.p (.int .i64 400)),(.p (.list .fld y5)),(.p (.list .byte (I.hid (α:=Str) ([]:Str))))]))) [y0])) (.code 0 [1,1,1,1,1,0,1,0,1,1,1,1,1,0] ⟨[(12,(.v (.one (.p (.int .i64 y4))))),(11,(.v (.one (.p (.str y7))))),(10,(.v (.one (.p (.bool (I.hid (α:=Bool) (xq f y2))))))),(9,(.v (.one (.p (.int .i64 (I.hid (α:=Int) (zA f y2))))))),(0,(.v (.one (.ptr 0 0)))),(2,(.v (.one (.p (.list .byte body))))),(4,(.v (.one (.ptr 1 0)))),(6,(.v (.one (.ptr 2 0))))],[y0,y6,y9],208,none⟩))))))) (by kernel_rfl) ?_
    simp only [zk]
    clear key33 key30 key25 key20
    have hoc:=vk f YE
    subst hI
    unfold uT Yy at hr
    rw [show([117,112,108,111,97,100,45,100,101,102,101,114,45,108,101,110,103,116,104]:Str)=YE from rfl]
    rw [show([117,112,108,111,97,100,45,108,101,110,103,116,104]:Str)=zI from rfl]
    have hml:YE.length≤1000000:=by decide
    have hml2:zI.length≤1000000:=by decide
    simp only [nrmA,nrmB,nrlB,reduceCtorEq,V0.agg.injEq,HO.pack.injEq,HO.obj.injEq]
    generalize zA f zI=nn at *
    unfold oneT at *
    generalize oneF (valsF f YE)=oc at *
    obtain⟨ov,oc⟩:=oc
    try simp only at *
    by_cases hd50:xq f zI=false
    · rw [if_pos hd50] at hr
      simp only [TA.mk.injEq,Sto.mk.injEq] at hr
      obtain⟨q1,q2,q3,q4,q5,q6⟩:=hr
      subst q1 q2 q3 q4 q5 q6
      simp only [nrmA,nrmB,nrlB,reduceCtorEq,V0.agg.injEq,HO.pack.injEq,HO.obj.injEq,decide_true,decide_false,Bool.true_eq_false,Bool.false_eq_true,forall_const,false_implies,true_implies,not_true_eq_false,not_false_eq_true,hd50]
      (repeat' (first|refine And.intro ?_ ?_|intro _))<;>first|omega|exact True.intro|exact False.elim ‹False›|skip
      all_goals first
        |with_reducible rfl
        |(exfalso;have:=of_decide_eq_false ‹_›;omega)
        |with_reducible assumption
        |omega
        |(have:=zW (n+1);simp only [List.length_cons,List.length_nil];omega)
        |exact hs
        |exact hf.1
        |(exact(hf.2 _ ‹_›).1)
        |(exact(hf.2 _ ‹_›).2)
        |exact⟨hf,by decide⟩
        |(simp only [List.length_append,List.length_set,List.length_cons,List.length_nil];omega)
        |contradiction
        |rfl
        |(exfalso;simp_all;done)
    rw [if_neg hd50] at hr
    simp only [Bool.not_eq_false] at hd50
    simp only [hd50,Bool.true_eq_false,false_implies,true_implies,forall_const]
    rcases hoc with rfl|rfl|rfl
    · by_cases ho:ov=[49]
      · subst ho
        rw [if_neg (by simp)] at hr
        by_cases hn2:0≤nn
        · rw [if_pos (by simp [hn2])] at hr
          simp only [TA.mk.injEq,Sto.mk.injEq] at hr
          obtain⟨q1,q2,q3,q4,q5,q6⟩:=hr
          subst q1 q2 q3 q4 q5 q6
          (repeat' (first|refine And.intro ?_ ?_|intro _))<;>first|omega|exact True.intro|exact False.elim ‹False›|skip
          all_goals first
            |with_reducible rfl
            |(exfalso;have:=of_decide_eq_false ‹_›;omega)
            |with_reducible assumption
            |omega
            |(have:=zW (n+1);simp only [List.length_cons,List.length_nil];omega)
            |exact hs
            |exact hf.1
            |(exact(hf.2 _ ‹_›).1)
            |(exact(hf.2 _ ‹_›).2)
            |exact⟨hf,by decide⟩
            |(simp only [List.length_append,List.length_set,List.length_cons,List.length_nil];omega)
            |(exfalso;have w:=(by assumption: ¬ (_:Bool)=(_ == _));first|exact w (decide_eq_true hn2)|exact w (decide_eq_false hn2))
            |(exfalso;have w:=(by assumption:(_:Bool)=(_ == _));first|exact absurd (of_decide_eq_true w) hn2|exact absurd hn2 (of_decide_eq_false w))
            |contradiction
            |rfl
            |(exfalso;simp_all;done)
        · rw [if_neg (by simp [hn2])] at hr
          (repeat' (first|refine And.intro ?_ ?_|intro _))<;>first|omega|exact True.intro|exact False.elim ‹False›|skip
          all_goals first
            |((with_reducible show Ok _ _ _ _);(try(exfalso;omega));exact seam (by first|rfl|exact hI) zi mixed [zT,zS,zM,zL,xM,xK,yA,yx,zO,zN,yg,yc,zK,zJ,zC,zB,zF,zD,yw,yu,yj,yh] hX [0,2,4,6,9] ⟨[(0,.v (.one (.ptr 0 0))),(2,.v (.one (.p (.list .byte body)))),(4,.v (.one (.ptr 1 0))),(6,.v (.one (.ptr 2 0))),(9,.v (.one (.p (.int .i64 nn))))],[.pack [.obj 53 [(.ptr 1 0),(.row 2),(.p (.int .i64 s))],.pack [.obj 50 [(.row 1),(.p (.int .i64 n))],.row .upl 67 l],.row .byte 5 b],.pack [.obj 35 [(.p (.str m)),(.p (.str t)),(.p (.int .i64 mi)),(.p (.list .fld f)),(.p (.int .i64 le))]],.pack [.obj 32 [(.p (.int .i64 0)),.nilS,.nilS]]],208,none⟩ (by kernel_rfl) (key17 nn hr))
            |with_reducible rfl
            |(exfalso;have:=of_decide_eq_false ‹_›;omega)
            |with_reducible assumption
            |omega
            |(have:=zW (n+1);simp only [List.length_cons,List.length_nil];omega)
            |exact hs
            |exact hf.1
            |(exact(hf.2 _ ‹_›).1)
            |(exact(hf.2 _ ‹_›).2)
            |exact⟨hf,by decide⟩
            |(simp only [List.length_append,List.length_set,List.length_cons,List.length_nil];omega)
            |(exfalso;have w:=(by assumption: ¬ (_:Bool)=(_ == _));first|exact w (decide_eq_true hn2)|exact w (decide_eq_false hn2))
            |(exfalso;have w:=(by assumption:(_:Bool)=(_ == _));first|exact absurd (of_decide_eq_true w) hn2|exact absurd hn2 (of_decide_eq_false w))
            |contradiction
            |rfl
            |(exfalso;simp_all;done)
      · rw [if_pos (by simp [ho])] at hr
        simp only [TA.mk.injEq,Sto.mk.injEq] at hr
        obtain⟨q1,q2,q3,q4,q5,q6⟩:=hr
        subst q1 q2 q3 q4 q5 q6
        (repeat' (first|refine And.intro ?_ ?_|intro _))<;>first|omega|exact True.intro|exact False.elim ‹False›|skip
        all_goals first
          |with_reducible rfl
          |(exfalso;have:=of_decide_eq_false ‹_›;omega)
          |with_reducible assumption
          |omega
          |(have:=zW (n+1);simp only [List.length_cons,List.length_nil];omega)
          |exact hs
          |exact hf.1
          |(exact(hf.2 _ ‹_›).1)
          |(exact(hf.2 _ ‹_›).2)
          |exact⟨hf,by decide⟩
          |(simp only [List.length_append,List.length_set,List.length_cons,List.length_nil];omega)
          |(exfalso;have w:=(by assumption: ¬ (_:Bool)=(_ == _));first|exact w (decide_eq_true hn2)|exact w (decide_eq_false hn2))
          |(exfalso;have w:=(by assumption:(_:Bool)=(_ == _));first|exact absurd (of_decide_eq_true w) hn2|exact absurd hn2 (of_decide_eq_false w))
          |contradiction
          |rfl
          |(exfalso;simp_all;done)
    · rw [if_pos (by simp)] at hr
      simp only [TA.mk.injEq,Sto.mk.injEq] at hr
      obtain⟨q1,q2,q3,q4,q5,q6⟩:=hr
      subst q1 q2 q3 q4 q5 q6
      (repeat' (first|refine And.intro ?_ ?_|intro _))<;>first|omega|exact True.intro|exact False.elim ‹False›|skip
      all_goals first
        |with_reducible rfl
        |(exfalso;have:=of_decide_eq_false ‹_›;omega)
        |with_reducible assumption
        |omega
        |(have:=zW (n+1);simp only [List.length_cons,List.length_nil];omega)
        |exact hs
        |exact hf.1
        |(exact(hf.2 _ ‹_›).1)
        |(exact(hf.2 _ ‹_›).2)
        |exact⟨hf,by decide⟩
        |(simp only [List.length_append,List.length_set,List.length_cons,List.length_nil];omega)
        |(exfalso;have w:=(by assumption: ¬ (_:Bool)=(_ == _));first|exact w (decide_eq_true hn2)|exact w (decide_eq_false hn2))
        |(exfalso;have w:=(by assumption:(_:Bool)=(_ == _));first|exact absurd (of_decide_eq_true w) hn2|exact absurd hn2 (of_decide_eq_false w))
        |contradiction
        |rfl
        |(exfalso;simp_all;done)
    · rw [if_neg (by simp)] at hr
      by_cases hn2:0≤nn
      · rw [if_neg (by simp [hn2])] at hr
        (repeat' (first|refine And.intro ?_ ?_|intro _))<;>first|omega|exact True.intro|exact False.elim ‹False›|skip
        all_goals first
          |((with_reducible show Ok _ _ _ _);(try(exfalso;omega));exact seam (by first|rfl|exact hI) zi mixed [zT,zS,zM,zL,xM,xK,yA,yx,zO,zN,yg,yc,zK,zJ,zC,zB,zF,zD,yw,yu,yj,yh] hX [0,2,4,6,9] ⟨[(0,.v (.one (.ptr 0 0))),(2,.v (.one (.p (.list .byte body)))),(4,.v (.one (.ptr 1 0))),(6,.v (.one (.ptr 2 0))),(9,.v (.one (.p (.int .i64 nn))))],[.pack [.obj 53 [(.ptr 1 0),(.row 2),(.p (.int .i64 s))],.pack [.obj 50 [(.row 1),(.p (.int .i64 n))],.row .upl 67 l],.row .byte 5 b],.pack [.obj 35 [(.p (.str m)),(.p (.str t)),(.p (.int .i64 mi)),(.p (.list .fld f)),(.p (.int .i64 le))]],.pack [.obj 32 [(.p (.int .i64 0)),.nilS,.nilS]]],208,none⟩ (by kernel_rfl) (key17 nn hr))
          |with_reducible rfl
          |(exfalso;have:=of_decide_eq_false ‹_›;omega)
          |with_reducible assumption
          |omega
          |(have:=zW (n+1);simp only [List.length_cons,List.length_nil];omega)
          |exact hs
          |exact hf.1
          |(exact(hf.2 _ ‹_›).1)
          |(exact(hf.2 _ ‹_›).2)
          |exact⟨hf,by decide⟩
          |(simp only [List.length_append,List.length_set,List.length_cons,List.length_nil];omega)
          |(exfalso;have w:=(by assumption: ¬ (_:Bool)=(_ == _));first|exact w (decide_eq_true hn2)|exact w (decide_eq_false hn2))
          |(exfalso;have w:=(by assumption:(_:Bool)=(_ == _));first|exact absurd (of_decide_eq_true w) hn2|exact absurd hn2 (of_decide_eq_false w))
          |contradiction
          |rfl
          |(exfalso;simp_all;done)
      · rw [if_pos (by simp [hn2])] at hr
        simp only [TA.mk.injEq,Sto.mk.injEq] at hr
        obtain⟨q1,q2,q3,q4,q5,q6⟩:=hr
        subst q1 q2 q3 q4 q5 q6
        (repeat' (first|refine And.intro ?_ ?_|intro _))<;>first|omega|exact True.intro|exact False.elim ‹False›|skip
        all_goals first
          |with_reducible rfl
          |(exfalso;have:=of_decide_eq_false ‹_›;omega)
          |with_reducible assumption
          |omega
          |(have:=zW (n+1);simp only [List.length_cons,List.length_nil];omega)
          |exact hs
          |exact hf.1
          |(exact(hf.2 _ ‹_›).1)
          |(exact(hf.2 _ ‹_›).2)
          |exact⟨hf,by decide⟩
          |(simp only [List.length_append,List.length_set,List.length_cons,List.length_nil];omega)
          |(exfalso;have w:=(by assumption: ¬ (_:Bool)=(_ == _));first|exact w (decide_eq_true hn2)|exact w (decide_eq_false hn2))
          |(exfalso;have w:=(by assumption:(_:Bool)=(_ == _));first|exact absurd (of_decide_eq_true w) hn2|exact absurd hn2 (of_decide_eq_false w))
          |contradiction
          |rfl
          |(exfalso;simp_all;done)
  have key8: ∀ (_u:Unit),(if t=xQ then(if m≠zft then(⟨405,[],⟨l,n,b,s⟩⟩:TA) else(if xq f zI=false then(⟨400,[],⟨l,n,b,s⟩⟩:TA) else if uT f=false then(⟨400,[],⟨l,n,b,s⟩⟩:TA) else if decide (0≤zA f zI)=Yy f then(⟨400,[],⟨l,n,b,s⟩⟩:TA) else(if(oneT f xU).2=9 then(⟨400,[],⟨l,n,b,s⟩⟩:TA) else(if wrtC l n b ⟨1,n+1,(zA f zI),(oneT f xU).1⟩≠0 then(⟨wE (wrtC l n b ⟨1,n+1,(zA f zI),(oneT f xU).1⟩),[],⟨l,n,b,s⟩⟩:TA) else(⟨201,[⟨locN,yT++decS (n+1)⟩],⟨wrtL l n b ⟨1,n+1,(zA f zI),(oneT f xU).1⟩,wrtN l n b ⟨1,n+1,(zA f zI),(oneT f xU).1⟩,wrtB l n b ⟨1,n+1,(zA f zI),(oneT f xU).1⟩,((wrtB l n b ⟨1,n+1,(zA f zI),(oneT f xU).1⟩).length:Int)⟩⟩:TA))))) else(if uplB ⟨l,n,b,s⟩ t=false then(⟨404,[],⟨l,n,b,s⟩⟩:TA) else(if m=Si then(⟨200,Yr (getU l (idV t)),⟨l,n,b,s⟩⟩:TA) else if m=Yx then zX ⟨l,n,b,s⟩ (getU l (idV t)) f body else if m=Sl then XF ⟨l,n,b,s⟩ (getU l (idV t)) else(⟨405,[],⟨l,n,b,s⟩⟩:TA))))=⟨st,fs,⟨l',n',b',s'⟩⟩→Ok Tryz.prog X (fun o h=>o=(.ret (.v (.agg [(.p (.int .i64 st)),(.p (.list .fld ((resT::fs)))),(.p (.list .byte ([])))])))∧h=[.pack [.obj 53 [(.ptr 1 0),(.row 2),(.p (.int .i64 (s')))],.pack [.obj 50 [(.row 1),(.p (.int .i64 (n')))],.row .upl 67 (l')],.row .byte 5 (b')]]) (go I tab { sl:=xG.sl,fz:=[30,37],seam:=[3,8,11,17,20,25,30,33],keep:=some [0,1,2,4,6,7,8,9,10,11,12,13,14,15,16,17,18,19,20,158]} [zT,zS,zM,zL,xM,xK,yA,yx,zO,zN,yg,yc,zK,zJ,zC,zB,zF,zD,yw,yu,yj,yh] [⟨yH Tryz.f11,finK I tab { sl:=xG.sl,fz:=[30,37],seam:=[3,8,11,17,20,25,30,33],keep:=some [0,1,2,4,6,7,8,9,10,11,12,13,14,15,16,17,18,19,20,158]} 1 Tryz.f11⟩] 0 [1,1,1,1,1,0,0] ⟨[(0,.v (.one (.ptr 0 0))),(2,.v (.one (.p (.list .byte body)))),(4,.v (.one (.ptr 1 0))),(6,.v (.one (.ptr 2 0)))],[.pack [.obj 53 [(.ptr 1 0),(.row 2),(.p (.int .i64 s))],.pack [.obj 50 [(.row 1),(.p (.int .i64 n))],.row .upl 67 l],.row .byte 5 b],.pack [.obj 35 [(.p (.str m)),(.p (.str t)),(.p (.int .i64 mi)),(.p (.list .fld f)),(.p (.int .i64 le))]],.pack [.obj 32 [(.p (.int .i64 0)),.nilS,.nilS]]],208,none⟩):=by
    intro _ hr
    refine zh (let y0:HO:=.pack [(.obj 53 [(.ptr 1 0),(.row 2),(.p (.int .i64 s))]),(.pack [(.obj 50 [(.row 1),(.p (.int .i64 n))]),(.row .upl 67 l)]),(.row .byte 5 b)];let y1:HO:=.obj 35 [(.p (.str m)),(.p (.str t)),(.p (.int .i64 mi)),(.p (.list .fld f)),(.p (.int .i64 le))];let y2:HO:=.pack [(.obj 32 [(.p (.int .i64 0)),.nilS,.nilS])];.br (I.seq t ([47,102,105,108,101,115]:Str)) (.br (I.bnot (I.seq m ([80,79,83,84]:Str))) (.need (I.hid (α:=(Prop)) (LE.le (List.length ([]:List (Str))) 1000)) (.fin (.ret (.v (.agg [(.p (.int .i64 405)),(.p (.list .fld (I.hid (α:=(List Fld)) (resT::(prs ([]:List (Str))))))),(.p (.list .byte (I.hid (α:=Str) ([]:Str))))]))) [y0])) (.code 0 [1,1,1,1,1,0,1,0,1,0] ⟨[(0,(.v (.one (.ptr 0 0)))),(2,(.v (.one (.p (.list .byte body))))),(4,(.v (.one (.ptr 1 0)))),(6,(.v (.one (.ptr 2 0))))],[y0,y1,y2],208,none⟩)) (.code 0 [1,1,1,1,1,1,0] ⟨[(0,(.v (.one (.ptr 0 0)))),(2,(.v (.one (.p (.list .byte body))))),(4,(.v (.one (.ptr 1 0)))),(6,(.v (.one (.ptr 2 0))))],[y0,y1,y2],208,none⟩)) (by kernel_rfl) ?_
    simp only [zk]
    clear key33 key30 key20 key17
    subst hI
    unfold zft at hr
    rw [show([47,102,105,108,101,115]:Str)=xQ from rfl]
    simp only [nrmA,nrmB,nrlB,reduceCtorEq,V0.agg.injEq,HO.pack.injEq,HO.obj.injEq]
    by_cases hff:t=xQ
    · rw [if_pos hff] at hr
      by_cases hm:m=[80,79,83,84]
      · rw [if_neg (fun h=>h hm)] at hr
        (repeat' (first|refine And.intro ?_ ?_|intro _))<;>first|omega|exact True.intro|exact False.elim ‹False›|skip
        all_goals first
          |(exfalso;exact ‹¬ t=xQ› hff)
          |(exfalso;exact ‹¬ m=_› hm)
          |((with_reducible show Ok _ _ _ _);(try(exfalso;omega));exact seam (by first|rfl|exact hI) zi mixed [zT,zS,zM,zL,xM,xK,yA,yx,zO,zN,yg,yc,zK,zJ,zC,zB,zF,zD,yw,yu,yj,yh] hX [0,2,4,6] ⟨[(0,.v (.one (.ptr 0 0))),(2,.v (.one (.p (.list .byte body)))),(4,.v (.one (.ptr 1 0))),(6,.v (.one (.ptr 2 0)))],[.pack [.obj 53 [(.ptr 1 0),(.row 2),(.p (.int .i64 s))],.pack [.obj 50 [(.row 1),(.p (.int .i64 n))],.row .upl 67 l],.row .byte 5 b],.pack [.obj 35 [(.p (.str m)),(.p (.str t)),(.p (.int .i64 mi)),(.p (.list .fld f)),(.p (.int .i64 le))]],.pack [.obj 32 [(.p (.int .i64 0)),.nilS,.nilS]]],208,none⟩ (by kernel_rfl) (key11 () hr))
          |with_reducible rfl
          |(exfalso;have:=of_decide_eq_false ‹_›;omega)
          |with_reducible assumption
          |omega
          |(have:=zW (n+1);simp only [List.length_cons,List.length_nil];omega)
          |exact hs
          |exact hf.1
          |(exact(hf.2 _ ‹_›).1)
          |(exact(hf.2 _ ‹_›).2)
          |exact⟨hf,by decide⟩
          |(simp only [List.length_append,List.length_set,List.length_cons,List.length_nil];omega)
          |contradiction
          |rfl
          |(exfalso;simp_all;done)
      · rw [if_pos hm] at hr
        simp only [TA.mk.injEq,Sto.mk.injEq] at hr
        obtain⟨q1,q2,q3,q4,q5,q6⟩:=hr
        subst q1 q2 q3 q4 q5 q6
        (repeat' (first|refine And.intro ?_ ?_|intro _))<;>first|omega|exact True.intro|exact False.elim ‹False›|skip
        all_goals first
          |(exfalso;exact ‹¬ t=xQ› hff)
          |(exfalso;exact hm ‹m=_›)
          |with_reducible rfl
          |(exfalso;have:=of_decide_eq_false ‹_›;omega)
          |with_reducible assumption
          |omega
          |(have:=zW (n+1);simp only [List.length_cons,List.length_nil];omega)
          |exact hs
          |exact hf.1
          |(exact(hf.2 _ ‹_›).1)
          |(exact(hf.2 _ ‹_›).2)
          |exact⟨hf,by decide⟩
          |(simp only [List.length_append,List.length_set,List.length_cons,List.length_nil];omega)
          |contradiction
          |rfl
          |(exfalso;simp_all;done)
    · rw [if_neg hff] at hr
      (repeat' (first|refine And.intro ?_ ?_|intro _))<;>first|omega|exact True.intro|exact False.elim ‹False›|skip
      all_goals first
        |(exfalso;exact hff ‹t=xQ›)
        |((with_reducible show Ok _ _ _ _);(try(exfalso;omega));exact seam (by first|rfl|exact hI) zi mixed [zT,zS,zM,zL,xM,xK,yA,yx,zO,zN,yg,yc,zK,zJ,zC,zB,zF,zD,yw,yu,yj,yh] hX [0,2,4,6] ⟨[(0,.v (.one (.ptr 0 0))),(2,.v (.one (.p (.list .byte body)))),(4,.v (.one (.ptr 1 0))),(6,.v (.one (.ptr 2 0)))],[.pack [.obj 53 [(.ptr 1 0),(.row 2),(.p (.int .i64 s))],.pack [.obj 50 [(.row 1),(.p (.int .i64 n))],.row .upl 67 l],.row .byte 5 b],.pack [.obj 35 [(.p (.str m)),(.p (.str t)),(.p (.int .i64 mi)),(.p (.list .fld f)),(.p (.int .i64 le))]],.pack [.obj 32 [(.p (.int .i64 0)),.nilS,.nilS]]],208,none⟩ (by kernel_rfl) (key25 () hr))
        |with_reducible rfl
        |(exfalso;have:=of_decide_eq_false ‹_›;omega)
        |with_reducible assumption
        |omega
        |(have:=zW (n+1);simp only [List.length_cons,List.length_nil];omega)
        |exact hs
        |exact hf.1
        |(exact(hf.2 _ ‹_›).1)
        |(exact(hf.2 _ ‹_›).2)
        |exact⟨hf,by decide⟩
        |(simp only [List.length_append,List.length_set,List.length_cons,List.length_nil];omega)
        |contradiction
        |rfl
        |(exfalso;simp_all;done)
  have key3: ∀ (_u:Unit),(if(oneT f XT).2=9 then(⟨400,[],⟨l,n,b,s⟩⟩:TA) else if(oneT f XT).1≠verS then(⟨412,[⟨zaR,verS⟩],⟨l,n,b,s⟩⟩:TA) else(if t=xQ then(if m≠zft then(⟨405,[],⟨l,n,b,s⟩⟩:TA) else(if xq f zI=false then(⟨400,[],⟨l,n,b,s⟩⟩:TA) else if uT f=false then(⟨400,[],⟨l,n,b,s⟩⟩:TA) else if decide (0≤zA f zI)=Yy f then(⟨400,[],⟨l,n,b,s⟩⟩:TA) else(if(oneT f xU).2=9 then(⟨400,[],⟨l,n,b,s⟩⟩:TA) else(if wrtC l n b ⟨1,n+1,(zA f zI),(oneT f xU).1⟩≠0 then(⟨wE (wrtC l n b ⟨1,n+1,(zA f zI),(oneT f xU).1⟩),[],⟨l,n,b,s⟩⟩:TA) else(⟨201,[⟨locN,yT++decS (n+1)⟩],⟨wrtL l n b ⟨1,n+1,(zA f zI),(oneT f xU).1⟩,wrtN l n b ⟨1,n+1,(zA f zI),(oneT f xU).1⟩,wrtB l n b ⟨1,n+1,(zA f zI),(oneT f xU).1⟩,((wrtB l n b ⟨1,n+1,(zA f zI),(oneT f xU).1⟩).length:Int)⟩⟩:TA))))) else(if uplB ⟨l,n,b,s⟩ t=false then(⟨404,[],⟨l,n,b,s⟩⟩:TA) else(if m=Si then(⟨200,Yr (getU l (idV t)),⟨l,n,b,s⟩⟩:TA) else if m=Yx then zX ⟨l,n,b,s⟩ (getU l (idV t)) f body else if m=Sl then XF ⟨l,n,b,s⟩ (getU l (idV t)) else(⟨405,[],⟨l,n,b,s⟩⟩:TA)))))=⟨st,fs,⟨l',n',b',s'⟩⟩→Ok Tryz.prog X (fun o h=>o=(.ret (.v (.agg [(.p (.int .i64 st)),(.p (.list .fld ((resT::fs)))),(.p (.list .byte ([])))])))∧h=[.pack [.obj 53 [(.ptr 1 0),(.row 2),(.p (.int .i64 (s')))],.pack [.obj 50 [(.row 1),(.p (.int .i64 (n')))],.row .upl 67 (l')],.row .byte 5 (b')]]) (go I tab { sl:=xG.sl,fz:=[30,37],seam:=[3,8,11,17,20,25,30,33],keep:=some [0,1,2,4,6,7,8,9,10,11,12,13,14,15,16,17,18,19,20,158]} [zT,zS,zM,zL,xM,xK,yA,yx,zO,zN,yg,yc,zK,zJ,zC,zB,zF,zD,yw,yu,yj,yh] [⟨yH Tryz.f11,finK I tab { sl:=xG.sl,fz:=[30,37],seam:=[3,8,11,17,20,25,30,33],keep:=some [0,1,2,4,6,7,8,9,10,11,12,13,14,15,16,17,18,19,20,158]} 1 Tryz.f11⟩] 0 [1,1,0] ⟨[(0,.v (.one (.ptr 0 0))),(2,.v (.one (.p (.list .byte body)))),(4,.v (.one (.ptr 1 0))),(6,.v (.one (.ptr 2 0)))],[.pack [.obj 53 [(.ptr 1 0),(.row 2),(.p (.int .i64 s))],.pack [.obj 50 [(.row 1),(.p (.int .i64 n))],.row .upl 67 l],.row .byte 5 b],.pack [.obj 35 [(.p (.str m)),(.p (.str t)),(.p (.int .i64 mi)),(.p (.list .fld f)),(.p (.int .i64 le))]],.pack [.obj 32 [(.p (.int .i64 0)),.nilS,.nilS]]],208,none⟩):=by
    intro _ hr
    refine zh (let y0:HO:=.pack [(.obj 53 [(.ptr 1 0),(.row 2),(.p (.int .i64 s))]),(.pack [(.obj 50 [(.row 1),(.p (.int .i64 n))]),(.row .upl 67 l)]),(.row .byte 5 b)];let y1:=([116,117,115,45,114,101,115,117,109,97,98,108,101]:Str);let y2:=([84,117,115,45,86,101,114,115,105,111,110]:Str);let y3:=I.hid (α:=Int) (Prod.snd (oneF (valsF f y1)));let y4:=I.hid (α:=Str) (Prod.fst (oneF (valsF f y1)));.need (I.hid (α:=(Prop)) (And (LE.le (List.length f) 1000) (And (LE.le (List.length y1) 1000000) (∀ (f_1:Fld),f_1 ∈ f→List.length f_1.name≤1000000∧List.length f_1.value≤1000000)))) (.br (I.ieq y3 9) (.need (I.hid (α:=(Prop)) (LE.le (List.length ([]:List (Str))) 1000)) (.fin (.ret (.v (.agg [(.p (.int .i64 400)),(.p (.list .fld (I.hid (α:=(List Fld)) (resT::(prs ([]:List (Str))))))),(.p (.list .byte (I.hid (α:=Str) ([]:Str))))]))) [y0])) (.br (I.bnot (I.seq y4 ([49,46,48,46,48]:Str))) (.need (I.hid (α:=(Prop)) (LE.le (List.length ([y2,([49,46,48,46,48]:Str)]:List (Str))) 1000)) (.fin (.ret (.v (.agg [(.p (.int .i64 412)),(.p (.list .fld (I.hid (α:=(List Fld)) (resT::(prs ([y2,([49,46,48,46,48]:Str)]:List (Str))))))),(.p (.list .byte (I.hid (α:=Str) ([]:Str))))]))) [y0])) (.code 0 [1,1,1,1,1,0,0] ⟨[(8,(.v (.one (.p (.int .i64 y3))))),(7,(.v (.one (.p (.str y4))))),(0,(.v (.one (.ptr 0 0)))),(2,(.v (.one (.p (.list .byte body))))),(4,(.v (.one (.ptr 1 0)))),(6,(.v (.one (.ptr 2 0))))],[y0,(.obj 35 [(.p (.str m)),(.p (.str t)),(.p (.int .i64 mi)),(.p (.list .fld f)),(.p (.int .i64 le))]),(.pack [(.obj 32 [(.p (.int .i64 0)),.nilS,.nilS])])],208,none⟩)))) (by kernel_rfl) ?_
    simp only [zk]
    clear key33 key30 key25 key20 key17 key11
    have hoc:=vk f XT
    subst hI
    unfold verS zaR at hr
    rw [show([116,117,115,45,114,101,115,117,109,97,98,108,101]:Str)=XT from rfl]
    have hml:XT.length≤1000000:=by decide
    simp only [nrmA,nrmB,nrlB,reduceCtorEq,V0.agg.injEq,HO.pack.injEq,HO.obj.injEq]
    unfold oneT at *
    generalize oneF (valsF f XT)=oc at *
    obtain⟨ov,oc⟩:=oc
    try simp only at *
    by_cases hd2:oc=9
    · rw [if_pos hd2] at hr
      simp only [TA.mk.injEq,Sto.mk.injEq] at hr
      obtain⟨q1,q2,q3,q4,q5,q6⟩:=hr
      subst q1 q2 q3 q4 q5 q6
      simp only [nrmA,nrmB,nrlB,reduceCtorEq,V0.agg.injEq,HO.pack.injEq,HO.obj.injEq,decide_true,decide_false,Bool.true_eq_false,Bool.false_eq_true,forall_const,false_implies,true_implies,not_true_eq_false,not_false_eq_true,hd2]
      (repeat' (first|refine And.intro ?_ ?_|intro _))<;>first|omega|exact True.intro|exact False.elim ‹False›|skip
      all_goals first
        |with_reducible rfl
        |(exfalso;have:=of_decide_eq_false ‹_›;omega)
        |with_reducible assumption
        |omega
        |(have:=zW (n+1);simp only [List.length_cons,List.length_nil];omega)
        |exact hs
        |exact hf.1
        |(exact(hf.2 _ ‹_›).1)
        |(exact(hf.2 _ ‹_›).2)
        |exact⟨hf,by decide⟩
        |(simp only [List.length_append,List.length_set,List.length_cons,List.length_nil];omega)
        |contradiction
        |rfl
        |(exfalso;simp_all;done)
    rw [if_neg hd2] at hr
    try simp only [Bool.not_eq_false,ne_eq,Decidable.not_not] at hd2
    simp only [nrmA,nrmB,nrlB,reduceCtorEq,V0.agg.injEq,HO.pack.injEq,HO.obj.injEq,decide_true,decide_false,Bool.true_eq_false,Bool.false_eq_true,forall_const,false_implies,true_implies,not_true_eq_false,not_false_eq_true,hd2]
    by_cases hd3:ov≠[49,46,48,46,48]
    · rw [if_pos hd3] at hr
      simp only [TA.mk.injEq,Sto.mk.injEq] at hr
      obtain⟨q1,q2,q3,q4,q5,q6⟩:=hr
      subst q1 q2 q3 q4 q5 q6
      (repeat' (first|refine And.intro ?_ ?_|intro _))<;>first|omega|exact True.intro|exact False.elim ‹False›|skip
      all_goals first
        |with_reducible rfl
        |(exfalso;have:=of_decide_eq_false ‹_›;omega)
        |with_reducible assumption
        |omega
        |(have:=zW (n+1);simp only [List.length_cons,List.length_nil];omega)
        |exact hs
        |exact hf.1
        |(exact(hf.2 _ ‹_›).1)
        |(exact(hf.2 _ ‹_›).2)
        |exact⟨hf,by decide⟩
        |(simp only [List.length_append,List.length_set,List.length_cons,List.length_nil];omega)
        |contradiction
        |rfl
        |(exfalso;simp_all;done)
    rw [if_neg hd3] at hr
    (repeat' (first|refine And.intro ?_ ?_|intro _))<;>first|omega|exact True.intro|exact False.elim ‹False›|skip
    all_goals first
      |((with_reducible show Ok _ _ _ _);(try(exfalso;omega));exact seam (by first|rfl|exact hI) zi mixed [zT,zS,zM,zL,xM,xK,yA,yx,zO,zN,yg,yc,zK,zJ,zC,zB,zF,zD,yw,yu,yj,yh] hX [0,2,4,6] ⟨[(0,.v (.one (.ptr 0 0))),(2,.v (.one (.p (.list .byte body)))),(4,.v (.one (.ptr 1 0))),(6,.v (.one (.ptr 2 0)))],[.pack [.obj 53 [(.ptr 1 0),(.row 2),(.p (.int .i64 s))],.pack [.obj 50 [(.row 1),(.p (.int .i64 n))],.row .upl 67 l],.row .byte 5 b],.pack [.obj 35 [(.p (.str m)),(.p (.str t)),(.p (.int .i64 mi)),(.p (.list .fld f)),(.p (.int .i64 le))]],.pack [.obj 32 [(.p (.int .i64 0)),.nilS,.nilS]]],208,none⟩ (by kernel_rfl) (key8 () hr))
      |with_reducible rfl
      |(exfalso;have:=of_decide_eq_false ‹_›;omega)
      |with_reducible assumption
      |omega
      |(have:=zW (n+1);simp only [List.length_cons,List.length_nil];omega)
      |exact hs
      |exact hf.1
      |(exact(hf.2 _ ‹_›).1)
      |(exact(hf.2 _ ‹_›).2)
      |exact⟨hf,by decide⟩
      |(simp only [List.length_append,List.length_set,List.length_cons,List.length_nil];omega)
      |contradiction
      |rfl
      |(exfalso;simp_all;done)
  clear key33 key30 key25 key20 key17 key11 key8
  subst hI
  unfold zlk at hr
  unfold zaR verS zkF zkH zkG at hr
  rw [show([47,102,105,108,101,115]:Str)=xQ from rfl]
  simp only [nrmA,nrmB,nrlB,reduceCtorEq,V0.agg.injEq,HO.pack.injEq,HO.obj.injEq]
  by_cases hd4:t=xQ∧m=[79,80,84,73,79,78,83]
  · rw [if_pos hd4] at hr
    simp only [TA.mk.injEq,Sto.mk.injEq] at hr
    obtain⟨q1,q2,q3,q4,q5,q6⟩:=hr
    subst q1 q2 q3 q4 q5 q6
    (repeat' (first|refine And.intro ?_ ?_|intro _))<;>first|omega|exact True.intro|exact False.elim ‹False›|skip
    all_goals first
      |with_reducible rfl
      |(exfalso;have:=of_decide_eq_false ‹_›;omega)
      |with_reducible assumption
      |omega
      |(have:=zW (n+1);simp only [List.length_cons,List.length_nil];omega)
      |exact hs
      |exact hf.1
      |(exact(hf.2 _ ‹_›).1)
      |(exact(hf.2 _ ‹_›).2)
      |exact⟨hf,by decide⟩
      |(simp only [List.length_append,List.length_set,List.length_cons,List.length_nil];omega)
      |contradiction
      |rfl
      |(exfalso;simp_all;done)
  rw [if_neg hd4] at hr
  (repeat' (first|refine And.intro ?_ ?_|intro _))<;>first|omega|exact True.intro|exact False.elim ‹False›|skip
  all_goals first
    |((with_reducible show Ok _ _ _ _);(try(exfalso;omega));exact seam (by first|rfl|exact hI) zi mixed [zT,zS,zM,zL,xM,xK,yA,yx,zO,zN,yg,yc,zK,zJ,zC,zB,zF,zD,yw,yu,yj,yh] hX [0,2,4,6] ⟨[(0,.v (.one (.ptr 0 0))),(2,.v (.one (.p (.list .byte body)))),(4,.v (.one (.ptr 1 0))),(6,.v (.one (.ptr 2 0)))],[.pack [.obj 53 [(.ptr 1 0),(.row 2),(.p (.int .i64 s))],.pack [.obj 50 [(.row 1),(.p (.int .i64 n))],.row .upl 67 l],.row .byte 5 b],.pack [.obj 35 [(.p (.str m)),(.p (.str t)),(.p (.int .i64 mi)),(.p (.list .fld f)),(.p (.int .i64 le))]],.pack [.obj 32 [(.p (.int .i64 0)),.nilS,.nilS]]],208,none⟩ (by kernel_rfl) (key3 () hr))
    |with_reducible rfl
    |(exfalso;have:=of_decide_eq_false ‹_›;omega)
    |with_reducible assumption
    |omega
    |(have:=zW (n+1);simp only [List.length_cons,List.length_nil];omega)
    |exact hs
    |exact hf.1
    |(exact(hf.2 _ ‹_›).1)
    |(exact(hf.2 _ ‹_›).2)
    |exact⟨hf,by decide⟩
    |(simp only [List.length_append,List.length_set,List.length_cons,List.length_nil];omega)
    |contradiction
    |rfl
    |(exfalso;simp_all;done)
def VG (I:Alg) (args:List D) (hp:List HO):Option CT:=match args,hp with
  |[.v (.one (.ptr 0 0)),.v (.agg [(.p (.str m)),(.p (.str t)),(.p (.int .i64 mi)),(.p (.list .fld f)),(.p (.int .i64 le))]),.v (.one (.p (.list .byte body)))],[.pack [.obj 53 [(.ptr 1 0),(.row 2),(.p (.int .i64 s))],.pack [.obj 50 [(.row 1),(.p (.int .i64 n))],.row .upl 67 l],.row .byte 5 b]]=>(fun(m t:Str) (mi:Int) (f:List Fld) (le:Int) (l:List Upl) (n:Int) (b:Str) (s:Int) (body:Str)=>(some (.one ⟨I.hid (FOk f∧zu l n∧n≤200000∧b.length≤100000∧body.length≤100000),(.ret (.v (.agg [(.p (.int .i64 (I.hid ((zH ⟨l,n,b,s⟩ m t f body).st)))),(.p (.list .fld (I.hid ((resT::(zH ⟨l,n,b,s⟩ m t f body).fs))))),(.p (.list .byte (I.hid ([]))))]))),[.pack [.obj 53 [(.ptr 1 0),(.row 2),(.p (.int .i64 (I.hid ((zH ⟨l,n,b,s⟩ m t f body).q.s))))],.pack [.obj 50 [(.row 1),(.p (.int .i64 (I.hid ((zH ⟨l,n,b,s⟩ m t f body).q.n))))],.row .upl 67 (I.hid ((zH ⟨l,n,b,s⟩ m t f body).q.l))],.row .byte 5 (I.hid ((zH ⟨l,n,b,s⟩ m t f body).q.b))]]⟩):Option CT)) m t mi f le l n b s body
  |_,_=>none
theorem zdH:zo Tryz.prog 11 (VG alg):=by
  intro args hp r h
  unfold VG at h
  split at h
  · cases h;exact fun hn=>zmz _ _ _ _ _ _ _ _ _ _ hn
  · cases h
def sV:Know Tryz.prog:=⟨11,VG,zdH⟩
def sU:Know Tryz.prog:=⟨11,fun I=>zq I (VG I),zf zdH⟩
end Go.Proofs.YtcclfkakcgnacaaGreatDoor
namespace Go.Proofs.YtcclfkakcgnacaaGreatDoor
open Go Go.Sep Go.Ab
set_option maxRecDepth 100000
theorem zbU {l m:List Fld} {i:Nat} (h1:i<l.length) (h2:i<m.length):(decide (l.drop i=m.drop i))=(decide (l.getD i ⟨[],[]⟩=m.getD i ⟨[],[]⟩)&&decide (l.drop (i+1)=m.drop (i+1))):=by
  have e1:l.getD i ⟨[],[]⟩=l[i]:=by simp [h1]
  have e2:m.getD i ⟨[],[]⟩=m[i]:=by simp [h2]
  rw [e1,e2,Bool.eq_iff_iff,Bool.and_eq_true,decide_eq_true_iff,decide_eq_true_iff,decide_eq_true_iff,List.drop_eq_getElem_cons h1,List.drop_eq_getElem_cons h2,List.cons.injEq]
theorem zlR {x y:Fld} (h1:x.name=y.name) (h2:x.value=y.value):x=y:=by cases x;cases y;simp_all
theorem zmE (l m:List Fld) (hneed:l.length≤1000000∧m.length≤1000000):Spc Tryz.prog 40 [.v (.one (.p (.list .fld l))),.v (.one (.p (.list .fld m)))] [] (.ret (.v (.one (.p (.bool ((decide (l=m)))))))) []:=by
  obtain⟨hl,hm⟩:=hneed
  generalize hr:decide (l=m)=r
  refine spcG zi mixed Tryz.func40 (by kernel_rfl) { keep:=some [0,1,4,5]} [] (by kernel_rfl) ?_
  intro I X hI hX
  refine zh (.br (I.bnot (I.ieq (I.len (α:=Fld) l) (I.len (α:=Fld) m))) (.fin (.ret (.v (.one (.p (.bool Bool.false))))) []) (.code 0 [1,1,0,1,0] ⟨[(5,(.v (.one (.p (.int .i64 0))))),(4,(.v (.one (.p (.val (.bool .false)))))),(0,(.v (.one (.p (.list .fld l))))),(1,(.v (.one (.p (.list .fld m)))))],[],26,none⟩)) (by kernel_rfl) ?_
  simp only [zk]
  refine⟨fun c1=> ?_,fun c1=> ?_⟩
  · subst hI
    simp only [nrmA,nrmB] at c1
    simp only [nrmA,nrmB]
    rw [← hr]
    exact(decide_eq_false fun e=>c1 (by rw [e])).symm
  have hlm:l.length=m.length:=by
    subst hI
    simp only [nrmA,nrmB] at c1
    omega
  refine zG hI zi mixed [] hX [0,1,5] (fun(i:Nat)=>i≤l.length∧r=decide (l.drop i=m.drop i)) (fun(i:Nat)=>⟨[(0,.v (.one (.p (.list .fld l)))),(1,.v (.one (.p (.list .fld m)))),(5,.v (.one (.p (.int .i64 i))))],[],26,none⟩) (fun(i:Nat)=>l.length - i) 0 (by kernel_rfl) (by kernel_rfl) ?_ ?_
  · exact⟨Nat.zero_le _,hr.symm⟩
  rintro i ⟨h1,h2⟩ A hA
  refine zh (let y0:=I.get (α:=Fld) l (Fld.mk ([]:Str) ([]:Str)) (Nat.cast i);let y1:=I.get (α:=Fld) m (Fld.mk ([]:Str) ([]:Str)) (Nat.cast i);let y2:=I.inb (Nat.cast i) (I.len (α:=Fld) l);let y3:=I.inb (Nat.cast i) (I.len (α:=Fld) m);.br (I.ilt (Nat.cast i) (I.len (α:=Fld) l)) (.need y2 (.need y2 (.need y3 (.need y3 (.br (I.bnot (I.ban (I.seq (Fld.name y0) (Fld.name y1)) (I.seq (Fld.value y0) (Fld.value y1)))) (.fin (.ret (.v (.one (.p (.bool Bool.false))))) []) (.need (I.inr Go.IntKind.i64 (I.add (Nat.cast i) 1)) (.need (A ⟨[(0,(.v (.one (.p (.list .fld l))))),(1,(.v (.one (.p (.list .fld m))))),(5,(.v (.one (.p (.int .i64 (I.add (Nat.cast i) 1))))))],[],26,none⟩) .qed))))))) (.fin (.ret (.v (.one (.p (.bool Bool.true))))) [])) (by kernel_rfl) ?_
  simp only [zk]
  subst hI
  simp only [nrmA,nrmB,nrlB,reduceCtorEq]
  have hd:i<l.length→_:=fun h=>zbU (l:=l) (m:=m) (i:=i) h (by omega)
  have hend: ¬ i<l.length→r=true:=fun h=>by
    rw [h2,List.drop_of_length_le (by omega),List.drop_of_length_le (by omega)];simp
  generalize l.getD i ⟨[],[]⟩=x at *
  generalize m.getD i ⟨[],[]⟩=y at *
  have hx: ¬ x=y→i<l.length→r=false:=fun h hi=>by rw [h2,hd hi,decide_eq_false h,Bool.false_and]
  have hy:x=y→i<l.length→r=decide (l.drop (i+1)=m.drop (i+1)):=fun h hi=>by rw [h2,hd hi,decide_eq_true h,Bool.true_and]
  (repeat' (first|refine And.intro ?_ ?_|intro _))<;>first|omega|exact True.intro|exact False.elim ‹False›|skip
  all_goals first
    |omega
    |(exact(hx (by rintro rfl;simp_all) (by omega)).symm)
    |(rw [hx (by rintro rfl;simp_all) (by omega)])
    |exact hA (i+1) ⟨by omega,hy (zlR (by simp_all) (by simp_all)) (by omega)⟩ (by omega)
    |(rw [hend (by omega)])
def VN (I:Alg) (args:List D) (hp:List HO):Option CT:=match args,hp with
  |[.v (.one (.p (.list .fld l))),.v (.one (.p (.list .fld m)))],[]=>(fun(l m:List Fld)=>(some (.one ⟨I.hid (l.length≤1000000∧m.length≤1000000),(.ret (.v (.one (.p (.bool (I.hid ((decide (l=m))))))))),[]⟩):Option CT)) l m
  |_,_=>none
theorem zdQ:zo Tryz.prog 40 (VN alg):=by
  intro args hp r h
  unfold VN at h
  split at h
  · cases h;exact fun hn=>zmE _ _ hn
  · cases h
def zi5:Know Tryz.prog:=⟨40,VN,zdQ⟩
def zi4:Know Tryz.prog:=⟨40,fun I=>zq I (VN I),zf zdQ⟩
end Go.Proofs.YtcclfkakcgnacaaGreatDoor
namespace Go.Proofs.YtcclfkakcgnacaaGreatDoor
open Go Go.Sep Go.Ab
set_option maxRecDepth 100000
theorem ze3: ∀ (k:Nat) (n:Int) (a:List Ab.Ask),0≤n→(askG k n a).1=false→a.length≤k→n≤(askG k n a).2∧∀ x ∈ a,qx x.h.fields=false∧n+x.body.length+x.h.target.length+x.h.method.length≤(askG k n a).2
  | 0,n,a,_,_,h=>by
    have:a=[]:=List.length_eq_zero_iff.1 (by omega)
    subst this
    exact⟨Int.le_refl _,fun x hx=>by simp at hx⟩
  |k+1,n,[],_,_,_=>⟨Int.le_refl _,fun x hx=>by simp at hx⟩
  | k + 1,n,x::r,h0,h1,h2=>by
    unfold askG at h1 ⊢
    by_cases hg:qx x.h.fields=true
    · rw [if_pos hg] at h1;simp at h1
    · rw [if_neg hg] at h1 ⊢
      simp only [List.length_cons] at h2
      have ih:=ze3 k (n+askN x) r (by unfold askN;omega) h1 (by omega)
      have hx0:0≤askN x:=by unfold askN;omega
      refine⟨by omega,fun y hy=> ?_⟩
      rcases List.mem_cons.1 hy with rfl|hy
      · exact⟨by simpa using hg,by have:=ih.1;unfold askN at this ⊢;omega⟩
      · have:=ih.2 y hy
        exact⟨this.1,by omega⟩
theorem zhI {f:List Fld} (h:qx f=false):f.length≤100∧∀ x ∈ f,x.name.length≤1000∧x.value.length≤1000:=by
  unfold qx at h
  simp only [Bool.or_eq_false_iff,decide_eq_false_iff_not,List.any_eq_false,decide_eq_true_eq] at h
  exact⟨by omega,fun x hx=>by have:=h.2 x hx;omega⟩
theorem zfN {a:List Ab.Ask} (h:XA a=false):a.length≤100∧∀ x ∈ a,FOk x.h.fields∧x.body.length≤20000∧x.h.target.length≤20000∧x.h.method.length≤20000:=by
  unfold XA at h
  simp only [Bool.or_eq_false_iff,decide_eq_false_iff_not] at h
  have hl:a.length≤100:=by omega
  have:=ze3 200 0 a (by omega) h.1 (by omega)
  refine⟨hl,fun x hx=> ?_⟩
  have h2:=this.2 x hx
  have h3:=zhI h2.1
  exact⟨⟨by omega,fun y hy=>by have:=h3.2 y hy;omega⟩,by omega,by omega,by omega⟩
end Go.Proofs.YtcclfkakcgnacaaGreatDoor
namespace Go.Proofs.YtcclfkakcgnacaaGreatDoor
open Go Go.Sep Go.Ab
set_option maxRecDepth 100000
theorem zmD (s1 s2:Int) (f1 f2:List Fld) (b1 b2:Str) (hneed:f1.length≤1000000∧f2.length≤1000000):Spc Tryz.prog 13 [.v (.agg [(.p (.int .i64 s1)),(.p (.list .fld f1)),(.p (.list .byte b1))]),.v (.agg [(.p (.int .i64 s2)),(.p (.list .fld f2)),(.p (.list .byte b2))])] [] (.ret (.v (.one (.p (.bool ((decide (s1=s2)&&(decide (f1=f2)&&(b1 == b2))))))))) []:=by
  obtain⟨h1,h2⟩:=hneed
  generalize hr:(decide (s1=s2)&&(decide (f1=f2)&&(b1 == b2)))=r
  refine spcG zi mixed Tryz.func13 (by kernel_rfl) { keep:=some [0,1,2,3,4]} [yF,yE,zi5,zi4] (by kernel_rfl) ?_
  intro I X hI hX
  refine zh (.br (I.ieq s1 s2) (.need (I.hid (α:=(Prop)) (And (LE.le (List.length f1) 1000000) (LE.le (List.length f2) 1000000))) (.br (I.hid (α:=Bool) (Decidable.decide (Eq f1 f2))) (.need (I.hid (α:=(Prop)) True) (.fin (.ret (.v (.one (.p (.bool (I.hid (α:=Bool) (BEq.beq b1 b2))))))) [])) (.fin (.ret (.v (.one (.p (.bool Bool.false))))) []))) (.fin (.ret (.v (.one (.p (.bool Bool.false))))) [])) (by kernel_rfl) ?_
  simp only [zk]
  subst hI
  subst hr
  simp only [nrmA,nrmB,nrlB,reduceCtorEq]
  (repeat' (first|refine And.intro ?_ ?_|intro _))<;>first|omega|exact True.intro|exact False.elim ‹False›|skip
  all_goals first|omega|(simp_all;done)|trace_state
def VL (I:Alg) (args:List D) (hp:List HO):Option CT:=match args,hp with
  |[.v (.agg [(.p (.int .i64 s1)),(.p (.list .fld f1)),(.p (.list .byte b1))]),.v (.agg [(.p (.int .i64 s2)),(.p (.list .fld f2)),(.p (.list .byte b2))])],[]=>(fun(s1 s2:Int) (f1 f2:List Fld) (b1 b2:Str)=>(some (.one ⟨I.hid (f1.length≤1000000∧f2.length≤1000000),(.ret (.v (.one (.p (.bool (I.hid ((decide (s1=s2)&&(decide (f1=f2)&&(b1 == b2)))))))))),[]⟩):Option CT)) s1 s2 f1 f2 b1 b2
  |_,_=>none
theorem zdP:zo Tryz.prog 13 (VL alg):=by
  intro args hp r h
  unfold VL at h
  split at h
  · cases h;exact fun hn=>zmD _ _ _ _ _ _ hn
  · cases h
def rC:Know Tryz.prog:=⟨13,VL,zdP⟩
def ru:Know Tryz.prog:=⟨13,fun I=>zq I (VL I),zf zdP⟩
def AskF (x:Ab.Ask):Prop:=FOk x.h.fields∧x.body.length≤20000∧x.h.target.length≤20000
set_option maxHeartbeats 4000000 in
theorem tusDoes_ (a:List Ab.Ask) (hneed:a.length≤140737488355328∧∀ x ∈ a,AskW x):Spc Tryz.prog 3 [.v (.one (.p (.list .ask a)))] [] (.ret (.v (.one (.p (.bool true))))) []:=by
  obtain⟨hlen,hw⟩:=hneed
  refine spcG zi mixed Tryz.func3 (by kernel_rfl) { sl:=cfgT.sl++xG.sl,fz:=[10,11],seam:=[10,13],keep:=some [0,2,3,4,5,6,7,8,9,10,11]} [yF,yE,vP,vO,tH,tC,vM,vK,uD,uy,uj,uh,uG,uF,Y4,Y3,uX,uV,uM,uK,wS,wR,sZ,sW,sV,sU,rC,ru] (by kernel_rfl) ?_
  intro I X hI hX
  refine zh (let y0:HO:=.row .upl 67 (I.hid (α:=(List Upl)) ([]:List Upl));let y1:HO:=.row .byte 5 (I.hid (α:=Str) ([]:Str));.need (I.hid (α:=(Prop)) True) (.br (I.bnot Bool.true) (.fin (.ret (.v (.one (.p (.bool Bool.false))))) []) (.need (I.hid (α:=(Prop)) (And (LE.le (List.length a) 140737488355328) (∀ (x:Ab.Ask),x ∈ a→AskW x))) (.br (I.hid (α:=Bool) (XA a)) (.fin (.ret (.v (.one (.p (.bool Bool.true))))) []) (.need (I.hid (α:=(Prop)) True) (.need (I.hid (α:=(Prop)) True) (.code 0 [1,1,1,1,0,1,0] ⟨[(5,(.v (.one (.p (.int .i64 0))))),(4,(.v (.one (.ptr 1 0)))),(3,(.v (.one (.ptr 0 0)))),(2,(.v (.one (.p (.val (.bool .false)))))),(0,(.v (.one (.p (.list .ask a)))))],[(.pack [(.obj 48 [(.ptr 1 0),(.ptr 2 0)]),(.pack [(.obj 90 [(.row 1),(.p (.int .i64 0))]),y0]),(.pack [(.obj 104 [(.row 1),(.p (.int .i64 0))]),y1])]),(.pack [(.obj 53 [(.ptr 1 0),(.row 2),(.p (.int .i64 0))]),(.pack [(.obj 50 [(.row 1),(.p (.int .i64 0))]),y0]),y1])],114,none⟩))))))) (by kernel_rfl) ?_
  simp only [zk]
  have hg0:I.hid (XA a)=XA a:=by subst hI;rfl
  have hh: ∀ {α:Type} (x:α),I.hid x=x:=by subst hI;intros;rfl
  refine⟨?_,?_,?_⟩
  · subst hI;trivial
  · subst hI;simp only [nrmA,nrmB]
  refine fun _=>⟨?_,?_,?_⟩
  · subst hI;exact⟨hlen,hw⟩
  · intro _;trivial
  intro hg
  rw [hg0] at hg
  have hfew:=zfN hg
  simp only [hh]
  have hg1: ∀ k:Nat,k<a.length→AskF (a.getD k ⟨⟨[],[],0,[],0⟩,[]⟩):=fun k h=>by
    have:=hfew.2 (a.getD k ⟨⟨[],[],0,[],0⟩,[]⟩) (by rw [show a.getD k ⟨⟨[],[],0,[],0⟩,[]⟩=a[k] by simp [h]];exact List.getElem_mem h)
    exact⟨this.1,this.2.1,this.2.2.1⟩
  have hal:=hfew.1
  clear hfew hw hg hg0
  refine⟨trivial,trivial,?_⟩
  refine zG hI zi mixed [yF,yE,vP,vO,tH,tC,vM,vK,uD,uy,uj,uh,uG,uF,Y4,Y3,uX,uV,uM,uK,wS,wR,sZ,sW,sV,sU,rC,ru] hX [0,3,4,5] (fun(g:Nat × List Upl × Int × Str × Int)=>match g with|(i,l,n,b,s)=>i≤a.length∧zu l n∧n≤i∧b.length≤100000) (fun(g:Nat × List Upl × Int × Str × Int)=>match g with|(i,l,n,b,s)=>⟨[(0,.v (.one (.p (.list .ask a)))),(3,.v (.one (.ptr 0 0))),(4,.v (.one (.ptr 1 0))),(5,.v (.one (.p (.int .i64 i))))],[.pack [.obj 48 [(.ptr 1 0),(.ptr 2 0)],.pack [.obj 90 [(.row 1),(.p (.int .i64 n))],.row .upl 67 l],.pack [.obj 104 [(.row 1),(.p (.int .i64 s))],.row .byte 5 b]],.pack [.obj 53 [(.ptr 1 0),(.row 2),(.p (.int .i64 s))],.pack [.obj 50 [(.row 1),(.p (.int .i64 n))],.row .upl 67 l],.row .byte 5 b]],114,none⟩) (fun(g:Nat × List Upl × Int × Str × Int)=>match g with|(i,l,n,b,s)=>a.length - i) (0,[],0,[],0) (by kernel_rfl) (by kernel_rfl) ?_ ?_
  · exact⟨Nat.zero_le _,Zt,by simp,by simp⟩
  rintro⟨i,l,n,b,s⟩ ⟨h1,h2,h3,h4⟩ A hA
  simp only at hA h3 h4
  have key13: ∀ (st:Int) (fs:List Fld) (l2:List Upl) (n2:Int) (b2:Str) (s2:Int) (t:Str) (o:Bool),o=YI t→t.length≤1000000→fs.length≤1000000→zu l2 n2→n2≤i+1→b2.length≤100000→i<a.length→Ok Tryz.prog X (fun o h=>o=(.ret (.v (.one (.p (.bool true)))))∧h=[]) (go I tab { sl:=cfgT.sl++xG.sl,fz:=[10,11],seam:=[10,13],keep:=some [0,2,3,4,5,6,7,8,9,10,11]} [yF,yE,vP,vO,tH,tC,vM,vK,uD,uy,uj,uh,uG,uF,Y4,Y3,uX,uV,uM,uK,wS,wR,sZ,sW,sV,sU,rC,ru] (round I tab { sl:=cfgT.sl++xG.sl,fz:=[10,11],seam:=[10,13],keep:=some [0,2,3,4,5,6,7,8,9,10,11]} 0 [0,3,4,5] A [⟨yH Tryz.f3,finK I tab { sl:=cfgT.sl++xG.sl,fz:=[10,11],seam:=[10,13],keep:=some [0,2,3,4,5,6,7,8,9,10,11]} 0 Tryz.f3⟩] 0 [1,1,1,1,0,1,0]::[⟨yH Tryz.f3,finK I tab { sl:=cfgT.sl++xG.sl,fz:=[10,11],seam:=[10,13],keep:=some [0,2,3,4,5,6,7,8,9,10,11]} 0 Tryz.f3⟩]) 0 [1,0,0,1,1,1,1,0,0] ⟨[(0,.v (.one (.p (.list .ask a)))),(3,.v (.one (.ptr 0 0))),(4,.v (.one (.ptr 1 0))),(5,.v (.one (.p (.int .i64 i)))),(6,.v (.one (.ptr 2 0))),(7,.v (.one (.ptr 3 0))),(8,.v (.one (.row 4))),(9,.v (.one (.p (.int .i64 s2)))),(10,.v (.one (.p (.str t)))),(11,.v (.one (.p (.bool o))))],[.pack [.obj 48 [(.ptr 1 0),(.ptr 2 0)],.pack [.obj 90 [(.row 1),(.p (.int .i64 n2))],.row .upl 67 l2],.pack [.obj 104 [(.row 1),(.p (.int .i64 s2))],.row .byte 5 b2]],.pack [.obj 53 [(.ptr 1 0),(.row 2),(.p (.int .i64 s2))],.pack [.obj 50 [(.row 1),(.p (.int .i64 n2))],.row .upl 67 l2],.row .byte 5 b2],.pack [.obj 32 [(.p (.int .i64 st)),(.p (.list .fld fs)),(.p (.list .byte ([])))]],.pack [.obj 32 [(.p (.int .i64 st)),(.p (.list .fld fs)),(.p (.list .byte ([])))]],.row .byte 5 b2],114,none⟩):=by
    intro st fs l2 n2 b2 s2 t o ho ht hfs q1 q2 q3 hi
    refine zh (let y0:HO:=.pack [(.obj 48 [(.ptr 1 0),(.ptr 2 0)]),(.pack [(.obj 90 [(.row 1),(.p (.int .i64 n2))]),(.row .upl 67 l2)]),(.pack [(.obj 104 [(.row 1),(.p (.int .i64 s2))]),(.row .byte 5 b2)])];let y1:HO:=.pack [(.obj 53 [(.ptr 1 0),(.row 2),(.p (.int .i64 s2))]),(.pack [(.obj 50 [(.row 1),(.p (.int .i64 n2))]),(.row .upl 67 l2)]),(.row .byte 5 b2)];let y2:=I.hid (α:=(Prop)) (And (LE.le (List.length l2) 1000000) (LE.le (List.length l2) 1000000));let y3:=I.bnot (I.hid (α:=Bool) (Decidable.decide (Eq l2 l2)));let y4:=I.hid (α:=(Prop)) (LE.le (List.length t) 1000000);let y5:=I.bnot (I.beq (I.hid (α:=Bool) (YI t)) o);let y6:=I.inr Go.IntKind.i64 (I.add (Nat.cast i) 1);let y7:=I.bnot (I.hid (α:=Bool) (BEq.beq b2 b2));let y8:=I.hid (α:=(Prop)) (zu l2 n2);.need (I.hid (α:=(Prop)) (And (LE.le (List.length fs) 1000000) (LE.le (List.length fs) 1000000))) (.br (I.bnot (I.hid (α:=Bool) (Bool.and (Decidable.decide (Eq st st)) (Bool.and (Decidable.decide (Eq fs fs)) (BEq.beq ([]:Str) ([]:Str)))))) (.fin (.ret (.v (.one (.p (.bool Bool.false))))) []) (.both (.need y8 (.need y2 (.br y3 (.fin (.ret (.v (.one (.p (.bool Bool.false))))) []) (.need (I.hid (α:=(Prop)) True) (.br y7 (.fin (.ret (.v (.one (.p (.bool Bool.false))))) []) (.br (I.bnot (I.ieq s2 s2)) (.fin (.ret (.v (.one (.p (.bool Bool.false))))) []) (.need y4 (.br y5 (.fin (.ret (.v (.one (.p (.bool Bool.false))))) []) (.need y6 (.need (A ⟨[(0,(.v (.one (.p (.list .ask a))))),(3,(.v (.one (.ptr 0 0)))),(4,(.v (.one (.ptr 1 0)))),(5,(.v (.one (.p (.int .i64 (I.add (Nat.cast i) 1))))))],[y0,y1],114,none⟩) .qed)))))))))) (.need y8 (.need y2 (.br y3 (.fin (.ret (.v (.one (.p (.bool Bool.false))))) []) (.need (I.hid (α:=(Prop)) True) (.br y7 (.fin (.ret (.v (.one (.p (.bool Bool.false))))) []) (.br (I.bnot (I.ieq s2 s2)) (.fin (.ret (.v (.one (.p (.bool Bool.false))))) []) (.need y4 (.br y5 (.fin (.ret (.v (.one (.p (.bool Bool.false))))) []) (.need y6 (.need (A ⟨[(0,(.v (.one (.p (.list .ask a))))),(3,(.v (.one (.ptr 0 0)))),(4,(.v (.one (.ptr 1 0)))),(5,(.v (.one (.p (.int .i64 (I.add (Nat.cast i) 1))))))],[y0,y1],114,none⟩) .qed))))))))))))) (by kernel_rfl) ?_
    simp only [zk]
    simp only [hh]
    subst hI
    have hg:=hA (i+1,l2,n2,b2,s2) ⟨by simp only;omega,q1,by simp only;omega,q3⟩ (by simp only;omega)
    simp only at hg
    have hl2:=q1.cnt
    have hn2:=q1.n0
    clear hA hg1
    subst ho
    simp only [nrmA,nrmB,decide_true,beq_self_eq_true,forall_const,true_implies,false_implies,not_true_eq_false,not_false_eq_true,and_self,implies_true]
    (repeat' (first|refine And.intro ?_ ?_|intro _))<;>first|omega|exact True.intro|exact False.elim ‹False›|skip
    all_goals first
      |with_reducible rfl
      |with_reducible assumption
      |omega
      |exact q1
      |exact⟨q1,by omega⟩
      |exact hg
      |(simp_all;done)
      |contradiction
  have key10: ∀ (st:Int) (fs:List Fld) (l2:List Upl) (n2:Int) (b2:Str) (s2:Int),fs.length≤1000000→zu l2 n2→n2≤i+1→b2.length≤100000→i<a.length→Ok Tryz.prog X (fun o h=>o=(.ret (.v (.one (.p (.bool true)))))∧h=[]) (go I tab { sl:=cfgT.sl++xG.sl,fz:=[10,11],seam:=[10,13],keep:=some [0,2,3,4,5,6,7,8,9,10,11]} [yF,yE,vP,vO,tH,tC,vM,vK,uD,uy,uj,uh,uG,uF,Y4,Y3,uX,uV,uM,uK,wS,wR,sZ,sW,sV,sU,rC,ru] (round I tab { sl:=cfgT.sl++xG.sl,fz:=[10,11],seam:=[10,13],keep:=some [0,2,3,4,5,6,7,8,9,10,11]} 0 [0,3,4,5] A [⟨yH Tryz.f3,finK I tab { sl:=cfgT.sl++xG.sl,fz:=[10,11],seam:=[10,13],keep:=some [0,2,3,4,5,6,7,8,9,10,11]} 0 Tryz.f3⟩] 0 [1,1,1,1,0,1,0]::[⟨yH Tryz.f3,finK I tab { sl:=cfgT.sl++xG.sl,fz:=[10,11],seam:=[10,13],keep:=some [0,2,3,4,5,6,7,8,9,10,11]} 0 Tryz.f3⟩]) 0 [1,0,0,1,0] ⟨[(0,.v (.one (.p (.list .ask a)))),(3,.v (.one (.ptr 0 0))),(4,.v (.one (.ptr 1 0))),(5,.v (.one (.p (.int .i64 i)))),(6,.v (.one (.ptr 2 0))),(7,.v (.one (.ptr 3 0)))],[.pack [.obj 48 [(.ptr 1 0),(.ptr 2 0)],.pack [.obj 90 [(.row 1),(.p (.int .i64 n2))],.row .upl 67 l2],.pack [.obj 104 [(.row 1),(.p (.int .i64 s2))],.row .byte 5 b2]],.pack [.obj 53 [(.ptr 1 0),(.row 2),(.p (.int .i64 s2))],.pack [.obj 50 [(.row 1),(.p (.int .i64 n2))],.row .upl 67 l2],.row .byte 5 b2],.pack [.obj 32 [(.p (.int .i64 st)),(.p (.list .fld fs)),(.p (.list .byte ([])))]],.pack [.obj 32 [(.p (.int .i64 st)),(.p (.list .fld fs)),(.p (.list .byte ([])))]]],114,none⟩):=by
    intro st fs l2 n2 b2 s2 hfs q1 q2 q3 hi
    refine zh (let y0:=I.get (α:=Go.Ab.Ask) a (Go.Ab.Ask.mk (Hd.mk ([]:Str) ([]:Str) (0:Int) ([]:List Fld) (0:Int)) ([]:Str)) (Nat.cast i);let y1:HO:=.pack [(.obj 32 [(.p (.int .i64 st)),(.p (.list .fld fs)),(.p (.list .byte ([]:Str)))])];let y2:HO:=.pack [(.obj 48 [(.ptr 1 0),(.ptr 2 0)]),(.pack [(.obj 90 [(.row 1),(.p (.int .i64 n2))]),(.row .upl 67 l2)]),(.pack [(.obj 104 [(.row 1),(.p (.int .i64 s2))]),(.row .byte 5 b2)])];let y3:HO:=.pack [(.obj 53 [(.ptr 1 0),(.row 2),(.p (.int .i64 s2))]),(.pack [(.obj 50 [(.row 1),(.p (.int .i64 n2))]),(.row .upl 67 l2)]),(.row .byte 5 b2)];let y4:=I.len (α:=UInt8) (Hd.target (Go.Ab.Ask.h y0));let y5:=I.inb (Nat.cast i) (I.len (α:=Go.Ab.Ask) a);.need (I.hid (α:=(Prop)) (LE.le (List.length b2) 100000)) (.need y5 (.need y5 (.br (I.seq (Hd.target (Go.Ab.Ask.h y0)) ([47,102,105,108,101,115]:Str)) (.code 0 [1,0,0,1,1,1,1,0] ⟨[(11,(.v (.one (.p (.val (.bool .true)))))),(10,(.v (.one (.p (.str (Hd.target (Go.Ab.Ask.h y0))))))),(9,(.v (.one (.p (.int .i64 s2))))),(8,(.v (.one (.row 4)))),(0,(.v (.one (.p (.list .ask a))))),(3,(.v (.one (.ptr 0 0)))),(4,(.v (.one (.ptr 1 0)))),(5,(.v (.one (.p (.int .i64 (Nat.cast i)))))),(6,(.v (.one (.ptr 2 0)))),(7,(.v (.one (.ptr 3 0))))],[y2,y3,y1,y1,(.row .byte 5 b2)],114,none⟩) (.br (I.ile 7 y4) (.need (I.cutb 0 7 y4) (.code 0 [1,0,0,1,1,1,1,0] ⟨[(11,(.v (.one (.p (.bool (I.seq (I.cut (α:=UInt8) (Hd.target (Go.Ab.Ask.h y0)) 0 7) ([47,102,105,108,101,115,47]:Str))))))),(10,(.v (.one (.p (.str (Hd.target (Go.Ab.Ask.h y0))))))),(9,(.v (.one (.p (.int .i64 s2))))),(8,(.v (.one (.row 4)))),(0,(.v (.one (.p (.list .ask a))))),(3,(.v (.one (.ptr 0 0)))),(4,(.v (.one (.ptr 1 0)))),(5,(.v (.one (.p (.int .i64 (Nat.cast i)))))),(6,(.v (.one (.ptr 2 0)))),(7,(.v (.one (.ptr 3 0))))],[y2,y3,y1,y1,(.row .byte 5 b2)],114,none⟩)) (.code 0 [1,0,0,1,1,1,1,0] ⟨[(11,(.v (.one (.p (.val (.bool .false)))))),(10,(.v (.one (.p (.str (Hd.target (Go.Ab.Ask.h y0))))))),(9,(.v (.one (.p (.int .i64 s2))))),(8,(.v (.one (.row 4)))),(0,(.v (.one (.p (.list .ask a))))),(3,(.v (.one (.ptr 0 0)))),(4,(.v (.one (.ptr 1 0)))),(5,(.v (.one (.p (.int .i64 (Nat.cast i)))))),(6,(.v (.one (.ptr 2 0)))),(7,(.v (.one (.ptr 3 0))))],[y2,y3,y1,y1,(.row .byte 5 b2)],114,none⟩)))))) (by kernel_rfl) ?_
    simp only [zk]
    simp only [hh]
    have hx:=hg1 i hi
    subst hI
    simp only [nrmA,nrmB]
    generalize a.getD i ⟨⟨[],[],0,[],0⟩,[]⟩=x at *
    obtain⟨⟨xm,t,xi,xf,xl⟩,xb⟩:=x
    obtain⟨-,-,htl⟩:=hx
    simp only at htl ⊢
    have hk:=fun(o:Bool) (h:o=YI t)=>key13 st fs l2 n2 b2 s2 t o h (by omega) hfs q1 q2 q3 hi
    clear key13 hA
    rw [show([47,102,105,108,101,115]:Str)=xQ from rfl]
    by_cases hf1:t=xQ
    · have ho:true=YI t:=by unfold YI;rw [decide_eq_true hf1];rfl
      have hk:=hk true ho
      (repeat' (first|refine And.intro ?_ ?_|intro _))<;>first|omega|exact True.intro|exact False.elim ‹False›|skip
      all_goals first
        |(exfalso;exact ‹¬ t=xQ› hf1)
        |((with_reducible show Ok _ _ _ _);(try(exfalso;omega));exact seam (by first|rfl|exact hI) zi mixed [yF,yE,vP,vO,tH,tC,vM,vK,uD,uy,uj,uh,uG,uF,Y4,Y3,uX,uV,uM,uK,wS,wR,sZ,sW,sV,sU,rC,ru] hX [0,3,4,5,6,7,8,9,10,11] ⟨[(0,.v (.one (.p (.list .ask a)))),(3,.v (.one (.ptr 0 0))),(4,.v (.one (.ptr 1 0))),(5,.v (.one (.p (.int .i64 i)))),(6,.v (.one (.ptr 2 0))),(7,.v (.one (.ptr 3 0))),(8,.v (.one (.row 4))),(9,.v (.one (.p (.int .i64 s2)))),(10,.v (.one (.p (.str t)))),(11,.v (.one (.p (.bool true))))],[.pack [.obj 48 [(.ptr 1 0),(.ptr 2 0)],.pack [.obj 90 [(.row 1),(.p (.int .i64 n2))],.row .upl 67 l2],.pack [.obj 104 [(.row 1),(.p (.int .i64 s2))],.row .byte 5 b2]],.pack [.obj 53 [(.ptr 1 0),(.row 2),(.p (.int .i64 s2))],.pack [.obj 50 [(.row 1),(.p (.int .i64 n2))],.row .upl 67 l2],.row .byte 5 b2],.pack [.obj 32 [(.p (.int .i64 st)),(.p (.list .fld fs)),(.p (.list .byte ([])))]],.pack [.obj 32 [(.p (.int .i64 st)),(.p (.list .fld fs)),(.p (.list .byte ([])))]],.row .byte 5 b2],114,none⟩ (by kernel_rfl) (hk))
        |with_reducible rfl
        |with_reducible assumption
        |omega
        |contradiction
    · by_cases hf2:7≤t.length
      · have ho:(t.take 7 == [47,102,105,108,101,115,47])=YI t:=by
          unfold YI
          rw [decide_eq_false hf1,pre7,Bool.false_or]
          show(t.take 7 == yT)=_
          rw [Bool.eq_iff_iff];simp
        have hk:=hk _ rfl
        rw [show(Int.toNat 7)=7 from rfl]
        simp only [ho]
        (repeat' (first|refine And.intro ?_ ?_|intro _))<;>first|omega|exact True.intro|exact False.elim ‹False›|skip
        all_goals first
          |(exfalso;exact hf1 ‹t=xQ›)
          |((with_reducible show Ok _ _ _ _);(try(exfalso;omega));exact seam (by first|rfl|exact hI) zi mixed [yF,yE,vP,vO,tH,tC,vM,vK,uD,uy,uj,uh,uG,uF,Y4,Y3,uX,uV,uM,uK,wS,wR,sZ,sW,sV,sU,rC,ru] hX [0,3,4,5,6,7,8,9,10,11] ⟨[(0,.v (.one (.p (.list .ask a)))),(3,.v (.one (.ptr 0 0))),(4,.v (.one (.ptr 1 0))),(5,.v (.one (.p (.int .i64 i)))),(6,.v (.one (.ptr 2 0))),(7,.v (.one (.ptr 3 0))),(8,.v (.one (.row 4))),(9,.v (.one (.p (.int .i64 s2)))),(10,.v (.one (.p (.str t)))),(11,.v (.one (.p (.bool ((YI t))))))],[.pack [.obj 48 [(.ptr 1 0),(.ptr 2 0)],.pack [.obj 90 [(.row 1),(.p (.int .i64 n2))],.row .upl 67 l2],.pack [.obj 104 [(.row 1),(.p (.int .i64 s2))],.row .byte 5 b2]],.pack [.obj 53 [(.ptr 1 0),(.row 2),(.p (.int .i64 s2))],.pack [.obj 50 [(.row 1),(.p (.int .i64 n2))],.row .upl 67 l2],.row .byte 5 b2],.pack [.obj 32 [(.p (.int .i64 st)),(.p (.list .fld fs)),(.p (.list .byte ([])))]],.pack [.obj 32 [(.p (.int .i64 st)),(.p (.list .fld fs)),(.p (.list .byte ([])))]],.row .byte 5 b2],114,none⟩ (by kernel_rfl) (hk))
          |with_reducible rfl
          |with_reducible assumption
          |omega
          |contradiction
      · have ho:false=YI t:=by
          unfold YI
          rw [decide_eq_false hf1,pre7,Bool.false_or,decide_eq_false]
          intro h
          have:=congrArg List.length h
          rw [List.length_take,show yT.length=7 from rfl] at this
          omega
        have hk:=hk _ ho
        (repeat' (first|refine And.intro ?_ ?_|intro _))<;>first|omega|exact True.intro|exact False.elim ‹False›|skip
        all_goals first
          |(exfalso;exact hf1 ‹t=xQ›)
          |((with_reducible show Ok _ _ _ _);(try(exfalso;omega));exact seam (by first|rfl|exact hI) zi mixed [yF,yE,vP,vO,tH,tC,vM,vK,uD,uy,uj,uh,uG,uF,Y4,Y3,uX,uV,uM,uK,wS,wR,sZ,sW,sV,sU,rC,ru] hX [0,3,4,5,6,7,8,9,10,11] ⟨[(0,.v (.one (.p (.list .ask a)))),(3,.v (.one (.ptr 0 0))),(4,.v (.one (.ptr 1 0))),(5,.v (.one (.p (.int .i64 i)))),(6,.v (.one (.ptr 2 0))),(7,.v (.one (.ptr 3 0))),(8,.v (.one (.row 4))),(9,.v (.one (.p (.int .i64 s2)))),(10,.v (.one (.p (.str t)))),(11,.v (.one (.p (.bool false))))],[.pack [.obj 48 [(.ptr 1 0),(.ptr 2 0)],.pack [.obj 90 [(.row 1),(.p (.int .i64 n2))],.row .upl 67 l2],.pack [.obj 104 [(.row 1),(.p (.int .i64 s2))],.row .byte 5 b2]],.pack [.obj 53 [(.ptr 1 0),(.row 2),(.p (.int .i64 s2))],.pack [.obj 50 [(.row 1),(.p (.int .i64 n2))],.row .upl 67 l2],.row .byte 5 b2],.pack [.obj 32 [(.p (.int .i64 st)),(.p (.list .fld fs)),(.p (.list .byte ([])))]],.pack [.obj 32 [(.p (.int .i64 st)),(.p (.list .fld fs)),(.p (.list .byte ([])))]],.row .byte 5 b2],114,none⟩ (by kernel_rfl) (hk))
          |with_reducible rfl
          |with_reducible assumption
          |omega
          |contradiction
  refine zh (let y0:=I.get (α:=Go.Ab.Ask) a (Go.Ab.Ask.mk (Hd.mk ([]:Str) ([]:Str) (0:Int) ([]:List Fld) (0:Int)) ([]:Str)) (Nat.cast i);let y1:HO:=.obj 32 [(.p (.int .i64 (I.hid (α:=Int) (TA.st (zH (Sto.mk l n b s) (Hd.method (Go.Ab.Ask.h y0)) (Hd.target (Go.Ab.Ask.h y0)) (Hd.fields (Go.Ab.Ask.h y0)) (Go.Ab.Ask.body y0)))))),(.p (.list .fld (I.hid (α:=(List Fld)) (resT::(TA.fs (zH (Sto.mk l n b s) (Hd.method (Go.Ab.Ask.h y0)) (Hd.target (Go.Ab.Ask.h y0)) (Hd.fields (Go.Ab.Ask.h y0)) (Go.Ab.Ask.body y0))))))),(.p (.list .byte (I.hid (α:=Str) ([]:Str))))];let y2:HO:=.pack [(.obj 48 [(.ptr 1 0),(.ptr 2 0)]),(.pack [(.obj 90 [(.row 1),(.p (.int .i64 (I.hid (α:=Int) (Sto.n (TA.q (zH (Sto.mk l n b s) (Hd.method (Go.Ab.Ask.h y0)) (Hd.target (Go.Ab.Ask.h y0)) (Hd.fields (Go.Ab.Ask.h y0)) (Go.Ab.Ask.body y0)))))))]),(.row .upl 67 (I.hid (α:=(List Upl)) (Sto.l (TA.q (zH (Sto.mk l n b s) (Hd.method (Go.Ab.Ask.h y0)) (Hd.target (Go.Ab.Ask.h y0)) (Hd.fields (Go.Ab.Ask.h y0)) (Go.Ab.Ask.body y0))))))]),(.pack [(.obj 104 [(.row 1),(.p (.int .i64 (I.hid (α:=Int) (Sto.s (TA.q (zH (Sto.mk l n b s) (Hd.method (Go.Ab.Ask.h y0)) (Hd.target (Go.Ab.Ask.h y0)) (Hd.fields (Go.Ab.Ask.h y0)) (Go.Ab.Ask.body y0)))))))]),(.row .byte 5 (I.hid (α:=Str) (Sto.b (TA.q (zH (Sto.mk l n b s) (Hd.method (Go.Ab.Ask.h y0)) (Hd.target (Go.Ab.Ask.h y0)) (Hd.fields (Go.Ab.Ask.h y0)) (Go.Ab.Ask.body y0))))))])];let y3:HO:=.pack [(.obj 53 [(.ptr 1 0),(.row 2),(.p (.int .i64 (I.hid (α:=Int) (Sto.s (TA.q (zH (Sto.mk l n b s) (Hd.method (Go.Ab.Ask.h y0)) (Hd.target (Go.Ab.Ask.h y0)) (Hd.fields (Go.Ab.Ask.h y0)) (Go.Ab.Ask.body y0)))))))]),(.pack [(.obj 50 [(.row 1),(.p (.int .i64 (I.hid (α:=Int) (Sto.n (TA.q (zH (Sto.mk l n b s) (Hd.method (Go.Ab.Ask.h y0)) (Hd.target (Go.Ab.Ask.h y0)) (Hd.fields (Go.Ab.Ask.h y0)) (Go.Ab.Ask.body y0)))))))]),(.row .upl 67 (I.hid (α:=(List Upl)) (Sto.l (TA.q (zH (Sto.mk l n b s) (Hd.method (Go.Ab.Ask.h y0)) (Hd.target (Go.Ab.Ask.h y0)) (Hd.fields (Go.Ab.Ask.h y0)) (Go.Ab.Ask.body y0))))))]),(.row .byte 5 (I.hid (α:=Str) (Sto.b (TA.q (zH (Sto.mk l n b s) (Hd.method (Go.Ab.Ask.h y0)) (Hd.target (Go.Ab.Ask.h y0)) (Hd.fields (Go.Ab.Ask.h y0)) (Go.Ab.Ask.body y0))))))];let y4:=I.hid (α:=(Prop)) (And (FOk (Hd.fields (Go.Ab.Ask.h y0))) (And (zu l n) (And (LE.le n (200000:Int)) (And (LE.le (List.length b) 100000) (LE.le (List.length (Go.Ab.Ask.body y0)) 100000)))));let y5:=I.inb (Nat.cast i) (I.len (α:=Go.Ab.Ask) a);.br (I.ilt (Nat.cast i) (I.len (α:=Go.Ab.Ask) a)) (.need y5 (.need y5 (.need y5 (.need y5 (.need y5 (.need y5 (.need y5 (.need y5 (.both (.need y4 (.both (.need y4 (.both (.code 0 [1,0,0,1,0] ⟨[(7,(.v (.one (.ptr 3 0)))),(6,(.v (.one (.ptr 2 0)))),(0,(.v (.one (.p (.list .ask a))))),(3,(.v (.one (.ptr 0 0)))),(4,(.v (.one (.ptr 1 0)))),(5,(.v (.one (.p (.int .i64 (Nat.cast i))))))],[y2,y3,y1,y1],114,none⟩) (.code 0 [1,0,0,1,0] ⟨[(6,(.v (.one (.ptr 3 0)))),(7,(.v (.one (.ptr 2 0)))),(0,(.v (.one (.p (.list .ask a))))),(3,(.v (.one (.ptr 0 0)))),(4,(.v (.one (.ptr 1 0)))),(5,(.v (.one (.p (.int .i64 (Nat.cast i))))))],[y2,y3,y1,y1],114,none⟩))) (.both (.both (.need y4 (.code 0 [1,0,0,1,0] ⟨[(7,(.v (.one (.ptr 3 0)))),(6,(.v (.one (.ptr 2 0)))),(0,(.v (.one (.p (.list .ask a))))),(3,(.v (.one (.ptr 0 0)))),(4,(.v (.one (.ptr 1 0)))),(5,(.v (.one (.p (.int .i64 (Nat.cast i))))))],[y2,y3,y1,y1],114,none⟩)) (.need y4 (.code 0 [1,0,0,1,0] ⟨[(7,(.v (.one (.ptr 3 0)))),(6,(.v (.one (.ptr 2 0)))),(0,(.v (.one (.p (.list .ask a))))),(3,(.v (.one (.ptr 0 0)))),(4,(.v (.one (.ptr 1 0)))),(5,(.v (.one (.p (.int .i64 (Nat.cast i))))))],[y2,y3,y1,y1],114,none⟩))) (.both (.need y4 (.code 0 [1,0,0,1,0] ⟨[(6,(.v (.one (.ptr 3 0)))),(7,(.v (.one (.ptr 2 0)))),(0,(.v (.one (.p (.list .ask a))))),(3,(.v (.one (.ptr 0 0)))),(4,(.v (.one (.ptr 1 0)))),(5,(.v (.one (.p (.int .i64 (Nat.cast i))))))],[y2,y3,y1,y1],114,none⟩)) (.need y4 (.code 0 [1,0,0,1,0] ⟨[(6,(.v (.one (.ptr 3 0)))),(7,(.v (.one (.ptr 2 0)))),(0,(.v (.one (.p (.list .ask a))))),(3,(.v (.one (.ptr 0 0)))),(4,(.v (.one (.ptr 1 0)))),(5,(.v (.one (.p (.int .i64 (Nat.cast i))))))],[y2,y3,y1,y1],114,none⟩)))))) (.both (.both (.need y4 (.both (.need y4 (.code 0 [1,0,0,1,0] ⟨[(7,(.v (.one (.ptr 3 0)))),(6,(.v (.one (.ptr 2 0)))),(0,(.v (.one (.p (.list .ask a))))),(3,(.v (.one (.ptr 0 0)))),(4,(.v (.one (.ptr 1 0)))),(5,(.v (.one (.p (.int .i64 (Nat.cast i))))))],[y2,y3,y1,y1],114,none⟩)) (.need y4 (.code 0 [1,0,0,1,0] ⟨[(7,(.v (.one (.ptr 3 0)))),(6,(.v (.one (.ptr 2 0)))),(0,(.v (.one (.p (.list .ask a))))),(3,(.v (.one (.ptr 0 0)))),(4,(.v (.one (.ptr 1 0)))),(5,(.v (.one (.p (.int .i64 (Nat.cast i))))))],[y2,y3,y1,y1],114,none⟩)))) (.need y4 (.need y4 (.code 0 [1,0,0,1,0] ⟨[(7,(.v (.one (.ptr 3 0)))),(6,(.v (.one (.ptr 2 0)))),(0,(.v (.one (.p (.list .ask a))))),(3,(.v (.one (.ptr 0 0)))),(4,(.v (.one (.ptr 1 0)))),(5,(.v (.one (.p (.int .i64 (Nat.cast i))))))],[y2,y3,y1,y1],114,none⟩)))) (.both (.need y4 (.both (.need y4 (.code 0 [1,0,0,1,0] ⟨[(6,(.v (.one (.ptr 3 0)))),(7,(.v (.one (.ptr 2 0)))),(0,(.v (.one (.p (.list .ask a))))),(3,(.v (.one (.ptr 0 0)))),(4,(.v (.one (.ptr 1 0)))),(5,(.v (.one (.p (.int .i64 (Nat.cast i))))))],[y2,y3,y1,y1],114,none⟩)) (.need y4 (.code 0 [1,0,0,1,0] ⟨[(6,(.v (.one (.ptr 3 0)))),(7,(.v (.one (.ptr 2 0)))),(0,(.v (.one (.p (.list .ask a))))),(3,(.v (.one (.ptr 0 0)))),(4,(.v (.one (.ptr 1 0)))),(5,(.v (.one (.p (.int .i64 (Nat.cast i))))))],[y2,y3,y1,y1],114,none⟩)))) (.need y4 (.need y4 (.code 0 [1,0,0,1,0] ⟨[(6,(.v (.one (.ptr 3 0)))),(7,(.v (.one (.ptr 2 0)))),(0,(.v (.one (.p (.list .ask a))))),(3,(.v (.one (.ptr 0 0)))),(4,(.v (.one (.ptr 1 0)))),(5,(.v (.one (.p (.int .i64 (Nat.cast i))))))],[y2,y3,y1,y1],114,none⟩)))))))))))))) (.fin (.ret (.v (.one (.p (.bool Bool.true))))) [])) (by kernel_rfl) ?_
  simp only [zk]
  simp only [hh]
  subst hI
  simp only [nrmA,nrmB]
  have hx:=hg1 i
  clear hg1
  generalize a.getD i ⟨⟨[],[],0,[],0⟩,[]⟩=x at *
  obtain⟨⟨xm,xt,xi,xf,xl⟩,xb⟩:=x
  simp only at *
  have hfx:i<a.length→FOk xf∧xb.length≤20000∧xt.length≤20000:=fun h=>hx h
  clear hx
  have hq1:=tu (q:=⟨l,n,b,s⟩) h2 h4 xm xt xf xb
  have hq3:=SK ⟨l,n,b,s⟩ xm xt xf xb
  generalize zH ⟨l,n,b,s⟩ xm xt xf xb=r at *
  obtain⟨st,fs,⟨l2,n2,b2,s2⟩⟩:=r
  have hn0:=h2.n0
  simp only at hq3
  have hk:=fun(h:i<a.length)=>key10 st (resT::fs) l2 n2 b2 s2 (by simp only [List.length_cons];omega) hq1.1 (by have:=hq1.2.2.2;simp only at this;omega) hq1.2.1 h
  clear key10 key13 hA
  (repeat' (first|refine And.intro ?_ ?_|intro _))<;>first|omega|exact True.intro|exact False.elim ‹False›|skip
  all_goals first
    |((with_reducible show Ok _ _ _ _);(try(exfalso;omega));exact seam (by first|rfl|exact hI) zi mixed [yF,yE,vP,vO,tH,tC,vM,vK,uD,uy,uj,uh,uG,uF,Y4,Y3,uX,uV,uM,uK,wS,wR,sZ,sW,sV,sU,rC,ru] hX [0,3,4,5,6,7] ⟨[(0,.v (.one (.p (.list .ask a)))),(3,.v (.one (.ptr 0 0))),(4,.v (.one (.ptr 1 0))),(5,.v (.one (.p (.int .i64 i)))),(6,.v (.one (.ptr 2 0))),(7,.v (.one (.ptr 3 0)))],[.pack [.obj 48 [(.ptr 1 0),(.ptr 2 0)],.pack [.obj 90 [(.row 1),(.p (.int .i64 n2))],.row .upl 67 l2],.pack [.obj 104 [(.row 1),(.p (.int .i64 s2))],.row .byte 5 b2]],.pack [.obj 53 [(.ptr 1 0),(.row 2),(.p (.int .i64 s2))],.pack [.obj 50 [(.row 1),(.p (.int .i64 n2))],.row .upl 67 l2],.row .byte 5 b2],.pack [.obj 32 [(.p (.int .i64 st)),(.p (.list .fld ((resT::fs)))),(.p (.list .byte ([])))]],.pack [.obj 32 [(.p (.int .i64 st)),(.p (.list .fld ((resT::fs)))),(.p (.list .byte ([])))]]],114,none⟩ (by kernel_rfl) (hk (by omega)))
    |with_reducible rfl
    |with_reducible assumption
    |omega
    |exact⟨(hfx (by omega)).1,h2,by omega,h4,by have:=(hfx (by omega)).2;omega⟩
    |exact(hfx (by omega)).1.1
    |exact((hfx (by omega)).1.2 _ ‹_›).1
    |exact((hfx (by omega)).1.2 _ ‹_›).2
    |contradiction
end Go.Proofs.YtcclfkakcgnacaaGreatDoor
