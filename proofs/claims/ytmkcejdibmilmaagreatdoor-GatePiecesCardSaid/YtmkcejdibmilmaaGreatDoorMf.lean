/- Texts of this proof, one behind the other: ReqF ReqR ReqPc TusG TusH TusI GatQ GatC GatD GatF GatE GatI GatH GatJ GatG GatK ReqO GatM. -/
import Derived.Test.YtmkcejdibmilmaaGreatDoorMe
set_option linter.all false
namespace Go.Proofs.YtmkcejdibmilmaaGreatDoor
open Go Go.Sep Go.Ab
set_option maxRecDepth 100000
theorem zkT (q:Rq):zI (yc q).1.out≤zI q.out:=by
  unfold yc tZ
  repeat' split
  all_goals simp [zI,evH,evE]
theorem zkP (q:Rq) (s:Str):zI (zL q s).1.out≤zI q.out:=by
  have hd:=zkT q
  unfold zL
  repeat' split
  all_goals first|exact hd|exact Nat.le_refl _
theorem zaB (q:Rq) (c:UInt8):zI (rqF q c).out≤zI q.out+1:=by
  have hl:=zkP { q with ln:=(lnF q.ln c).1} (lnF q.ln c).2.1
  have hd:=(zrB (s:=ckOf q) (c:=c)).1
  unfold rqF
  split
  · split
    · simp only [tZ,yB,xI,evB,evE,List.length_cons,List.length_nil];omega
    · simp only [yB,xI,evB,List.length_cons,List.length_nil];omega
  split
  · split
    · simp only [vG,yB,xI,evF,List.length_nil];omega
    split
    · simp only [tZ,yB,xI,evE,List.length_nil]
      split
      · simp only [yB,xI,evB];omega
      · omega
    · show zI (if(chF (ckOf q) c).2.1≠[] then q.out++[evB (chF (ckOf q) c).2.1] else q.out)≤_
      split
      · simp only [yB,xI,evB];omega
      · omega
  split
  · split
    · simp only [vG,yB,xI,evF,List.length_nil];omega
    split
    · split
      · simp only [vG,yB,xI,evF,List.length_nil];simp only at hl;omega
      · simp only at hl;omega
    · exact Nat.le_succ _
  · exact Nat.le_succ _
def rqAt (q:Rq) (b:Str) (n i:Nat):Prop:=RqI (vF { q with out:=[]} (b.take i)) (n+i)∧zI (vF { q with out:=[]} (b.take i)).out≤i
theorem zi7 {q:Rq} {n:Nat} (h:RqI { q with out:=[]} n) (b:Str):rqAt q b n 0:=⟨h,by simp [vF,zI]⟩
theorem zdw (q:Rq) (b:Str) {i:Nat} (h:i<b.length):vF q (b.take (i+1))=rqF (vF q (b.take i)) (b.getD i 0):=by
  rw [show b.getD i 0=b[i] by simp [h],List.take_succ_eq_append_getElem h]
  unfold vF
  rw [List.foldl_append]
  rfl
def rqN0 (q:Rq) (b:Str):Prop:=∃ n,RqI { q with out:=[]} n∧n+b.length≤1000000
theorem zmS (ln:Ln) (p:Int) (m tg:Str) (hm:Int) (hf:List Fld) (hl le:Int) (out:List Evt) (b:Str) (hneed:rqN0 ⟨ln,p,⟨m,tg,hm,hf,hl⟩,le,none,true,out⟩ b):Spc Tryz.prog 26 [.v (.one (.ptr 0 0)),.v (.one (.p (.list .byte b)))] [.abs (.rq ⟨ln,p,⟨m,tg,hm,hf,hl⟩,le,none,true,out⟩)] (.ret (.v (.one (.row 1)))) [.abs (.rq ((zB ⟨ln,p,⟨m,tg,hm,hf,hl⟩,le,none,true,out⟩ b))),.row .evt 53 ((zZ (zB ⟨ln,p,⟨m,tg,hm,hf,hl⟩,le,none,true,out⟩ b).out))]:=by
  obtain⟨n,hI0,hnb⟩:=hneed
  have hat:=zi7 hI0 b
  refine spcG zh mixed Tryz.func26 (by kernel_rfl) { cfgQ with fz:=[],keep:=some [0,1,4,6,10,11,12]} [uT,uS,wE,wC] (by kernel_rfl) ?_
  intro I X hI hX
  refine orcL ?_;go_invoke;refine orcS (by kernel_rfl) ?_
  simp only [zi,Nat.reduceAdd]
  have hr:({ (⟨ln,p,⟨m,tg,hm,hf,hl⟩,le,none,true,out⟩:Rq) with out:=[]}:Rq)=(⟨ln,p,⟨m,tg,hm,hf,hl⟩,le,none,true,[]⟩:Rq):=rfl
  unfold rqAt at hat
  unfold zB
  rw [hr] at hat ⊢
  refine zC hI zh mixed [uT,uS,wE,wC] hX [0,1,10,11,12] (fun(g:Nat × Rq)=>match g with|(i,r)=>i≤b.length∧r=vF (⟨ln,p,⟨m,tg,hm,hf,hl⟩,le,none,true,[]⟩:Rq) (b.take i)∧RqI r (n+i)∧zI r.out≤i) (fun(g:Nat × Rq)=>match g with|(i,r)=>⟨[(0,.v (.one (.ptr 0 0))),(1,.v (.one (.p (.list .byte b)))),(10,.v (.one (.p (.list .byte b)))),(11,.v (.one (.p (.int .i64 ((I.len (α:=UInt8) b)))))),(12,.v (.one (.p (.int .i64 i))))],[.abs (.rq r)],25,none⟩) (fun(g:Nat × Rq)=>match g with|(i,r)=>b.length - i) (0,(⟨ln,p,⟨m,tg,hm,hf,hl⟩,le,none,true,[]⟩:Rq)) (by kernel_rfl) (by kernel_rfl) ?_ ?_
  · exact⟨Nat.zero_le _,rfl,hat.1,hat.2⟩
  rintro⟨i,⟨ln2,p2,⟨m2,t2,hm2,hf2,hl2⟩,le2,ck2,own2,out2⟩⟩ ⟨h1,h2,h3,h4⟩ A hA
  simp only at hA h1 h2 h3 h4
  have hrn:i<b.length→rqN _:=fun h=>⟨n+i,by omega,h3⟩
  have hgo:i<b.length→_:=fun h=>hA (i+1,rqF ⟨ln2,p2,⟨m2,t2,hm2,hf2,hl2⟩,le2,ck2,own2,out2⟩ (b.getD i 0)) ⟨by simp only;omega,by simp only;rw [zdw _ _ h,← h2],by simp only;exact zkS h3 _,by simp only;have:=zaB ⟨ln2,p2,⟨m2,t2,hm2,hf2,hl2⟩,le2,ck2,own2,out2⟩ (b.getD i 0);simp only at this;omega⟩ (by simp only;omega)
  have hend: ¬ i<b.length→_:=fun h=>h2.trans (by rw [List.take_of_length_le (by omega)])
  rcases ck2 with _|ch2<;>rcases own2 with _|_
  · have h0:=h1
    refine orcL ?_;go_invoke;refine orcS (by kernel_rfl) ?_
    simp only [zi,Nat.reduceAdd]
    subst hI
    simp only [nrmA,nrmB,nrlB,reduceCtorEq,HO.abs.injEq,Gh.rq.injEq,Rq.mk.injEq]
    by_cases hi:i<b.length
    · have hg:=hgo hi
      have hn:=hrn hi
      (repeat' (first|refine And.intro ?_ ?_|intro _))<;>first|omega|exact True.intro|exact False.elim ‹False›|skip
      all_goals first|omega|exact hg|exact hn|contradiction|(have:=(b.getD i 0).toNat_lt;omega)|trace_state
    · have hg:=hend hi
      rw [← hg]
      have hon:=h3.on
      simp only at hon
      (repeat' (first|refine And.intro ?_ ?_|intro _))<;>first|omega|exact True.intro|exact False.elim ‹False›|skip
      all_goals first|omega|rfl|contradiction|exact⟨by omega,by omega⟩|trace_state
  · have h0:=h1
    refine orcL ?_;go_invoke;refine orcS (by kernel_rfl) ?_
    simp only [zi,Nat.reduceAdd]
    subst hI
    simp only [nrmA,nrmB,nrlB,reduceCtorEq,HO.abs.injEq,Gh.rq.injEq,Rq.mk.injEq]
    by_cases hi:i<b.length
    · have hg:=hgo hi
      have hn:=hrn hi
      (repeat' (first|refine And.intro ?_ ?_|intro _))<;>first|omega|exact True.intro|exact False.elim ‹False›|skip
      all_goals first|omega|exact hg|exact hn|contradiction|(have:=(b.getD i 0).toNat_lt;omega)|trace_state
    · have hg:=hend hi
      rw [← hg]
      have hon:=h3.on
      simp only at hon
      (repeat' (first|refine And.intro ?_ ?_|intro _))<;>first|omega|exact True.intro|exact False.elim ‹False›|skip
      all_goals first|omega|rfl|contradiction|exact⟨by omega,by omega⟩|trace_state
  · have h0:=h1
    refine orcL ?_;go_invoke;refine orcS (by kernel_rfl) ?_
    simp only [zi,Nat.reduceAdd]
    subst hI
    simp only [nrmA,nrmB,nrlB,reduceCtorEq,HO.abs.injEq,Gh.rq.injEq,Rq.mk.injEq]
    by_cases hi:i<b.length
    · have hg:=hgo hi
      have hn:=hrn hi
      (repeat' (first|refine And.intro ?_ ?_|intro _))<;>first|omega|exact True.intro|exact False.elim ‹False›|skip
      all_goals first|omega|exact hg|exact hn|contradiction|(have:=(b.getD i 0).toNat_lt;omega)|trace_state
    · have hg:=hend hi
      rw [← hg]
      have hon:=h3.on
      simp only at hon
      (repeat' (first|refine And.intro ?_ ?_|intro _))<;>first|omega|exact True.intro|exact False.elim ‹False›|skip
      all_goals first|omega|rfl|contradiction|exact⟨by omega,by omega⟩|trace_state
  · have h0:=h1
    refine orcL ?_;go_invoke;refine orcS (by kernel_rfl) ?_
    simp only [zi,Nat.reduceAdd]
    subst hI
    simp only [nrmA,nrmB,nrlB,reduceCtorEq,HO.abs.injEq,Gh.rq.injEq,Rq.mk.injEq]
    by_cases hi:i<b.length
    · have hg:=hgo hi
      have hn:=hrn hi
      (repeat' (first|refine And.intro ?_ ?_|intro _))<;>first|omega|exact True.intro|exact False.elim ‹False›|skip
      all_goals first|omega|exact hg|exact hn|contradiction|(have:=(b.getD i 0).toNat_lt;omega)|trace_state
    · have hg:=hend hi
      rw [← hg]
      have hon:=h3.on
      simp only at hon
      (repeat' (first|refine And.intro ?_ ?_|intro _))<;>first|omega|exact True.intro|exact False.elim ‹False›|skip
      all_goals first|omega|rfl|contradiction|exact⟨by omega,by omega⟩|trace_state
theorem zmT (ln:Ln) (p:Int) (m tg:Str) (hm:Int) (hf:List Fld) (hl le:Int) (out:List Evt) (b:Str) (hneed:rqN0 ⟨ln,p,⟨m,tg,hm,hf,hl⟩,le,none,false,out⟩ b):Spc Tryz.prog 26 [.v (.one (.ptr 0 0)),.v (.one (.p (.list .byte b)))] [.abs (.rq ⟨ln,p,⟨m,tg,hm,hf,hl⟩,le,none,false,out⟩)] (.ret (.v (.one (.row 1)))) [.abs (.rq ((zB ⟨ln,p,⟨m,tg,hm,hf,hl⟩,le,none,false,out⟩ b))),.row .evt 53 ((zZ (zB ⟨ln,p,⟨m,tg,hm,hf,hl⟩,le,none,false,out⟩ b).out))]:=by
  obtain⟨n,hI0,hnb⟩:=hneed
  have hat:=zi7 hI0 b
  refine spcG zh mixed Tryz.func26 (by kernel_rfl) { cfgQ with fz:=[],keep:=some [0,1,4,6,10,11,12]} [uT,uS,wE,wC] (by kernel_rfl) ?_
  intro I X hI hX
  refine orcL ?_;go_invoke;refine orcS (by kernel_rfl) ?_
  simp only [zi,Nat.reduceAdd]
  have hr:({ (⟨ln,p,⟨m,tg,hm,hf,hl⟩,le,none,false,out⟩:Rq) with out:=[]}:Rq)=(⟨ln,p,⟨m,tg,hm,hf,hl⟩,le,none,false,[]⟩:Rq):=rfl
  unfold rqAt at hat
  unfold zB
  rw [hr] at hat ⊢
  refine zC hI zh mixed [uT,uS,wE,wC] hX [0,1,10,11,12] (fun(g:Nat × Rq)=>match g with|(i,r)=>i≤b.length∧r=vF (⟨ln,p,⟨m,tg,hm,hf,hl⟩,le,none,false,[]⟩:Rq) (b.take i)∧RqI r (n+i)∧zI r.out≤i) (fun(g:Nat × Rq)=>match g with|(i,r)=>⟨[(0,.v (.one (.ptr 0 0))),(1,.v (.one (.p (.list .byte b)))),(10,.v (.one (.p (.list .byte b)))),(11,.v (.one (.p (.int .i64 ((I.len (α:=UInt8) b)))))),(12,.v (.one (.p (.int .i64 i))))],[.abs (.rq r)],25,none⟩) (fun(g:Nat × Rq)=>match g with|(i,r)=>b.length - i) (0,(⟨ln,p,⟨m,tg,hm,hf,hl⟩,le,none,false,[]⟩:Rq)) (by kernel_rfl) (by kernel_rfl) ?_ ?_
  · exact⟨Nat.zero_le _,rfl,hat.1,hat.2⟩
  rintro⟨i,⟨ln2,p2,⟨m2,t2,hm2,hf2,hl2⟩,le2,ck2,own2,out2⟩⟩ ⟨h1,h2,h3,h4⟩ A hA
  simp only at hA h1 h2 h3 h4
  have hrn:i<b.length→rqN _:=fun h=>⟨n+i,by omega,h3⟩
  have hgo:i<b.length→_:=fun h=>hA (i+1,rqF ⟨ln2,p2,⟨m2,t2,hm2,hf2,hl2⟩,le2,ck2,own2,out2⟩ (b.getD i 0)) ⟨by simp only;omega,by simp only;rw [zdw _ _ h,← h2],by simp only;exact zkS h3 _,by simp only;have:=zaB ⟨ln2,p2,⟨m2,t2,hm2,hf2,hl2⟩,le2,ck2,own2,out2⟩ (b.getD i 0);simp only at this;omega⟩ (by simp only;omega)
  have hend: ¬ i<b.length→_:=fun h=>h2.trans (by rw [List.take_of_length_le (by omega)])
  rcases ck2 with _|ch2<;>rcases own2 with _|_
  · have h0:=h1
    refine orcL ?_;go_invoke;refine orcS (by kernel_rfl) ?_
    simp only [zi,Nat.reduceAdd]
    subst hI
    simp only [nrmA,nrmB,nrlB,reduceCtorEq,HO.abs.injEq,Gh.rq.injEq,Rq.mk.injEq]
    by_cases hi:i<b.length
    · have hg:=hgo hi
      have hn:=hrn hi
      (repeat' (first|refine And.intro ?_ ?_|intro _))<;>first|omega|exact True.intro|exact False.elim ‹False›|skip
      all_goals first|omega|exact hg|exact hn|contradiction|(have:=(b.getD i 0).toNat_lt;omega)|trace_state
    · have hg:=hend hi
      rw [← hg]
      have hon:=h3.on
      simp only at hon
      (repeat' (first|refine And.intro ?_ ?_|intro _))<;>first|omega|exact True.intro|exact False.elim ‹False›|skip
      all_goals first|omega|rfl|contradiction|exact⟨by omega,by omega⟩|trace_state
  · have h0:=h1
    refine orcL ?_;go_invoke;refine orcS (by kernel_rfl) ?_
    simp only [zi,Nat.reduceAdd]
    subst hI
    simp only [nrmA,nrmB,nrlB,reduceCtorEq,HO.abs.injEq,Gh.rq.injEq,Rq.mk.injEq]
    by_cases hi:i<b.length
    · have hg:=hgo hi
      have hn:=hrn hi
      (repeat' (first|refine And.intro ?_ ?_|intro _))<;>first|omega|exact True.intro|exact False.elim ‹False›|skip
      all_goals first|omega|exact hg|exact hn|contradiction|(have:=(b.getD i 0).toNat_lt;omega)|trace_state
    · have hg:=hend hi
      rw [← hg]
      have hon:=h3.on
      simp only at hon
      (repeat' (first|refine And.intro ?_ ?_|intro _))<;>first|omega|exact True.intro|exact False.elim ‹False›|skip
      all_goals first|omega|rfl|contradiction|exact⟨by omega,by omega⟩|trace_state
  · have h0:=h1
    refine orcL ?_;go_invoke;refine orcS (by kernel_rfl) ?_
    simp only [zi,Nat.reduceAdd]
    subst hI
    simp only [nrmA,nrmB,nrlB,reduceCtorEq,HO.abs.injEq,Gh.rq.injEq,Rq.mk.injEq]
    by_cases hi:i<b.length
    · have hg:=hgo hi
      have hn:=hrn hi
      (repeat' (first|refine And.intro ?_ ?_|intro _))<;>first|omega|exact True.intro|exact False.elim ‹False›|skip
      all_goals first|omega|exact hg|exact hn|contradiction|(have:=(b.getD i 0).toNat_lt;omega)|trace_state
    · have hg:=hend hi
      rw [← hg]
      have hon:=h3.on
      simp only at hon
      (repeat' (first|refine And.intro ?_ ?_|intro _))<;>first|omega|exact True.intro|exact False.elim ‹False›|skip
      all_goals first|omega|rfl|contradiction|exact⟨by omega,by omega⟩|trace_state
  · have h0:=h1
    refine orcL ?_;go_invoke;refine orcS (by kernel_rfl) ?_
    simp only [zi,Nat.reduceAdd]
    subst hI
    simp only [nrmA,nrmB,nrlB,reduceCtorEq,HO.abs.injEq,Gh.rq.injEq,Rq.mk.injEq]
    by_cases hi:i<b.length
    · have hg:=hgo hi
      have hn:=hrn hi
      (repeat' (first|refine And.intro ?_ ?_|intro _))<;>first|omega|exact True.intro|exact False.elim ‹False›|skip
      all_goals first|omega|exact hg|exact hn|contradiction|(have:=(b.getD i 0).toNat_lt;omega)|trace_state
    · have hg:=hend hi
      rw [← hg]
      have hon:=h3.on
      simp only at hon
      (repeat' (first|refine And.intro ?_ ?_|intro _))<;>first|omega|exact True.intro|exact False.elim ‹False›|skip
      all_goals first|omega|rfl|contradiction|exact⟨by omega,by omega⟩|trace_state
theorem zmQ (ln:Ln) (p:Int) (m tg:Str) (hm:Int) (hf:List Fld) (hl le:Int) (ch:Ch) (out:List Evt) (b:Str) (hneed:rqN0 ⟨ln,p,⟨m,tg,hm,hf,hl⟩,le,some ch,true,out⟩ b):Spc Tryz.prog 26 [.v (.one (.ptr 0 0)),.v (.one (.p (.list .byte b)))] [.abs (.rq ⟨ln,p,⟨m,tg,hm,hf,hl⟩,le,some ch,true,out⟩)] (.ret (.v (.one (.row 1)))) [.abs (.rq ((zB ⟨ln,p,⟨m,tg,hm,hf,hl⟩,le,some ch,true,out⟩ b))),.row .evt 53 ((zZ (zB ⟨ln,p,⟨m,tg,hm,hf,hl⟩,le,some ch,true,out⟩ b).out))]:=by
  obtain⟨n,hI0,hnb⟩:=hneed
  have hat:=zi7 hI0 b
  refine spcG zh mixed Tryz.func26 (by kernel_rfl) { cfgQ with fz:=[],keep:=some [0,1,4,6,10,11,12]} [uT,uS,wE,wC] (by kernel_rfl) ?_
  intro I X hI hX
  refine orcL ?_;go_invoke;refine orcS (by kernel_rfl) ?_
  simp only [zi,Nat.reduceAdd]
  have hr:({ (⟨ln,p,⟨m,tg,hm,hf,hl⟩,le,some ch,true,out⟩:Rq) with out:=[]}:Rq)=(⟨ln,p,⟨m,tg,hm,hf,hl⟩,le,some ch,true,[]⟩:Rq):=rfl
  unfold rqAt at hat
  unfold zB
  rw [hr] at hat ⊢
  refine zC hI zh mixed [uT,uS,wE,wC] hX [0,1,10,11,12] (fun(g:Nat × Rq)=>match g with|(i,r)=>i≤b.length∧r=vF (⟨ln,p,⟨m,tg,hm,hf,hl⟩,le,some ch,true,[]⟩:Rq) (b.take i)∧RqI r (n+i)∧zI r.out≤i) (fun(g:Nat × Rq)=>match g with|(i,r)=>⟨[(0,.v (.one (.ptr 0 0))),(1,.v (.one (.p (.list .byte b)))),(10,.v (.one (.p (.list .byte b)))),(11,.v (.one (.p (.int .i64 ((I.len (α:=UInt8) b)))))),(12,.v (.one (.p (.int .i64 i))))],[.abs (.rq r)],25,none⟩) (fun(g:Nat × Rq)=>match g with|(i,r)=>b.length - i) (0,(⟨ln,p,⟨m,tg,hm,hf,hl⟩,le,some ch,true,[]⟩:Rq)) (by kernel_rfl) (by kernel_rfl) ?_ ?_
  · exact⟨Nat.zero_le _,rfl,hat.1,hat.2⟩
  rintro⟨i,⟨ln2,p2,⟨m2,t2,hm2,hf2,hl2⟩,le2,ck2,own2,out2⟩⟩ ⟨h1,h2,h3,h4⟩ A hA
  simp only at hA h1 h2 h3 h4
  have hrn:i<b.length→rqN _:=fun h=>⟨n+i,by omega,h3⟩
  have hgo:i<b.length→_:=fun h=>hA (i+1,rqF ⟨ln2,p2,⟨m2,t2,hm2,hf2,hl2⟩,le2,ck2,own2,out2⟩ (b.getD i 0)) ⟨by simp only;omega,by simp only;rw [zdw _ _ h,← h2],by simp only;exact zkS h3 _,by simp only;have:=zaB ⟨ln2,p2,⟨m2,t2,hm2,hf2,hl2⟩,le2,ck2,own2,out2⟩ (b.getD i 0);simp only at this;omega⟩ (by simp only;omega)
  have hend: ¬ i<b.length→_:=fun h=>h2.trans (by rw [List.take_of_length_le (by omega)])
  rcases ck2 with _|ch2<;>rcases own2 with _|_
  · have h0:=h1
    refine orcL ?_;go_invoke;refine orcS (by kernel_rfl) ?_
    simp only [zi,Nat.reduceAdd]
    subst hI
    simp only [nrmA,nrmB,nrlB,reduceCtorEq,HO.abs.injEq,Gh.rq.injEq,Rq.mk.injEq]
    by_cases hi:i<b.length
    · have hg:=hgo hi
      have hn:=hrn hi
      (repeat' (first|refine And.intro ?_ ?_|intro _))<;>first|omega|exact True.intro|exact False.elim ‹False›|skip
      all_goals first|omega|exact hg|exact hn|contradiction|(have:=(b.getD i 0).toNat_lt;omega)|trace_state
    · have hg:=hend hi
      rw [← hg]
      have hon:=h3.on
      simp only at hon
      (repeat' (first|refine And.intro ?_ ?_|intro _))<;>first|omega|exact True.intro|exact False.elim ‹False›|skip
      all_goals first|omega|rfl|contradiction|exact⟨by omega,by omega⟩|trace_state
  · have h0:=h1
    refine orcL ?_;go_invoke;refine orcS (by kernel_rfl) ?_
    simp only [zi,Nat.reduceAdd]
    subst hI
    simp only [nrmA,nrmB,nrlB,reduceCtorEq,HO.abs.injEq,Gh.rq.injEq,Rq.mk.injEq]
    by_cases hi:i<b.length
    · have hg:=hgo hi
      have hn:=hrn hi
      (repeat' (first|refine And.intro ?_ ?_|intro _))<;>first|omega|exact True.intro|exact False.elim ‹False›|skip
      all_goals first|omega|exact hg|exact hn|contradiction|(have:=(b.getD i 0).toNat_lt;omega)|trace_state
    · have hg:=hend hi
      rw [← hg]
      have hon:=h3.on
      simp only at hon
      (repeat' (first|refine And.intro ?_ ?_|intro _))<;>first|omega|exact True.intro|exact False.elim ‹False›|skip
      all_goals first|omega|rfl|contradiction|exact⟨by omega,by omega⟩|trace_state
  · have h0:=h1
    refine orcL ?_;go_invoke;refine orcS (by kernel_rfl) ?_
    simp only [zi,Nat.reduceAdd]
    subst hI
    simp only [nrmA,nrmB,nrlB,reduceCtorEq,HO.abs.injEq,Gh.rq.injEq,Rq.mk.injEq]
    by_cases hi:i<b.length
    · have hg:=hgo hi
      have hn:=hrn hi
      (repeat' (first|refine And.intro ?_ ?_|intro _))<;>first|omega|exact True.intro|exact False.elim ‹False›|skip
      all_goals first|omega|exact hg|exact hn|contradiction|(have:=(b.getD i 0).toNat_lt;omega)|trace_state
    · have hg:=hend hi
      rw [← hg]
      have hon:=h3.on
      simp only at hon
      (repeat' (first|refine And.intro ?_ ?_|intro _))<;>first|omega|exact True.intro|exact False.elim ‹False›|skip
      all_goals first|omega|rfl|contradiction|exact⟨by omega,by omega⟩|trace_state
  · have h0:=h1
    refine orcL ?_;go_invoke;refine orcS (by kernel_rfl) ?_
    simp only [zi,Nat.reduceAdd]
    subst hI
    simp only [nrmA,nrmB,nrlB,reduceCtorEq,HO.abs.injEq,Gh.rq.injEq,Rq.mk.injEq]
    by_cases hi:i<b.length
    · have hg:=hgo hi
      have hn:=hrn hi
      (repeat' (first|refine And.intro ?_ ?_|intro _))<;>first|omega|exact True.intro|exact False.elim ‹False›|skip
      all_goals first|omega|exact hg|exact hn|contradiction|(have:=(b.getD i 0).toNat_lt;omega)|trace_state
    · have hg:=hend hi
      rw [← hg]
      have hon:=h3.on
      simp only at hon
      (repeat' (first|refine And.intro ?_ ?_|intro _))<;>first|omega|exact True.intro|exact False.elim ‹False›|skip
      all_goals first|omega|rfl|contradiction|exact⟨by omega,by omega⟩|trace_state
theorem zmR (ln:Ln) (p:Int) (m tg:Str) (hm:Int) (hf:List Fld) (hl le:Int) (ch:Ch) (out:List Evt) (b:Str) (hneed:rqN0 ⟨ln,p,⟨m,tg,hm,hf,hl⟩,le,some ch,false,out⟩ b):Spc Tryz.prog 26 [.v (.one (.ptr 0 0)),.v (.one (.p (.list .byte b)))] [.abs (.rq ⟨ln,p,⟨m,tg,hm,hf,hl⟩,le,some ch,false,out⟩)] (.ret (.v (.one (.row 1)))) [.abs (.rq ((zB ⟨ln,p,⟨m,tg,hm,hf,hl⟩,le,some ch,false,out⟩ b))),.row .evt 53 ((zZ (zB ⟨ln,p,⟨m,tg,hm,hf,hl⟩,le,some ch,false,out⟩ b).out))]:=by
  obtain⟨n,hI0,hnb⟩:=hneed
  have hat:=zi7 hI0 b
  refine spcG zh mixed Tryz.func26 (by kernel_rfl) { cfgQ with fz:=[],keep:=some [0,1,4,6,10,11,12]} [uT,uS,wE,wC] (by kernel_rfl) ?_
  intro I X hI hX
  refine orcL ?_;go_invoke;refine orcS (by kernel_rfl) ?_
  simp only [zi,Nat.reduceAdd]
  have hr:({ (⟨ln,p,⟨m,tg,hm,hf,hl⟩,le,some ch,false,out⟩:Rq) with out:=[]}:Rq)=(⟨ln,p,⟨m,tg,hm,hf,hl⟩,le,some ch,false,[]⟩:Rq):=rfl
  unfold rqAt at hat
  unfold zB
  rw [hr] at hat ⊢
  refine zC hI zh mixed [uT,uS,wE,wC] hX [0,1,10,11,12] (fun(g:Nat × Rq)=>match g with|(i,r)=>i≤b.length∧r=vF (⟨ln,p,⟨m,tg,hm,hf,hl⟩,le,some ch,false,[]⟩:Rq) (b.take i)∧RqI r (n+i)∧zI r.out≤i) (fun(g:Nat × Rq)=>match g with|(i,r)=>⟨[(0,.v (.one (.ptr 0 0))),(1,.v (.one (.p (.list .byte b)))),(10,.v (.one (.p (.list .byte b)))),(11,.v (.one (.p (.int .i64 ((I.len (α:=UInt8) b)))))),(12,.v (.one (.p (.int .i64 i))))],[.abs (.rq r)],25,none⟩) (fun(g:Nat × Rq)=>match g with|(i,r)=>b.length - i) (0,(⟨ln,p,⟨m,tg,hm,hf,hl⟩,le,some ch,false,[]⟩:Rq)) (by kernel_rfl) (by kernel_rfl) ?_ ?_
  · exact⟨Nat.zero_le _,rfl,hat.1,hat.2⟩
  rintro⟨i,⟨ln2,p2,⟨m2,t2,hm2,hf2,hl2⟩,le2,ck2,own2,out2⟩⟩ ⟨h1,h2,h3,h4⟩ A hA
  simp only at hA h1 h2 h3 h4
  have hrn:i<b.length→rqN _:=fun h=>⟨n+i,by omega,h3⟩
  have hgo:i<b.length→_:=fun h=>hA (i+1,rqF ⟨ln2,p2,⟨m2,t2,hm2,hf2,hl2⟩,le2,ck2,own2,out2⟩ (b.getD i 0)) ⟨by simp only;omega,by simp only;rw [zdw _ _ h,← h2],by simp only;exact zkS h3 _,by simp only;have:=zaB ⟨ln2,p2,⟨m2,t2,hm2,hf2,hl2⟩,le2,ck2,own2,out2⟩ (b.getD i 0);simp only at this;omega⟩ (by simp only;omega)
  have hend: ¬ i<b.length→_:=fun h=>h2.trans (by rw [List.take_of_length_le (by omega)])
  rcases ck2 with _|ch2<;>rcases own2 with _|_
  · have h0:=h1
    refine orcL ?_;go_invoke;refine orcS (by kernel_rfl) ?_
    simp only [zi,Nat.reduceAdd]
    subst hI
    simp only [nrmA,nrmB,nrlB,reduceCtorEq,HO.abs.injEq,Gh.rq.injEq,Rq.mk.injEq]
    by_cases hi:i<b.length
    · have hg:=hgo hi
      have hn:=hrn hi
      (repeat' (first|refine And.intro ?_ ?_|intro _))<;>first|omega|exact True.intro|exact False.elim ‹False›|skip
      all_goals first|omega|exact hg|exact hn|contradiction|(have:=(b.getD i 0).toNat_lt;omega)|trace_state
    · have hg:=hend hi
      rw [← hg]
      have hon:=h3.on
      simp only at hon
      (repeat' (first|refine And.intro ?_ ?_|intro _))<;>first|omega|exact True.intro|exact False.elim ‹False›|skip
      all_goals first|omega|rfl|contradiction|exact⟨by omega,by omega⟩|trace_state
  · have h0:=h1
    refine orcL ?_;go_invoke;refine orcS (by kernel_rfl) ?_
    simp only [zi,Nat.reduceAdd]
    subst hI
    simp only [nrmA,nrmB,nrlB,reduceCtorEq,HO.abs.injEq,Gh.rq.injEq,Rq.mk.injEq]
    by_cases hi:i<b.length
    · have hg:=hgo hi
      have hn:=hrn hi
      (repeat' (first|refine And.intro ?_ ?_|intro _))<;>first|omega|exact True.intro|exact False.elim ‹False›|skip
      all_goals first|omega|exact hg|exact hn|contradiction|(have:=(b.getD i 0).toNat_lt;omega)|trace_state
    · have hg:=hend hi
      rw [← hg]
      have hon:=h3.on
      simp only at hon
      (repeat' (first|refine And.intro ?_ ?_|intro _))<;>first|omega|exact True.intro|exact False.elim ‹False›|skip
      all_goals first|omega|rfl|contradiction|exact⟨by omega,by omega⟩|trace_state
  · have h0:=h1
    refine orcL ?_;go_invoke;refine orcS (by kernel_rfl) ?_
    simp only [zi,Nat.reduceAdd]
    subst hI
    simp only [nrmA,nrmB,nrlB,reduceCtorEq,HO.abs.injEq,Gh.rq.injEq,Rq.mk.injEq]
    by_cases hi:i<b.length
    · have hg:=hgo hi
      have hn:=hrn hi
      (repeat' (first|refine And.intro ?_ ?_|intro _))<;>first|omega|exact True.intro|exact False.elim ‹False›|skip
      all_goals first|omega|exact hg|exact hn|contradiction|(have:=(b.getD i 0).toNat_lt;omega)|trace_state
    · have hg:=hend hi
      rw [← hg]
      have hon:=h3.on
      simp only at hon
      (repeat' (first|refine And.intro ?_ ?_|intro _))<;>first|omega|exact True.intro|exact False.elim ‹False›|skip
      all_goals first|omega|rfl|contradiction|exact⟨by omega,by omega⟩|trace_state
  · have h0:=h1
    refine orcL ?_;go_invoke;refine orcS (by kernel_rfl) ?_
    simp only [zi,Nat.reduceAdd]
    subst hI
    simp only [nrmA,nrmB,nrlB,reduceCtorEq,HO.abs.injEq,Gh.rq.injEq,Rq.mk.injEq]
    by_cases hi:i<b.length
    · have hg:=hgo hi
      have hn:=hrn hi
      (repeat' (first|refine And.intro ?_ ?_|intro _))<;>first|omega|exact True.intro|exact False.elim ‹False›|skip
      all_goals first|omega|exact hg|exact hn|contradiction|(have:=(b.getD i 0).toNat_lt;omega)|trace_state
    · have hg:=hend hi
      rw [← hg]
      have hon:=h3.on
      simp only at hon
      (repeat' (first|refine And.intro ?_ ?_|intro _))<;>first|omega|exact True.intro|exact False.elim ‹False›|skip
      all_goals first|omega|rfl|contradiction|exact⟨by omega,by omega⟩|trace_state
theorem zsZ (q:Rq) (b:Str) (hneed:rqN0 q b):Spc Tryz.prog 26 [.v (.one (.ptr 0 0)),.v (.one (.p (.list .byte b)))] [.abs (.rq q)] (.ret (.v (.one (.row 1)))) [.abs (.rq ((zB q b))),.row .evt 53 ((zZ (zB q b).out))]:=by
  obtain⟨ln,p,⟨m,tg,hm,hf,hl⟩,le,ck,own,out⟩:=q
  cases ck with
  | none=>cases own with
    |true=>exact zmS ln p m tg hm hf hl le out b hneed
    |false=>exact zmT ln p m tg hm hf hl le out b hneed
  | some ch=>cases own with
    |true=>exact zmQ ln p m tg hm hf hl le ch out b hneed
    |false=>exact zmR ln p m tg hm hf hl le ch out b hneed
def WY (I:Alg) (args:List D) (hp:List HO):Option CT:=match args,hp with
  |[.v (.one (.ptr 0 0)),.v (.one (.p (.list .byte b)))],[.abs (.rq q)]=>(fun(q:Rq) (b:Str)=>(some (.one ⟨I.hid (rqN0 q b),(.ret (.v (.one (.row 1)))),[.abs (.rq (I.hid ((zB q b)))),.row .evt 53 (I.hid ((zZ (zB q b).out)))]⟩):Option CT)) q b
  |_,_=>none
theorem zeZ:zx Tryz.prog 26 (WY alg):=by
  intro args hp r h
  unfold WY at h
  split at h
  · cases h;exact fun hn=>zsZ _ _ hn
  · cases h
def xQ:Know Tryz.prog:=⟨26,WY,zeZ⟩
def xP:Know Tryz.prog:=⟨26,fun I=>zy I (WY I),zf zeZ⟩
end Go.Proofs.YtmkcejdibmilmaaGreatDoor
namespace Go.Proofs.YtmkcejdibmilmaaGreatDoor
open Go Go.Sep Go.Ab
set_option maxRecDepth 100000
def EvO (l:List Evt):Prop:=∀ e ∈ l,FsOk e.head.fields
theorem TD {a b:List Evt} (h:EvO a) (k:EvO b):EvO (a++b):=fun e m=>(List.mem_append.1 m).elim (h e) (k e)
theorem QJ:FsOk []:=⟨by decide,fun f h=>by cases h⟩
theorem zbo {e:Evt} (h:FsOk e.head.fields):EvO [e]:=fun x m=>by rw [List.mem_singleton.1 m];exact h
theorem zoG {o:List Evt} {e:Evt} (h:EvO (o++[e])):EvO (uV o e):=by
  rcases List.eq_nil_or_concat o with rfl|⟨z,x,rfl⟩
  · exact h
  · rw [List.concat_eq_append] at h ⊢
    rw [xW]
    split
    · exact TD (fun y m=>h y (by simp [m])) (zbo QJ)
    · exact h
theorem zj9: ∀ (l o:List Evt),EvO (o++l)→EvO (l.foldl uV o)
  |[],o,h=>by rw [List.append_nil] at h;exact h
  | e::l,o,h=>by
    rw [List.foldl_cons]
    refine zj9 l _ ?_
    rw [show o++e::l=(o++[e])++l by simp] at h
    exact TD (zoG fun y m=>h y (List.mem_append_left _ m)) (fun y m=>h y (List.mem_append_right _ m))
theorem zqg {q:Rq} (h:EvO q.out) (k:FsOk q.h.fields):EvO (yc q).1.out:=by
  unfold yc tZ
  repeat' split
  all_goals first
    |exact h
    |exact TD (TD h (zbo k)) (zbo QJ)
    |exact TD h (zbo k)
theorem zp9 {q:Rq} (h:EvO q.out) (k:FsOk q.h.fields) (s:Str):EvO (zL q s).1.out:=by
  have hd:=zqg h k
  unfold zL
  repeat' split
  all_goals first|exact hd|exact h
theorem zw5 {q:Rq} (h:EvO q.out) (k:FsOk q.h.fields) (c:UInt8):EvO (rqF q c).out:=by
  have hl:=zp9 (q:= { q with ln:=(lnF q.ln c).1}) h k (lnF q.ln c).2.1
  have h1: ∀ (o:List Evt) (e:Evt),EvO o→e.head=hd0→EvO (o++[e]):=fun o e a b=>TD a (zbo (by rw [b];exact QJ))
  have hd:EvO (if(chF (ckOf q) c).2.1≠[] then q.out++[evB (chF (ckOf q) c).2.1] else q.out):=by
    split
    · exact h1 _ _ h rfl
    · exact h
  unfold rqF
  split
  · split
    · exact h1 _ _ (h1 _ _ h rfl) rfl
    · exact h1 _ _ h rfl
  split
  · split
    · exact h1 _ _ h rfl
    split
    · exact h1 _ _ hd rfl
    · exact hd
  split
  · split
    · exact h1 _ _ h rfl
    split
    · split
      · exact h1 _ _ hl rfl
      · exact hl
    · exact h
  · exact h
theorem zmJ: ∀ (b:Str) (q:Rq) (i:Nat),RqI q i→i+b.length≤1000000→EvO q.out→EvO (vF q b).out
  |[],q,i,_,_,h=>h
  | c::b,q,i,hi,hb,h=>by
    rw [List.length_cons] at hb
    exact zmJ b _ (i+1) (zkS hi c) (by omega) (zw5 h ⟨by have:=hi.fl;omega,fun f m=>by have:=hi.ff f m;omega⟩ c)
end Go.Proofs.YtmkcejdibmilmaaGreatDoor
namespace Go.Proofs.YtmkcejdibmilmaaGreatDoor
open Go Go.Sep Go.Ab
set_option maxRecDepth 100000
theorem zg5: ∀ (b:Str) (q:Rq) (i:Nat),RqI q i→RqI (vF q b) (i+b.length)
  |[],q,i,h=>h
  | c::b,q,i,h=>by
    have:=zg5 b _ _ (zkS h c)
    rw [List.length_cons,show i+(b.length+1)=i+1+b.length by omega];exact this
theorem zeW: ∀ (b:Str) (q:Rq),zI (vF q b).out≤zI q.out+b.length
  |[],q=>Nat.le_refl _
  | c::b,q=>by
    have h1:=zeW b (rqF q c)
    have h2:=zaB q c
    rw [List.length_cons]
    have:vF q (c::b)=vF (rqF q c) b:=rfl
    rw [this];omega
theorem zg6 {p q:Rq} (h:uf p=uf q) (b:Str):zB p b=zB q b:=by
  show vF (uf p) b=vF (uf q) b
  rw [h]
theorem zeD {L:List Str} {i:Nat} (h:i<L.length):(L.take (i+1)).flatten=(L.take i).flatten++L.getD i []:=by
  rw [List.take_succ_eq_append_getElem h,List.flatten_append,show L.getD i []=L[i] by simp [h]];simp
theorem Ym (L:List Str) (i:Nat):(L.take i).flatten.length≤L.flatten.length:=by
  have h:L.flatten=(L.take i).flatten++(L.drop i).flatten:=by rw [← List.flatten_append,List.take_append_drop]
  rw [h,List.length_append];omega
theorem zo3 {p q:Rq} (h:uf p=uf q):wF p=wF q∧p.pos=q.pos:=by
  have h1:(uf p).pos=(uf q).pos:=by rw [h]
  have h2:(uf p).ln=(uf q).ln:=by rw [h]
  have h1:p.pos=q.pos:=h1
  have h2:p.ln=q.ln:=h2
  unfold wF
  rw [h1,h2]
  exact⟨rfl,rfl⟩
end Go.Proofs.YtmkcejdibmilmaaGreatDoor
namespace Go.Proofs.YtmkcejdibmilmaaGreatDoor
open Go Go.Sep Go.Ab
set_option maxRecDepth 100000
end Go.Proofs.YtmkcejdibmilmaaGreatDoor
namespace Go.Proofs.YtmkcejdibmilmaaGreatDoor
open Go Go.Sep Go.Ab
set_option maxRecDepth 100000
end Go.Proofs.YtmkcejdibmilmaaGreatDoor
namespace Go.Proofs.YtmkcejdibmilmaaGreatDoor
open Go Go.Sep Go.Ab
set_option maxRecDepth 100000
end Go.Proofs.YtmkcejdibmilmaaGreatDoor
namespace Go.Proofs.YtmkcejdibmilmaaGreatDoor
open Go Go.Sep Go.Ab
def SOk (q:Sto) (m:Int):Prop:=zF q.l q.n∧q.b.length≤100000∧q.n≤m∧0≤q.s∧q.s≤q.b.length
theorem vZ {q:Sto} {m m':Int} (h:SOk q m) (k:m≤m'):SOk q m':=⟨h.1,h.2.1,by have:=h.2.2.1;omega,h.2.2.2⟩
theorem zss (l:List Upl) (n:Int) (b:Str) (e:Ent):b.length≤(wrtB l n b e).length:=by unfold wrtB;split<;>simp
theorem zeK {q:Sto} {m:Int} (h:SOk q m) (e:Ent):SOk (wsS q e) (m+1):=by
  obtain⟨h1,h2,h3,h4,h5⟩:=h
  have:=zr7 q e
  have hb:=zss q.l q.n q.b e
  exact⟨zbO h1 _ _,YQ _ h2,by omega,h4,by show q.s≤((wrtB q.l q.n q.b e).length:Int);omega⟩
theorem UU {q:Sto} {m:Int} (h:SOk q m) {e:Ent} (he:e.kind≠1):SOk (wsS q e) m:=by
  have h1:=zeK h e
  have:(wsS q e).n=q.n:=Zc he
  exact⟨h1.1,h1.2.1,by rw [this];exact h.2.2.1,h1.2.2.2⟩
theorem zbZ {q:Sto} {m:Int} (h:SOk q m):SOk (syS q) m:=⟨h.1,h.2.1,h.2.2.1,Int.natCast_nonneg _,Int.le_refl _⟩
theorem ziF {m:Int} {c:Prop} [Decidable c] {a b:TA} (ha:SOk a.q m) (hb:SOk b.q m):SOk (if c then a else b).q m:=by split<;>assumption
theorem zmj {q:Sto} {k:Int} (h:SOk q k) (m t:Str) (f:List Fld) (body:Str):SOk (zQ q m t f body).q (k+1):=by
  have h0:SOk q (k+1):=vZ h (by omega)
  have hc:SOk (y8 q f).q (k+1):=by
    unfold y8
    repeat' with_reducible refine ziF ?_ ?_
    all_goals first|exact h0|exact zbZ (zeK h _)
  have hd: ∀ u,SOk (zbK q u).q (k+1):=fun u=>by
    unfold zbK
    exact ziF h0 (zbZ (UU h0 (by simp)))
  have hp: ∀ u,SOk (wZ q u f body).q (k+1):=fun u=>by
    unfold wZ
    have h1:SOk (wsS q (apE u.id body)) (k+1):=UU h0 (by simp [apE])
    have h2: ∀ z,SOk (wsS (wsS q (apE u.id body)) ⟨3,u.id,z,[]⟩) (k+1):=fun z=>UU h1 (by simp)
    repeat' with_reducible refine ziF ?_ ?_
    all_goals first|exact h0|exact h1|exact zbZ h1|exact zbZ (h2 _)|exact h2 _
  unfold zQ
  repeat' with_reducible refine ziF ?_ ?_
  all_goals first|exact h0|exact hc|exact hd _|exact hp _
theorem ziG {q:Sto} {m:Int} (h:SOk q m) (p:Prt):SOk (sF q p) (m+1):=by
  have hap: ∀ {x:Sto} {k:Int},SOk x k→SOk (apQ x (q.n+1) 0 p.bytes) k:=fun h=>by
    unfold apQ
    split
    · exact h
    · exact UU h (show(2:Int)≠1 by decide)
  unfold sF
  split
  · exact zeK h _
  · split
    · exact UU (hap (zeK h _)) (show(4:Int)≠1 by decide)
    · exact hap (zeK h _)
theorem zeL: ∀ (ids:List Int) {q:Sto} {m:Int},SOk q m→SOk (Un q ids) m
  |[],_,_,h=>h
  |k::r,_,_,h=>zeL r (UU h (show(4:Int)≠1 by decide))
theorem zav: ∀ (ps:List Prt) {q:Sto} {m:Int} (ids:List Int) (t:Str),SOk q m→SOk (qm q ids t ps).q (m+ps.length)
  |[],q,m,ids,t,h=>vZ (zbZ h) (by simp)
  | p ::r,q,m,ids,t,h=>by
    unfold qm
    split
    · exact vZ (zav r ids t h) (by simp;omega)
    · split
      · exact vZ (zbZ (zeL ids (ziG h p))) (by simp;omega)
      · exact vZ (zav r _ _ (ziG h p)) (by simp;omega)
theorem zsM {q:Sto} {k:Int} (h:SOk q k) (m t:Str) (f:List Fld) (body:Str):SOk (ansG q m t f body).q (k+12):=by
  have h0:SOk q (k+12):=vZ h (by omega)
  have hp:=(Yz f body).1
  unfold ansG
  split
  · exact vZ (zmj h m t f body) (by omega)
  · split
    · exact h0
    · split
      · exact h0
      · unfold Zv
        split
        · exact h0
        · split
          · exact h0
          · exact vZ (zav _ _ _ h) (by omega)
def k3 (e:Evt):Bool:=decide (e.kind=3)
def cnt3 (l:List Evt):Nat:=(l.filter k3).length
theorem XJ (a b:List Evt):cnt3 (a++b)=cnt3 a+cnt3 b:=by unfold cnt3;simp
theorem XI (x:GE) (a b:List Evt):evsG x (a++b)=evsG (evsG x a) b:=List.foldl_append
def EOk (x:GE) (m:Int) (k:Nat):Prop:=SOk x.q m∧FsOk x.h.fields∧x.b.length≤k
theorem zsm {x:GE} {m:Int} {k:Nat} (h:EOk x m k) {e:Evt} (he:FsOk e.head.fields):EOk (evG x e) (m+12 * cnt3 [e]) (k+e.bytes.length):=by
  obtain⟨h1,h2,h3⟩:=h
  have hm:SOk x.q (m+12 * cnt3 [e]):=vZ h1 (by omega)
  unfold evG
  split
  · exact⟨hm,he,Nat.zero_le _⟩
  · split
    · exact⟨hm,h2,by simp only [List.length_append];omega⟩
    · split
      · rename_i hk
        have:cnt3 [e]=1:=by simp [cnt3,k3,hk]
        rw [this]
        exact⟨zsM h1 _ _ _ _,h2,by simp only;omega⟩
      · split
        · exact⟨hm,h2,by simp only;omega⟩
        · exact⟨hm,h2,by omega⟩
theorem zhK: ∀ (l:List Evt) {x:GE} {m:Int} {k:Nat},EOk x m k→EvO l→EOk (evsG x l) (m+12 * cnt3 l) (k+zI l)
  |[],x,m,k,h,_=>by show EOk x (m+12 * ((0:Nat):Int)) (k+0);simpa using h
  | e::l,x,m,k,h,ho=>by
    have h1:=zhK l (zsm h (ho e List.mem_cons_self)) fun y hy=>ho y (List.mem_cons_of_mem _ hy)
    have e1:cnt3 (e::l)=cnt3 [e]+cnt3 l:=XJ [e] l
    have e2:zI (e::l)=e.bytes.length+zI l:=by simp [zI]
    rw [e1,e2,show m+12 * ((cnt3 [e]+cnt3 l:Nat):Int)=m+12 * (cnt3 [e]:Int)+12 * (cnt3 l:Int) by omega,← Nat.add_assoc]
    exact h1
theorem zqK (o:List Evt) (e:Evt):(uV o e).filter k3=o.filter k3++[e].filter k3:=by
  rcases List.eq_nil_or_concat o with rfl|⟨z,x,rfl⟩
  · rfl
  · rw [List.concat_eq_append,xW]
    split
    · rename_i h
      simp [k3,h.1,h.2,evB]
    · rw [List.filter_append]
theorem zjB: ∀ (l o:List Evt),(l.foldl uV o).filter k3=o.filter k3++l.filter k3
  |[],o=>by simp
  |e::l,o=>by rw [List.foldl_cons,zjB l,zqK,List.append_assoc,← List.filter_append];rfl
theorem zoU (l:List Evt):cnt3 (zZ l)=cnt3 l:=congrArg List.length (zjB l [])
theorem zeg (e:Evt) (h:e.kind≠3):cnt3 [e]=0:=by simp [cnt3,k3,h]
theorem zw6 (q:Rq) (c:UInt8):cnt3 (rqF q c).out≤cnt3 q.out+1:=by
  have hb: ∀ (o:List Evt) (s:Str),cnt3 (o++[evB s])=cnt3 o:=fun o s=>by rw [XJ,zeg _ (show(2:Int)≠3 by decide)];rfl
  have hh: ∀ (o:List Evt) (s:Hd),cnt3 (o++[evH s])=cnt3 o:=fun o s=>by rw [XJ,zeg _ (show(1:Int)≠3 by decide)];rfl
  have hf: ∀ (o:List Evt) (s:Int),cnt3 (o++[evF s])=cnt3 o:=fun o s=>by rw [XJ,zeg _ (show(4:Int)≠3 by decide)];rfl
  have he: ∀ (o:List Evt),cnt3 (o++[evE])=cnt3 o+1:=fun o=>by rw [XJ];rfl
  have hd: ∀ q:Rq,cnt3 (yc q).1.out≤cnt3 q.out+1:=fun q=>by
    unfold yc tZ
    repeat' split
    all_goals first|omega|(simp only [hb,hh,hf,he];omega)
  have hl: ∀ (q:Rq) (s:Str),cnt3 (zL q s).1.out≤cnt3 q.out+1:=fun q s=>by
    have:=hd q
    unfold zL
    repeat' split
    all_goals first|exact this|(simp only;omega)
  have hL:=hl { q with ln:=(lnF q.ln c).1} (lnF q.ln c).2.1
  simp only at hL
  unfold rqF tZ vG
  repeat' split
  all_goals first|omega|(simp only [hb,hh,hf,he];omega)
theorem zmK: ∀ (b:Str) (q:Rq),cnt3 (vF q b).out≤cnt3 q.out+b.length
  |[],q=>Nat.le_refl _
  | c::b,q=>by
    have h1:=zmK b (rqF q c)
    have h2:=zw6 q c
    have:vF q (c::b)=vF (rqF q c) b:=rfl
    rw [this,List.length_cons];omega
def mayW (w:Bool):List Evt→Prop
  |[]=>True
  |e::l=>(e.kind=2→w=true)∧mayW (if e.kind=1 then true else if e.kind=3 then false else w) l
def behW (w:Bool) (l:List Evt):Bool:=l.foldl (fun w e=>if e.kind=1 then true else if e.kind=3 then false else w) w
theorem UH (w:Bool) (a b:List Evt):behW w (a++b)=behW (behW w a) b:=List.foldl_append
theorem qI: ∀ (a b:List Evt) (w:Bool),mayW w (a++b)↔mayW w a∧mayW (behW w a) b
  |[],b,w=>by simp [mayW,behW]
  | e::a,b,w=>by
    simp only [List.cons_append,mayW,qI a b]
    exact and_assoc.symm
theorem zsk (x:GE) (l:List Evt):(evsG x l).w=behW x.w l:=by
  induction l generalizing x with
  |nil=>rfl
  | cons e l ih=>
    show(evsG (evG x e) l).w=_
    rw [ih]
    have:(evG x e).w=(if e.kind=1 then true else if e.kind=3 then false else x.w):=by
      unfold evG
      repeat' split
      all_goals first|rfl|(exfalso;omega)|simp_all
    rw [this];rfl
def MW (w:Bool) (q:Rq):Prop:=mayW w q.out∧(q.pos=2∨q.pos=3→behW w q.out=true)
theorem zjq {w:Bool} {o:List Evt} (h:mayW w o) {e:Evt} (he:e.kind≠2):mayW w (o++[e]):=(qI _ _ _).2 ⟨h,fun k=>absurd k he,True.intro⟩
theorem znG {w:Bool} {o:List Evt} (h:mayW w o) (k:behW w o=true) (s:Str):mayW w (o++[evB s])∧behW w (o++[evB s])=true:=⟨(qI _ _ _).2 ⟨h,fun _=>k,True.intro⟩,by rw [UH,k];rfl⟩
theorem zkr (w:Bool) (o:List Evt) (h:Hd):behW w (o++[evH h])=true:=by rw [UH];rfl
theorem ztt {w:Bool} {q:Rq} (h:mayW w q.out) (hp:q.pos=0∨q.pos=1):MW w (yc q).1:=by
  have hh: ∀ d,mayW w (q.out++[evH d]):=fun d=>zjq h (show(1:Int)≠2 by decide)
  have h0: ¬ (q.pos=2∨q.pos=3):=by omega
  unfold yc tZ
  repeat' split
  · exact⟨h,fun k=>absurd k h0⟩
  · exact⟨h,fun k=>absurd k h0⟩
  · exact⟨zjq (hh _) (show(3:Int)≠2 by decide),fun k=>absurd (show(0:Int)=2∨(0:Int)=3 from k) (by decide)⟩
  · exact⟨hh _,fun _=>zkr _ _ _⟩
  · exact⟨hh _,fun _=>zkr _ _ _⟩
theorem zts {w:Bool} {q:Rq} (h:mayW w q.out) (hp:q.pos=0∨q.pos=1) (s:Str):MW w (zL q s).1:=by
  have h0: ¬ (q.pos=2∨q.pos=3):=by omega
  unfold zL
  split
  · split
    · exact⟨h,fun k=>absurd k h0⟩
    · split
      · exact⟨h,fun k=>absurd (show(1:Int)=2∨(1:Int)=3 from k) (by decide)⟩
      · split
        · exact⟨h,fun k=>absurd k h0⟩
        · exact⟨h,fun k=>absurd k h0⟩
  · split
    · exact ztt h hp
    · split
      · exact⟨h,fun k=>absurd k h0⟩
      · exact⟨h,fun k=>absurd k h0⟩
theorem zhg {w:Bool} {q:Rq} (h:mayW w q.out) (c:Int):MW w (vG q c):=⟨zjq h (show(4:Int)≠2 by decide),fun k=>absurd (show(4:Int)=2∨(4:Int)=3 from k) (by decide)⟩
theorem zr3 {w:Bool} {q:Rq} (h:mayW w q.out):MW w (tZ q):=⟨zjq h (show(3:Int)≠2 by decide),fun k=>absurd (show(0:Int)=2∨(0:Int)=3 from k) (by decide)⟩
theorem mw_f {w:Bool} {q:Rq} (h:MW w q) (c:UInt8):MW w (rqF q c):=by
  unfold rqF
  split
  · rename_i hp
    have hb:=znG h.1 (h.2 (.inl hp)) [c]
    split
    · exact zr3 hb.1
    · exact⟨hb.1,fun _=>hb.2⟩
  · split
    · rename_i hp
      have hk:=h.2 (.inr hp)
      have hb:=znG h.1 hk (chF (ckOf q) c).2.1
      have hd:mayW w (if(chF (ckOf q) c).2.1≠[] then q.out++[evB (chF (ckOf q) c).2.1] else q.out)∧behW w (if(chF (ckOf q) c).2.1≠[] then q.out++[evB (chF (ckOf q) c).2.1] else q.out)=true:=by
        split
        · exact hb
        · exact⟨h.1,hk⟩
      split
      · exact zhg h.1 _
      · split
        · exact zr3 hd.1
        · exact⟨hd.1,fun _=>hd.2⟩
    · split
      · rename_i hp
        split
        · exact zhg h.1 _
        · split
          · have hl:=zts (q:= { q with ln:=(lnF q.ln c).1}) h.1 hp (lnF q.ln c).2.1
            split
            · exact zhg hl.1 _
            · exact hl
          · exact h
      · exact h
theorem zr2 {w:Bool}: ∀ (b:Str) {q:Rq},MW w q→MW w (vF q b)
  |[],_,h=>h
  |c::b,_,h=>zr2 b (mw_f h c)
theorem zqD {w:Bool} {o:List Evt} {e:Evt} (h:mayW w (o++[e])):mayW w (uV o e)∧behW w (uV o e)=behW w (o++[e]):=by
  rcases List.eq_nil_or_concat o with rfl|⟨z,x,rfl⟩
  · exact⟨h,rfl⟩
  · rw [List.concat_eq_append] at h ⊢
    rw [xW]
    split
    · rename_i hk
      have h1:=(qI _ _ _).1 h
      have h2:=(qI _ _ _).1 h1.1
      refine⟨(qI _ _ _).2 ⟨h2.1,fun _=>h2.2.1 hk.2,True.intro⟩,?_⟩
      simp only [UH]
      simp [behW,evB,hk.1,hk.2]
    · exact⟨h,rfl⟩
theorem zjr {w:Bool}: ∀ (l o:List Evt),mayW w (o++l)→mayW w (l.foldl uV o)∧behW w (l.foldl uV o)=behW w (o++l)
  |[],o,h=>by rw [List.append_nil] at h ⊢;exact⟨h,rfl⟩
  | e::l,o,h=>by
    have e1:o++e::l=(o++[e])++l:=by simp
    rw [e1] at h ⊢
    have h1:=(qI _ _ _).1 h
    have h2:=zqD h1.1
    have h3:=zjr l (uV o e) ((qI _ _ _).2 ⟨h2.1,by rw [h2.2];exact h1.2⟩)
    exact⟨h3.1,by rw [List.foldl_cons,h3.2,UH,h2.2,← UH]⟩
theorem znJ: ∀ {l:List Evt} {w:Bool} (_:mayW w l) {i:Nat} (hi:i<l.length),l[i].kind=2→behW w (l.take i)=true
  |e::l,w,h,0,_,k=>h.1 k
  |e::l,w,h,i+1,hi,k=>znJ (l:=l) h.2 (by simpa using hi) k
def CnI (c:Cn) (k:Nat):Prop:=RqI { c.q with out:=[]} k∧FsOk c.h.fields∧c.body.length≤k∧(c.q.pos=2∨c.q.pos=3→c.own=true)
theorem zgC:CnI cn0 0:=⟨zw4,QJ,Nat.le_refl _,fun _=>rfl⟩
theorem zoq {c:Cn} {k:Nat} (h:CnI c k) {b:Str} (hb:k+b.length≤1000000):EvO (zZ (zB c.q b).out)∧zI (zZ (zB c.q b).out)≤b.length∧cnt3 (zZ (zB c.q b).out)≤b.length∧(zZ (zB c.q b).out).length≤4 * (k+b.length):=by
  have h1:EvO (zB c.q b).out:=zmJ b _ k h.1 hb (fun e m=>by cases m)
  have h2:zI (zB c.q b).out≤0+b.length:=zeW b _
  have h3:=zaV (zB c.q b).out
  have h4:cnt3 (zB c.q b).out≤0+b.length:=zmK b _
  have h5:(zB c.q b).out.length≤4 * (k+b.length):=(zg5 b _ k h.1).on
  have h6:=zaW (zB c.q b).out
  exact⟨zj9 _ [] h1,by omega,by rw [zoU];omega,by omega⟩
theorem zsg {c:Cn} {k:Nat} (h:CnI c k) (b:Str):mayW c.own (zZ (zB c.q b).out)∧((zB c.q b).pos=2∨(zB c.q b).pos=3→behW c.own (zZ (zB c.q b).out)=true):=by
  have h1:MW c.own (zB c.q b):=zr2 b ⟨True.intro,h.2.2.2⟩
  have h2:=zjr (zB c.q b).out [] h1.1
  exact⟨h2.1,fun k=>h2.2.trans (h1.2 k)⟩
theorem zwh {q:Sto} {m:Int} {c:Cn} {k:Nat} (hq:SOk q m) (h:CnI c k) {b:Str} (hb:k+b.length≤1000000):SOk (fedE q c b).q (m+12 * b.length)∧CnI (fedC q c b) (k+b.length):=by
  obtain⟨h1,h2,h3,h4⟩:=zoq h hb
  have h5:=zhK _ (x:=⟨q,c.h,c.body,c.live,c.own,[]⟩) ⟨hq,h.2.1,h.2.2.1⟩ h1
  refine⟨vZ h5.1 (by omega),zmP (zg5 b _ k h.1) (by simp),h5.2.1,?_,fun kp=> ?_⟩
  · have:=h5.2.2
    show(fedE q c b).b.length≤_
    unfold fedE;omega
  · exact(zsk _ _).trans ((zsg h b).2 kp)
end Go.Proofs.YtmkcejdibmilmaaGreatDoor
namespace Go.Proofs.YtmkcejdibmilmaaGreatDoor
open Go Go.Sep Go.Ab
set_option maxRecDepth 100000
theorem zt0 (st:Int) (fs:List Fld) (b:Str) (hneed:(fs.length≤100∧∀ f ∈ fs,f.name.length≤1000000∧f.value.length≤1000000)∧b.length≤9000):Spc Tryz.prog 48 [.v (.agg [(.p (.int .i64 st)),(.p (.list .fld fs)),(.p (.list .byte b))])] [] (.ret (.v (.one (.p (.list .byte ((writeT st fs b))))))) []:=by
  refine spcG zh mixed Tryz.func48 (by kernel_rfl) { cfgG with rl:=[0],keep:=some [0,1,2,3]} [znk,znj] (by kernel_rfl) ?_
  intro I X hI hX
  refine orcL ?_;go_invoke;refine orcS (by kernel_rfl) ?_
  simp only [zi,Nat.reduceAdd]
  subst hI
  simp only [nrmA,nrmB,nrlB,reduceCtorEq,V0.agg.injEq]
  exact hneed
def VZ (I:Alg) (args:List D) (hp:List HO):Option CT:=match args,hp with
  |[.v (.agg [(.p (.int .i64 st)),(.p (.list .fld fs)),(.p (.list .byte b))])],[]=>(fun(st:Int) (fs:List Fld) (b:Str)=>(some (.one ⟨I.hid ((fs.length≤100∧∀ f ∈ fs,f.name.length≤1000000∧f.value.length≤1000000)∧b.length≤9000),(.ret (.v (.one (.p (.list .byte (I.hid ((writeT st fs b)))))))),[]⟩):Option CT)) st fs b
  |_,_=>none
theorem zfW:zx Tryz.prog 48 (VZ alg):=by
  intro args hp r h
  unfold VZ at h
  split at h
  · cases h;exact fun hn=>zt0 _ _ _ hn
  · cases h
def VY:Know Tryz.prog:=⟨48,VZ,zfW⟩
def VX:Know Tryz.prog:=⟨48,fun I=>zy I (VZ I),zf zfW⟩
theorem zv5 (t:Str):Spc Tryz.prog 88 [.v (.one (.p (.str t)))] [] (.ret (.v (.one (.p (.bool ((zbF t))))))) []:=by
  generalize hr:zbF t=r
  unfold zbF at hr
  refine spcG zh mixed Tryz.func88 (by kernel_rfl) { cfgT with keep:=some [0,2]} [xG,xE,zpE,zpD] (by kernel_rfl) ?_
  intro I X hI hX
  refine orcL ?_;go_invoke;refine orcS (by kernel_rfl) ?_
  simp only [zi,Nat.reduceAdd]
  subst hI
  rw [show([47,102,105,108,101,115]:Str)=ql from rfl]
  try rw [show([47,102,105,108,101,115,47]:Str)=yZ from rfl]
  simp only [nrmA,nrmB,nrlB,reduceCtorEq,V0.agg.injEq]
  by_cases h1:t=ql
  · rw [decide_eq_true h1,Bool.true_or] at hr
    subst hr
    simp only [nrmA,nrmB,nrlB,reduceCtorEq,h1]
    exact⟨fun _=>True.intro,fun h=>h.elim⟩
  · rw [decide_eq_false h1,Bool.false_or] at hr
    simp only [nrmA,nrmB,nrlB,reduceCtorEq,h1]
    exact⟨fun h=>h.elim,fun _=>by simpa using hr⟩
def QE (I:Alg) (args:List D) (hp:List HO):Option CT:=match args,hp with
  |[.v (.one (.p (.str t)))],[]=>(fun(t:Str)=>(some (.one ⟨I.hid (True),(.ret (.v (.one (.p (.bool (I.hid ((zbF t)))))))),[]⟩):Option CT)) t
  |_,_=>none
theorem zjJ:zx Tryz.prog 88 (QE alg):=by
  intro args hp r h
  unfold QE at h
  split at h
  · cases h;exact fun hn=>zv5 _
  · cases h
def zqT:Know Tryz.prog:=⟨88,QE,zjJ⟩
def zqS:Know Tryz.prog:=⟨88,fun I=>zy I (QE I),zf zjJ⟩
theorem zc1: ∀ (ps:List Prt) (q:Sto) (ids:List Int) (t:Str),(∀ p ∈ ps,p.file.length≤40)→(qm q ids t ps).r.body.length≤t.length+60 * ps.length
  |[],_,_,_,_=>Nat.le_add_right _ _
  | p :: r,q,ids,t,h=>by
    have h1:=fun q ids t=>zc1 r q ids t fun x hx=>h x (List.mem_cons_of_mem _ hx)
    have h2:=h p List.mem_cons_self
    have h3:=uD (q.n+1)
    unfold qm
    split
    · have:=h1 q ids t;simp only [List.length_cons];omega
    · split
      · simp [YP]
      · have:=h1 (sF q p) (ids++[q.n+1]) (zlZ t (q.n+1) p)
        have e:(zlZ t (q.n+1) p).length≤t.length+60:=by
          unfold zlZ
          simp only [List.length_append,List.length_cons,List.length_nil]
          omega
        simp only [List.length_cons];omega
def FF (l:List Fld):Prop:=∀ x ∈ l,x.name.length≤1000000∧x.value.length≤1000000
theorem zri {c:Prop} [Decidable c] {a b:TA} (ha:FF a.fs) (hb:FF b.fs):FF (if c then a else b).fs:=by split<;>assumption
theorem Zw:FF []:=fun x h=>by cases h
theorem uP {a b:Str} {l:List Fld} (h1:a.length≤1000000) (h2:b.length≤1000000) (h:FF l):FF (⟨a,b⟩::l):=fun y hy=>by
  rcases List.mem_cons.1 hy with rfl|hy
  · exact⟨h1,h2⟩
  · exact h y hy
theorem zec (n:Int):(decS n).length≤1000000:=by have:=uD n;omega
theorem zmq {q:Sto} (h:zF q.l q.n) (m t:Str) (f:List Fld) (body:Str):FF (zQ q m t f body).fs:=by
  have hc:FF (y8 q f).fs:=by
    unfold y8
    repeat' with_reducible refine zri ?_ ?_
    all_goals first
      |exact Zw
      |exact uP (by decide) (by have:=uD (q.n+1);simp only [List.length_append,yZ,List.length_cons,List.length_nil];omega) Zw
  have hd: ∀ u,FF (zbK q u).fs:=fun u=>by
    unfold zbK
    exact zri Zw Zw
  have hp: ∀ u,FF (wZ q u f body).fs:=fun u=>by
    unfold wZ
    repeat' with_reducible refine zri ?_ ?_
    all_goals first
      |exact Zw
      |exact uP (by decide) (zec _) Zw
  have ht: ∀ u:Upl,u.note.length≤1000000→FF (zan u):=fun u hu=>by
    unfold zan lenF
    refine uP (by decide) (zec _) ?_
    split
    · refine uP (by decide) (by decide) (uP (by decide) (by decide) ?_)
      split
      · exact Zw
      · exact uP (by decide) hu Zw
    · refine uP (by decide) (zec _) (uP (by decide) (by decide) ?_)
      split
      · exact Zw
      · exact uP (by decide) hu Zw
  have hg: ∀ id,(getU q.l id).note.length≤1000000:=fun id=>by
    unfold getU
    split
    · rename_i hk
      have:=(h.each _ (rM hk)).nl
      unfold xh at this
      exact Nat.le_trans this (by decide)
    · exact Nat.zero_le _
  unfold zQ
  repeat' with_reducible refine zri ?_ ?_
  all_goals first
    |exact Zw
    |exact hc
    |exact hd _
    |exact hp _
    |exact ht _ (hg _)
    |exact uP (by decide) (by decide) Zw
    |exact uP (by decide) (by decide) (uP (by decide) (zec _) (uP (by decide) (by decide) Zw))
def ROk (r:Rpl):Prop:=(r.fields.length≤100∧∀ f ∈ r.fields,f.name.length≤1000000∧f.value.length≤1000000)∧r.body.length≤9000
theorem zja (st:Int) (b:Str) (h:b.length≤9000):ROk ⟨st,[],b⟩:=⟨⟨Nat.zero_le _,fun f h=>by cases h⟩,h⟩
theorem zbw {q:Sto} (h:zF q.l q.n) {m t:Str} {f:List Fld} (hf:FOk f) (body:Str):ROk (ansG q m t f body).r:=by
  have h0: ∀ st,ROk (YP st):=fun st=>zja st [] (by decide)
  have hs:=Yz f body
  unfold ansG
  split
  · refine⟨⟨?_,fun x hx=> ?_⟩,Nat.zero_le _⟩
    · show(resT::(zQ q m t f body).fs).length≤100
      have:=zb1 q m t f body
      simp only [List.length_cons];omega
    · rcases List.mem_cons.1 (show x ∈ resT::(zQ q m t f body).fs from hx) with rfl|hx
      · exact⟨by decide,by decide⟩
      · exact zmq h m t f body x hx
  · split
    · exact h0 _
    · split
      · exact h0 _
      · unfold Zv
        split
        · exact h0 _
        · split
          · exact h0 _
          · have:=zc1 (sO f body).1 q [] [] hs.2.1
            refine⟨⟨by rw [Ug];decide,fun x hx=>by rw [Ug] at hx;cases hx⟩,?_⟩
            simp only [List.length_nil] at this
            omega
set_option maxHeartbeats 1000000 in
theorem zq0 (l:List Upl) (n:Int) (b:Str) (s:Int) (c0 c1 c2 c3:Cn) (m t:Str) (mi:Int) (f:List Fld) (le:Int) (body:Str) (hneed:FOk f∧zF l n∧n≤200000 - 20∧b.length≤100000∧body.length≤30000):Spc Tryz.prog 49 [.v (.one (.ptr 0 0)),.v (.agg [(.p (.str m)),(.p (.str t)),(.p (.int .i64 mi)),(.p (.list .fld f)),(.p (.int .i64 le))]),.v (.one (.p (.list .byte body)))] [.obj 57 [(.ptr 1 0),(.ptr 2 0),(.ptr 3 0),(.ptr 4 0),(.ptr 5 0)],.pack [.obj 41 [(.ptr 1 0),(.ptr 2 0)],.pack [.obj 88 [(.row 1),(.p (.int .i64 n))],.row .upl 86 l],.pack [.obj 118 [(.row 1),(.p (.int .i64 s))],.row .byte 5 b]],.abs (.cn c0),.abs (.cn c1),.abs (.cn c2),.abs (.cn c3)] (.ret (.v (.agg [(.p (.int .i64 ((ansG ⟨l,n,b,s⟩ m t f body).r.status))),(.p (.list .fld ((ansG ⟨l,n,b,s⟩ m t f body).r.fields))),(.p (.list .byte ((ansG ⟨l,n,b,s⟩ m t f body).r.body)))]))) [.obj 57 [(.ptr 1 0),(.ptr 2 0),(.ptr 3 0),(.ptr 4 0),(.ptr 5 0)],.pack [.obj 41 [(.ptr 1 0),(.ptr 2 0)],.pack [.obj 88 [(.row 1),(.p (.int .i64 ((ansG ⟨l,n,b,s⟩ m t f body).q.n)))],.row .upl 86 ((ansG ⟨l,n,b,s⟩ m t f body).q.l)],.pack [.obj 118 [(.row 1),(.p (.int .i64 ((ansG ⟨l,n,b,s⟩ m t f body).q.s)))],.row .byte 5 ((ansG ⟨l,n,b,s⟩ m t f body).q.b)]],.abs (.cn c0),.abs (.cn c1),.abs (.cn c2),.abs (.cn c3)]:=by
  obtain⟨hf,hs,hn,hb,hbo⟩:=hneed
  generalize hr:ansG ⟨l,n,b,s⟩ m t f body=r
  obtain⟨⟨st,fs,bd⟩,⟨l',n',b',s'⟩⟩:=r
  have hff:(Zv ⟨l,n,b,s⟩ f body).r.fields=[]:=by
    unfold Zv
    split
    · rfl
    · split
      · rfl
      · exact Ug _ _ _ _
  unfold ansG rplT YP at hr
  refine spcG zh mixed Tryz.func49 (by kernel_rfl) { cfgG with keep:=some [0,1,2,4,6]} [zbS,zbR,zqT,zqS,ul,uj,zqV,zqU] (by kernel_rfl) ?_
  intro I X hI hX
  refine orcL ?_;go_invoke;refine orcS (by kernel_rfl) ?_
  simp only [zi,Nat.reduceAdd]
  rw [show([47,102,111,114,109]:Str)=zv8 from rfl,show([80,79,83,84]:Str)=zno from rfl]
  have hh: ∀ {α:Type} (y:α),I.hid y=y:=fun y=>by subst hI;rfl
  simp only [hh]
  generalize zbF t=o at *
  generalize zQ ⟨l,n,b,s⟩ m t f body=x at *
  generalize Zv ⟨l,n,b,s⟩ f body=y at *
  obtain⟨x1,x2,⟨x3,x4,x5,x6⟩⟩:=x
  obtain⟨⟨y1,y2,y3⟩,⟨y4,y5,y6,y7⟩⟩:=y
  subst hI
  dsimp only at hff hr ⊢
  subst hff
  simp only [nrmA,nrmB,nrlB,reduceCtorEq,V0.agg.injEq,HO.pack.injEq,HO.obj.injEq]
  (repeat' (first|refine And.intro ?_ ?_|intro _))<;>first|omega|exact True.intro|exact False.elim ‹False›|skip
  all_goals first
    |omega
    |with_reducible assumption
    |exact Nat.zero_le _
    |exact hf.1
    |(exact(hf.2 _ ‹_›).1)
    |(exact(hf.2 _ ‹_›).2)
    |(((repeat(first|rewrite [if_pos (by first|omega|assumption|(simp only [*,or_self,or_true,true_or,or_false,false_or,not_true_eq_false,not_false_eq_true,Bool.false_eq_true,Bool.true_eq_false,and_self,and_true,true_and];done)|(simp only [*];omega)|(simp [*];done)|(simp [*];omega))] at hr|rewrite [if_neg (by first|omega|assumption|(simp only [*,or_self,or_true,true_or,or_false,false_or,not_true_eq_false,not_false_eq_true,Bool.false_eq_true,Bool.true_eq_false,and_self,and_true,true_and];done)|(simp only [*];omega)|(simp [*];done)|(simp [*];omega))] at hr)));simp only [GA.mk.injEq,Rpl.mk.injEq,Sto.mk.injEq] at hr;obtain⟨⟨rfl,rfl,rfl⟩,rfl,rfl,rfl,rfl⟩:=hr;rfl)
def Xz (I:Alg) (args:List D) (hp:List HO):Option CT:=match args,hp with
  |[.v (.one (.ptr 0 0)),.v (.agg [(.p (.str m)),(.p (.str t)),(.p (.int .i64 mi)),(.p (.list .fld f)),(.p (.int .i64 le))]),.v (.one (.p (.list .byte body)))],[.obj 57 [(.ptr 1 0),(.ptr 2 0),(.ptr 3 0),(.ptr 4 0),(.ptr 5 0)],.pack [.obj 41 [(.ptr 1 0),(.ptr 2 0)],.pack [.obj 88 [(.row 1),(.p (.int .i64 n))],.row .upl 86 l],.pack [.obj 118 [(.row 1),(.p (.int .i64 s))],.row .byte 5 b]],.abs (.cn c0),.abs (.cn c1),.abs (.cn c2),.abs (.cn c3)]=>(fun(l:List Upl) (n:Int) (b:Str) (s:Int) (c0 c1 c2 c3:Cn) (m t:Str) (mi:Int) (f:List Fld) (le:Int) (body:Str)=>(some (.one ⟨I.hid (FOk f∧zF l n∧n≤200000 - 20∧b.length≤100000∧body.length≤30000),(.ret (.v (.agg [(.p (.int .i64 (I.hid ((ansG ⟨l,n,b,s⟩ m t f body).r.status)))),(.p (.list .fld (I.hid ((ansG ⟨l,n,b,s⟩ m t f body).r.fields)))),(.p (.list .byte (I.hid ((ansG ⟨l,n,b,s⟩ m t f body).r.body))))]))),[.obj 57 [(.ptr 1 0),(.ptr 2 0),(.ptr 3 0),(.ptr 4 0),(.ptr 5 0)],.pack [.obj 41 [(.ptr 1 0),(.ptr 2 0)],.pack [.obj 88 [(.row 1),(.p (.int .i64 (I.hid ((ansG ⟨l,n,b,s⟩ m t f body).q.n))))],.row .upl 86 (I.hid ((ansG ⟨l,n,b,s⟩ m t f body).q.l))],.pack [.obj 118 [(.row 1),(.p (.int .i64 (I.hid ((ansG ⟨l,n,b,s⟩ m t f body).q.s))))],.row .byte 5 (I.hid ((ansG ⟨l,n,b,s⟩ m t f body).q.b))]],.abs (.cn c0),.abs (.cn c1),.abs (.cn c2),.abs (.cn c3)]⟩):Option CT)) l n b s c0 c1 c2 c3 m t mi f le body
  |_,_=>none
theorem zcI:zx Tryz.prog 49 (Xz alg):=by
  intro args hp r h
  unfold Xz at h
  split at h
  · cases h;exact fun hn=>zq0 _ _ _ _ _ _ _ _ _ _ _ _ _ _ hn
  · cases h
def Xy:Know Tryz.prog:=⟨49,Xz,zcI⟩
def Xx:Know Tryz.prog:=⟨49,fun I=>zy I (Xz I),zf zcI⟩
end Go.Proofs.YtmkcejdibmilmaaGreatDoor
namespace Go.Proofs.YtmkcejdibmilmaaGreatDoor
open Go Go.Sep Go.Ab
set_option maxRecDepth 100000
set_option maxHeartbeats 1000000 in
theorem zqZ (l:List Upl) (n:Int) (b:Str) (s:Int) (c0 c1 c2 c3:Cn) (ek:Int) (em et:Str) (ei:Int) (ef:List Fld) (en:Int) (eb ex ey ez ew:Str) (ec:Int) (hneed:zF l n∧n≤200000 - 20∧b.length≤100000∧FOk c0.h.fields∧c0.body.length≤30000∧eb.length≤1000000∧(ek=2→c0.own=true)):Spc Tryz.prog 27 [.v (.one (.ptr 0 0)),.v (.one (.ptr 2 0)),.v (.agg [(.p (.int .i64 ek)),(.p (.str em)),(.p (.str et)),(.p (.int .i64 ei)),(.p (.list .fld ef)),(.p (.int .i64 en)),(.p (.list .byte eb)),(.p (.str ex)),(.p (.str ey)),(.p (.str ez)),(.p (.nl ew)),(.p (.int .i64 ec))])] [.obj 57 [(.ptr 1 0),(.ptr 2 0),(.ptr 3 0),(.ptr 4 0),(.ptr 5 0)],.pack [.obj 41 [(.ptr 1 0),(.ptr 2 0)],.pack [.obj 88 [(.row 1),(.p (.int .i64 n))],.row .upl 86 l],.pack [.obj 118 [(.row 1),(.p (.int .i64 s))],.row .byte 5 b]],.abs (.cn c0),.abs (.cn c1),.abs (.cn c2),.abs (.cn c3)] (.ret (.v (.one (.p (.list .byte ((evG ⟨⟨l,n,b,s⟩,c0.h,c0.body,c0.live,c0.own,[]⟩ ⟨ek,⟨em,et,ei,ef,en⟩,eb,⟨ex,ey,ez,ew⟩,ec⟩).o)))))) [.obj 57 [(.ptr 1 0),(.ptr 2 0),(.ptr 3 0),(.ptr 4 0),(.ptr 5 0)],.pack [.obj 41 [(.ptr 1 0),(.ptr 2 0)],.pack [.obj 88 [(.row 1),(.p (.int .i64 ((evG ⟨⟨l,n,b,s⟩,c0.h,c0.body,c0.live,c0.own,[]⟩ ⟨ek,⟨em,et,ei,ef,en⟩,eb,⟨ex,ey,ez,ew⟩,ec⟩).q.n)))],.row .upl 86 ((evG ⟨⟨l,n,b,s⟩,c0.h,c0.body,c0.live,c0.own,[]⟩ ⟨ek,⟨em,et,ei,ef,en⟩,eb,⟨ex,ey,ez,ew⟩,ec⟩).q.l)],.pack [.obj 118 [(.row 1),(.p (.int .i64 ((evG ⟨⟨l,n,b,s⟩,c0.h,c0.body,c0.live,c0.own,[]⟩ ⟨ek,⟨em,et,ei,ef,en⟩,eb,⟨ex,ey,ez,ew⟩,ec⟩).q.s)))],.row .byte 5 ((evG ⟨⟨l,n,b,s⟩,c0.h,c0.body,c0.live,c0.own,[]⟩ ⟨ek,⟨em,et,ei,ef,en⟩,eb,⟨ex,ey,ez,ew⟩,ec⟩).q.b)]],.abs (.cn ⟨c0.q,((evG ⟨⟨l,n,b,s⟩,c0.h,c0.body,c0.live,c0.own,[]⟩ ⟨ek,⟨em,et,ei,ef,en⟩,eb,⟨ex,ey,ez,ew⟩,ec⟩).h),((evG ⟨⟨l,n,b,s⟩,c0.h,c0.body,c0.live,c0.own,[]⟩ ⟨ek,⟨em,et,ei,ef,en⟩,eb,⟨ex,ey,ez,ew⟩,ec⟩).b),((evG ⟨⟨l,n,b,s⟩,c0.h,c0.body,c0.live,c0.own,[]⟩ ⟨ek,⟨em,et,ei,ef,en⟩,eb,⟨ex,ey,ez,ew⟩,ec⟩).i),((evG ⟨⟨l,n,b,s⟩,c0.h,c0.body,c0.live,c0.own,[]⟩ ⟨ek,⟨em,et,ei,ef,en⟩,eb,⟨ex,ey,ez,ew⟩,ec⟩).w)⟩),.abs (.cn c1),.abs (.cn c2),.abs (.cn c3)]:=by
  obtain⟨hs,hn,hb,hf,hbo,heb,hw⟩:=hneed
  obtain⟨q,⟨m,t,mi,f,le⟩,cb,li,w⟩:=c0
  dsimp only at hf hbo hw ⊢
  have ha:=zbw (q:=⟨l,n,b,s⟩) hs (m:=m) (t:=t) hf cb
  generalize hr:evG ⟨⟨l,n,b,s⟩,⟨m,t,mi,f,le⟩,cb,li,w,[]⟩ ⟨ek,⟨em,et,ei,ef,en⟩,eb,⟨ex,ey,ez,ew⟩,ec⟩=r
  obtain⟨⟨l',n',b',s'⟩,⟨m',t',mi',f',le'⟩,cb',li',w',o'⟩:=r
  unfold evG zov YP Ri at hr
  refine spcG zh mixed Tryz.func27 (by kernel_rfl) { cfgG with rl:=[0],fz:=[49],keep:=some [0,1,2,5,6,8]} [ul,uj,VY,VX,Xy,Xx] (by kernel_rfl) ?_
  intro I X hI hX
  cases w
  all_goals
    refine orcL ?_;go_invoke;refine orcS (by kernel_rfl) ?_
    simp only [zi,Nat.reduceAdd]
    have hh: ∀ {α:Type} (y:α),I.hid y=y:=fun y=>by subst hI;rfl
    simp only [hh]
    generalize ansG ⟨l,n,b,s⟩ m t f cb=y at *
    obtain⟨⟨y1,y2,y3⟩,⟨y4,y5,y6,y7⟩⟩:=y
    subst hI
    dsimp only at hr ha ⊢
    simp only [nrmA,nrmB,nrlB,reduceCtorEq,V0.agg.injEq,HO.pack.injEq,HO.obj.injEq,HO.abs.injEq,Gh.cn.injEq,Cn.mk.injEq,Hd.mk.injEq]
    (repeat' (first|refine And.intro ?_ ?_|intro _))<;>first|omega|exact True.intro|exact False.elim ‹False›|skip
    all_goals first
      |omega
      |with_reducible assumption
      |exact Nat.zero_le _
      |exact ha.1.1
      |(exact(ha.1.2 _ ‹_›).1)
      |(exact(ha.1.2 _ ‹_›).2)
      |exact ha.2
      |exact hf.1
      |(exact(hf.2 _ ‹_›).1)
      |(exact(hf.2 _ ‹_›).2)
      |(exact(List.not_mem_nil ‹_›).elim)
      |(exact absurd (hw (by with_reducible assumption)) (by decide))
      |(((repeat(first|rewrite [if_pos (by first|omega|assumption|(simp only [*,or_self,or_true,true_or,or_false,false_or,not_true_eq_false,not_false_eq_true,Bool.false_eq_true,Bool.true_eq_false,and_self,and_true,true_and];done)|(simp only [*];omega)|(simp [*];done)|(simp [*];omega))] at hr|rewrite [if_neg (by first|omega|assumption|(simp only [*,or_self,or_true,true_or,or_false,false_or,not_true_eq_false,not_false_eq_true,Bool.false_eq_true,Bool.true_eq_false,and_self,and_true,true_and];done)|(simp only [*];omega)|(simp [*];done)|(simp [*];omega))] at hr)));simp only [GE.mk.injEq,Hd.mk.injEq,Sto.mk.injEq,List.nil_append] at hr;obtain⟨⟨rfl,rfl,rfl,rfl⟩,⟨rfl,rfl,rfl,rfl,rfl⟩,rfl,rfl,rfl,rfl⟩:=hr;rfl)
def Xw (I:Alg) (args:List D) (hp:List HO):Option CT:=match args,hp with
  |[.v (.one (.ptr 0 0)),.v (.one (.ptr 2 0)),.v (.agg [(.p (.int .i64 ek)),(.p (.str em)),(.p (.str et)),(.p (.int .i64 ei)),(.p (.list .fld ef)),(.p (.int .i64 en)),(.p (.list .byte eb)),(.p (.str ex)),(.p (.str ey)),(.p (.str ez)),(.p (.nl ew)),(.p (.int .i64 ec))])],[.obj 57 [(.ptr 1 0),(.ptr 2 0),(.ptr 3 0),(.ptr 4 0),(.ptr 5 0)],.pack [.obj 41 [(.ptr 1 0),(.ptr 2 0)],.pack [.obj 88 [(.row 1),(.p (.int .i64 n))],.row .upl 86 l],.pack [.obj 118 [(.row 1),(.p (.int .i64 s))],.row .byte 5 b]],.abs (.cn c0),.abs (.cn c1),.abs (.cn c2),.abs (.cn c3)]=>(fun(l:List Upl) (n:Int) (b:Str) (s:Int) (c0 c1 c2 c3:Cn) (ek:Int) (em et:Str) (ei:Int) (ef:List Fld) (en:Int) (eb ex ey ez ew:Str) (ec:Int)=>(some (.one ⟨I.hid (zF l n∧n≤200000 - 20∧b.length≤100000∧FOk c0.h.fields∧c0.body.length≤30000∧eb.length≤1000000∧(ek=2→c0.own=true)),(.ret (.v (.one (.p (.list .byte (I.hid ((evG ⟨⟨l,n,b,s⟩,c0.h,c0.body,c0.live,c0.own,[]⟩ ⟨ek,⟨em,et,ei,ef,en⟩,eb,⟨ex,ey,ez,ew⟩,ec⟩).o))))))),[.obj 57 [(.ptr 1 0),(.ptr 2 0),(.ptr 3 0),(.ptr 4 0),(.ptr 5 0)],.pack [.obj 41 [(.ptr 1 0),(.ptr 2 0)],.pack [.obj 88 [(.row 1),(.p (.int .i64 (I.hid ((evG ⟨⟨l,n,b,s⟩,c0.h,c0.body,c0.live,c0.own,[]⟩ ⟨ek,⟨em,et,ei,ef,en⟩,eb,⟨ex,ey,ez,ew⟩,ec⟩).q.n))))],.row .upl 86 (I.hid ((evG ⟨⟨l,n,b,s⟩,c0.h,c0.body,c0.live,c0.own,[]⟩ ⟨ek,⟨em,et,ei,ef,en⟩,eb,⟨ex,ey,ez,ew⟩,ec⟩).q.l))],.pack [.obj 118 [(.row 1),(.p (.int .i64 (I.hid ((evG ⟨⟨l,n,b,s⟩,c0.h,c0.body,c0.live,c0.own,[]⟩ ⟨ek,⟨em,et,ei,ef,en⟩,eb,⟨ex,ey,ez,ew⟩,ec⟩).q.s))))],.row .byte 5 (I.hid ((evG ⟨⟨l,n,b,s⟩,c0.h,c0.body,c0.live,c0.own,[]⟩ ⟨ek,⟨em,et,ei,ef,en⟩,eb,⟨ex,ey,ez,ew⟩,ec⟩).q.b))]],.abs (.cn ⟨c0.q,(I.hid ((evG ⟨⟨l,n,b,s⟩,c0.h,c0.body,c0.live,c0.own,[]⟩ ⟨ek,⟨em,et,ei,ef,en⟩,eb,⟨ex,ey,ez,ew⟩,ec⟩).h)),(I.hid ((evG ⟨⟨l,n,b,s⟩,c0.h,c0.body,c0.live,c0.own,[]⟩ ⟨ek,⟨em,et,ei,ef,en⟩,eb,⟨ex,ey,ez,ew⟩,ec⟩).b)),(I.hid ((evG ⟨⟨l,n,b,s⟩,c0.h,c0.body,c0.live,c0.own,[]⟩ ⟨ek,⟨em,et,ei,ef,en⟩,eb,⟨ex,ey,ez,ew⟩,ec⟩).i)),(I.hid ((evG ⟨⟨l,n,b,s⟩,c0.h,c0.body,c0.live,c0.own,[]⟩ ⟨ek,⟨em,et,ei,ef,en⟩,eb,⟨ex,ey,ez,ew⟩,ec⟩).w))⟩),.abs (.cn c1),.abs (.cn c2),.abs (.cn c3)]⟩):Option CT)) l n b s c0 c1 c2 c3 ek em et ei ef en eb ex ey ez ew ec
  |_,_=>none
theorem zcH:zx Tryz.prog 27 (Xw alg):=by
  intro args hp r h
  unfold Xw at h
  split at h
  · cases h;exact fun hn=>zqZ _ _ _ _ _ _ _ _ _ _ _ _ _ _ _ _ _ _ _ _ hn
  · cases h
def yu:Know Tryz.prog:=⟨27,Xw,zcH⟩
def yj:Know Tryz.prog:=⟨27,fun I=>zy I (Xw I),zf zcH⟩
set_option maxHeartbeats 1000000 in
theorem zqY (l:List Upl) (n:Int) (b:Str) (s:Int) (c0 c1 c2 c3:Cn) (ek:Int) (em et:Str) (ei:Int) (ef:List Fld) (en:Int) (eb ex ey ez ew:Str) (ec:Int) (hneed:zF l n∧n≤200000 - 20∧b.length≤100000∧FOk c1.h.fields∧c1.body.length≤30000∧eb.length≤1000000∧(ek=2→c1.own=true)):Spc Tryz.prog 27 [.v (.one (.ptr 0 0)),.v (.one (.ptr 3 0)),.v (.agg [(.p (.int .i64 ek)),(.p (.str em)),(.p (.str et)),(.p (.int .i64 ei)),(.p (.list .fld ef)),(.p (.int .i64 en)),(.p (.list .byte eb)),(.p (.str ex)),(.p (.str ey)),(.p (.str ez)),(.p (.nl ew)),(.p (.int .i64 ec))])] [.obj 57 [(.ptr 1 0),(.ptr 2 0),(.ptr 3 0),(.ptr 4 0),(.ptr 5 0)],.pack [.obj 41 [(.ptr 1 0),(.ptr 2 0)],.pack [.obj 88 [(.row 1),(.p (.int .i64 n))],.row .upl 86 l],.pack [.obj 118 [(.row 1),(.p (.int .i64 s))],.row .byte 5 b]],.abs (.cn c0),.abs (.cn c1),.abs (.cn c2),.abs (.cn c3)] (.ret (.v (.one (.p (.list .byte ((evG ⟨⟨l,n,b,s⟩,c1.h,c1.body,c1.live,c1.own,[]⟩ ⟨ek,⟨em,et,ei,ef,en⟩,eb,⟨ex,ey,ez,ew⟩,ec⟩).o)))))) [.obj 57 [(.ptr 1 0),(.ptr 2 0),(.ptr 3 0),(.ptr 4 0),(.ptr 5 0)],.pack [.obj 41 [(.ptr 1 0),(.ptr 2 0)],.pack [.obj 88 [(.row 1),(.p (.int .i64 ((evG ⟨⟨l,n,b,s⟩,c1.h,c1.body,c1.live,c1.own,[]⟩ ⟨ek,⟨em,et,ei,ef,en⟩,eb,⟨ex,ey,ez,ew⟩,ec⟩).q.n)))],.row .upl 86 ((evG ⟨⟨l,n,b,s⟩,c1.h,c1.body,c1.live,c1.own,[]⟩ ⟨ek,⟨em,et,ei,ef,en⟩,eb,⟨ex,ey,ez,ew⟩,ec⟩).q.l)],.pack [.obj 118 [(.row 1),(.p (.int .i64 ((evG ⟨⟨l,n,b,s⟩,c1.h,c1.body,c1.live,c1.own,[]⟩ ⟨ek,⟨em,et,ei,ef,en⟩,eb,⟨ex,ey,ez,ew⟩,ec⟩).q.s)))],.row .byte 5 ((evG ⟨⟨l,n,b,s⟩,c1.h,c1.body,c1.live,c1.own,[]⟩ ⟨ek,⟨em,et,ei,ef,en⟩,eb,⟨ex,ey,ez,ew⟩,ec⟩).q.b)]],.abs (.cn c0),.abs (.cn ⟨c1.q,((evG ⟨⟨l,n,b,s⟩,c1.h,c1.body,c1.live,c1.own,[]⟩ ⟨ek,⟨em,et,ei,ef,en⟩,eb,⟨ex,ey,ez,ew⟩,ec⟩).h),((evG ⟨⟨l,n,b,s⟩,c1.h,c1.body,c1.live,c1.own,[]⟩ ⟨ek,⟨em,et,ei,ef,en⟩,eb,⟨ex,ey,ez,ew⟩,ec⟩).b),((evG ⟨⟨l,n,b,s⟩,c1.h,c1.body,c1.live,c1.own,[]⟩ ⟨ek,⟨em,et,ei,ef,en⟩,eb,⟨ex,ey,ez,ew⟩,ec⟩).i),((evG ⟨⟨l,n,b,s⟩,c1.h,c1.body,c1.live,c1.own,[]⟩ ⟨ek,⟨em,et,ei,ef,en⟩,eb,⟨ex,ey,ez,ew⟩,ec⟩).w)⟩),.abs (.cn c2),.abs (.cn c3)]:=by
  obtain⟨hs,hn,hb,hf,hbo,heb,hw⟩:=hneed
  obtain⟨q,⟨m,t,mi,f,le⟩,cb,li,w⟩:=c1
  dsimp only at hf hbo hw ⊢
  have ha:=zbw (q:=⟨l,n,b,s⟩) hs (m:=m) (t:=t) hf cb
  generalize hr:evG ⟨⟨l,n,b,s⟩,⟨m,t,mi,f,le⟩,cb,li,w,[]⟩ ⟨ek,⟨em,et,ei,ef,en⟩,eb,⟨ex,ey,ez,ew⟩,ec⟩=r
  obtain⟨⟨l',n',b',s'⟩,⟨m',t',mi',f',le'⟩,cb',li',w',o'⟩:=r
  unfold evG zov YP Ri at hr
  refine spcG zh mixed Tryz.func27 (by kernel_rfl) { cfgG with rl:=[0],fz:=[49],keep:=some [0,1,2,5,6,8]} [ul,uj,VY,VX,Xy,Xx,yu,yj] (by kernel_rfl) ?_
  intro I X hI hX
  cases w
  all_goals
    refine orcL ?_;go_invoke;refine orcS (by kernel_rfl) ?_
    simp only [zi,Nat.reduceAdd]
    have hh: ∀ {α:Type} (y:α),I.hid y=y:=fun y=>by subst hI;rfl
    simp only [hh]
    generalize ansG ⟨l,n,b,s⟩ m t f cb=y at *
    obtain⟨⟨y1,y2,y3⟩,⟨y4,y5,y6,y7⟩⟩:=y
    subst hI
    dsimp only at hr ha ⊢
    simp only [nrmA,nrmB,nrlB,reduceCtorEq,V0.agg.injEq,HO.pack.injEq,HO.obj.injEq,HO.abs.injEq,Gh.cn.injEq,Cn.mk.injEq,Hd.mk.injEq]
    (repeat' (first|refine And.intro ?_ ?_|intro _))<;>first|omega|exact True.intro|exact False.elim ‹False›|skip
    all_goals first
      |omega
      |with_reducible assumption
      |exact Nat.zero_le _
      |exact ha.1.1
      |(exact(ha.1.2 _ ‹_›).1)
      |(exact(ha.1.2 _ ‹_›).2)
      |exact ha.2
      |exact hf.1
      |(exact(hf.2 _ ‹_›).1)
      |(exact(hf.2 _ ‹_›).2)
      |(exact(List.not_mem_nil ‹_›).elim)
      |(exact absurd (hw (by with_reducible assumption)) (by decide))
      |(((repeat(first|rewrite [if_pos (by first|omega|assumption|(simp only [*,or_self,or_true,true_or,or_false,false_or,not_true_eq_false,not_false_eq_true,Bool.false_eq_true,Bool.true_eq_false,and_self,and_true,true_and];done)|(simp only [*];omega)|(simp [*];done)|(simp [*];omega))] at hr|rewrite [if_neg (by first|omega|assumption|(simp only [*,or_self,or_true,true_or,or_false,false_or,not_true_eq_false,not_false_eq_true,Bool.false_eq_true,Bool.true_eq_false,and_self,and_true,true_and];done)|(simp only [*];omega)|(simp [*];done)|(simp [*];omega))] at hr)));simp only [GE.mk.injEq,Hd.mk.injEq,Sto.mk.injEq,List.nil_append] at hr;obtain⟨⟨rfl,rfl,rfl,rfl⟩,⟨rfl,rfl,rfl,rfl,rfl⟩,rfl,rfl,rfl,rfl⟩:=hr;rfl)
def Xv (I:Alg) (args:List D) (hp:List HO):Option CT:=match args,hp with
  |[.v (.one (.ptr 0 0)),.v (.one (.ptr 3 0)),.v (.agg [(.p (.int .i64 ek)),(.p (.str em)),(.p (.str et)),(.p (.int .i64 ei)),(.p (.list .fld ef)),(.p (.int .i64 en)),(.p (.list .byte eb)),(.p (.str ex)),(.p (.str ey)),(.p (.str ez)),(.p (.nl ew)),(.p (.int .i64 ec))])],[.obj 57 [(.ptr 1 0),(.ptr 2 0),(.ptr 3 0),(.ptr 4 0),(.ptr 5 0)],.pack [.obj 41 [(.ptr 1 0),(.ptr 2 0)],.pack [.obj 88 [(.row 1),(.p (.int .i64 n))],.row .upl 86 l],.pack [.obj 118 [(.row 1),(.p (.int .i64 s))],.row .byte 5 b]],.abs (.cn c0),.abs (.cn c1),.abs (.cn c2),.abs (.cn c3)]=>(fun(l:List Upl) (n:Int) (b:Str) (s:Int) (c0 c1 c2 c3:Cn) (ek:Int) (em et:Str) (ei:Int) (ef:List Fld) (en:Int) (eb ex ey ez ew:Str) (ec:Int)=>(some (.one ⟨I.hid (zF l n∧n≤200000 - 20∧b.length≤100000∧FOk c1.h.fields∧c1.body.length≤30000∧eb.length≤1000000∧(ek=2→c1.own=true)),(.ret (.v (.one (.p (.list .byte (I.hid ((evG ⟨⟨l,n,b,s⟩,c1.h,c1.body,c1.live,c1.own,[]⟩ ⟨ek,⟨em,et,ei,ef,en⟩,eb,⟨ex,ey,ez,ew⟩,ec⟩).o))))))),[.obj 57 [(.ptr 1 0),(.ptr 2 0),(.ptr 3 0),(.ptr 4 0),(.ptr 5 0)],.pack [.obj 41 [(.ptr 1 0),(.ptr 2 0)],.pack [.obj 88 [(.row 1),(.p (.int .i64 (I.hid ((evG ⟨⟨l,n,b,s⟩,c1.h,c1.body,c1.live,c1.own,[]⟩ ⟨ek,⟨em,et,ei,ef,en⟩,eb,⟨ex,ey,ez,ew⟩,ec⟩).q.n))))],.row .upl 86 (I.hid ((evG ⟨⟨l,n,b,s⟩,c1.h,c1.body,c1.live,c1.own,[]⟩ ⟨ek,⟨em,et,ei,ef,en⟩,eb,⟨ex,ey,ez,ew⟩,ec⟩).q.l))],.pack [.obj 118 [(.row 1),(.p (.int .i64 (I.hid ((evG ⟨⟨l,n,b,s⟩,c1.h,c1.body,c1.live,c1.own,[]⟩ ⟨ek,⟨em,et,ei,ef,en⟩,eb,⟨ex,ey,ez,ew⟩,ec⟩).q.s))))],.row .byte 5 (I.hid ((evG ⟨⟨l,n,b,s⟩,c1.h,c1.body,c1.live,c1.own,[]⟩ ⟨ek,⟨em,et,ei,ef,en⟩,eb,⟨ex,ey,ez,ew⟩,ec⟩).q.b))]],.abs (.cn c0),.abs (.cn ⟨c1.q,(I.hid ((evG ⟨⟨l,n,b,s⟩,c1.h,c1.body,c1.live,c1.own,[]⟩ ⟨ek,⟨em,et,ei,ef,en⟩,eb,⟨ex,ey,ez,ew⟩,ec⟩).h)),(I.hid ((evG ⟨⟨l,n,b,s⟩,c1.h,c1.body,c1.live,c1.own,[]⟩ ⟨ek,⟨em,et,ei,ef,en⟩,eb,⟨ex,ey,ez,ew⟩,ec⟩).b)),(I.hid ((evG ⟨⟨l,n,b,s⟩,c1.h,c1.body,c1.live,c1.own,[]⟩ ⟨ek,⟨em,et,ei,ef,en⟩,eb,⟨ex,ey,ez,ew⟩,ec⟩).i)),(I.hid ((evG ⟨⟨l,n,b,s⟩,c1.h,c1.body,c1.live,c1.own,[]⟩ ⟨ek,⟨em,et,ei,ef,en⟩,eb,⟨ex,ey,ez,ew⟩,ec⟩).w))⟩),.abs (.cn c2),.abs (.cn c3)]⟩):Option CT)) l n b s c0 c1 c2 c3 ek em et ei ef en eb ex ey ez ew ec
  |_,_=>none
theorem zcG:zx Tryz.prog 27 (Xv alg):=by
  intro args hp r h
  unfold Xv at h
  split at h
  · cases h;exact fun hn=>zqY _ _ _ _ _ _ _ _ _ _ _ _ _ _ _ _ _ _ _ _ hn
  · cases h
def yF:Know Tryz.prog:=⟨27,Xv,zcG⟩
def yE:Know Tryz.prog:=⟨27,fun I=>zy I (Xv I),zf zcG⟩
set_option maxHeartbeats 1000000 in
theorem zqX (l:List Upl) (n:Int) (b:Str) (s:Int) (c0 c1 c2 c3:Cn) (ek:Int) (em et:Str) (ei:Int) (ef:List Fld) (en:Int) (eb ex ey ez ew:Str) (ec:Int) (hneed:zF l n∧n≤200000 - 20∧b.length≤100000∧FOk c2.h.fields∧c2.body.length≤30000∧eb.length≤1000000∧(ek=2→c2.own=true)):Spc Tryz.prog 27 [.v (.one (.ptr 0 0)),.v (.one (.ptr 4 0)),.v (.agg [(.p (.int .i64 ek)),(.p (.str em)),(.p (.str et)),(.p (.int .i64 ei)),(.p (.list .fld ef)),(.p (.int .i64 en)),(.p (.list .byte eb)),(.p (.str ex)),(.p (.str ey)),(.p (.str ez)),(.p (.nl ew)),(.p (.int .i64 ec))])] [.obj 57 [(.ptr 1 0),(.ptr 2 0),(.ptr 3 0),(.ptr 4 0),(.ptr 5 0)],.pack [.obj 41 [(.ptr 1 0),(.ptr 2 0)],.pack [.obj 88 [(.row 1),(.p (.int .i64 n))],.row .upl 86 l],.pack [.obj 118 [(.row 1),(.p (.int .i64 s))],.row .byte 5 b]],.abs (.cn c0),.abs (.cn c1),.abs (.cn c2),.abs (.cn c3)] (.ret (.v (.one (.p (.list .byte ((evG ⟨⟨l,n,b,s⟩,c2.h,c2.body,c2.live,c2.own,[]⟩ ⟨ek,⟨em,et,ei,ef,en⟩,eb,⟨ex,ey,ez,ew⟩,ec⟩).o)))))) [.obj 57 [(.ptr 1 0),(.ptr 2 0),(.ptr 3 0),(.ptr 4 0),(.ptr 5 0)],.pack [.obj 41 [(.ptr 1 0),(.ptr 2 0)],.pack [.obj 88 [(.row 1),(.p (.int .i64 ((evG ⟨⟨l,n,b,s⟩,c2.h,c2.body,c2.live,c2.own,[]⟩ ⟨ek,⟨em,et,ei,ef,en⟩,eb,⟨ex,ey,ez,ew⟩,ec⟩).q.n)))],.row .upl 86 ((evG ⟨⟨l,n,b,s⟩,c2.h,c2.body,c2.live,c2.own,[]⟩ ⟨ek,⟨em,et,ei,ef,en⟩,eb,⟨ex,ey,ez,ew⟩,ec⟩).q.l)],.pack [.obj 118 [(.row 1),(.p (.int .i64 ((evG ⟨⟨l,n,b,s⟩,c2.h,c2.body,c2.live,c2.own,[]⟩ ⟨ek,⟨em,et,ei,ef,en⟩,eb,⟨ex,ey,ez,ew⟩,ec⟩).q.s)))],.row .byte 5 ((evG ⟨⟨l,n,b,s⟩,c2.h,c2.body,c2.live,c2.own,[]⟩ ⟨ek,⟨em,et,ei,ef,en⟩,eb,⟨ex,ey,ez,ew⟩,ec⟩).q.b)]],.abs (.cn c0),.abs (.cn c1),.abs (.cn ⟨c2.q,((evG ⟨⟨l,n,b,s⟩,c2.h,c2.body,c2.live,c2.own,[]⟩ ⟨ek,⟨em,et,ei,ef,en⟩,eb,⟨ex,ey,ez,ew⟩,ec⟩).h),((evG ⟨⟨l,n,b,s⟩,c2.h,c2.body,c2.live,c2.own,[]⟩ ⟨ek,⟨em,et,ei,ef,en⟩,eb,⟨ex,ey,ez,ew⟩,ec⟩).b),((evG ⟨⟨l,n,b,s⟩,c2.h,c2.body,c2.live,c2.own,[]⟩ ⟨ek,⟨em,et,ei,ef,en⟩,eb,⟨ex,ey,ez,ew⟩,ec⟩).i),((evG ⟨⟨l,n,b,s⟩,c2.h,c2.body,c2.live,c2.own,[]⟩ ⟨ek,⟨em,et,ei,ef,en⟩,eb,⟨ex,ey,ez,ew⟩,ec⟩).w)⟩),.abs (.cn c3)]:=by
  obtain⟨hs,hn,hb,hf,hbo,heb,hw⟩:=hneed
  obtain⟨q,⟨m,t,mi,f,le⟩,cb,li,w⟩:=c2
  dsimp only at hf hbo hw ⊢
  have ha:=zbw (q:=⟨l,n,b,s⟩) hs (m:=m) (t:=t) hf cb
  generalize hr:evG ⟨⟨l,n,b,s⟩,⟨m,t,mi,f,le⟩,cb,li,w,[]⟩ ⟨ek,⟨em,et,ei,ef,en⟩,eb,⟨ex,ey,ez,ew⟩,ec⟩=r
  obtain⟨⟨l',n',b',s'⟩,⟨m',t',mi',f',le'⟩,cb',li',w',o'⟩:=r
  unfold evG zov YP Ri at hr
  refine spcG zh mixed Tryz.func27 (by kernel_rfl) { cfgG with rl:=[0],fz:=[49],keep:=some [0,1,2,5,6,8]} [ul,uj,VY,VX,Xy,Xx,yu,yj,yF,yE] (by kernel_rfl) ?_
  intro I X hI hX
  cases w
  all_goals
    refine orcL ?_;go_invoke;refine orcS (by kernel_rfl) ?_
    simp only [zi,Nat.reduceAdd]
    have hh: ∀ {α:Type} (y:α),I.hid y=y:=fun y=>by subst hI;rfl
    simp only [hh]
    generalize ansG ⟨l,n,b,s⟩ m t f cb=y at *
    obtain⟨⟨y1,y2,y3⟩,⟨y4,y5,y6,y7⟩⟩:=y
    subst hI
    dsimp only at hr ha ⊢
    simp only [nrmA,nrmB,nrlB,reduceCtorEq,V0.agg.injEq,HO.pack.injEq,HO.obj.injEq,HO.abs.injEq,Gh.cn.injEq,Cn.mk.injEq,Hd.mk.injEq]
    (repeat' (first|refine And.intro ?_ ?_|intro _))<;>first|omega|exact True.intro|exact False.elim ‹False›|skip
    all_goals first
      |omega
      |with_reducible assumption
      |exact Nat.zero_le _
      |exact ha.1.1
      |(exact(ha.1.2 _ ‹_›).1)
      |(exact(ha.1.2 _ ‹_›).2)
      |exact ha.2
      |exact hf.1
      |(exact(hf.2 _ ‹_›).1)
      |(exact(hf.2 _ ‹_›).2)
      |(exact(List.not_mem_nil ‹_›).elim)
      |(exact absurd (hw (by with_reducible assumption)) (by decide))
      |(((repeat(first|rewrite [if_pos (by first|omega|assumption|(simp only [*,or_self,or_true,true_or,or_false,false_or,not_true_eq_false,not_false_eq_true,Bool.false_eq_true,Bool.true_eq_false,and_self,and_true,true_and];done)|(simp only [*];omega)|(simp [*];done)|(simp [*];omega))] at hr|rewrite [if_neg (by first|omega|assumption|(simp only [*,or_self,or_true,true_or,or_false,false_or,not_true_eq_false,not_false_eq_true,Bool.false_eq_true,Bool.true_eq_false,and_self,and_true,true_and];done)|(simp only [*];omega)|(simp [*];done)|(simp [*];omega))] at hr)));simp only [GE.mk.injEq,Hd.mk.injEq,Sto.mk.injEq,List.nil_append] at hr;obtain⟨⟨rfl,rfl,rfl,rfl⟩,⟨rfl,rfl,rfl,rfl,rfl⟩,rfl,rfl,rfl,rfl⟩:=hr;rfl)
def Xu (I:Alg) (args:List D) (hp:List HO):Option CT:=match args,hp with
  |[.v (.one (.ptr 0 0)),.v (.one (.ptr 4 0)),.v (.agg [(.p (.int .i64 ek)),(.p (.str em)),(.p (.str et)),(.p (.int .i64 ei)),(.p (.list .fld ef)),(.p (.int .i64 en)),(.p (.list .byte eb)),(.p (.str ex)),(.p (.str ey)),(.p (.str ez)),(.p (.nl ew)),(.p (.int .i64 ec))])],[.obj 57 [(.ptr 1 0),(.ptr 2 0),(.ptr 3 0),(.ptr 4 0),(.ptr 5 0)],.pack [.obj 41 [(.ptr 1 0),(.ptr 2 0)],.pack [.obj 88 [(.row 1),(.p (.int .i64 n))],.row .upl 86 l],.pack [.obj 118 [(.row 1),(.p (.int .i64 s))],.row .byte 5 b]],.abs (.cn c0),.abs (.cn c1),.abs (.cn c2),.abs (.cn c3)]=>(fun(l:List Upl) (n:Int) (b:Str) (s:Int) (c0 c1 c2 c3:Cn) (ek:Int) (em et:Str) (ei:Int) (ef:List Fld) (en:Int) (eb ex ey ez ew:Str) (ec:Int)=>(some (.one ⟨I.hid (zF l n∧n≤200000 - 20∧b.length≤100000∧FOk c2.h.fields∧c2.body.length≤30000∧eb.length≤1000000∧(ek=2→c2.own=true)),(.ret (.v (.one (.p (.list .byte (I.hid ((evG ⟨⟨l,n,b,s⟩,c2.h,c2.body,c2.live,c2.own,[]⟩ ⟨ek,⟨em,et,ei,ef,en⟩,eb,⟨ex,ey,ez,ew⟩,ec⟩).o))))))),[.obj 57 [(.ptr 1 0),(.ptr 2 0),(.ptr 3 0),(.ptr 4 0),(.ptr 5 0)],.pack [.obj 41 [(.ptr 1 0),(.ptr 2 0)],.pack [.obj 88 [(.row 1),(.p (.int .i64 (I.hid ((evG ⟨⟨l,n,b,s⟩,c2.h,c2.body,c2.live,c2.own,[]⟩ ⟨ek,⟨em,et,ei,ef,en⟩,eb,⟨ex,ey,ez,ew⟩,ec⟩).q.n))))],.row .upl 86 (I.hid ((evG ⟨⟨l,n,b,s⟩,c2.h,c2.body,c2.live,c2.own,[]⟩ ⟨ek,⟨em,et,ei,ef,en⟩,eb,⟨ex,ey,ez,ew⟩,ec⟩).q.l))],.pack [.obj 118 [(.row 1),(.p (.int .i64 (I.hid ((evG ⟨⟨l,n,b,s⟩,c2.h,c2.body,c2.live,c2.own,[]⟩ ⟨ek,⟨em,et,ei,ef,en⟩,eb,⟨ex,ey,ez,ew⟩,ec⟩).q.s))))],.row .byte 5 (I.hid ((evG ⟨⟨l,n,b,s⟩,c2.h,c2.body,c2.live,c2.own,[]⟩ ⟨ek,⟨em,et,ei,ef,en⟩,eb,⟨ex,ey,ez,ew⟩,ec⟩).q.b))]],.abs (.cn c0),.abs (.cn c1),.abs (.cn ⟨c2.q,(I.hid ((evG ⟨⟨l,n,b,s⟩,c2.h,c2.body,c2.live,c2.own,[]⟩ ⟨ek,⟨em,et,ei,ef,en⟩,eb,⟨ex,ey,ez,ew⟩,ec⟩).h)),(I.hid ((evG ⟨⟨l,n,b,s⟩,c2.h,c2.body,c2.live,c2.own,[]⟩ ⟨ek,⟨em,et,ei,ef,en⟩,eb,⟨ex,ey,ez,ew⟩,ec⟩).b)),(I.hid ((evG ⟨⟨l,n,b,s⟩,c2.h,c2.body,c2.live,c2.own,[]⟩ ⟨ek,⟨em,et,ei,ef,en⟩,eb,⟨ex,ey,ez,ew⟩,ec⟩).i)),(I.hid ((evG ⟨⟨l,n,b,s⟩,c2.h,c2.body,c2.live,c2.own,[]⟩ ⟨ek,⟨em,et,ei,ef,en⟩,eb,⟨ex,ey,ez,ew⟩,ec⟩).w))⟩),.abs (.cn c3)]⟩):Option CT)) l n b s c0 c1 c2 c3 ek em et ei ef en eb ex ey ez ew ec
  |_,_=>none
theorem zcF:zx Tryz.prog 27 (Xu alg):=by
  intro args hp r h
  unfold Xu at h
  split at h
  · cases h;exact fun hn=>zqX _ _ _ _ _ _ _ _ _ _ _ _ _ _ _ _ _ _ _ _ hn
  · cases h
def yM:Know Tryz.prog:=⟨27,Xu,zcF⟩
def yL:Know Tryz.prog:=⟨27,fun I=>zy I (Xu I),zf zcF⟩
set_option maxHeartbeats 1000000 in
theorem zqW (l:List Upl) (n:Int) (b:Str) (s:Int) (c0 c1 c2 c3:Cn) (ek:Int) (em et:Str) (ei:Int) (ef:List Fld) (en:Int) (eb ex ey ez ew:Str) (ec:Int) (hneed:zF l n∧n≤200000 - 20∧b.length≤100000∧FOk c3.h.fields∧c3.body.length≤30000∧eb.length≤1000000∧(ek=2→c3.own=true)):Spc Tryz.prog 27 [.v (.one (.ptr 0 0)),.v (.one (.ptr 5 0)),.v (.agg [(.p (.int .i64 ek)),(.p (.str em)),(.p (.str et)),(.p (.int .i64 ei)),(.p (.list .fld ef)),(.p (.int .i64 en)),(.p (.list .byte eb)),(.p (.str ex)),(.p (.str ey)),(.p (.str ez)),(.p (.nl ew)),(.p (.int .i64 ec))])] [.obj 57 [(.ptr 1 0),(.ptr 2 0),(.ptr 3 0),(.ptr 4 0),(.ptr 5 0)],.pack [.obj 41 [(.ptr 1 0),(.ptr 2 0)],.pack [.obj 88 [(.row 1),(.p (.int .i64 n))],.row .upl 86 l],.pack [.obj 118 [(.row 1),(.p (.int .i64 s))],.row .byte 5 b]],.abs (.cn c0),.abs (.cn c1),.abs (.cn c2),.abs (.cn c3)] (.ret (.v (.one (.p (.list .byte ((evG ⟨⟨l,n,b,s⟩,c3.h,c3.body,c3.live,c3.own,[]⟩ ⟨ek,⟨em,et,ei,ef,en⟩,eb,⟨ex,ey,ez,ew⟩,ec⟩).o)))))) [.obj 57 [(.ptr 1 0),(.ptr 2 0),(.ptr 3 0),(.ptr 4 0),(.ptr 5 0)],.pack [.obj 41 [(.ptr 1 0),(.ptr 2 0)],.pack [.obj 88 [(.row 1),(.p (.int .i64 ((evG ⟨⟨l,n,b,s⟩,c3.h,c3.body,c3.live,c3.own,[]⟩ ⟨ek,⟨em,et,ei,ef,en⟩,eb,⟨ex,ey,ez,ew⟩,ec⟩).q.n)))],.row .upl 86 ((evG ⟨⟨l,n,b,s⟩,c3.h,c3.body,c3.live,c3.own,[]⟩ ⟨ek,⟨em,et,ei,ef,en⟩,eb,⟨ex,ey,ez,ew⟩,ec⟩).q.l)],.pack [.obj 118 [(.row 1),(.p (.int .i64 ((evG ⟨⟨l,n,b,s⟩,c3.h,c3.body,c3.live,c3.own,[]⟩ ⟨ek,⟨em,et,ei,ef,en⟩,eb,⟨ex,ey,ez,ew⟩,ec⟩).q.s)))],.row .byte 5 ((evG ⟨⟨l,n,b,s⟩,c3.h,c3.body,c3.live,c3.own,[]⟩ ⟨ek,⟨em,et,ei,ef,en⟩,eb,⟨ex,ey,ez,ew⟩,ec⟩).q.b)]],.abs (.cn c0),.abs (.cn c1),.abs (.cn c2),.abs (.cn ⟨c3.q,((evG ⟨⟨l,n,b,s⟩,c3.h,c3.body,c3.live,c3.own,[]⟩ ⟨ek,⟨em,et,ei,ef,en⟩,eb,⟨ex,ey,ez,ew⟩,ec⟩).h),((evG ⟨⟨l,n,b,s⟩,c3.h,c3.body,c3.live,c3.own,[]⟩ ⟨ek,⟨em,et,ei,ef,en⟩,eb,⟨ex,ey,ez,ew⟩,ec⟩).b),((evG ⟨⟨l,n,b,s⟩,c3.h,c3.body,c3.live,c3.own,[]⟩ ⟨ek,⟨em,et,ei,ef,en⟩,eb,⟨ex,ey,ez,ew⟩,ec⟩).i),((evG ⟨⟨l,n,b,s⟩,c3.h,c3.body,c3.live,c3.own,[]⟩ ⟨ek,⟨em,et,ei,ef,en⟩,eb,⟨ex,ey,ez,ew⟩,ec⟩).w)⟩)]:=by
  obtain⟨hs,hn,hb,hf,hbo,heb,hw⟩:=hneed
  obtain⟨q,⟨m,t,mi,f,le⟩,cb,li,w⟩:=c3
  dsimp only at hf hbo hw ⊢
  have ha:=zbw (q:=⟨l,n,b,s⟩) hs (m:=m) (t:=t) hf cb
  generalize hr:evG ⟨⟨l,n,b,s⟩,⟨m,t,mi,f,le⟩,cb,li,w,[]⟩ ⟨ek,⟨em,et,ei,ef,en⟩,eb,⟨ex,ey,ez,ew⟩,ec⟩=r
  obtain⟨⟨l',n',b',s'⟩,⟨m',t',mi',f',le'⟩,cb',li',w',o'⟩:=r
  unfold evG zov YP Ri at hr
  refine spcG zh mixed Tryz.func27 (by kernel_rfl) { cfgG with rl:=[0],fz:=[49],keep:=some [0,1,2,5,6,8]} [ul,uj,VY,VX,Xy,Xx,yu,yj,yF,yE,yM,yL] (by kernel_rfl) ?_
  intro I X hI hX
  cases w
  all_goals
    refine orcL ?_;go_invoke;refine orcS (by kernel_rfl) ?_
    simp only [zi,Nat.reduceAdd]
    have hh: ∀ {α:Type} (y:α),I.hid y=y:=fun y=>by subst hI;rfl
    simp only [hh]
    generalize ansG ⟨l,n,b,s⟩ m t f cb=y at *
    obtain⟨⟨y1,y2,y3⟩,⟨y4,y5,y6,y7⟩⟩:=y
    subst hI
    dsimp only at hr ha ⊢
    simp only [nrmA,nrmB,nrlB,reduceCtorEq,V0.agg.injEq,HO.pack.injEq,HO.obj.injEq,HO.abs.injEq,Gh.cn.injEq,Cn.mk.injEq,Hd.mk.injEq]
    (repeat' (first|refine And.intro ?_ ?_|intro _))<;>first|omega|exact True.intro|exact False.elim ‹False›|skip
    all_goals first
      |omega
      |with_reducible assumption
      |exact Nat.zero_le _
      |exact ha.1.1
      |(exact(ha.1.2 _ ‹_›).1)
      |(exact(ha.1.2 _ ‹_›).2)
      |exact ha.2
      |exact hf.1
      |(exact(hf.2 _ ‹_›).1)
      |(exact(hf.2 _ ‹_›).2)
      |(exact(List.not_mem_nil ‹_›).elim)
      |(exact absurd (hw (by with_reducible assumption)) (by decide))
      |(((repeat(first|rewrite [if_pos (by first|omega|assumption|(simp only [*,or_self,or_true,true_or,or_false,false_or,not_true_eq_false,not_false_eq_true,Bool.false_eq_true,Bool.true_eq_false,and_self,and_true,true_and];done)|(simp only [*];omega)|(simp [*];done)|(simp [*];omega))] at hr|rewrite [if_neg (by first|omega|assumption|(simp only [*,or_self,or_true,true_or,or_false,false_or,not_true_eq_false,not_false_eq_true,Bool.false_eq_true,Bool.true_eq_false,and_self,and_true,true_and];done)|(simp only [*];omega)|(simp [*];done)|(simp [*];omega))] at hr)));simp only [GE.mk.injEq,Hd.mk.injEq,Sto.mk.injEq,List.nil_append] at hr;obtain⟨⟨rfl,rfl,rfl,rfl⟩,⟨rfl,rfl,rfl,rfl,rfl⟩,rfl,rfl,rfl,rfl⟩:=hr;rfl)
def Xt (I:Alg) (args:List D) (hp:List HO):Option CT:=match args,hp with
  |[.v (.one (.ptr 0 0)),.v (.one (.ptr 5 0)),.v (.agg [(.p (.int .i64 ek)),(.p (.str em)),(.p (.str et)),(.p (.int .i64 ei)),(.p (.list .fld ef)),(.p (.int .i64 en)),(.p (.list .byte eb)),(.p (.str ex)),(.p (.str ey)),(.p (.str ez)),(.p (.nl ew)),(.p (.int .i64 ec))])],[.obj 57 [(.ptr 1 0),(.ptr 2 0),(.ptr 3 0),(.ptr 4 0),(.ptr 5 0)],.pack [.obj 41 [(.ptr 1 0),(.ptr 2 0)],.pack [.obj 88 [(.row 1),(.p (.int .i64 n))],.row .upl 86 l],.pack [.obj 118 [(.row 1),(.p (.int .i64 s))],.row .byte 5 b]],.abs (.cn c0),.abs (.cn c1),.abs (.cn c2),.abs (.cn c3)]=>(fun(l:List Upl) (n:Int) (b:Str) (s:Int) (c0 c1 c2 c3:Cn) (ek:Int) (em et:Str) (ei:Int) (ef:List Fld) (en:Int) (eb ex ey ez ew:Str) (ec:Int)=>(some (.one ⟨I.hid (zF l n∧n≤200000 - 20∧b.length≤100000∧FOk c3.h.fields∧c3.body.length≤30000∧eb.length≤1000000∧(ek=2→c3.own=true)),(.ret (.v (.one (.p (.list .byte (I.hid ((evG ⟨⟨l,n,b,s⟩,c3.h,c3.body,c3.live,c3.own,[]⟩ ⟨ek,⟨em,et,ei,ef,en⟩,eb,⟨ex,ey,ez,ew⟩,ec⟩).o))))))),[.obj 57 [(.ptr 1 0),(.ptr 2 0),(.ptr 3 0),(.ptr 4 0),(.ptr 5 0)],.pack [.obj 41 [(.ptr 1 0),(.ptr 2 0)],.pack [.obj 88 [(.row 1),(.p (.int .i64 (I.hid ((evG ⟨⟨l,n,b,s⟩,c3.h,c3.body,c3.live,c3.own,[]⟩ ⟨ek,⟨em,et,ei,ef,en⟩,eb,⟨ex,ey,ez,ew⟩,ec⟩).q.n))))],.row .upl 86 (I.hid ((evG ⟨⟨l,n,b,s⟩,c3.h,c3.body,c3.live,c3.own,[]⟩ ⟨ek,⟨em,et,ei,ef,en⟩,eb,⟨ex,ey,ez,ew⟩,ec⟩).q.l))],.pack [.obj 118 [(.row 1),(.p (.int .i64 (I.hid ((evG ⟨⟨l,n,b,s⟩,c3.h,c3.body,c3.live,c3.own,[]⟩ ⟨ek,⟨em,et,ei,ef,en⟩,eb,⟨ex,ey,ez,ew⟩,ec⟩).q.s))))],.row .byte 5 (I.hid ((evG ⟨⟨l,n,b,s⟩,c3.h,c3.body,c3.live,c3.own,[]⟩ ⟨ek,⟨em,et,ei,ef,en⟩,eb,⟨ex,ey,ez,ew⟩,ec⟩).q.b))]],.abs (.cn c0),.abs (.cn c1),.abs (.cn c2),.abs (.cn ⟨c3.q,(I.hid ((evG ⟨⟨l,n,b,s⟩,c3.h,c3.body,c3.live,c3.own,[]⟩ ⟨ek,⟨em,et,ei,ef,en⟩,eb,⟨ex,ey,ez,ew⟩,ec⟩).h)),(I.hid ((evG ⟨⟨l,n,b,s⟩,c3.h,c3.body,c3.live,c3.own,[]⟩ ⟨ek,⟨em,et,ei,ef,en⟩,eb,⟨ex,ey,ez,ew⟩,ec⟩).b)),(I.hid ((evG ⟨⟨l,n,b,s⟩,c3.h,c3.body,c3.live,c3.own,[]⟩ ⟨ek,⟨em,et,ei,ef,en⟩,eb,⟨ex,ey,ez,ew⟩,ec⟩).i)),(I.hid ((evG ⟨⟨l,n,b,s⟩,c3.h,c3.body,c3.live,c3.own,[]⟩ ⟨ek,⟨em,et,ei,ef,en⟩,eb,⟨ex,ey,ez,ew⟩,ec⟩).w))⟩)]⟩):Option CT)) l n b s c0 c1 c2 c3 ek em et ei ef en eb ex ey ez ew ec
  |_,_=>none
theorem zcE:zx Tryz.prog 27 (Xt alg):=by
  intro args hp r h
  unfold Xt at h
  split at h
  · cases h;exact fun hn=>zqW _ _ _ _ _ _ _ _ _ _ _ _ _ _ _ _ _ _ _ _ hn
  · cases h
def yS:Know Tryz.prog:=⟨27,Xt,zcE⟩
def yR:Know Tryz.prog:=⟨27,fun I=>zy I (Xt I),zf zcE⟩
end Go.Proofs.YtmkcejdibmilmaaGreatDoor
namespace Go.Proofs.YtmkcejdibmilmaaGreatDoor
open Go Go.Sep Go.Ab
theorem zex {r:Rpl} (h:ROk r):(Ri r).length≤30000:=by
  unfold Ri writeT
  split
  · rename_i hc
    have hw:Wq r.status≠[]:=fun e=>by unfold zae at hc;rw [if_pos e] at hc;exact absurd hc (by decide)
    have h1:=(zah hw).2.2
    have h2:=uD r.status
    have h3:=uD (r.body.length:Int)
    have h4:=zbi r.fields
    have h5:=h.1.1
    have h6:=h.2
    simp only [zhu,zpC,List.length_append,List.length_cons,List.length_nil]
    omega
  · exact Nat.zero_le _
theorem zhJ (x:GE) (e:Evt):evG x e=⟨(evG ⟨x.q,x.h,x.b,x.i,x.w,[]⟩ e).q,(evG ⟨x.q,x.h,x.b,x.i,x.w,[]⟩ e).h,(evG ⟨x.q,x.h,x.b,x.i,x.w,[]⟩ e).b,(evG ⟨x.q,x.h,x.b,x.i,x.w,[]⟩ e).i,(evG ⟨x.q,x.h,x.b,x.i,x.w,[]⟩ e).w,x.o++(evG ⟨x.q,x.h,x.b,x.i,x.w,[]⟩ e).o⟩:=by
  unfold evG
  repeat' split
  all_goals simp
theorem zut {x:GE} (h1:zF x.q.l x.q.n) (h2:FsOk x.h.fields) (e:Evt):(evG ⟨x.q,x.h,x.b,x.i,x.w,[]⟩ e).o.length≤30000:=by
  unfold evG
  repeat' split
  · exact Nat.zero_le _
  · exact Nat.zero_le _
  · exact zex (zbw h1 h2 _)
  · exact zex (zja _ _ (Nat.zero_le _))
  · exact Nat.zero_le _
def fdK (c:Cn):Int:=if c.q.pos=4 then 18 else 0
def fdO (q:Sto) (c:Cn) (x:Str):Str:=if c.q.pos=4 then [] else(fedE q c x).o
def fdQ (q:Sto) (c:Cn) (x:Str):Sto:=if c.q.pos=4 then q else(fedE q c x).q
def fdC (q:Sto) (c:Cn) (x:Str):Cn:=if c.q.pos=4 then c else fedC q c x
def FdN (q:Sto) (c:Cn) (x:Str):Prop:=∃ (N:Nat) (m:Int),SOk q m∧CnI c N∧N+x.length≤30000∧m+12 * x.length≤199980
structure FdA (x0:GE) (J:List Evt) (i:Nat) (l:List Upl) (n:Int) (b:Str) (s:Int) (c:Cn) (o:Str) (q1:Rq):Prop where
  le:i≤J.length
  ev:(⟨⟨l,n,b,s⟩,c.h,c.body,c.live,c.own,o⟩:GE)=evsG x0 (J.take i)
  cq:c.q=q1
  ol:o.length≤30000 * i
structure FdJ (x0:GE) (J:List Evt):Prop where
  ok: ∃ (N:Nat) (m:Int),EOk x0 m N∧N+zI J≤30000∧m+12 * cnt3 J≤199980
  ob:EvO J
  mw:mayW x0.w J
  o0:x0.o=[]
  ln:J.length≤1000000
theorem zhI (J:List Evt) (i:Nat):zI (J.take i)≤zI J:=by
  have:J=J.take i++J.drop i:=(List.take_append_drop i J).symm
  have h:=yB (J.take i) (J.drop i)
  rw [← this] at h
  omega
theorem zoT (J:List Evt) (i:Nat):cnt3 (J.take i)≤cnt3 J:=by
  have h:=XJ (J.take i) (J.drop i)
  rw [List.take_append_drop] at h
  omega
theorem zjZ {q:Sto} {c:Cn} {x:Str} (h:FdN q c x):FdJ ⟨q,c.h,c.body,c.live,c.own,[]⟩ (zZ (zB c.q x).out)∧rqN0 c.q x:=by
  obtain⟨N,m,h1,h2,h3,h4⟩:=h
  obtain⟨e1,e2,e3,e4⟩:=zoq h2 (b:=x) (by omega)
  exact⟨⟨⟨N,m,⟨h1,h2.2.1,h2.2.2.1⟩,by omega,by omega⟩,e1,(zsg h2 x).1,rfl,by omega⟩,N,h2.1,by omega⟩
theorem zrk {x0:GE} {J:List Evt} (h:FdJ x0 J) (q1:Rq) {l:List Upl} {n:Int} {b:Str} {s:Int} {hd:Hd} {bd:Str} {li w:Bool} (hx:x0=⟨⟨l,n,b,s⟩,hd,bd,li,w,[]⟩):FdA x0 J 0 l n b s ⟨q1,hd,bd,li,w⟩ [] q1:=⟨Nat.zero_le _,by subst hx;rfl,rfl,Nat.zero_le _⟩
theorem Ui {x0:GE} {J:List Evt} (hJ:FdJ x0 J) {i:Nat} {l:List Upl} {n:Int} {b:Str} {s:Int} {c:Cn} {o:Str} {q1:Rq} (h:FdA x0 J i l n b s c o q1):zF l n∧n≤200000 - 20∧b.length≤100000∧FOk c.h.fields∧c.body.length≤30000:=by
  obtain⟨N,m,h1,h2,h3⟩:=hJ.ok
  have h4:=zhK (J.take i) h1 fun e he=>hJ.ob e (List.mem_of_mem_take he)
  rw [← h.ev] at h4
  have h5:=zhI J i
  have h6:=zoT J i
  obtain⟨⟨g1,g2,g3,_⟩,g4,g5⟩:=h4
  exact⟨g1,by dsimp only at g3;omega,g2,g4,by dsimp only at g5;omega⟩
theorem zgu {x0:GE} {J:List Evt} (hJ:FdJ x0 J) {i:Nat} {l:List Upl} {n:Int} {b:Str} {s:Int} {c:Cn} {o:Str} {q1:Rq} (h:FdA x0 J i l n b s c o q1) (hi:i<J.length) (d:Evt):
    ((J.getD i d).bytes.length≤1000000∧((J.getD i d).kind=2→c.own=true))∧∀ r,evG ⟨⟨l,n,b,s⟩,c.h,c.body,c.live,c.own,[]⟩ (J.getD i d)=r→r.o.length≤30000∧FdA x0 J (i+1) r.q.l r.q.n r.q.b r.q.s ⟨c.q,r.h,r.b,r.i,r.w⟩ (o++r.o) q1:=by
  have e:J.getD i d=J[i]:=by simp [hi]
  obtain⟨N,m,h1,h2,h3⟩:=hJ.ok
  have ok:=Ui hJ h
  rw [e]
  refine⟨⟨?_,fun k=> ?_⟩,fun r hr=>⟨?_,hi,?_,h.cq,?_⟩⟩
  · have:=Ul (List.getElem_mem hi)
    omega
  · have hw:=znJ hJ.mw hi k
    rw [← zsk,← h.ev] at hw
    exact hw
  · rw [← hr]
    exact zut (x:=⟨⟨l,n,b,s⟩,c.h,c.body,c.live,c.own,[]⟩) ok.1 ok.2.2.2.1 _
  · rw [List.take_succ_eq_append_getElem hi,XI,← h.ev]
    show _=evG _ _
    rw [zhJ]
    dsimp only
    rw [hr]
  · have h7:r.o.length≤30000:=by
      rw [← hr]
      exact zut (x:=⟨⟨l,n,b,s⟩,c.h,c.body,c.live,c.own,[]⟩) ok.1 ok.2.2.2.1 _
    have:=h.ol
    rw [List.length_append];omega
theorem zd5 {q:Sto} {c0:Cn} {x:Str} {l:List Upl} {n:Int} {b:Str} {s:Int} {c:Cn} {o:Str} {i:Nat} (h:FdA ⟨q,c0.h,c0.body,c0.live,c0.own,[]⟩ (zZ (zB c0.q x).out) i l n b s c o (zB c0.q x)) (hi: ¬ i<(zZ (zB c0.q x).out).length) (hp: ¬ c0.q.pos=4):(⟨l,n,b,s⟩:Sto)=fdQ q c0 x∧c=fdC q c0 x∧o=fdO q c0 x:=by
  have e:=h.ev
  rw [List.take_of_length_le (by omega)] at e
  have e':(⟨⟨l,n,b,s⟩,c.h,c.body,c.live,c.own,o⟩:GE)=fedE q c0 x:=e
  unfold fdQ fdC fdO fedC
  rw [if_neg hp,if_neg hp,if_neg hp,← e']
  refine⟨rfl,?_,rfl⟩
  have:=h.cq
  cases c
  simp only at this
  rw [this]
end Go.Proofs.YtmkcejdibmilmaaGreatDoor
namespace Go.Proofs.YtmkcejdibmilmaaGreatDoor
open Go Go.Sep Go.Ab
set_option maxRecDepth 100000
set_option maxHeartbeats 2000000 in
theorem ztZ (l:List Upl) (n:Int) (b:Str) (s:Int) (c0 c1 c2 c3:Cn) (x:Str) (hneed:FdN ⟨l,n,b,s⟩ c0 x):Spc Tryz.prog 10 [.v (.one (.ptr 0 0)),.v (.one (.p (.int .i64 0))),.v (.one (.p (.list .byte x)))] [.obj 57 [(.ptr 1 0),(.ptr 2 0),(.ptr 3 0),(.ptr 4 0),(.ptr 5 0)],.pack [.obj 41 [(.ptr 1 0),(.ptr 2 0)],.pack [.obj 88 [(.row 1),(.p (.int .i64 n))],.row .upl 86 l],.pack [.obj 118 [(.row 1),(.p (.int .i64 s))],.row .byte 5 b]],.abs (.cn c0),.abs (.cn c1),.abs (.cn c2),.abs (.cn c3)] (.ret (.tup [(.one (.p (.list .byte ((fdO ⟨l,n,b,s⟩ c0 x))))),(.one (.p (.int .i64 ((fdK c0)))))])) [.obj 57 [(.ptr 1 0),(.ptr 2 0),(.ptr 3 0),(.ptr 4 0),(.ptr 5 0)],.pack [.obj 41 [(.ptr 1 0),(.ptr 2 0)],.pack [.obj 88 [(.row 1),(.p (.int .i64 ((fdQ ⟨l,n,b,s⟩ c0 x).n)))],.row .upl 86 ((fdQ ⟨l,n,b,s⟩ c0 x).l)],.pack [.obj 118 [(.row 1),(.p (.int .i64 ((fdQ ⟨l,n,b,s⟩ c0 x).s)))],.row .byte 5 ((fdQ ⟨l,n,b,s⟩ c0 x).b)]],.abs (.cn ((fdC ⟨l,n,b,s⟩ c0 x))),.abs (.cn c1),.abs (.cn c2),.abs (.cn c3)]:=by
  obtain⟨hJ,hN⟩:=zjZ hneed
  have hend:=fun l1 n1 b1 s1 c o i h=>zd5 (q:=⟨l,n,b,s⟩) (c0:=c0) (x:=x) (l:=l1) (n:=n1) (b:=b1) (s:=s1) (c:=c) (o:=o) (i:=i) h
  have hA0:=zrk hJ (zB c0.q x) (l:=l) (n:=n) (b:=b) (s:=s) rfl
  have hd4:c0.q.pos=4→fdK c0=18∧fdO ⟨l,n,b,s⟩ c0 x=[]∧fdQ ⟨l,n,b,s⟩ c0 x=⟨l,n,b,s⟩∧fdC ⟨l,n,b,s⟩ c0 x=c0:=fun h=>by unfold fdK fdO fdQ fdC;rw [if_pos h,if_pos h,if_pos h,if_pos h];exact⟨rfl,rfl,rfl,rfl⟩
  have hd5: ¬ c0.q.pos=4→fdK c0=0:=fun h=>by unfold fdK;rw [if_neg h]
  generalize fdK c0=rk at *
  generalize fdO ⟨l,n,b,s⟩ c0 x=ro at *
  generalize fdQ ⟨l,n,b,s⟩ c0 x=rq at *
  generalize fdC ⟨l,n,b,s⟩ c0 x=rc at *
  obtain⟨l',n',b',s'⟩:=rq
  obtain⟨q,⟨m,t,mi,f,le⟩,cb,li,w⟩:=c0
  dsimp only at *
  generalize hx0:(⟨⟨l,n,b,s⟩,⟨m,t,mi,f,le⟩,cb,li,w,[]⟩:GE)=x0 at *
  refine spcG zh mixed Tryz.func10 (by kernel_rfl) { cfgG with rl:=[0],nr:=[8],keep:=some [0,1,2,6,7,8,10,37,38,39]} [xU,xR,xQ,xP,yu,yj,yF,yE,yM,yL,yS,yR] (by kernel_rfl) ?_
  intro I X hI hX
  clear hneed
  cases w
  · refine orcL ?_;go_invoke;refine orcS (by kernel_rfl) ?_
    simp only [zi,Nat.reduceAdd]
    have hh: ∀ {α:Type} (y:α),I.hid y=y:=fun y=>by subst hI;rfl
    simp only [hh]
    generalize zZ (zB q x).out=J at *
    (repeat' (first|refine And.intro ?_ ?_|intro _))
    all_goals try(subst hI;(simp only [nrmA,nrmB,nrlB,reduceCtorEq,V0.agg.injEq,HO.pack.injEq,HO.obj.injEq,HO.abs.injEq,Gh.cn.injEq] at *);first|done|omega|exact hN|(obtain⟨r1,r2,r3,r4⟩:=hd4 (by omega);simp only [Sto.mk.injEq] at r3;obtain⟨r5,r6,r7,r8⟩:=r3;simp [r1,r2,r4,r5,r6,r7,r8];done))
    have hp: ¬ q.pos=4:=by
      subst hI
      simp only [nrmA,nrmB,nrlB,reduceCtorEq] at *
      omega
    refine zC hI zh mixed [xU,xR,xQ,xP,yu,yj,yF,yE,yM,yL,yS,yR] hX [0,1,8,37,38,39] (fun(g:Nat × List Upl × Int × Str × Int × Cn × Str)=>match g with|(i,l1,n1,b1,s1,c,o)=>FdA x0 J i l1 n1 b1 s1 c o (zB q x)) (fun(g:Nat × List Upl × Int × Str × Int × Cn × Str)=>match g with|(i,l1,n1,b1,s1,c,o)=>⟨[(0,.v (.one (.ptr 0 0))),(1,.v (.one (.p (.int .i64 0)))),(8,.v (.one (.row 6))),(37,.v (.one (.row 7))),(38,.v (.one (.p (.int .i64 ((I.len (α:=Evt) J)))))),(39,.v (.one (.p (.int .i64 i))))],[.obj 57 [(.ptr 1 0),(.ptr 2 0),(.ptr 3 0),(.ptr 4 0),(.ptr 5 0)],.pack [.obj 41 [(.ptr 1 0),(.ptr 2 0)],.pack [.obj 88 [(.row 1),(.p (.int .i64 n1))],.row .upl 86 l1],.pack [.obj 118 [(.row 1),(.p (.int .i64 s1))],.row .byte 5 b1]],.abs (.cn c),.abs (.cn c1),.abs (.cn c2),.abs (.cn c3),.row .byte 5 o,.row .evt 53 J],56,none⟩) (fun(g:Nat × List Upl × Int × Str × Int × Cn × Str)=>match g with|(i,l1,n1,b1,s1,c,o)=>J.length - i) (0,l,n,b,s,⟨zB q x,⟨m,t,mi,f,le⟩,cb,li,false⟩,[]) (by kernel_rfl) (by kernel_rfl) ?_ ?_
    · exact hA0
    rintro⟨i,l1,n1,b1,s1,c,o⟩ h1 A hA
    simp only at hA h1
    have hok:=Ui hJ h1
    have hol:=h1.ol
    have hil:=h1.le
    have hln:=hJ.ln
    have hS:=fun h=>zgu hJ h1 h ⟨0,⟨[],[],0,[],0⟩,[],⟨[],[],[],[]⟩,0⟩
    have hend:=hend _ _ _ _ _ _ _ h1
    refine orcL ?_;go_invoke;refine orcS (by kernel_rfl) ?_
    simp only [zi,Nat.reduceAdd]
    have e1:I.get J ⟨0,⟨[],[],0,[],0⟩,[],⟨[],[],[],[]⟩,0⟩ (i:Int)=J.getD i ⟨0,⟨[],[],0,[],0⟩,[],⟨[],[],[],[]⟩,0⟩:=by subst hI;first|rfl|simp
    simp only [e1]
    generalize J.getD i ⟨0,⟨[],[],0,[],0⟩,[],⟨[],[],[],[]⟩,0⟩=E at *
    have e0:(⟨E.kind,⟨E.head.method,E.head.target,E.head.minor,E.head.fields,E.head.length⟩,E.bytes,⟨E.part.name,E.part.file,E.part.type,E.part.bytes⟩,E.code⟩:Evt)=E:=rfl
    simp only [e0,hh]
    generalize hr:evG ⟨⟨l1,n1,b1,s1⟩,c.h,c.body,c.live,c.own,[]⟩ E=r at *
    have hd5:=hd5 hp
    subst hI
    simp only [nrmA,nrmB,nrlB,reduceCtorEq,V0.agg.injEq,HO.pack.injEq,HO.obj.injEq,HO.abs.injEq,Gh.cn.injEq]
    (repeat' (first|refine And.intro ?_ ?_|intro _))<;>first|omega|exact True.intro|exact False.elim ‹False›|skip
    all_goals first
      |omega
      |exact hok.1
      |exact hok.2.2.2.1.1
      |(exact(hok.2.2.2.1.2 _ ‹_›).1)
      |(exact(hok.2.2.2.1.2 _ ‹_›).2)
      |exact(hS (by omega)).1.1
      |exact(hS (by omega)).1.2
      |(exact(hS (by omega)).1.2 ‹_›)
      |(have:=((hS (by omega)).2 _ rfl).1;omega)
      |exact hA (i+1,r.q.l,r.q.n,r.q.b,r.q.s,⟨c.q,r.h,r.b,r.i,r.w⟩,o++r.o) ((hS (by omega)).2 _ rfl).2 (by dsimp only;omega)
      |(obtain⟨r3,r4,r5⟩:=hend (by omega) hp;simp only [Sto.mk.injEq] at r3;obtain⟨r6,r7,r8,r9⟩:=r3;simp [r4,r5,r6,r7,r8,r9,hd5];done)
  · refine orcL ?_;go_invoke;refine orcS (by kernel_rfl) ?_
    simp only [zi,Nat.reduceAdd]
    have hh: ∀ {α:Type} (y:α),I.hid y=y:=fun y=>by subst hI;rfl
    simp only [hh]
    generalize zZ (zB q x).out=J at *
    (repeat' (first|refine And.intro ?_ ?_|intro _))
    all_goals try(subst hI;(simp only [nrmA,nrmB,nrlB,reduceCtorEq,V0.agg.injEq,HO.pack.injEq,HO.obj.injEq,HO.abs.injEq,Gh.cn.injEq] at *);first|done|omega|exact hN|(obtain⟨r1,r2,r3,r4⟩:=hd4 (by omega);simp only [Sto.mk.injEq] at r3;obtain⟨r5,r6,r7,r8⟩:=r3;simp [r1,r2,r4,r5,r6,r7,r8];done))
    have hp: ¬ q.pos=4:=by
      subst hI
      simp only [nrmA,nrmB,nrlB,reduceCtorEq] at *
      omega
    refine zC hI zh mixed [xU,xR,xQ,xP,yu,yj,yF,yE,yM,yL,yS,yR] hX [0,1,8,37,38,39] (fun(g:Nat × List Upl × Int × Str × Int × Cn × Str)=>match g with|(i,l1,n1,b1,s1,c,o)=>FdA x0 J i l1 n1 b1 s1 c o (zB q x)) (fun(g:Nat × List Upl × Int × Str × Int × Cn × Str)=>match g with|(i,l1,n1,b1,s1,c,o)=>⟨[(0,.v (.one (.ptr 0 0))),(1,.v (.one (.p (.int .i64 0)))),(8,.v (.one (.row 6))),(37,.v (.one (.row 7))),(38,.v (.one (.p (.int .i64 ((I.len (α:=Evt) J)))))),(39,.v (.one (.p (.int .i64 i))))],[.obj 57 [(.ptr 1 0),(.ptr 2 0),(.ptr 3 0),(.ptr 4 0),(.ptr 5 0)],.pack [.obj 41 [(.ptr 1 0),(.ptr 2 0)],.pack [.obj 88 [(.row 1),(.p (.int .i64 n1))],.row .upl 86 l1],.pack [.obj 118 [(.row 1),(.p (.int .i64 s1))],.row .byte 5 b1]],.abs (.cn c),.abs (.cn c1),.abs (.cn c2),.abs (.cn c3),.row .byte 5 o,.row .evt 53 J],56,none⟩) (fun(g:Nat × List Upl × Int × Str × Int × Cn × Str)=>match g with|(i,l1,n1,b1,s1,c,o)=>J.length - i) (0,l,n,b,s,⟨zB q x,⟨m,t,mi,f,le⟩,cb,li,true⟩,[]) (by kernel_rfl) (by kernel_rfl) ?_ ?_
    · exact hA0
    rintro⟨i,l1,n1,b1,s1,c,o⟩ h1 A hA
    simp only at hA h1
    have hok:=Ui hJ h1
    have hol:=h1.ol
    have hil:=h1.le
    have hln:=hJ.ln
    have hS:=fun h=>zgu hJ h1 h ⟨0,⟨[],[],0,[],0⟩,[],⟨[],[],[],[]⟩,0⟩
    have hend:=hend _ _ _ _ _ _ _ h1
    refine orcL ?_;go_invoke;refine orcS (by kernel_rfl) ?_
    simp only [zi,Nat.reduceAdd]
    have e1:I.get J ⟨0,⟨[],[],0,[],0⟩,[],⟨[],[],[],[]⟩,0⟩ (i:Int)=J.getD i ⟨0,⟨[],[],0,[],0⟩,[],⟨[],[],[],[]⟩,0⟩:=by subst hI;first|rfl|simp
    simp only [e1]
    generalize J.getD i ⟨0,⟨[],[],0,[],0⟩,[],⟨[],[],[],[]⟩,0⟩=E at *
    have e0:(⟨E.kind,⟨E.head.method,E.head.target,E.head.minor,E.head.fields,E.head.length⟩,E.bytes,⟨E.part.name,E.part.file,E.part.type,E.part.bytes⟩,E.code⟩:Evt)=E:=rfl
    simp only [e0,hh]
    generalize hr:evG ⟨⟨l1,n1,b1,s1⟩,c.h,c.body,c.live,c.own,[]⟩ E=r at *
    have hd5:=hd5 hp
    subst hI
    simp only [nrmA,nrmB,nrlB,reduceCtorEq,V0.agg.injEq,HO.pack.injEq,HO.obj.injEq,HO.abs.injEq,Gh.cn.injEq]
    (repeat' (first|refine And.intro ?_ ?_|intro _))<;>first|omega|exact True.intro|exact False.elim ‹False›|skip
    all_goals first
      |omega
      |exact hok.1
      |exact hok.2.2.2.1.1
      |(exact(hok.2.2.2.1.2 _ ‹_›).1)
      |(exact(hok.2.2.2.1.2 _ ‹_›).2)
      |exact(hS (by omega)).1.1
      |exact(hS (by omega)).1.2
      |(exact(hS (by omega)).1.2 ‹_›)
      |(have:=((hS (by omega)).2 _ rfl).1;omega)
      |exact hA (i+1,r.q.l,r.q.n,r.q.b,r.q.s,⟨c.q,r.h,r.b,r.i,r.w⟩,o++r.o) ((hS (by omega)).2 _ rfl).2 (by dsimp only;omega)
      |(obtain⟨r3,r4,r5⟩:=hend (by omega) hp;simp only [Sto.mk.injEq] at r3;obtain⟨r6,r7,r8,r9⟩:=r3;simp [r4,r5,r6,r7,r8,r9,hd5];done)
def VW (I:Alg) (args:List D) (hp:List HO):Option CT:=match args,hp with
  |[.v (.one (.ptr 0 0)),.v (.one (.p (.int .i64 0))),.v (.one (.p (.list .byte x)))],[.obj 57 [(.ptr 1 0),(.ptr 2 0),(.ptr 3 0),(.ptr 4 0),(.ptr 5 0)],.pack [.obj 41 [(.ptr 1 0),(.ptr 2 0)],.pack [.obj 88 [(.row 1),(.p (.int .i64 n))],.row .upl 86 l],.pack [.obj 118 [(.row 1),(.p (.int .i64 s))],.row .byte 5 b]],.abs (.cn c0),.abs (.cn c1),.abs (.cn c2),.abs (.cn c3)]=>(fun(l:List Upl) (n:Int) (b:Str) (s:Int) (c0 c1 c2 c3:Cn) (x:Str)=>(some (.one ⟨I.hid (FdN ⟨l,n,b,s⟩ c0 x),(.ret (.tup [(.one (.p (.list .byte (I.hid ((fdO ⟨l,n,b,s⟩ c0 x)))))),(.one (.p (.int .i64 (I.hid ((fdK c0))))))])),[.obj 57 [(.ptr 1 0),(.ptr 2 0),(.ptr 3 0),(.ptr 4 0),(.ptr 5 0)],.pack [.obj 41 [(.ptr 1 0),(.ptr 2 0)],.pack [.obj 88 [(.row 1),(.p (.int .i64 (I.hid ((fdQ ⟨l,n,b,s⟩ c0 x).n))))],.row .upl 86 (I.hid ((fdQ ⟨l,n,b,s⟩ c0 x).l))],.pack [.obj 118 [(.row 1),(.p (.int .i64 (I.hid ((fdQ ⟨l,n,b,s⟩ c0 x).s))))],.row .byte 5 (I.hid ((fdQ ⟨l,n,b,s⟩ c0 x).b))]],.abs (.cn (I.hid ((fdC ⟨l,n,b,s⟩ c0 x)))),.abs (.cn c1),.abs (.cn c2),.abs (.cn c3)]⟩):Option CT)) l n b s c0 c1 c2 c3 x
  |_,_=>none
theorem zfV:zx Tryz.prog 10 (VW alg):=by
  intro args hp r h
  unfold VW at h
  split at h
  · cases h;exact fun hn=>ztZ _ _ _ _ _ _ _ _ _ hn
  · cases h
def yO:Know Tryz.prog:=⟨10,VW,zfV⟩
def yN:Know Tryz.prog:=⟨10,fun I=>zy I (VW I),zf zfV⟩
set_option maxHeartbeats 2000000 in
theorem ztY (l:List Upl) (n:Int) (b:Str) (s:Int) (c0 c1 c2 c3:Cn) (x:Str) (hneed:FdN ⟨l,n,b,s⟩ c1 x):Spc Tryz.prog 10 [.v (.one (.ptr 0 0)),.v (.one (.p (.int .i64 1))),.v (.one (.p (.list .byte x)))] [.obj 57 [(.ptr 1 0),(.ptr 2 0),(.ptr 3 0),(.ptr 4 0),(.ptr 5 0)],.pack [.obj 41 [(.ptr 1 0),(.ptr 2 0)],.pack [.obj 88 [(.row 1),(.p (.int .i64 n))],.row .upl 86 l],.pack [.obj 118 [(.row 1),(.p (.int .i64 s))],.row .byte 5 b]],.abs (.cn c0),.abs (.cn c1),.abs (.cn c2),.abs (.cn c3)] (.ret (.tup [(.one (.p (.list .byte ((fdO ⟨l,n,b,s⟩ c1 x))))),(.one (.p (.int .i64 ((fdK c1)))))])) [.obj 57 [(.ptr 1 0),(.ptr 2 0),(.ptr 3 0),(.ptr 4 0),(.ptr 5 0)],.pack [.obj 41 [(.ptr 1 0),(.ptr 2 0)],.pack [.obj 88 [(.row 1),(.p (.int .i64 ((fdQ ⟨l,n,b,s⟩ c1 x).n)))],.row .upl 86 ((fdQ ⟨l,n,b,s⟩ c1 x).l)],.pack [.obj 118 [(.row 1),(.p (.int .i64 ((fdQ ⟨l,n,b,s⟩ c1 x).s)))],.row .byte 5 ((fdQ ⟨l,n,b,s⟩ c1 x).b)]],.abs (.cn c0),.abs (.cn ((fdC ⟨l,n,b,s⟩ c1 x))),.abs (.cn c2),.abs (.cn c3)]:=by
  obtain⟨hJ,hN⟩:=zjZ hneed
  have hend:=fun l1 n1 b1 s1 c o i h=>zd5 (q:=⟨l,n,b,s⟩) (c0:=c1) (x:=x) (l:=l1) (n:=n1) (b:=b1) (s:=s1) (c:=c) (o:=o) (i:=i) h
  have hA0:=zrk hJ (zB c1.q x) (l:=l) (n:=n) (b:=b) (s:=s) rfl
  have hd4:c1.q.pos=4→fdK c1=18∧fdO ⟨l,n,b,s⟩ c1 x=[]∧fdQ ⟨l,n,b,s⟩ c1 x=⟨l,n,b,s⟩∧fdC ⟨l,n,b,s⟩ c1 x=c1:=fun h=>by unfold fdK fdO fdQ fdC;rw [if_pos h,if_pos h,if_pos h,if_pos h];exact⟨rfl,rfl,rfl,rfl⟩
  have hd5: ¬ c1.q.pos=4→fdK c1=0:=fun h=>by unfold fdK;rw [if_neg h]
  generalize fdK c1=rk at *
  generalize fdO ⟨l,n,b,s⟩ c1 x=ro at *
  generalize fdQ ⟨l,n,b,s⟩ c1 x=rq at *
  generalize fdC ⟨l,n,b,s⟩ c1 x=rc at *
  obtain⟨l',n',b',s'⟩:=rq
  obtain⟨q,⟨m,t,mi,f,le⟩,cb,li,w⟩:=c1
  dsimp only at *
  generalize hx0:(⟨⟨l,n,b,s⟩,⟨m,t,mi,f,le⟩,cb,li,w,[]⟩:GE)=x0 at *
  refine spcG zh mixed Tryz.func10 (by kernel_rfl) { cfgG with rl:=[0],nr:=[8],keep:=some [0,1,2,6,7,8,10,37,38,39]} [xU,xR,xQ,xP,yu,yj,yF,yE,yM,yL,yS,yR,yO,yN] (by kernel_rfl) ?_
  intro I X hI hX
  clear hneed
  cases w
  · refine orcL ?_;go_invoke;refine orcS (by kernel_rfl) ?_
    simp only [zi,Nat.reduceAdd]
    have hh: ∀ {α:Type} (y:α),I.hid y=y:=fun y=>by subst hI;rfl
    simp only [hh]
    generalize zZ (zB q x).out=J at *
    (repeat' (first|refine And.intro ?_ ?_|intro _))
    all_goals try(subst hI;(simp only [nrmA,nrmB,nrlB,reduceCtorEq,V0.agg.injEq,HO.pack.injEq,HO.obj.injEq,HO.abs.injEq,Gh.cn.injEq] at *);first|done|omega|exact hN|(obtain⟨r1,r2,r3,r4⟩:=hd4 (by omega);simp only [Sto.mk.injEq] at r3;obtain⟨r5,r6,r7,r8⟩:=r3;simp [r1,r2,r4,r5,r6,r7,r8];done))
    have hp: ¬ q.pos=4:=by
      subst hI
      simp only [nrmA,nrmB,nrlB,reduceCtorEq] at *
      omega
    refine zC hI zh mixed [xU,xR,xQ,xP,yu,yj,yF,yE,yM,yL,yS,yR,yO,yN] hX [0,1,8,37,38,39] (fun(g:Nat × List Upl × Int × Str × Int × Cn × Str)=>match g with|(i,l1,n1,b1,s1,c,o)=>FdA x0 J i l1 n1 b1 s1 c o (zB q x)) (fun(g:Nat × List Upl × Int × Str × Int × Cn × Str)=>match g with|(i,l1,n1,b1,s1,c,o)=>⟨[(0,.v (.one (.ptr 0 0))),(1,.v (.one (.p (.int .i64 1)))),(8,.v (.one (.row 6))),(37,.v (.one (.row 7))),(38,.v (.one (.p (.int .i64 ((I.len (α:=Evt) J)))))),(39,.v (.one (.p (.int .i64 i))))],[.obj 57 [(.ptr 1 0),(.ptr 2 0),(.ptr 3 0),(.ptr 4 0),(.ptr 5 0)],.pack [.obj 41 [(.ptr 1 0),(.ptr 2 0)],.pack [.obj 88 [(.row 1),(.p (.int .i64 n1))],.row .upl 86 l1],.pack [.obj 118 [(.row 1),(.p (.int .i64 s1))],.row .byte 5 b1]],.abs (.cn c0),.abs (.cn c),.abs (.cn c2),.abs (.cn c3),.row .byte 5 o,.row .evt 53 J],56,none⟩) (fun(g:Nat × List Upl × Int × Str × Int × Cn × Str)=>match g with|(i,l1,n1,b1,s1,c,o)=>J.length - i) (0,l,n,b,s,⟨zB q x,⟨m,t,mi,f,le⟩,cb,li,false⟩,[]) (by kernel_rfl) (by kernel_rfl) ?_ ?_
    · exact hA0
    rintro⟨i,l1,n1,b1,s1,c,o⟩ h1 A hA
    simp only at hA h1
    have hok:=Ui hJ h1
    have hol:=h1.ol
    have hil:=h1.le
    have hln:=hJ.ln
    have hS:=fun h=>zgu hJ h1 h ⟨0,⟨[],[],0,[],0⟩,[],⟨[],[],[],[]⟩,0⟩
    have hend:=hend _ _ _ _ _ _ _ h1
    refine orcL ?_;go_invoke;refine orcS (by kernel_rfl) ?_
    simp only [zi,Nat.reduceAdd]
    have e1:I.get J ⟨0,⟨[],[],0,[],0⟩,[],⟨[],[],[],[]⟩,0⟩ (i:Int)=J.getD i ⟨0,⟨[],[],0,[],0⟩,[],⟨[],[],[],[]⟩,0⟩:=by subst hI;first|rfl|simp
    simp only [e1]
    generalize J.getD i ⟨0,⟨[],[],0,[],0⟩,[],⟨[],[],[],[]⟩,0⟩=E at *
    have e0:(⟨E.kind,⟨E.head.method,E.head.target,E.head.minor,E.head.fields,E.head.length⟩,E.bytes,⟨E.part.name,E.part.file,E.part.type,E.part.bytes⟩,E.code⟩:Evt)=E:=rfl
    simp only [e0,hh]
    generalize hr:evG ⟨⟨l1,n1,b1,s1⟩,c.h,c.body,c.live,c.own,[]⟩ E=r at *
    have hd5:=hd5 hp
    subst hI
    simp only [nrmA,nrmB,nrlB,reduceCtorEq,V0.agg.injEq,HO.pack.injEq,HO.obj.injEq,HO.abs.injEq,Gh.cn.injEq]
    (repeat' (first|refine And.intro ?_ ?_|intro _))<;>first|omega|exact True.intro|exact False.elim ‹False›|skip
    all_goals first
      |omega
      |exact hok.1
      |exact hok.2.2.2.1.1
      |(exact(hok.2.2.2.1.2 _ ‹_›).1)
      |(exact(hok.2.2.2.1.2 _ ‹_›).2)
      |exact(hS (by omega)).1.1
      |exact(hS (by omega)).1.2
      |(exact(hS (by omega)).1.2 ‹_›)
      |(have:=((hS (by omega)).2 _ rfl).1;omega)
      |exact hA (i+1,r.q.l,r.q.n,r.q.b,r.q.s,⟨c.q,r.h,r.b,r.i,r.w⟩,o++r.o) ((hS (by omega)).2 _ rfl).2 (by dsimp only;omega)
      |(obtain⟨r3,r4,r5⟩:=hend (by omega) hp;simp only [Sto.mk.injEq] at r3;obtain⟨r6,r7,r8,r9⟩:=r3;simp [r4,r5,r6,r7,r8,r9,hd5];done)
  · refine orcL ?_;go_invoke;refine orcS (by kernel_rfl) ?_
    simp only [zi,Nat.reduceAdd]
    have hh: ∀ {α:Type} (y:α),I.hid y=y:=fun y=>by subst hI;rfl
    simp only [hh]
    generalize zZ (zB q x).out=J at *
    (repeat' (first|refine And.intro ?_ ?_|intro _))
    all_goals try(subst hI;(simp only [nrmA,nrmB,nrlB,reduceCtorEq,V0.agg.injEq,HO.pack.injEq,HO.obj.injEq,HO.abs.injEq,Gh.cn.injEq] at *);first|done|omega|exact hN|(obtain⟨r1,r2,r3,r4⟩:=hd4 (by omega);simp only [Sto.mk.injEq] at r3;obtain⟨r5,r6,r7,r8⟩:=r3;simp [r1,r2,r4,r5,r6,r7,r8];done))
    have hp: ¬ q.pos=4:=by
      subst hI
      simp only [nrmA,nrmB,nrlB,reduceCtorEq] at *
      omega
    refine zC hI zh mixed [xU,xR,xQ,xP,yu,yj,yF,yE,yM,yL,yS,yR,yO,yN] hX [0,1,8,37,38,39] (fun(g:Nat × List Upl × Int × Str × Int × Cn × Str)=>match g with|(i,l1,n1,b1,s1,c,o)=>FdA x0 J i l1 n1 b1 s1 c o (zB q x)) (fun(g:Nat × List Upl × Int × Str × Int × Cn × Str)=>match g with|(i,l1,n1,b1,s1,c,o)=>⟨[(0,.v (.one (.ptr 0 0))),(1,.v (.one (.p (.int .i64 1)))),(8,.v (.one (.row 6))),(37,.v (.one (.row 7))),(38,.v (.one (.p (.int .i64 ((I.len (α:=Evt) J)))))),(39,.v (.one (.p (.int .i64 i))))],[.obj 57 [(.ptr 1 0),(.ptr 2 0),(.ptr 3 0),(.ptr 4 0),(.ptr 5 0)],.pack [.obj 41 [(.ptr 1 0),(.ptr 2 0)],.pack [.obj 88 [(.row 1),(.p (.int .i64 n1))],.row .upl 86 l1],.pack [.obj 118 [(.row 1),(.p (.int .i64 s1))],.row .byte 5 b1]],.abs (.cn c0),.abs (.cn c),.abs (.cn c2),.abs (.cn c3),.row .byte 5 o,.row .evt 53 J],56,none⟩) (fun(g:Nat × List Upl × Int × Str × Int × Cn × Str)=>match g with|(i,l1,n1,b1,s1,c,o)=>J.length - i) (0,l,n,b,s,⟨zB q x,⟨m,t,mi,f,le⟩,cb,li,true⟩,[]) (by kernel_rfl) (by kernel_rfl) ?_ ?_
    · exact hA0
    rintro⟨i,l1,n1,b1,s1,c,o⟩ h1 A hA
    simp only at hA h1
    have hok:=Ui hJ h1
    have hol:=h1.ol
    have hil:=h1.le
    have hln:=hJ.ln
    have hS:=fun h=>zgu hJ h1 h ⟨0,⟨[],[],0,[],0⟩,[],⟨[],[],[],[]⟩,0⟩
    have hend:=hend _ _ _ _ _ _ _ h1
    refine orcL ?_;go_invoke;refine orcS (by kernel_rfl) ?_
    simp only [zi,Nat.reduceAdd]
    have e1:I.get J ⟨0,⟨[],[],0,[],0⟩,[],⟨[],[],[],[]⟩,0⟩ (i:Int)=J.getD i ⟨0,⟨[],[],0,[],0⟩,[],⟨[],[],[],[]⟩,0⟩:=by subst hI;first|rfl|simp
    simp only [e1]
    generalize J.getD i ⟨0,⟨[],[],0,[],0⟩,[],⟨[],[],[],[]⟩,0⟩=E at *
    have e0:(⟨E.kind,⟨E.head.method,E.head.target,E.head.minor,E.head.fields,E.head.length⟩,E.bytes,⟨E.part.name,E.part.file,E.part.type,E.part.bytes⟩,E.code⟩:Evt)=E:=rfl
    simp only [e0,hh]
    generalize hr:evG ⟨⟨l1,n1,b1,s1⟩,c.h,c.body,c.live,c.own,[]⟩ E=r at *
    have hd5:=hd5 hp
    subst hI
    simp only [nrmA,nrmB,nrlB,reduceCtorEq,V0.agg.injEq,HO.pack.injEq,HO.obj.injEq,HO.abs.injEq,Gh.cn.injEq]
    (repeat' (first|refine And.intro ?_ ?_|intro _))<;>first|omega|exact True.intro|exact False.elim ‹False›|skip
    all_goals first
      |omega
      |exact hok.1
      |exact hok.2.2.2.1.1
      |(exact(hok.2.2.2.1.2 _ ‹_›).1)
      |(exact(hok.2.2.2.1.2 _ ‹_›).2)
      |exact(hS (by omega)).1.1
      |exact(hS (by omega)).1.2
      |(exact(hS (by omega)).1.2 ‹_›)
      |(have:=((hS (by omega)).2 _ rfl).1;omega)
      |exact hA (i+1,r.q.l,r.q.n,r.q.b,r.q.s,⟨c.q,r.h,r.b,r.i,r.w⟩,o++r.o) ((hS (by omega)).2 _ rfl).2 (by dsimp only;omega)
      |(obtain⟨r3,r4,r5⟩:=hend (by omega) hp;simp only [Sto.mk.injEq] at r3;obtain⟨r6,r7,r8,r9⟩:=r3;simp [r4,r5,r6,r7,r8,r9,hd5];done)
def VU (I:Alg) (args:List D) (hp:List HO):Option CT:=match args,hp with
  |[.v (.one (.ptr 0 0)),.v (.one (.p (.int .i64 1))),.v (.one (.p (.list .byte x)))],[.obj 57 [(.ptr 1 0),(.ptr 2 0),(.ptr 3 0),(.ptr 4 0),(.ptr 5 0)],.pack [.obj 41 [(.ptr 1 0),(.ptr 2 0)],.pack [.obj 88 [(.row 1),(.p (.int .i64 n))],.row .upl 86 l],.pack [.obj 118 [(.row 1),(.p (.int .i64 s))],.row .byte 5 b]],.abs (.cn c0),.abs (.cn c1),.abs (.cn c2),.abs (.cn c3)]=>(fun(l:List Upl) (n:Int) (b:Str) (s:Int) (c0 c1 c2 c3:Cn) (x:Str)=>(some (.one ⟨I.hid (FdN ⟨l,n,b,s⟩ c1 x),(.ret (.tup [(.one (.p (.list .byte (I.hid ((fdO ⟨l,n,b,s⟩ c1 x)))))),(.one (.p (.int .i64 (I.hid ((fdK c1))))))])),[.obj 57 [(.ptr 1 0),(.ptr 2 0),(.ptr 3 0),(.ptr 4 0),(.ptr 5 0)],.pack [.obj 41 [(.ptr 1 0),(.ptr 2 0)],.pack [.obj 88 [(.row 1),(.p (.int .i64 (I.hid ((fdQ ⟨l,n,b,s⟩ c1 x).n))))],.row .upl 86 (I.hid ((fdQ ⟨l,n,b,s⟩ c1 x).l))],.pack [.obj 118 [(.row 1),(.p (.int .i64 (I.hid ((fdQ ⟨l,n,b,s⟩ c1 x).s))))],.row .byte 5 (I.hid ((fdQ ⟨l,n,b,s⟩ c1 x).b))]],.abs (.cn c0),.abs (.cn (I.hid ((fdC ⟨l,n,b,s⟩ c1 x)))),.abs (.cn c2),.abs (.cn c3)]⟩):Option CT)) l n b s c0 c1 c2 c3 x
  |_,_=>none
theorem zfU:zx Tryz.prog 10 (VU alg):=by
  intro args hp r h
  unfold VU at h
  split at h
  · cases h;exact fun hn=>ztY _ _ _ _ _ _ _ _ _ hn
  · cases h
def xY:Know Tryz.prog:=⟨10,VU,zfU⟩
def xX:Know Tryz.prog:=⟨10,fun I=>zy I (VU I),zf zfU⟩
set_option maxHeartbeats 2000000 in
theorem ztX (l:List Upl) (n:Int) (b:Str) (s:Int) (c0 c1 c2 c3:Cn) (x:Str) (hneed:FdN ⟨l,n,b,s⟩ c2 x):Spc Tryz.prog 10 [.v (.one (.ptr 0 0)),.v (.one (.p (.int .i64 2))),.v (.one (.p (.list .byte x)))] [.obj 57 [(.ptr 1 0),(.ptr 2 0),(.ptr 3 0),(.ptr 4 0),(.ptr 5 0)],.pack [.obj 41 [(.ptr 1 0),(.ptr 2 0)],.pack [.obj 88 [(.row 1),(.p (.int .i64 n))],.row .upl 86 l],.pack [.obj 118 [(.row 1),(.p (.int .i64 s))],.row .byte 5 b]],.abs (.cn c0),.abs (.cn c1),.abs (.cn c2),.abs (.cn c3)] (.ret (.tup [(.one (.p (.list .byte ((fdO ⟨l,n,b,s⟩ c2 x))))),(.one (.p (.int .i64 ((fdK c2)))))])) [.obj 57 [(.ptr 1 0),(.ptr 2 0),(.ptr 3 0),(.ptr 4 0),(.ptr 5 0)],.pack [.obj 41 [(.ptr 1 0),(.ptr 2 0)],.pack [.obj 88 [(.row 1),(.p (.int .i64 ((fdQ ⟨l,n,b,s⟩ c2 x).n)))],.row .upl 86 ((fdQ ⟨l,n,b,s⟩ c2 x).l)],.pack [.obj 118 [(.row 1),(.p (.int .i64 ((fdQ ⟨l,n,b,s⟩ c2 x).s)))],.row .byte 5 ((fdQ ⟨l,n,b,s⟩ c2 x).b)]],.abs (.cn c0),.abs (.cn c1),.abs (.cn ((fdC ⟨l,n,b,s⟩ c2 x))),.abs (.cn c3)]:=by
  obtain⟨hJ,hN⟩:=zjZ hneed
  have hend:=fun l1 n1 b1 s1 c o i h=>zd5 (q:=⟨l,n,b,s⟩) (c0:=c2) (x:=x) (l:=l1) (n:=n1) (b:=b1) (s:=s1) (c:=c) (o:=o) (i:=i) h
  have hA0:=zrk hJ (zB c2.q x) (l:=l) (n:=n) (b:=b) (s:=s) rfl
  have hd4:c2.q.pos=4→fdK c2=18∧fdO ⟨l,n,b,s⟩ c2 x=[]∧fdQ ⟨l,n,b,s⟩ c2 x=⟨l,n,b,s⟩∧fdC ⟨l,n,b,s⟩ c2 x=c2:=fun h=>by unfold fdK fdO fdQ fdC;rw [if_pos h,if_pos h,if_pos h,if_pos h];exact⟨rfl,rfl,rfl,rfl⟩
  have hd5: ¬ c2.q.pos=4→fdK c2=0:=fun h=>by unfold fdK;rw [if_neg h]
  generalize fdK c2=rk at *
  generalize fdO ⟨l,n,b,s⟩ c2 x=ro at *
  generalize fdQ ⟨l,n,b,s⟩ c2 x=rq at *
  generalize fdC ⟨l,n,b,s⟩ c2 x=rc at *
  obtain⟨l',n',b',s'⟩:=rq
  obtain⟨q,⟨m,t,mi,f,le⟩,cb,li,w⟩:=c2
  dsimp only at *
  generalize hx0:(⟨⟨l,n,b,s⟩,⟨m,t,mi,f,le⟩,cb,li,w,[]⟩:GE)=x0 at *
  refine spcG zh mixed Tryz.func10 (by kernel_rfl) { cfgG with rl:=[0],nr:=[8],keep:=some [0,1,2,6,7,8,10,37,38,39]} [xU,xR,xQ,xP,yu,yj,yF,yE,yM,yL,yS,yR,yO,yN,xY,xX] (by kernel_rfl) ?_
  intro I X hI hX
  clear hneed
  cases w
  · refine orcL ?_;go_invoke;refine orcS (by kernel_rfl) ?_
    simp only [zi,Nat.reduceAdd]
    have hh: ∀ {α:Type} (y:α),I.hid y=y:=fun y=>by subst hI;rfl
    simp only [hh]
    generalize zZ (zB q x).out=J at *
    (repeat' (first|refine And.intro ?_ ?_|intro _))
    all_goals try(subst hI;(simp only [nrmA,nrmB,nrlB,reduceCtorEq,V0.agg.injEq,HO.pack.injEq,HO.obj.injEq,HO.abs.injEq,Gh.cn.injEq] at *);first|done|omega|exact hN|(obtain⟨r1,r2,r3,r4⟩:=hd4 (by omega);simp only [Sto.mk.injEq] at r3;obtain⟨r5,r6,r7,r8⟩:=r3;simp [r1,r2,r4,r5,r6,r7,r8];done))
    have hp: ¬ q.pos=4:=by
      subst hI
      simp only [nrmA,nrmB,nrlB,reduceCtorEq] at *
      omega
    refine zC hI zh mixed [xU,xR,xQ,xP,yu,yj,yF,yE,yM,yL,yS,yR,yO,yN,xY,xX] hX [0,1,8,37,38,39] (fun(g:Nat × List Upl × Int × Str × Int × Cn × Str)=>match g with|(i,l1,n1,b1,s1,c,o)=>FdA x0 J i l1 n1 b1 s1 c o (zB q x)) (fun(g:Nat × List Upl × Int × Str × Int × Cn × Str)=>match g with|(i,l1,n1,b1,s1,c,o)=>⟨[(0,.v (.one (.ptr 0 0))),(1,.v (.one (.p (.int .i64 2)))),(8,.v (.one (.row 6))),(37,.v (.one (.row 7))),(38,.v (.one (.p (.int .i64 ((I.len (α:=Evt) J)))))),(39,.v (.one (.p (.int .i64 i))))],[.obj 57 [(.ptr 1 0),(.ptr 2 0),(.ptr 3 0),(.ptr 4 0),(.ptr 5 0)],.pack [.obj 41 [(.ptr 1 0),(.ptr 2 0)],.pack [.obj 88 [(.row 1),(.p (.int .i64 n1))],.row .upl 86 l1],.pack [.obj 118 [(.row 1),(.p (.int .i64 s1))],.row .byte 5 b1]],.abs (.cn c0),.abs (.cn c1),.abs (.cn c),.abs (.cn c3),.row .byte 5 o,.row .evt 53 J],56,none⟩) (fun(g:Nat × List Upl × Int × Str × Int × Cn × Str)=>match g with|(i,l1,n1,b1,s1,c,o)=>J.length - i) (0,l,n,b,s,⟨zB q x,⟨m,t,mi,f,le⟩,cb,li,false⟩,[]) (by kernel_rfl) (by kernel_rfl) ?_ ?_
    · exact hA0
    rintro⟨i,l1,n1,b1,s1,c,o⟩ h1 A hA
    simp only at hA h1
    have hok:=Ui hJ h1
    have hol:=h1.ol
    have hil:=h1.le
    have hln:=hJ.ln
    have hS:=fun h=>zgu hJ h1 h ⟨0,⟨[],[],0,[],0⟩,[],⟨[],[],[],[]⟩,0⟩
    have hend:=hend _ _ _ _ _ _ _ h1
    refine orcL ?_;go_invoke;refine orcS (by kernel_rfl) ?_
    simp only [zi,Nat.reduceAdd]
    have e1:I.get J ⟨0,⟨[],[],0,[],0⟩,[],⟨[],[],[],[]⟩,0⟩ (i:Int)=J.getD i ⟨0,⟨[],[],0,[],0⟩,[],⟨[],[],[],[]⟩,0⟩:=by subst hI;first|rfl|simp
    simp only [e1]
    generalize J.getD i ⟨0,⟨[],[],0,[],0⟩,[],⟨[],[],[],[]⟩,0⟩=E at *
    have e0:(⟨E.kind,⟨E.head.method,E.head.target,E.head.minor,E.head.fields,E.head.length⟩,E.bytes,⟨E.part.name,E.part.file,E.part.type,E.part.bytes⟩,E.code⟩:Evt)=E:=rfl
    simp only [e0,hh]
    generalize hr:evG ⟨⟨l1,n1,b1,s1⟩,c.h,c.body,c.live,c.own,[]⟩ E=r at *
    have hd5:=hd5 hp
    subst hI
    simp only [nrmA,nrmB,nrlB,reduceCtorEq,V0.agg.injEq,HO.pack.injEq,HO.obj.injEq,HO.abs.injEq,Gh.cn.injEq]
    (repeat' (first|refine And.intro ?_ ?_|intro _))<;>first|omega|exact True.intro|exact False.elim ‹False›|skip
    all_goals first
      |omega
      |exact hok.1
      |exact hok.2.2.2.1.1
      |(exact(hok.2.2.2.1.2 _ ‹_›).1)
      |(exact(hok.2.2.2.1.2 _ ‹_›).2)
      |exact(hS (by omega)).1.1
      |exact(hS (by omega)).1.2
      |(exact(hS (by omega)).1.2 ‹_›)
      |(have:=((hS (by omega)).2 _ rfl).1;omega)
      |exact hA (i+1,r.q.l,r.q.n,r.q.b,r.q.s,⟨c.q,r.h,r.b,r.i,r.w⟩,o++r.o) ((hS (by omega)).2 _ rfl).2 (by dsimp only;omega)
      |(obtain⟨r3,r4,r5⟩:=hend (by omega) hp;simp only [Sto.mk.injEq] at r3;obtain⟨r6,r7,r8,r9⟩:=r3;simp [r4,r5,r6,r7,r8,r9,hd5];done)
  · refine orcL ?_;go_invoke;refine orcS (by kernel_rfl) ?_
    simp only [zi,Nat.reduceAdd]
    have hh: ∀ {α:Type} (y:α),I.hid y=y:=fun y=>by subst hI;rfl
    simp only [hh]
    generalize zZ (zB q x).out=J at *
    (repeat' (first|refine And.intro ?_ ?_|intro _))
    all_goals try(subst hI;(simp only [nrmA,nrmB,nrlB,reduceCtorEq,V0.agg.injEq,HO.pack.injEq,HO.obj.injEq,HO.abs.injEq,Gh.cn.injEq] at *);first|done|omega|exact hN|(obtain⟨r1,r2,r3,r4⟩:=hd4 (by omega);simp only [Sto.mk.injEq] at r3;obtain⟨r5,r6,r7,r8⟩:=r3;simp [r1,r2,r4,r5,r6,r7,r8];done))
    have hp: ¬ q.pos=4:=by
      subst hI
      simp only [nrmA,nrmB,nrlB,reduceCtorEq] at *
      omega
    refine zC hI zh mixed [xU,xR,xQ,xP,yu,yj,yF,yE,yM,yL,yS,yR,yO,yN,xY,xX] hX [0,1,8,37,38,39] (fun(g:Nat × List Upl × Int × Str × Int × Cn × Str)=>match g with|(i,l1,n1,b1,s1,c,o)=>FdA x0 J i l1 n1 b1 s1 c o (zB q x)) (fun(g:Nat × List Upl × Int × Str × Int × Cn × Str)=>match g with|(i,l1,n1,b1,s1,c,o)=>⟨[(0,.v (.one (.ptr 0 0))),(1,.v (.one (.p (.int .i64 2)))),(8,.v (.one (.row 6))),(37,.v (.one (.row 7))),(38,.v (.one (.p (.int .i64 ((I.len (α:=Evt) J)))))),(39,.v (.one (.p (.int .i64 i))))],[.obj 57 [(.ptr 1 0),(.ptr 2 0),(.ptr 3 0),(.ptr 4 0),(.ptr 5 0)],.pack [.obj 41 [(.ptr 1 0),(.ptr 2 0)],.pack [.obj 88 [(.row 1),(.p (.int .i64 n1))],.row .upl 86 l1],.pack [.obj 118 [(.row 1),(.p (.int .i64 s1))],.row .byte 5 b1]],.abs (.cn c0),.abs (.cn c1),.abs (.cn c),.abs (.cn c3),.row .byte 5 o,.row .evt 53 J],56,none⟩) (fun(g:Nat × List Upl × Int × Str × Int × Cn × Str)=>match g with|(i,l1,n1,b1,s1,c,o)=>J.length - i) (0,l,n,b,s,⟨zB q x,⟨m,t,mi,f,le⟩,cb,li,true⟩,[]) (by kernel_rfl) (by kernel_rfl) ?_ ?_
    · exact hA0
    rintro⟨i,l1,n1,b1,s1,c,o⟩ h1 A hA
    simp only at hA h1
    have hok:=Ui hJ h1
    have hol:=h1.ol
    have hil:=h1.le
    have hln:=hJ.ln
    have hS:=fun h=>zgu hJ h1 h ⟨0,⟨[],[],0,[],0⟩,[],⟨[],[],[],[]⟩,0⟩
    have hend:=hend _ _ _ _ _ _ _ h1
    refine orcL ?_;go_invoke;refine orcS (by kernel_rfl) ?_
    simp only [zi,Nat.reduceAdd]
    have e1:I.get J ⟨0,⟨[],[],0,[],0⟩,[],⟨[],[],[],[]⟩,0⟩ (i:Int)=J.getD i ⟨0,⟨[],[],0,[],0⟩,[],⟨[],[],[],[]⟩,0⟩:=by subst hI;first|rfl|simp
    simp only [e1]
    generalize J.getD i ⟨0,⟨[],[],0,[],0⟩,[],⟨[],[],[],[]⟩,0⟩=E at *
    have e0:(⟨E.kind,⟨E.head.method,E.head.target,E.head.minor,E.head.fields,E.head.length⟩,E.bytes,⟨E.part.name,E.part.file,E.part.type,E.part.bytes⟩,E.code⟩:Evt)=E:=rfl
    simp only [e0,hh]
    generalize hr:evG ⟨⟨l1,n1,b1,s1⟩,c.h,c.body,c.live,c.own,[]⟩ E=r at *
    have hd5:=hd5 hp
    subst hI
    simp only [nrmA,nrmB,nrlB,reduceCtorEq,V0.agg.injEq,HO.pack.injEq,HO.obj.injEq,HO.abs.injEq,Gh.cn.injEq]
    (repeat' (first|refine And.intro ?_ ?_|intro _))<;>first|omega|exact True.intro|exact False.elim ‹False›|skip
    all_goals first
      |omega
      |exact hok.1
      |exact hok.2.2.2.1.1
      |(exact(hok.2.2.2.1.2 _ ‹_›).1)
      |(exact(hok.2.2.2.1.2 _ ‹_›).2)
      |exact(hS (by omega)).1.1
      |exact(hS (by omega)).1.2
      |(exact(hS (by omega)).1.2 ‹_›)
      |(have:=((hS (by omega)).2 _ rfl).1;omega)
      |exact hA (i+1,r.q.l,r.q.n,r.q.b,r.q.s,⟨c.q,r.h,r.b,r.i,r.w⟩,o++r.o) ((hS (by omega)).2 _ rfl).2 (by dsimp only;omega)
      |(obtain⟨r3,r4,r5⟩:=hend (by omega) hp;simp only [Sto.mk.injEq] at r3;obtain⟨r6,r7,r8,r9⟩:=r3;simp [r4,r5,r6,r7,r8,r9,hd5];done)
def VT (I:Alg) (args:List D) (hp:List HO):Option CT:=match args,hp with
  |[.v (.one (.ptr 0 0)),.v (.one (.p (.int .i64 2))),.v (.one (.p (.list .byte x)))],[.obj 57 [(.ptr 1 0),(.ptr 2 0),(.ptr 3 0),(.ptr 4 0),(.ptr 5 0)],.pack [.obj 41 [(.ptr 1 0),(.ptr 2 0)],.pack [.obj 88 [(.row 1),(.p (.int .i64 n))],.row .upl 86 l],.pack [.obj 118 [(.row 1),(.p (.int .i64 s))],.row .byte 5 b]],.abs (.cn c0),.abs (.cn c1),.abs (.cn c2),.abs (.cn c3)]=>(fun(l:List Upl) (n:Int) (b:Str) (s:Int) (c0 c1 c2 c3:Cn) (x:Str)=>(some (.one ⟨I.hid (FdN ⟨l,n,b,s⟩ c2 x),(.ret (.tup [(.one (.p (.list .byte (I.hid ((fdO ⟨l,n,b,s⟩ c2 x)))))),(.one (.p (.int .i64 (I.hid ((fdK c2))))))])),[.obj 57 [(.ptr 1 0),(.ptr 2 0),(.ptr 3 0),(.ptr 4 0),(.ptr 5 0)],.pack [.obj 41 [(.ptr 1 0),(.ptr 2 0)],.pack [.obj 88 [(.row 1),(.p (.int .i64 (I.hid ((fdQ ⟨l,n,b,s⟩ c2 x).n))))],.row .upl 86 (I.hid ((fdQ ⟨l,n,b,s⟩ c2 x).l))],.pack [.obj 118 [(.row 1),(.p (.int .i64 (I.hid ((fdQ ⟨l,n,b,s⟩ c2 x).s))))],.row .byte 5 (I.hid ((fdQ ⟨l,n,b,s⟩ c2 x).b))]],.abs (.cn c0),.abs (.cn c1),.abs (.cn (I.hid ((fdC ⟨l,n,b,s⟩ c2 x)))),.abs (.cn c3)]⟩):Option CT)) l n b s c0 c1 c2 c3 x
  |_,_=>none
theorem zfT:zx Tryz.prog 10 (VT alg):=by
  intro args hp r h
  unfold VT at h
  split at h
  · cases h;exact fun hn=>ztX _ _ _ _ _ _ _ _ _ hn
  · cases h
def vK:Know Tryz.prog:=⟨10,VT,zfT⟩
def vJ:Know Tryz.prog:=⟨10,fun I=>zy I (VT I),zf zfT⟩
set_option maxHeartbeats 2000000 in
theorem ztW (l:List Upl) (n:Int) (b:Str) (s:Int) (c0 c1 c2 c3:Cn) (x:Str) (hneed:FdN ⟨l,n,b,s⟩ c3 x):Spc Tryz.prog 10 [.v (.one (.ptr 0 0)),.v (.one (.p (.int .i64 3))),.v (.one (.p (.list .byte x)))] [.obj 57 [(.ptr 1 0),(.ptr 2 0),(.ptr 3 0),(.ptr 4 0),(.ptr 5 0)],.pack [.obj 41 [(.ptr 1 0),(.ptr 2 0)],.pack [.obj 88 [(.row 1),(.p (.int .i64 n))],.row .upl 86 l],.pack [.obj 118 [(.row 1),(.p (.int .i64 s))],.row .byte 5 b]],.abs (.cn c0),.abs (.cn c1),.abs (.cn c2),.abs (.cn c3)] (.ret (.tup [(.one (.p (.list .byte ((fdO ⟨l,n,b,s⟩ c3 x))))),(.one (.p (.int .i64 ((fdK c3)))))])) [.obj 57 [(.ptr 1 0),(.ptr 2 0),(.ptr 3 0),(.ptr 4 0),(.ptr 5 0)],.pack [.obj 41 [(.ptr 1 0),(.ptr 2 0)],.pack [.obj 88 [(.row 1),(.p (.int .i64 ((fdQ ⟨l,n,b,s⟩ c3 x).n)))],.row .upl 86 ((fdQ ⟨l,n,b,s⟩ c3 x).l)],.pack [.obj 118 [(.row 1),(.p (.int .i64 ((fdQ ⟨l,n,b,s⟩ c3 x).s)))],.row .byte 5 ((fdQ ⟨l,n,b,s⟩ c3 x).b)]],.abs (.cn c0),.abs (.cn c1),.abs (.cn c2),.abs (.cn ((fdC ⟨l,n,b,s⟩ c3 x)))]:=by
  obtain⟨hJ,hN⟩:=zjZ hneed
  have hend:=fun l1 n1 b1 s1 c o i h=>zd5 (q:=⟨l,n,b,s⟩) (c0:=c3) (x:=x) (l:=l1) (n:=n1) (b:=b1) (s:=s1) (c:=c) (o:=o) (i:=i) h
  have hA0:=zrk hJ (zB c3.q x) (l:=l) (n:=n) (b:=b) (s:=s) rfl
  have hd4:c3.q.pos=4→fdK c3=18∧fdO ⟨l,n,b,s⟩ c3 x=[]∧fdQ ⟨l,n,b,s⟩ c3 x=⟨l,n,b,s⟩∧fdC ⟨l,n,b,s⟩ c3 x=c3:=fun h=>by unfold fdK fdO fdQ fdC;rw [if_pos h,if_pos h,if_pos h,if_pos h];exact⟨rfl,rfl,rfl,rfl⟩
  have hd5: ¬ c3.q.pos=4→fdK c3=0:=fun h=>by unfold fdK;rw [if_neg h]
  generalize fdK c3=rk at *
  generalize fdO ⟨l,n,b,s⟩ c3 x=ro at *
  generalize fdQ ⟨l,n,b,s⟩ c3 x=rq at *
  generalize fdC ⟨l,n,b,s⟩ c3 x=rc at *
  obtain⟨l',n',b',s'⟩:=rq
  obtain⟨q,⟨m,t,mi,f,le⟩,cb,li,w⟩:=c3
  dsimp only at *
  generalize hx0:(⟨⟨l,n,b,s⟩,⟨m,t,mi,f,le⟩,cb,li,w,[]⟩:GE)=x0 at *
  refine spcG zh mixed Tryz.func10 (by kernel_rfl) { cfgG with rl:=[0],nr:=[8],keep:=some [0,1,2,6,7,8,10,37,38,39]} [xU,xR,xQ,xP,yu,yj,yF,yE,yM,yL,yS,yR,yO,yN,xY,xX,vK,vJ] (by kernel_rfl) ?_
  intro I X hI hX
  clear hneed
  cases w
  · refine orcL ?_;go_invoke;refine orcS (by kernel_rfl) ?_
    simp only [zi,Nat.reduceAdd]
    have hh: ∀ {α:Type} (y:α),I.hid y=y:=fun y=>by subst hI;rfl
    simp only [hh]
    generalize zZ (zB q x).out=J at *
    (repeat' (first|refine And.intro ?_ ?_|intro _))
    all_goals try(subst hI;(simp only [nrmA,nrmB,nrlB,reduceCtorEq,V0.agg.injEq,HO.pack.injEq,HO.obj.injEq,HO.abs.injEq,Gh.cn.injEq] at *);first|done|omega|exact hN|(obtain⟨r1,r2,r3,r4⟩:=hd4 (by omega);simp only [Sto.mk.injEq] at r3;obtain⟨r5,r6,r7,r8⟩:=r3;simp [r1,r2,r4,r5,r6,r7,r8];done))
    have hp: ¬ q.pos=4:=by
      subst hI
      simp only [nrmA,nrmB,nrlB,reduceCtorEq] at *
      omega
    refine zC hI zh mixed [xU,xR,xQ,xP,yu,yj,yF,yE,yM,yL,yS,yR,yO,yN,xY,xX,vK,vJ] hX [0,1,8,37,38,39] (fun(g:Nat × List Upl × Int × Str × Int × Cn × Str)=>match g with|(i,l1,n1,b1,s1,c,o)=>FdA x0 J i l1 n1 b1 s1 c o (zB q x)) (fun(g:Nat × List Upl × Int × Str × Int × Cn × Str)=>match g with|(i,l1,n1,b1,s1,c,o)=>⟨[(0,.v (.one (.ptr 0 0))),(1,.v (.one (.p (.int .i64 3)))),(8,.v (.one (.row 6))),(37,.v (.one (.row 7))),(38,.v (.one (.p (.int .i64 ((I.len (α:=Evt) J)))))),(39,.v (.one (.p (.int .i64 i))))],[.obj 57 [(.ptr 1 0),(.ptr 2 0),(.ptr 3 0),(.ptr 4 0),(.ptr 5 0)],.pack [.obj 41 [(.ptr 1 0),(.ptr 2 0)],.pack [.obj 88 [(.row 1),(.p (.int .i64 n1))],.row .upl 86 l1],.pack [.obj 118 [(.row 1),(.p (.int .i64 s1))],.row .byte 5 b1]],.abs (.cn c0),.abs (.cn c1),.abs (.cn c2),.abs (.cn c),.row .byte 5 o,.row .evt 53 J],56,none⟩) (fun(g:Nat × List Upl × Int × Str × Int × Cn × Str)=>match g with|(i,l1,n1,b1,s1,c,o)=>J.length - i) (0,l,n,b,s,⟨zB q x,⟨m,t,mi,f,le⟩,cb,li,false⟩,[]) (by kernel_rfl) (by kernel_rfl) ?_ ?_
    · exact hA0
    rintro⟨i,l1,n1,b1,s1,c,o⟩ h1 A hA
    simp only at hA h1
    have hok:=Ui hJ h1
    have hol:=h1.ol
    have hil:=h1.le
    have hln:=hJ.ln
    have hS:=fun h=>zgu hJ h1 h ⟨0,⟨[],[],0,[],0⟩,[],⟨[],[],[],[]⟩,0⟩
    have hend:=hend _ _ _ _ _ _ _ h1
    refine orcL ?_;go_invoke;refine orcS (by kernel_rfl) ?_
    simp only [zi,Nat.reduceAdd]
    have e1:I.get J ⟨0,⟨[],[],0,[],0⟩,[],⟨[],[],[],[]⟩,0⟩ (i:Int)=J.getD i ⟨0,⟨[],[],0,[],0⟩,[],⟨[],[],[],[]⟩,0⟩:=by subst hI;first|rfl|simp
    simp only [e1]
    generalize J.getD i ⟨0,⟨[],[],0,[],0⟩,[],⟨[],[],[],[]⟩,0⟩=E at *
    have e0:(⟨E.kind,⟨E.head.method,E.head.target,E.head.minor,E.head.fields,E.head.length⟩,E.bytes,⟨E.part.name,E.part.file,E.part.type,E.part.bytes⟩,E.code⟩:Evt)=E:=rfl
    simp only [e0,hh]
    generalize hr:evG ⟨⟨l1,n1,b1,s1⟩,c.h,c.body,c.live,c.own,[]⟩ E=r at *
    have hd5:=hd5 hp
    subst hI
    simp only [nrmA,nrmB,nrlB,reduceCtorEq,V0.agg.injEq,HO.pack.injEq,HO.obj.injEq,HO.abs.injEq,Gh.cn.injEq]
    (repeat' (first|refine And.intro ?_ ?_|intro _))<;>first|omega|exact True.intro|exact False.elim ‹False›|skip
    all_goals first
      |omega
      |exact hok.1
      |exact hok.2.2.2.1.1
      |(exact(hok.2.2.2.1.2 _ ‹_›).1)
      |(exact(hok.2.2.2.1.2 _ ‹_›).2)
      |exact(hS (by omega)).1.1
      |exact(hS (by omega)).1.2
      |(exact(hS (by omega)).1.2 ‹_›)
      |(have:=((hS (by omega)).2 _ rfl).1;omega)
      |exact hA (i+1,r.q.l,r.q.n,r.q.b,r.q.s,⟨c.q,r.h,r.b,r.i,r.w⟩,o++r.o) ((hS (by omega)).2 _ rfl).2 (by dsimp only;omega)
      |(obtain⟨r3,r4,r5⟩:=hend (by omega) hp;simp only [Sto.mk.injEq] at r3;obtain⟨r6,r7,r8,r9⟩:=r3;simp [r4,r5,r6,r7,r8,r9,hd5];done)
  · refine orcL ?_;go_invoke;refine orcS (by kernel_rfl) ?_
    simp only [zi,Nat.reduceAdd]
    have hh: ∀ {α:Type} (y:α),I.hid y=y:=fun y=>by subst hI;rfl
    simp only [hh]
    generalize zZ (zB q x).out=J at *
    (repeat' (first|refine And.intro ?_ ?_|intro _))
    all_goals try(subst hI;(simp only [nrmA,nrmB,nrlB,reduceCtorEq,V0.agg.injEq,HO.pack.injEq,HO.obj.injEq,HO.abs.injEq,Gh.cn.injEq] at *);first|done|omega|exact hN|(obtain⟨r1,r2,r3,r4⟩:=hd4 (by omega);simp only [Sto.mk.injEq] at r3;obtain⟨r5,r6,r7,r8⟩:=r3;simp [r1,r2,r4,r5,r6,r7,r8];done))
    have hp: ¬ q.pos=4:=by
      subst hI
      simp only [nrmA,nrmB,nrlB,reduceCtorEq] at *
      omega
    refine zC hI zh mixed [xU,xR,xQ,xP,yu,yj,yF,yE,yM,yL,yS,yR,yO,yN,xY,xX,vK,vJ] hX [0,1,8,37,38,39] (fun(g:Nat × List Upl × Int × Str × Int × Cn × Str)=>match g with|(i,l1,n1,b1,s1,c,o)=>FdA x0 J i l1 n1 b1 s1 c o (zB q x)) (fun(g:Nat × List Upl × Int × Str × Int × Cn × Str)=>match g with|(i,l1,n1,b1,s1,c,o)=>⟨[(0,.v (.one (.ptr 0 0))),(1,.v (.one (.p (.int .i64 3)))),(8,.v (.one (.row 6))),(37,.v (.one (.row 7))),(38,.v (.one (.p (.int .i64 ((I.len (α:=Evt) J)))))),(39,.v (.one (.p (.int .i64 i))))],[.obj 57 [(.ptr 1 0),(.ptr 2 0),(.ptr 3 0),(.ptr 4 0),(.ptr 5 0)],.pack [.obj 41 [(.ptr 1 0),(.ptr 2 0)],.pack [.obj 88 [(.row 1),(.p (.int .i64 n1))],.row .upl 86 l1],.pack [.obj 118 [(.row 1),(.p (.int .i64 s1))],.row .byte 5 b1]],.abs (.cn c0),.abs (.cn c1),.abs (.cn c2),.abs (.cn c),.row .byte 5 o,.row .evt 53 J],56,none⟩) (fun(g:Nat × List Upl × Int × Str × Int × Cn × Str)=>match g with|(i,l1,n1,b1,s1,c,o)=>J.length - i) (0,l,n,b,s,⟨zB q x,⟨m,t,mi,f,le⟩,cb,li,true⟩,[]) (by kernel_rfl) (by kernel_rfl) ?_ ?_
    · exact hA0
    rintro⟨i,l1,n1,b1,s1,c,o⟩ h1 A hA
    simp only at hA h1
    have hok:=Ui hJ h1
    have hol:=h1.ol
    have hil:=h1.le
    have hln:=hJ.ln
    have hS:=fun h=>zgu hJ h1 h ⟨0,⟨[],[],0,[],0⟩,[],⟨[],[],[],[]⟩,0⟩
    have hend:=hend _ _ _ _ _ _ _ h1
    refine orcL ?_;go_invoke;refine orcS (by kernel_rfl) ?_
    simp only [zi,Nat.reduceAdd]
    have e1:I.get J ⟨0,⟨[],[],0,[],0⟩,[],⟨[],[],[],[]⟩,0⟩ (i:Int)=J.getD i ⟨0,⟨[],[],0,[],0⟩,[],⟨[],[],[],[]⟩,0⟩:=by subst hI;first|rfl|simp
    simp only [e1]
    generalize J.getD i ⟨0,⟨[],[],0,[],0⟩,[],⟨[],[],[],[]⟩,0⟩=E at *
    have e0:(⟨E.kind,⟨E.head.method,E.head.target,E.head.minor,E.head.fields,E.head.length⟩,E.bytes,⟨E.part.name,E.part.file,E.part.type,E.part.bytes⟩,E.code⟩:Evt)=E:=rfl
    simp only [e0,hh]
    generalize hr:evG ⟨⟨l1,n1,b1,s1⟩,c.h,c.body,c.live,c.own,[]⟩ E=r at *
    have hd5:=hd5 hp
    subst hI
    simp only [nrmA,nrmB,nrlB,reduceCtorEq,V0.agg.injEq,HO.pack.injEq,HO.obj.injEq,HO.abs.injEq,Gh.cn.injEq]
    (repeat' (first|refine And.intro ?_ ?_|intro _))<;>first|omega|exact True.intro|exact False.elim ‹False›|skip
    all_goals first
      |omega
      |exact hok.1
      |exact hok.2.2.2.1.1
      |(exact(hok.2.2.2.1.2 _ ‹_›).1)
      |(exact(hok.2.2.2.1.2 _ ‹_›).2)
      |exact(hS (by omega)).1.1
      |exact(hS (by omega)).1.2
      |(exact(hS (by omega)).1.2 ‹_›)
      |(have:=((hS (by omega)).2 _ rfl).1;omega)
      |exact hA (i+1,r.q.l,r.q.n,r.q.b,r.q.s,⟨c.q,r.h,r.b,r.i,r.w⟩,o++r.o) ((hS (by omega)).2 _ rfl).2 (by dsimp only;omega)
      |(obtain⟨r3,r4,r5⟩:=hend (by omega) hp;simp only [Sto.mk.injEq] at r3;obtain⟨r6,r7,r8,r9⟩:=r3;simp [r4,r5,r6,r7,r8,r9,hd5];done)
def VS (I:Alg) (args:List D) (hp:List HO):Option CT:=match args,hp with
  |[.v (.one (.ptr 0 0)),.v (.one (.p (.int .i64 3))),.v (.one (.p (.list .byte x)))],[.obj 57 [(.ptr 1 0),(.ptr 2 0),(.ptr 3 0),(.ptr 4 0),(.ptr 5 0)],.pack [.obj 41 [(.ptr 1 0),(.ptr 2 0)],.pack [.obj 88 [(.row 1),(.p (.int .i64 n))],.row .upl 86 l],.pack [.obj 118 [(.row 1),(.p (.int .i64 s))],.row .byte 5 b]],.abs (.cn c0),.abs (.cn c1),.abs (.cn c2),.abs (.cn c3)]=>(fun(l:List Upl) (n:Int) (b:Str) (s:Int) (c0 c1 c2 c3:Cn) (x:Str)=>(some (.one ⟨I.hid (FdN ⟨l,n,b,s⟩ c3 x),(.ret (.tup [(.one (.p (.list .byte (I.hid ((fdO ⟨l,n,b,s⟩ c3 x)))))),(.one (.p (.int .i64 (I.hid ((fdK c3))))))])),[.obj 57 [(.ptr 1 0),(.ptr 2 0),(.ptr 3 0),(.ptr 4 0),(.ptr 5 0)],.pack [.obj 41 [(.ptr 1 0),(.ptr 2 0)],.pack [.obj 88 [(.row 1),(.p (.int .i64 (I.hid ((fdQ ⟨l,n,b,s⟩ c3 x).n))))],.row .upl 86 (I.hid ((fdQ ⟨l,n,b,s⟩ c3 x).l))],.pack [.obj 118 [(.row 1),(.p (.int .i64 (I.hid ((fdQ ⟨l,n,b,s⟩ c3 x).s))))],.row .byte 5 (I.hid ((fdQ ⟨l,n,b,s⟩ c3 x).b))]],.abs (.cn c0),.abs (.cn c1),.abs (.cn c2),.abs (.cn (I.hid ((fdC ⟨l,n,b,s⟩ c3 x))))]⟩):Option CT)) l n b s c0 c1 c2 c3 x
  |_,_=>none
theorem zfS:zx Tryz.prog 10 (VS alg):=by
  intro args hp r h
  unfold VS at h
  split at h
  · cases h;exact fun hn=>ztW _ _ _ _ _ _ _ _ _ hn
  · cases h
def qf:Know Tryz.prog:=⟨10,VS,zfS⟩
def rZ:Know Tryz.prog:=⟨10,fun I=>zy I (VS I),zf zfS⟩
end Go.Proofs.YtmkcejdibmilmaaGreatDoor
namespace Go.Proofs.YtmkcejdibmilmaaGreatDoor
open Go Go.Sep Go.Ab
set_option maxRecDepth 100000
def oldC (c:Cn):Cn:= { c with own:=if zbI c then false else c.own}
set_option maxHeartbeats 2000000 in
theorem ztU (l:List Upl) (n:Int) (b:Str) (s:Int) (c0 c1 c2 c3:Cn) (hneed:zF l n∧n≤200000∧b.length≤100000∧FOk c0.h.fields∧c0.body.length≤100000):Spc Tryz.prog 18 [.v (.one (.ptr 0 0)),.v (.one (.p (.int .i64 0)))] [.obj 57 [(.ptr 1 0),(.ptr 2 0),(.ptr 3 0),(.ptr 4 0),(.ptr 5 0)],.pack [.obj 41 [(.ptr 1 0),(.ptr 2 0)],.pack [.obj 88 [(.row 1),(.p (.int .i64 n))],.row .upl 86 l],.pack [.obj 118 [(.row 1),(.p (.int .i64 s))],.row .byte 5 b]],.abs (.cn c0),.abs (.cn c1),.abs (.cn c2),.abs (.cn c3)] (.ret (.v (.one (.p (.int .i64 0))))) [.obj 57 [(.ptr 1 0),(.ptr 6 0),(.ptr 3 0),(.ptr 4 0),(.ptr 5 0)],.pack [.obj 41 [(.ptr 1 0),(.ptr 2 0)],.pack [.obj 88 [(.row 1),(.p (.int .i64 ((x9 ⟨l,n,b,s⟩ c0).n)))],.row .upl 86 ((x9 ⟨l,n,b,s⟩ c0).l)],.pack [.obj 118 [(.row 1),(.p (.int .i64 ((x9 ⟨l,n,b,s⟩ c0).s)))],.row .byte 5 ((x9 ⟨l,n,b,s⟩ c0).b)]],.abs (.cn ((oldC c0))),.abs (.cn c1),.abs (.cn c2),.abs (.cn c3),.abs (.cn cn0)]:=by
  obtain⟨hs,hn,hb,hf,hbo⟩:=hneed
  generalize hq:x9 ⟨l,n,b,s⟩ c0=rq
  generalize hc:oldC c0=rc
  obtain⟨l',n',b',s'⟩:=rq
  obtain⟨q,⟨m,t,mi,f,le⟩,cb,li,w⟩:=c0
  unfold x9 zbI at hq
  unfold oldC zbI at hc
  dsimp only at *
  rw [show decide (cb≠[])=decide (0<(cb.length:Int)) by cases cb<;>simp] at hq hc
  generalize hg:(li&&(decide (m=Zm)&&(decide (0<(cb.length:Int))&&Lib.hasPrefix t yZ)))=g at hq hc
  refine spcG zh mixed Tryz.func18 (by kernel_rfl) { cfgG with fz:=[38],keep:=some [0,1,4,5]} [xG,xE,zbS,zbR,ZH,ZG] (by kernel_rfl) ?_
  intro I X hI hX
  cases w
  all_goals
    refine orcL ?_;go_invoke;refine orcS (by kernel_rfl) ?_
    simp only [zi,Nat.reduceAdd]
    have hh: ∀ {α:Type} (y:α),I.hid y=y:=fun y=>by subst hI;rfl
    simp only [hh]
    rw [show([80,65,84,67,72]:Str)=Zm from rfl,show([47,102,105,108,101,115,47]:Str)=yZ from rfl]
    generalize zQ ⟨l,n,b,s⟩ m t f cb=x at *
    obtain⟨x1,x2,⟨x3,x4,x5,x6⟩⟩:=x
    generalize Lib.hasPrefix t yZ=hp at *
    subst hI
    dsimp only at *
    simp only [nrmA,nrmB,nrlB,reduceCtorEq,V0.agg.injEq,HO.pack.injEq,HO.obj.injEq,HO.abs.injEq,Gh.cn.injEq,decide_eq_true_eq]
    cases g
    all_goals
      simp only [Bool.false_eq_true,if_false,if_true,Sto.mk.injEq] at hq hc
      obtain⟨rfl,rfl,rfl,rfl⟩:=hq
      subst hc
      (repeat' (first|refine And.intro ?_ ?_|intro _))<;>first|omega|exact True.intro|exact False.elim ‹False›|skip
      all_goals first
        |omega
        |with_reducible rfl
        |with_reducible assumption
        |exact hf.1
        |(exact(hf.2 _ ‹_›).1)
        |(exact(hf.2 _ ‹_›).2)
        |rfl
        |(exfalso;simp [*] at hg;done)
        |(exfalso;have hq0:0<cb.length:=(by omega);have hq1:(0<(cb.length:Int))=True:=eq_true (by omega);simp only [*,decide_true,Bool.and_true,Bool.true_eq_false] at hg;done)
        |(exfalso;simp [*] at hg;omega)
def VQ (I:Alg) (args:List D) (hp:List HO):Option CT:=match args,hp with
  |[.v (.one (.ptr 0 0)),.v (.one (.p (.int .i64 0)))],[.obj 57 [(.ptr 1 0),(.ptr 2 0),(.ptr 3 0),(.ptr 4 0),(.ptr 5 0)],.pack [.obj 41 [(.ptr 1 0),(.ptr 2 0)],.pack [.obj 88 [(.row 1),(.p (.int .i64 n))],.row .upl 86 l],.pack [.obj 118 [(.row 1),(.p (.int .i64 s))],.row .byte 5 b]],.abs (.cn c0),.abs (.cn c1),.abs (.cn c2),.abs (.cn c3)]=>(fun(l:List Upl) (n:Int) (b:Str) (s:Int) (c0 c1 c2 c3:Cn)=>(some (.one ⟨I.hid (zF l n∧n≤200000∧b.length≤100000∧FOk c0.h.fields∧c0.body.length≤100000),(.ret (.v (.one (.p (.int .i64 0))))),[.obj 57 [(.ptr 1 0),(.ptr 6 0),(.ptr 3 0),(.ptr 4 0),(.ptr 5 0)],.pack [.obj 41 [(.ptr 1 0),(.ptr 2 0)],.pack [.obj 88 [(.row 1),(.p (.int .i64 (I.hid ((x9 ⟨l,n,b,s⟩ c0).n))))],.row .upl 86 (I.hid ((x9 ⟨l,n,b,s⟩ c0).l))],.pack [.obj 118 [(.row 1),(.p (.int .i64 (I.hid ((x9 ⟨l,n,b,s⟩ c0).s))))],.row .byte 5 (I.hid ((x9 ⟨l,n,b,s⟩ c0).b))]],.abs (.cn (I.hid ((oldC c0)))),.abs (.cn c1),.abs (.cn c2),.abs (.cn c3),.abs (.cn cn0)]⟩):Option CT)) l n b s c0 c1 c2 c3
  |_,_=>none
theorem zfQ:zx Tryz.prog 18 (VQ alg):=by
  intro args hp r h
  unfold VQ at h
  split at h
  · cases h;exact fun hn=>ztU _ _ _ _ _ _ _ _ hn
  · cases h
def YI:Know Tryz.prog:=⟨18,VQ,zfQ⟩
def YH:Know Tryz.prog:=⟨18,fun I=>zy I (VQ I),zf zfQ⟩
set_option maxHeartbeats 2000000 in
theorem ztT (l:List Upl) (n:Int) (b:Str) (s:Int) (c0 c1 c2 c3:Cn) (hneed:zF l n∧n≤200000∧b.length≤100000∧FOk c1.h.fields∧c1.body.length≤100000):Spc Tryz.prog 18 [.v (.one (.ptr 0 0)),.v (.one (.p (.int .i64 1)))] [.obj 57 [(.ptr 1 0),(.ptr 2 0),(.ptr 3 0),(.ptr 4 0),(.ptr 5 0)],.pack [.obj 41 [(.ptr 1 0),(.ptr 2 0)],.pack [.obj 88 [(.row 1),(.p (.int .i64 n))],.row .upl 86 l],.pack [.obj 118 [(.row 1),(.p (.int .i64 s))],.row .byte 5 b]],.abs (.cn c0),.abs (.cn c1),.abs (.cn c2),.abs (.cn c3)] (.ret (.v (.one (.p (.int .i64 0))))) [.obj 57 [(.ptr 1 0),(.ptr 2 0),(.ptr 6 0),(.ptr 4 0),(.ptr 5 0)],.pack [.obj 41 [(.ptr 1 0),(.ptr 2 0)],.pack [.obj 88 [(.row 1),(.p (.int .i64 ((x9 ⟨l,n,b,s⟩ c1).n)))],.row .upl 86 ((x9 ⟨l,n,b,s⟩ c1).l)],.pack [.obj 118 [(.row 1),(.p (.int .i64 ((x9 ⟨l,n,b,s⟩ c1).s)))],.row .byte 5 ((x9 ⟨l,n,b,s⟩ c1).b)]],.abs (.cn c0),.abs (.cn ((oldC c1))),.abs (.cn c2),.abs (.cn c3),.abs (.cn cn0)]:=by
  obtain⟨hs,hn,hb,hf,hbo⟩:=hneed
  generalize hq:x9 ⟨l,n,b,s⟩ c1=rq
  generalize hc:oldC c1=rc
  obtain⟨l',n',b',s'⟩:=rq
  obtain⟨q,⟨m,t,mi,f,le⟩,cb,li,w⟩:=c1
  unfold x9 zbI at hq
  unfold oldC zbI at hc
  dsimp only at *
  rw [show decide (cb≠[])=decide (0<(cb.length:Int)) by cases cb<;>simp] at hq hc
  generalize hg:(li&&(decide (m=Zm)&&(decide (0<(cb.length:Int))&&Lib.hasPrefix t yZ)))=g at hq hc
  refine spcG zh mixed Tryz.func18 (by kernel_rfl) { cfgG with fz:=[38],keep:=some [0,1,4,5]} [xG,xE,zbS,zbR,ZH,ZG,YI,YH] (by kernel_rfl) ?_
  intro I X hI hX
  cases w
  all_goals
    refine orcL ?_;go_invoke;refine orcS (by kernel_rfl) ?_
    simp only [zi,Nat.reduceAdd]
    have hh: ∀ {α:Type} (y:α),I.hid y=y:=fun y=>by subst hI;rfl
    simp only [hh]
    rw [show([80,65,84,67,72]:Str)=Zm from rfl,show([47,102,105,108,101,115,47]:Str)=yZ from rfl]
    generalize zQ ⟨l,n,b,s⟩ m t f cb=x at *
    obtain⟨x1,x2,⟨x3,x4,x5,x6⟩⟩:=x
    generalize Lib.hasPrefix t yZ=hp at *
    subst hI
    dsimp only at *
    simp only [nrmA,nrmB,nrlB,reduceCtorEq,V0.agg.injEq,HO.pack.injEq,HO.obj.injEq,HO.abs.injEq,Gh.cn.injEq,decide_eq_true_eq]
    cases g
    all_goals
      simp only [Bool.false_eq_true,if_false,if_true,Sto.mk.injEq] at hq hc
      obtain⟨rfl,rfl,rfl,rfl⟩:=hq
      subst hc
      (repeat' (first|refine And.intro ?_ ?_|intro _))<;>first|omega|exact True.intro|exact False.elim ‹False›|skip
      all_goals first
        |omega
        |with_reducible rfl
        |with_reducible assumption
        |exact hf.1
        |(exact(hf.2 _ ‹_›).1)
        |(exact(hf.2 _ ‹_›).2)
        |rfl
        |(exfalso;simp [*] at hg;done)
        |(exfalso;have hq0:0<cb.length:=(by omega);have hq1:(0<(cb.length:Int))=True:=eq_true (by omega);simp only [*,decide_true,Bool.and_true,Bool.true_eq_false] at hg;done)
        |(exfalso;simp [*] at hg;omega)
def VP (I:Alg) (args:List D) (hp:List HO):Option CT:=match args,hp with
  |[.v (.one (.ptr 0 0)),.v (.one (.p (.int .i64 1)))],[.obj 57 [(.ptr 1 0),(.ptr 2 0),(.ptr 3 0),(.ptr 4 0),(.ptr 5 0)],.pack [.obj 41 [(.ptr 1 0),(.ptr 2 0)],.pack [.obj 88 [(.row 1),(.p (.int .i64 n))],.row .upl 86 l],.pack [.obj 118 [(.row 1),(.p (.int .i64 s))],.row .byte 5 b]],.abs (.cn c0),.abs (.cn c1),.abs (.cn c2),.abs (.cn c3)]=>(fun(l:List Upl) (n:Int) (b:Str) (s:Int) (c0 c1 c2 c3:Cn)=>(some (.one ⟨I.hid (zF l n∧n≤200000∧b.length≤100000∧FOk c1.h.fields∧c1.body.length≤100000),(.ret (.v (.one (.p (.int .i64 0))))),[.obj 57 [(.ptr 1 0),(.ptr 2 0),(.ptr 6 0),(.ptr 4 0),(.ptr 5 0)],.pack [.obj 41 [(.ptr 1 0),(.ptr 2 0)],.pack [.obj 88 [(.row 1),(.p (.int .i64 (I.hid ((x9 ⟨l,n,b,s⟩ c1).n))))],.row .upl 86 (I.hid ((x9 ⟨l,n,b,s⟩ c1).l))],.pack [.obj 118 [(.row 1),(.p (.int .i64 (I.hid ((x9 ⟨l,n,b,s⟩ c1).s))))],.row .byte 5 (I.hid ((x9 ⟨l,n,b,s⟩ c1).b))]],.abs (.cn c0),.abs (.cn (I.hid ((oldC c1)))),.abs (.cn c2),.abs (.cn c3),.abs (.cn cn0)]⟩):Option CT)) l n b s c0 c1 c2 c3
  |_,_=>none
theorem zfP:zx Tryz.prog 18 (VP alg):=by
  intro args hp r h
  unfold VP at h
  split at h
  · cases h;exact fun hn=>ztT _ _ _ _ _ _ _ _ hn
  · cases h
def VO:Know Tryz.prog:=⟨18,VP,zfP⟩
def VN:Know Tryz.prog:=⟨18,fun I=>zy I (VP I),zf zfP⟩
set_option maxHeartbeats 2000000 in
theorem ztS (l:List Upl) (n:Int) (b:Str) (s:Int) (c0 c1 c2 c3:Cn) (hneed:zF l n∧n≤200000∧b.length≤100000∧FOk c2.h.fields∧c2.body.length≤100000):Spc Tryz.prog 18 [.v (.one (.ptr 0 0)),.v (.one (.p (.int .i64 2)))] [.obj 57 [(.ptr 1 0),(.ptr 2 0),(.ptr 3 0),(.ptr 4 0),(.ptr 5 0)],.pack [.obj 41 [(.ptr 1 0),(.ptr 2 0)],.pack [.obj 88 [(.row 1),(.p (.int .i64 n))],.row .upl 86 l],.pack [.obj 118 [(.row 1),(.p (.int .i64 s))],.row .byte 5 b]],.abs (.cn c0),.abs (.cn c1),.abs (.cn c2),.abs (.cn c3)] (.ret (.v (.one (.p (.int .i64 0))))) [.obj 57 [(.ptr 1 0),(.ptr 2 0),(.ptr 3 0),(.ptr 6 0),(.ptr 5 0)],.pack [.obj 41 [(.ptr 1 0),(.ptr 2 0)],.pack [.obj 88 [(.row 1),(.p (.int .i64 ((x9 ⟨l,n,b,s⟩ c2).n)))],.row .upl 86 ((x9 ⟨l,n,b,s⟩ c2).l)],.pack [.obj 118 [(.row 1),(.p (.int .i64 ((x9 ⟨l,n,b,s⟩ c2).s)))],.row .byte 5 ((x9 ⟨l,n,b,s⟩ c2).b)]],.abs (.cn c0),.abs (.cn c1),.abs (.cn ((oldC c2))),.abs (.cn c3),.abs (.cn cn0)]:=by
  obtain⟨hs,hn,hb,hf,hbo⟩:=hneed
  generalize hq:x9 ⟨l,n,b,s⟩ c2=rq
  generalize hc:oldC c2=rc
  obtain⟨l',n',b',s'⟩:=rq
  obtain⟨q,⟨m,t,mi,f,le⟩,cb,li,w⟩:=c2
  unfold x9 zbI at hq
  unfold oldC zbI at hc
  dsimp only at *
  rw [show decide (cb≠[])=decide (0<(cb.length:Int)) by cases cb<;>simp] at hq hc
  generalize hg:(li&&(decide (m=Zm)&&(decide (0<(cb.length:Int))&&Lib.hasPrefix t yZ)))=g at hq hc
  refine spcG zh mixed Tryz.func18 (by kernel_rfl) { cfgG with fz:=[38],keep:=some [0,1,4,5]} [xG,xE,zbS,zbR,ZH,ZG,YI,YH,VO,VN] (by kernel_rfl) ?_
  intro I X hI hX
  cases w
  all_goals
    refine orcL ?_;go_invoke;refine orcS (by kernel_rfl) ?_
    simp only [zi,Nat.reduceAdd]
    have hh: ∀ {α:Type} (y:α),I.hid y=y:=fun y=>by subst hI;rfl
    simp only [hh]
    rw [show([80,65,84,67,72]:Str)=Zm from rfl,show([47,102,105,108,101,115,47]:Str)=yZ from rfl]
    generalize zQ ⟨l,n,b,s⟩ m t f cb=x at *
    obtain⟨x1,x2,⟨x3,x4,x5,x6⟩⟩:=x
    generalize Lib.hasPrefix t yZ=hp at *
    subst hI
    dsimp only at *
    simp only [nrmA,nrmB,nrlB,reduceCtorEq,V0.agg.injEq,HO.pack.injEq,HO.obj.injEq,HO.abs.injEq,Gh.cn.injEq,decide_eq_true_eq]
    cases g
    all_goals
      simp only [Bool.false_eq_true,if_false,if_true,Sto.mk.injEq] at hq hc
      obtain⟨rfl,rfl,rfl,rfl⟩:=hq
      subst hc
      (repeat' (first|refine And.intro ?_ ?_|intro _))<;>first|omega|exact True.intro|exact False.elim ‹False›|skip
      all_goals first
        |omega
        |with_reducible rfl
        |with_reducible assumption
        |exact hf.1
        |(exact(hf.2 _ ‹_›).1)
        |(exact(hf.2 _ ‹_›).2)
        |rfl
        |(exfalso;simp [*] at hg;done)
        |(exfalso;have hq0:0<cb.length:=(by omega);have hq1:(0<(cb.length:Int))=True:=eq_true (by omega);simp only [*,decide_true,Bool.and_true,Bool.true_eq_false] at hg;done)
        |(exfalso;simp [*] at hg;omega)
def VL (I:Alg) (args:List D) (hp:List HO):Option CT:=match args,hp with
  |[.v (.one (.ptr 0 0)),.v (.one (.p (.int .i64 2)))],[.obj 57 [(.ptr 1 0),(.ptr 2 0),(.ptr 3 0),(.ptr 4 0),(.ptr 5 0)],.pack [.obj 41 [(.ptr 1 0),(.ptr 2 0)],.pack [.obj 88 [(.row 1),(.p (.int .i64 n))],.row .upl 86 l],.pack [.obj 118 [(.row 1),(.p (.int .i64 s))],.row .byte 5 b]],.abs (.cn c0),.abs (.cn c1),.abs (.cn c2),.abs (.cn c3)]=>(fun(l:List Upl) (n:Int) (b:Str) (s:Int) (c0 c1 c2 c3:Cn)=>(some (.one ⟨I.hid (zF l n∧n≤200000∧b.length≤100000∧FOk c2.h.fields∧c2.body.length≤100000),(.ret (.v (.one (.p (.int .i64 0))))),[.obj 57 [(.ptr 1 0),(.ptr 2 0),(.ptr 3 0),(.ptr 6 0),(.ptr 5 0)],.pack [.obj 41 [(.ptr 1 0),(.ptr 2 0)],.pack [.obj 88 [(.row 1),(.p (.int .i64 (I.hid ((x9 ⟨l,n,b,s⟩ c2).n))))],.row .upl 86 (I.hid ((x9 ⟨l,n,b,s⟩ c2).l))],.pack [.obj 118 [(.row 1),(.p (.int .i64 (I.hid ((x9 ⟨l,n,b,s⟩ c2).s))))],.row .byte 5 (I.hid ((x9 ⟨l,n,b,s⟩ c2).b))]],.abs (.cn c0),.abs (.cn c1),.abs (.cn (I.hid ((oldC c2)))),.abs (.cn c3),.abs (.cn cn0)]⟩):Option CT)) l n b s c0 c1 c2 c3
  |_,_=>none
theorem zfO:zx Tryz.prog 18 (VL alg):=by
  intro args hp r h
  unfold VL at h
  split at h
  · cases h;exact fun hn=>ztS _ _ _ _ _ _ _ _ hn
  · cases h
def za2:Know Tryz.prog:=⟨18,VL,zfO⟩
def za1:Know Tryz.prog:=⟨18,fun I=>zy I (VL I),zf zfO⟩
set_option maxHeartbeats 2000000 in
theorem ztR (l:List Upl) (n:Int) (b:Str) (s:Int) (c0 c1 c2 c3:Cn) (hneed:zF l n∧n≤200000∧b.length≤100000∧FOk c3.h.fields∧c3.body.length≤100000):Spc Tryz.prog 18 [.v (.one (.ptr 0 0)),.v (.one (.p (.int .i64 3)))] [.obj 57 [(.ptr 1 0),(.ptr 2 0),(.ptr 3 0),(.ptr 4 0),(.ptr 5 0)],.pack [.obj 41 [(.ptr 1 0),(.ptr 2 0)],.pack [.obj 88 [(.row 1),(.p (.int .i64 n))],.row .upl 86 l],.pack [.obj 118 [(.row 1),(.p (.int .i64 s))],.row .byte 5 b]],.abs (.cn c0),.abs (.cn c1),.abs (.cn c2),.abs (.cn c3)] (.ret (.v (.one (.p (.int .i64 0))))) [.obj 57 [(.ptr 1 0),(.ptr 2 0),(.ptr 3 0),(.ptr 4 0),(.ptr 6 0)],.pack [.obj 41 [(.ptr 1 0),(.ptr 2 0)],.pack [.obj 88 [(.row 1),(.p (.int .i64 ((x9 ⟨l,n,b,s⟩ c3).n)))],.row .upl 86 ((x9 ⟨l,n,b,s⟩ c3).l)],.pack [.obj 118 [(.row 1),(.p (.int .i64 ((x9 ⟨l,n,b,s⟩ c3).s)))],.row .byte 5 ((x9 ⟨l,n,b,s⟩ c3).b)]],.abs (.cn c0),.abs (.cn c1),.abs (.cn c2),.abs (.cn ((oldC c3))),.abs (.cn cn0)]:=by
  obtain⟨hs,hn,hb,hf,hbo⟩:=hneed
  generalize hq:x9 ⟨l,n,b,s⟩ c3=rq
  generalize hc:oldC c3=rc
  obtain⟨l',n',b',s'⟩:=rq
  obtain⟨q,⟨m,t,mi,f,le⟩,cb,li,w⟩:=c3
  unfold x9 zbI at hq
  unfold oldC zbI at hc
  dsimp only at *
  rw [show decide (cb≠[])=decide (0<(cb.length:Int)) by cases cb<;>simp] at hq hc
  generalize hg:(li&&(decide (m=Zm)&&(decide (0<(cb.length:Int))&&Lib.hasPrefix t yZ)))=g at hq hc
  refine spcG zh mixed Tryz.func18 (by kernel_rfl) { cfgG with fz:=[38],keep:=some [0,1,4,5]} [xG,xE,zbS,zbR,ZH,ZG,YI,YH,VO,VN,za2,za1] (by kernel_rfl) ?_
  intro I X hI hX
  cases w
  all_goals
    refine orcL ?_;go_invoke;refine orcS (by kernel_rfl) ?_
    simp only [zi,Nat.reduceAdd]
    have hh: ∀ {α:Type} (y:α),I.hid y=y:=fun y=>by subst hI;rfl
    simp only [hh]
    rw [show([80,65,84,67,72]:Str)=Zm from rfl,show([47,102,105,108,101,115,47]:Str)=yZ from rfl]
    generalize zQ ⟨l,n,b,s⟩ m t f cb=x at *
    obtain⟨x1,x2,⟨x3,x4,x5,x6⟩⟩:=x
    generalize Lib.hasPrefix t yZ=hp at *
    subst hI
    dsimp only at *
    simp only [nrmA,nrmB,nrlB,reduceCtorEq,V0.agg.injEq,HO.pack.injEq,HO.obj.injEq,HO.abs.injEq,Gh.cn.injEq,decide_eq_true_eq]
    cases g
    all_goals
      simp only [Bool.false_eq_true,if_false,if_true,Sto.mk.injEq] at hq hc
      obtain⟨rfl,rfl,rfl,rfl⟩:=hq
      subst hc
      (repeat' (first|refine And.intro ?_ ?_|intro _))<;>first|omega|exact True.intro|exact False.elim ‹False›|skip
      all_goals first
        |omega
        |with_reducible rfl
        |with_reducible assumption
        |exact hf.1
        |(exact(hf.2 _ ‹_›).1)
        |(exact(hf.2 _ ‹_›).2)
        |rfl
        |(exfalso;simp [*] at hg;done)
        |(exfalso;have hq0:0<cb.length:=(by omega);have hq1:(0<(cb.length:Int))=True:=eq_true (by omega);simp only [*,decide_true,Bool.and_true,Bool.true_eq_false] at hg;done)
        |(exfalso;simp [*] at hg;omega)
def VK (I:Alg) (args:List D) (hp:List HO):Option CT:=match args,hp with
  |[.v (.one (.ptr 0 0)),.v (.one (.p (.int .i64 3)))],[.obj 57 [(.ptr 1 0),(.ptr 2 0),(.ptr 3 0),(.ptr 4 0),(.ptr 5 0)],.pack [.obj 41 [(.ptr 1 0),(.ptr 2 0)],.pack [.obj 88 [(.row 1),(.p (.int .i64 n))],.row .upl 86 l],.pack [.obj 118 [(.row 1),(.p (.int .i64 s))],.row .byte 5 b]],.abs (.cn c0),.abs (.cn c1),.abs (.cn c2),.abs (.cn c3)]=>(fun(l:List Upl) (n:Int) (b:Str) (s:Int) (c0 c1 c2 c3:Cn)=>(some (.one ⟨I.hid (zF l n∧n≤200000∧b.length≤100000∧FOk c3.h.fields∧c3.body.length≤100000),(.ret (.v (.one (.p (.int .i64 0))))),[.obj 57 [(.ptr 1 0),(.ptr 2 0),(.ptr 3 0),(.ptr 4 0),(.ptr 6 0)],.pack [.obj 41 [(.ptr 1 0),(.ptr 2 0)],.pack [.obj 88 [(.row 1),(.p (.int .i64 (I.hid ((x9 ⟨l,n,b,s⟩ c3).n))))],.row .upl 86 (I.hid ((x9 ⟨l,n,b,s⟩ c3).l))],.pack [.obj 118 [(.row 1),(.p (.int .i64 (I.hid ((x9 ⟨l,n,b,s⟩ c3).s))))],.row .byte 5 (I.hid ((x9 ⟨l,n,b,s⟩ c3).b))]],.abs (.cn c0),.abs (.cn c1),.abs (.cn c2),.abs (.cn (I.hid ((oldC c3)))),.abs (.cn cn0)]⟩):Option CT)) l n b s c0 c1 c2 c3
  |_,_=>none
theorem zfN:zx Tryz.prog 18 (VK alg):=by
  intro args hp r h
  unfold VK at h
  split at h
  · cases h;exact fun hn=>ztR _ _ _ _ _ _ _ _ hn
  · cases h
def zfM:Know Tryz.prog:=⟨18,VK,zfN⟩
def zfL:Know Tryz.prog:=⟨18,fun I=>zy I (VK I),zf zfN⟩
end Go.Proofs.YtmkcejdibmilmaaGreatDoor
namespace Go.Proofs.YtmkcejdibmilmaaGreatDoor
open Go Go.Sep Go.Ab
set_option maxRecDepth 100000
theorem zqR (l:List Upl) (n:Int) (b:Str) (s:Int):Spc Tryz.prog 24 [.v (.one (.ptr 0 0))] [.obj 57 [(.ptr 1 0),(.p (.val (.pointer none))),(.p (.val (.pointer none))),(.p (.val (.pointer none))),(.p (.val (.pointer none)))],.pack [.obj 41 [(.ptr 1 0),(.ptr 2 0)],.pack [.obj 88 [(.row 1),(.p (.int .i64 n))],.row .upl 86 l],.pack [.obj 118 [(.row 1),(.p (.int .i64 s))],.row .byte 5 b]]] (.ret (.tup [])) [.obj 57 [(.ptr 1 0),(.ptr 2 0),(.ptr 3 0),(.ptr 4 0),(.ptr 5 0)],.pack [.obj 41 [(.ptr 1 0),(.ptr 2 0)],.pack [.obj 88 [(.row 1),(.p (.int .i64 n))],.row .upl 86 l],.pack [.obj 118 [(.row 1),(.p (.int .i64 s))],.row .byte 5 b]],.abs (.cn cn0),.abs (.cn cn0),.abs (.cn cn0),.abs (.cn cn0)]:=by
  refine spcG zh mixed Tryz.func24 (by kernel_rfl) { cfgG with keep:=some [0,2,3]} [ZH,ZG] (by kernel_rfl) ?_
  intro I X hI hX
  refine orcL ?_;go_invoke;refine orcS (by kernel_rfl) ?_
  simp only [zi,Nat.reduceAdd]
  refine zC hI zh mixed [ZH,ZG] hX [0,3] (fun i:Nat=>i≤4) (fun i:Nat=>match i with
    |0=>⟨[(0,.v (.one (.ptr 0 0))),(3,.v (.one (.p (.int .i64 0))))],[.obj 57 [(.ptr 1 0),(.p (.val (.pointer none))),(.p (.val (.pointer none))),(.p (.val (.pointer none))),(.p (.val (.pointer none)))],.pack [.obj 41 [(.ptr 1 0),(.ptr 2 0)],.pack [.obj 88 [(.row 1),(.p (.int .i64 n))],.row .upl 86 l],.pack [.obj 118 [(.row 1),(.p (.int .i64 s))],.row .byte 5 b]]],15,none⟩
    |1=>⟨[(0,.v (.one (.ptr 0 0))),(3,.v (.one (.p (.int .i64 1))))],[.obj 57 [(.ptr 1 0),(.ptr 2 0),(.p (.val (.pointer none))),(.p (.val (.pointer none))),(.p (.val (.pointer none)))],.pack [.obj 41 [(.ptr 1 0),(.ptr 2 0)],.pack [.obj 88 [(.row 1),(.p (.int .i64 n))],.row .upl 86 l],.pack [.obj 118 [(.row 1),(.p (.int .i64 s))],.row .byte 5 b]],.abs (.cn cn0)],15,none⟩
    |2=>⟨[(0,.v (.one (.ptr 0 0))),(3,.v (.one (.p (.int .i64 2))))],[.obj 57 [(.ptr 1 0),(.ptr 2 0),(.ptr 3 0),(.p (.val (.pointer none))),(.p (.val (.pointer none)))],.pack [.obj 41 [(.ptr 1 0),(.ptr 2 0)],.pack [.obj 88 [(.row 1),(.p (.int .i64 n))],.row .upl 86 l],.pack [.obj 118 [(.row 1),(.p (.int .i64 s))],.row .byte 5 b]],.abs (.cn cn0),.abs (.cn cn0)],15,none⟩
    |3=>⟨[(0,.v (.one (.ptr 0 0))),(3,.v (.one (.p (.int .i64 3))))],[.obj 57 [(.ptr 1 0),(.ptr 2 0),(.ptr 3 0),(.ptr 4 0),(.p (.val (.pointer none)))],.pack [.obj 41 [(.ptr 1 0),(.ptr 2 0)],.pack [.obj 88 [(.row 1),(.p (.int .i64 n))],.row .upl 86 l],.pack [.obj 118 [(.row 1),(.p (.int .i64 s))],.row .byte 5 b]],.abs (.cn cn0),.abs (.cn cn0),.abs (.cn cn0)],15,none⟩
    |_=>⟨[(0,.v (.one (.ptr 0 0))),(3,.v (.one (.p (.int .i64 4))))],[.obj 57 [(.ptr 1 0),(.ptr 2 0),(.ptr 3 0),(.ptr 4 0),(.ptr 5 0)],.pack [.obj 41 [(.ptr 1 0),(.ptr 2 0)],.pack [.obj 88 [(.row 1),(.p (.int .i64 n))],.row .upl 86 l],.pack [.obj 118 [(.row 1),(.p (.int .i64 s))],.row .byte 5 b]],.abs (.cn cn0),.abs (.cn cn0),.abs (.cn cn0),.abs (.cn cn0)],15,none⟩) (fun i:Nat=>4 - i) 0 (by kernel_rfl) (by kernel_rfl) ?_ ?_
  · exact Nat.zero_le _
  rintro i h1 A hA
  obtain rfl|rfl|rfl|rfl|rfl:i=0∨i=1∨i=2∨i=3∨i=4:=by omega
  all_goals
    refine orcL ?_;go_invoke;refine orcS (by kernel_rfl) ?_
    simp only [zi,Nat.reduceAdd]
    subst hI
    refine⟨fun c=> ?_,fun c=> ?_⟩
    all_goals first
      |exact absurd c (by decide)
      |exact⟨True.intro,by show IntKind.i64.min≤_∧_;decide,hA 1 (by decide) (by decide),True.intro⟩
      |exact⟨True.intro,by show IntKind.i64.min≤_∧_;decide,hA 2 (by decide) (by decide),True.intro⟩
      |exact⟨True.intro,by show IntKind.i64.min≤_∧_;decide,hA 3 (by decide) (by decide),True.intro⟩
      |exact⟨True.intro,by show IntKind.i64.min≤_∧_;decide,hA 4 (by decide) (by decide),True.intro⟩
      |exact⟨True.intro,True.intro⟩
def Xr (I:Alg) (args:List D) (hp:List HO):Option CT:=match args,hp with
  |[.v (.one (.ptr 0 0))],[.obj 57 [(.ptr 1 0),(.p (.val (.pointer none))),(.p (.val (.pointer none))),(.p (.val (.pointer none))),(.p (.val (.pointer none)))],.pack [.obj 41 [(.ptr 1 0),(.ptr 2 0)],.pack [.obj 88 [(.row 1),(.p (.int .i64 n))],.row .upl 86 l],.pack [.obj 118 [(.row 1),(.p (.int .i64 s))],.row .byte 5 b]]]=>(fun(l:List Upl) (n:Int) (b:Str) (s:Int)=>(some (.one ⟨I.hid (True),(.ret (.tup [])),[.obj 57 [(.ptr 1 0),(.ptr 2 0),(.ptr 3 0),(.ptr 4 0),(.ptr 5 0)],.pack [.obj 41 [(.ptr 1 0),(.ptr 2 0)],.pack [.obj 88 [(.row 1),(.p (.int .i64 n))],.row .upl 86 l],.pack [.obj 118 [(.row 1),(.p (.int .i64 s))],.row .byte 5 b]],.abs (.cn cn0),.abs (.cn cn0),.abs (.cn cn0),.abs (.cn cn0)]⟩):Option CT)) l n b s
  |_,_=>none
theorem zcD:zx Tryz.prog 24 (Xr alg):=by
  intro args hp r h
  unfold Xr at h
  split at h
  · cases h;exact fun hn=>zqR _ _ _ _
  · cases h
def zli:Know Tryz.prog:=⟨24,Xr,zcD⟩
def zlh:Know Tryz.prog:=⟨24,fun I=>zy I (Xr I),zf zcD⟩
end Go.Proofs.YtmkcejdibmilmaaGreatDoor
namespace Go.Proofs.YtmkcejdibmilmaaGreatDoor
open Go Go.Sep Go.Ab
set_option maxRecDepth 100000
theorem zt5 (l:List Upl) (n:Int) (b:Str) (s:Int) (c0 c1 c2 c3:Cn):Spc Tryz.prog 14 [.v (.one (.ptr 0 0)),.v (.one (.p (.int .i64 0)))] [.obj 57 [(.ptr 1 0),(.ptr 2 0),(.ptr 3 0),(.ptr 4 0),(.ptr 5 0)],.pack [.obj 41 [(.ptr 1 0),(.ptr 2 0)],.pack [.obj 88 [(.row 1),(.p (.int .i64 n))],.row .upl 86 l],.pack [.obj 118 [(.row 1),(.p (.int .i64 s))],.row .byte 5 b]],.abs (.cn c0),.abs (.cn c1),.abs (.cn c2),.abs (.cn c3)] (.ret (.v (.one (.p (.bool ((wF c0.q))))))) [.obj 57 [(.ptr 1 0),(.ptr 2 0),(.ptr 3 0),(.ptr 4 0),(.ptr 5 0)],.pack [.obj 41 [(.ptr 1 0),(.ptr 2 0)],.pack [.obj 88 [(.row 1),(.p (.int .i64 n))],.row .upl 86 l],.pack [.obj 118 [(.row 1),(.p (.int .i64 s))],.row .byte 5 b]],.abs (.cn c0),.abs (.cn c1),.abs (.cn c2),.abs (.cn c3)]:=by
  obtain⟨q,⟨m,t,mi,f,le⟩,cb,li,w⟩:=c0
  dsimp only
  refine spcG zh mixed Tryz.func14 (by kernel_rfl) { cfgG with keep:=some [0,1,4]} [Yv,Yu] (by kernel_rfl) ?_
  intro I X hI hX
  cases w
  all_goals
    refine orcL ?_;go_invoke;refine orcS (by kernel_rfl) ?_
    simp only [zi,Nat.reduceAdd]
    subst hI
    simp only [nrmA,nrmB,nrlB,reduceCtorEq,HO.pack.injEq,HO.obj.injEq,HO.abs.injEq,Gh.cn.injEq]
    (repeat' (first|refine And.intro ?_ ?_|intro _))<;>first|omega|exact True.intro|exact False.elim ‹False›|skip
def V7 (I:Alg) (args:List D) (hp:List HO):Option CT:=match args,hp with
  |[.v (.one (.ptr 0 0)),.v (.one (.p (.int .i64 0)))],[.obj 57 [(.ptr 1 0),(.ptr 2 0),(.ptr 3 0),(.ptr 4 0),(.ptr 5 0)],.pack [.obj 41 [(.ptr 1 0),(.ptr 2 0)],.pack [.obj 88 [(.row 1),(.p (.int .i64 n))],.row .upl 86 l],.pack [.obj 118 [(.row 1),(.p (.int .i64 s))],.row .byte 5 b]],.abs (.cn c0),.abs (.cn c1),.abs (.cn c2),.abs (.cn c3)]=>(fun(l:List Upl) (n:Int) (b:Str) (s:Int) (c0 c1 c2 c3:Cn)=>(some (.one ⟨I.hid (True),(.ret (.v (.one (.p (.bool (I.hid ((wF c0.q)))))))),[.obj 57 [(.ptr 1 0),(.ptr 2 0),(.ptr 3 0),(.ptr 4 0),(.ptr 5 0)],.pack [.obj 41 [(.ptr 1 0),(.ptr 2 0)],.pack [.obj 88 [(.row 1),(.p (.int .i64 n))],.row .upl 86 l],.pack [.obj 118 [(.row 1),(.p (.int .i64 s))],.row .byte 5 b]],.abs (.cn c0),.abs (.cn c1),.abs (.cn c2),.abs (.cn c3)]⟩):Option CT)) l n b s c0 c1 c2 c3
  |_,_=>none
theorem zf1:zx Tryz.prog 14 (V7 alg):=by
  intro args hp r h
  unfold V7 at h
  split at h
  · cases h;exact fun hn=>zt5 _ _ _ _ _ _ _ _
  · cases h
def vN:Know Tryz.prog:=⟨14,V7,zf1⟩
def vM:Know Tryz.prog:=⟨14,fun I=>zy I (V7 I),zf zf1⟩
theorem zt4 (l:List Upl) (n:Int) (b:Str) (s:Int) (c0 c1 c2 c3:Cn):Spc Tryz.prog 14 [.v (.one (.ptr 0 0)),.v (.one (.p (.int .i64 1)))] [.obj 57 [(.ptr 1 0),(.ptr 2 0),(.ptr 3 0),(.ptr 4 0),(.ptr 5 0)],.pack [.obj 41 [(.ptr 1 0),(.ptr 2 0)],.pack [.obj 88 [(.row 1),(.p (.int .i64 n))],.row .upl 86 l],.pack [.obj 118 [(.row 1),(.p (.int .i64 s))],.row .byte 5 b]],.abs (.cn c0),.abs (.cn c1),.abs (.cn c2),.abs (.cn c3)] (.ret (.v (.one (.p (.bool ((wF c1.q))))))) [.obj 57 [(.ptr 1 0),(.ptr 2 0),(.ptr 3 0),(.ptr 4 0),(.ptr 5 0)],.pack [.obj 41 [(.ptr 1 0),(.ptr 2 0)],.pack [.obj 88 [(.row 1),(.p (.int .i64 n))],.row .upl 86 l],.pack [.obj 118 [(.row 1),(.p (.int .i64 s))],.row .byte 5 b]],.abs (.cn c0),.abs (.cn c1),.abs (.cn c2),.abs (.cn c3)]:=by
  obtain⟨q,⟨m,t,mi,f,le⟩,cb,li,w⟩:=c1
  dsimp only
  refine spcG zh mixed Tryz.func14 (by kernel_rfl) { cfgG with keep:=some [0,1,4]} [Yv,Yu,vN,vM] (by kernel_rfl) ?_
  intro I X hI hX
  cases w
  all_goals
    refine orcL ?_;go_invoke;refine orcS (by kernel_rfl) ?_
    simp only [zi,Nat.reduceAdd]
    subst hI
    simp only [nrmA,nrmB,nrlB,reduceCtorEq,HO.pack.injEq,HO.obj.injEq,HO.abs.injEq,Gh.cn.injEq]
    (repeat' (first|refine And.intro ?_ ?_|intro _))<;>first|omega|exact True.intro|exact False.elim ‹False›|skip
def V6 (I:Alg) (args:List D) (hp:List HO):Option CT:=match args,hp with
  |[.v (.one (.ptr 0 0)),.v (.one (.p (.int .i64 1)))],[.obj 57 [(.ptr 1 0),(.ptr 2 0),(.ptr 3 0),(.ptr 4 0),(.ptr 5 0)],.pack [.obj 41 [(.ptr 1 0),(.ptr 2 0)],.pack [.obj 88 [(.row 1),(.p (.int .i64 n))],.row .upl 86 l],.pack [.obj 118 [(.row 1),(.p (.int .i64 s))],.row .byte 5 b]],.abs (.cn c0),.abs (.cn c1),.abs (.cn c2),.abs (.cn c3)]=>(fun(l:List Upl) (n:Int) (b:Str) (s:Int) (c0 c1 c2 c3:Cn)=>(some (.one ⟨I.hid (True),(.ret (.v (.one (.p (.bool (I.hid ((wF c1.q)))))))),[.obj 57 [(.ptr 1 0),(.ptr 2 0),(.ptr 3 0),(.ptr 4 0),(.ptr 5 0)],.pack [.obj 41 [(.ptr 1 0),(.ptr 2 0)],.pack [.obj 88 [(.row 1),(.p (.int .i64 n))],.row .upl 86 l],.pack [.obj 118 [(.row 1),(.p (.int .i64 s))],.row .byte 5 b]],.abs (.cn c0),.abs (.cn c1),.abs (.cn c2),.abs (.cn c3)]⟩):Option CT)) l n b s c0 c1 c2 c3
  |_,_=>none
theorem zf0:zx Tryz.prog 14 (V6 alg):=by
  intro args hp r h
  unfold V6 at h
  split at h
  · cases h;exact fun hn=>zt4 _ _ _ _ _ _ _ _
  · cases h
def uq:Know Tryz.prog:=⟨14,V6,zf0⟩
def um:Know Tryz.prog:=⟨14,fun I=>zy I (V6 I),zf zf0⟩
theorem zt3 (l:List Upl) (n:Int) (b:Str) (s:Int) (c0 c1 c2 c3:Cn):Spc Tryz.prog 14 [.v (.one (.ptr 0 0)),.v (.one (.p (.int .i64 2)))] [.obj 57 [(.ptr 1 0),(.ptr 2 0),(.ptr 3 0),(.ptr 4 0),(.ptr 5 0)],.pack [.obj 41 [(.ptr 1 0),(.ptr 2 0)],.pack [.obj 88 [(.row 1),(.p (.int .i64 n))],.row .upl 86 l],.pack [.obj 118 [(.row 1),(.p (.int .i64 s))],.row .byte 5 b]],.abs (.cn c0),.abs (.cn c1),.abs (.cn c2),.abs (.cn c3)] (.ret (.v (.one (.p (.bool ((wF c2.q))))))) [.obj 57 [(.ptr 1 0),(.ptr 2 0),(.ptr 3 0),(.ptr 4 0),(.ptr 5 0)],.pack [.obj 41 [(.ptr 1 0),(.ptr 2 0)],.pack [.obj 88 [(.row 1),(.p (.int .i64 n))],.row .upl 86 l],.pack [.obj 118 [(.row 1),(.p (.int .i64 s))],.row .byte 5 b]],.abs (.cn c0),.abs (.cn c1),.abs (.cn c2),.abs (.cn c3)]:=by
  obtain⟨q,⟨m,t,mi,f,le⟩,cb,li,w⟩:=c2
  dsimp only
  refine spcG zh mixed Tryz.func14 (by kernel_rfl) { cfgG with keep:=some [0,1,4]} [Yv,Yu,vN,vM,uq,um] (by kernel_rfl) ?_
  intro I X hI hX
  cases w
  all_goals
    refine orcL ?_;go_invoke;refine orcS (by kernel_rfl) ?_
    simp only [zi,Nat.reduceAdd]
    subst hI
    simp only [nrmA,nrmB,nrlB,reduceCtorEq,HO.pack.injEq,HO.obj.injEq,HO.abs.injEq,Gh.cn.injEq]
    (repeat' (first|refine And.intro ?_ ?_|intro _))<;>first|omega|exact True.intro|exact False.elim ‹False›|skip
def V5 (I:Alg) (args:List D) (hp:List HO):Option CT:=match args,hp with
  |[.v (.one (.ptr 0 0)),.v (.one (.p (.int .i64 2)))],[.obj 57 [(.ptr 1 0),(.ptr 2 0),(.ptr 3 0),(.ptr 4 0),(.ptr 5 0)],.pack [.obj 41 [(.ptr 1 0),(.ptr 2 0)],.pack [.obj 88 [(.row 1),(.p (.int .i64 n))],.row .upl 86 l],.pack [.obj 118 [(.row 1),(.p (.int .i64 s))],.row .byte 5 b]],.abs (.cn c0),.abs (.cn c1),.abs (.cn c2),.abs (.cn c3)]=>(fun(l:List Upl) (n:Int) (b:Str) (s:Int) (c0 c1 c2 c3:Cn)=>(some (.one ⟨I.hid (True),(.ret (.v (.one (.p (.bool (I.hid ((wF c2.q)))))))),[.obj 57 [(.ptr 1 0),(.ptr 2 0),(.ptr 3 0),(.ptr 4 0),(.ptr 5 0)],.pack [.obj 41 [(.ptr 1 0),(.ptr 2 0)],.pack [.obj 88 [(.row 1),(.p (.int .i64 n))],.row .upl 86 l],.pack [.obj 118 [(.row 1),(.p (.int .i64 s))],.row .byte 5 b]],.abs (.cn c0),.abs (.cn c1),.abs (.cn c2),.abs (.cn c3)]⟩):Option CT)) l n b s c0 c1 c2 c3
  |_,_=>none
theorem zfZ:zx Tryz.prog 14 (V5 alg):=by
  intro args hp r h
  unfold V5 at h
  split at h
  · cases h;exact fun hn=>zt3 _ _ _ _ _ _ _ _
  · cases h
def tC:Know Tryz.prog:=⟨14,V5,zfZ⟩
def tu:Know Tryz.prog:=⟨14,fun I=>zy I (V5 I),zf zfZ⟩
theorem zt2 (l:List Upl) (n:Int) (b:Str) (s:Int) (c0 c1 c2 c3:Cn):Spc Tryz.prog 14 [.v (.one (.ptr 0 0)),.v (.one (.p (.int .i64 3)))] [.obj 57 [(.ptr 1 0),(.ptr 2 0),(.ptr 3 0),(.ptr 4 0),(.ptr 5 0)],.pack [.obj 41 [(.ptr 1 0),(.ptr 2 0)],.pack [.obj 88 [(.row 1),(.p (.int .i64 n))],.row .upl 86 l],.pack [.obj 118 [(.row 1),(.p (.int .i64 s))],.row .byte 5 b]],.abs (.cn c0),.abs (.cn c1),.abs (.cn c2),.abs (.cn c3)] (.ret (.v (.one (.p (.bool ((wF c3.q))))))) [.obj 57 [(.ptr 1 0),(.ptr 2 0),(.ptr 3 0),(.ptr 4 0),(.ptr 5 0)],.pack [.obj 41 [(.ptr 1 0),(.ptr 2 0)],.pack [.obj 88 [(.row 1),(.p (.int .i64 n))],.row .upl 86 l],.pack [.obj 118 [(.row 1),(.p (.int .i64 s))],.row .byte 5 b]],.abs (.cn c0),.abs (.cn c1),.abs (.cn c2),.abs (.cn c3)]:=by
  obtain⟨q,⟨m,t,mi,f,le⟩,cb,li,w⟩:=c3
  dsimp only
  refine spcG zh mixed Tryz.func14 (by kernel_rfl) { cfgG with keep:=some [0,1,4]} [Yv,Yu,vN,vM,uq,um,tC,tu] (by kernel_rfl) ?_
  intro I X hI hX
  cases w
  all_goals
    refine orcL ?_;go_invoke;refine orcS (by kernel_rfl) ?_
    simp only [zi,Nat.reduceAdd]
    subst hI
    simp only [nrmA,nrmB,nrlB,reduceCtorEq,HO.pack.injEq,HO.obj.injEq,HO.abs.injEq,Gh.cn.injEq]
    (repeat' (first|refine And.intro ?_ ?_|intro _))<;>first|omega|exact True.intro|exact False.elim ‹False›|skip
def V4 (I:Alg) (args:List D) (hp:List HO):Option CT:=match args,hp with
  |[.v (.one (.ptr 0 0)),.v (.one (.p (.int .i64 3)))],[.obj 57 [(.ptr 1 0),(.ptr 2 0),(.ptr 3 0),(.ptr 4 0),(.ptr 5 0)],.pack [.obj 41 [(.ptr 1 0),(.ptr 2 0)],.pack [.obj 88 [(.row 1),(.p (.int .i64 n))],.row .upl 86 l],.pack [.obj 118 [(.row 1),(.p (.int .i64 s))],.row .byte 5 b]],.abs (.cn c0),.abs (.cn c1),.abs (.cn c2),.abs (.cn c3)]=>(fun(l:List Upl) (n:Int) (b:Str) (s:Int) (c0 c1 c2 c3:Cn)=>(some (.one ⟨I.hid (True),(.ret (.v (.one (.p (.bool (I.hid ((wF c3.q)))))))),[.obj 57 [(.ptr 1 0),(.ptr 2 0),(.ptr 3 0),(.ptr 4 0),(.ptr 5 0)],.pack [.obj 41 [(.ptr 1 0),(.ptr 2 0)],.pack [.obj 88 [(.row 1),(.p (.int .i64 n))],.row .upl 86 l],.pack [.obj 118 [(.row 1),(.p (.int .i64 s))],.row .byte 5 b]],.abs (.cn c0),.abs (.cn c1),.abs (.cn c2),.abs (.cn c3)]⟩):Option CT)) l n b s c0 c1 c2 c3
  |_,_=>none
theorem zfY:zx Tryz.prog 14 (V4 alg):=by
  intro args hp r h
  unfold V4 at h
  split at h
  · cases h;exact fun hn=>zt2 _ _ _ _ _ _ _ _
  · cases h
def qh:Know Tryz.prog:=⟨14,V4,zfY⟩
def qg:Know Tryz.prog:=⟨14,fun I=>zy I (V4 I),zf zfY⟩
theorem outK {k:Int} (h:k<0∨4≤k):(∃ j:Nat,k=Int.negSucc j)∨(∃ j:Nat,k=Int.ofNat (j+4)):=by
  rcases k with j|j
  · refine .inr ⟨j - 4,?_⟩
    have:(Int.ofNat j)=(j:Int):=rfl
    rw [this] at h
    rw [show j - 4+4=j by omega]
  · exact .inl ⟨j,rfl⟩
theorem zt1 (l:List Upl) (n:Int) (b:Str) (s:Int) (c0 c1 c2 c3:Cn) (k:Int) (hneed:k<0∨4≤k):Spc Tryz.prog 14 [.v (.one (.ptr 0 0)),.v (.one (.p (.int .i64 k)))] [.obj 57 [(.ptr 1 0),(.ptr 2 0),(.ptr 3 0),(.ptr 4 0),(.ptr 5 0)],.pack [.obj 41 [(.ptr 1 0),(.ptr 2 0)],.pack [.obj 88 [(.row 1),(.p (.int .i64 n))],.row .upl 86 l],.pack [.obj 118 [(.row 1),(.p (.int .i64 s))],.row .byte 5 b]],.abs (.cn c0),.abs (.cn c1),.abs (.cn c2),.abs (.cn c3)] (.ret (.v (.one (.p (.bool false))))) [.obj 57 [(.ptr 1 0),(.ptr 2 0),(.ptr 3 0),(.ptr 4 0),(.ptr 5 0)],.pack [.obj 41 [(.ptr 1 0),(.ptr 2 0)],.pack [.obj 88 [(.row 1),(.p (.int .i64 n))],.row .upl 86 l],.pack [.obj 118 [(.row 1),(.p (.int .i64 s))],.row .byte 5 b]],.abs (.cn c0),.abs (.cn c1),.abs (.cn c2),.abs (.cn c3)]:=by
  have hk:=outK hneed
  refine spcG zh mixed Tryz.func14 (by kernel_rfl) { cfgG with keep:=some [0,1,4]} [Yv,Yu,vN,vM,uq,um,tC,tu,qh,qg] (by kernel_rfl) ?_
  intro I X hI hX
  rcases hk with⟨j,rfl⟩|⟨j,rfl⟩
  all_goals
    refine orcL ?_;go_invoke;refine orcS (by kernel_rfl) ?_
    simp only [zi,Nat.reduceAdd]
    subst hI
    simp only [nrmA,nrmB,nrlB,reduceCtorEq]
    (repeat' (first|refine And.intro ?_ ?_|intro _))<;>first|omega|exact True.intro|exact False.elim ‹False›|skip
def V3 (I:Alg) (args:List D) (hp:List HO):Option CT:=match args,hp with
  |[.v (.one (.ptr 0 0)),.v (.one (.p (.int .i64 k)))],[.obj 57 [(.ptr 1 0),(.ptr 2 0),(.ptr 3 0),(.ptr 4 0),(.ptr 5 0)],.pack [.obj 41 [(.ptr 1 0),(.ptr 2 0)],.pack [.obj 88 [(.row 1),(.p (.int .i64 n))],.row .upl 86 l],.pack [.obj 118 [(.row 1),(.p (.int .i64 s))],.row .byte 5 b]],.abs (.cn c0),.abs (.cn c1),.abs (.cn c2),.abs (.cn c3)]=>(fun(l:List Upl) (n:Int) (b:Str) (s:Int) (c0 c1 c2 c3:Cn) (k:Int)=>(some (.one ⟨I.hid (k<0∨4≤k),(.ret (.v (.one (.p (.bool false))))),[.obj 57 [(.ptr 1 0),(.ptr 2 0),(.ptr 3 0),(.ptr 4 0),(.ptr 5 0)],.pack [.obj 41 [(.ptr 1 0),(.ptr 2 0)],.pack [.obj 88 [(.row 1),(.p (.int .i64 n))],.row .upl 86 l],.pack [.obj 118 [(.row 1),(.p (.int .i64 s))],.row .byte 5 b]],.abs (.cn c0),.abs (.cn c1),.abs (.cn c2),.abs (.cn c3)]⟩):Option CT)) l n b s c0 c1 c2 c3 k
  |_,_=>none
theorem zfX:zx Tryz.prog 14 (V3 alg):=by
  intro args hp r h
  unfold V3 at h
  split at h
  · cases h;exact fun hn=>zt1 _ _ _ _ _ _ _ _ _ hn
  · cases h
def Zu:Know Tryz.prog:=⟨14,V3,zfX⟩
def Zt:Know Tryz.prog:=⟨14,fun I=>zy I (V3 I),zf zfX⟩
theorem ztV (l:List Upl) (n:Int) (b:Str) (s:Int) (c0 c1 c2 c3:Cn) (k:Int) (x:Str) (hneed:k<0∨4≤k):Spc Tryz.prog 10 [.v (.one (.ptr 0 0)),.v (.one (.p (.int .i64 k))),.v (.one (.p (.list .byte x)))] [.obj 57 [(.ptr 1 0),(.ptr 2 0),(.ptr 3 0),(.ptr 4 0),(.ptr 5 0)],.pack [.obj 41 [(.ptr 1 0),(.ptr 2 0)],.pack [.obj 88 [(.row 1),(.p (.int .i64 n))],.row .upl 86 l],.pack [.obj 118 [(.row 1),(.p (.int .i64 s))],.row .byte 5 b]],.abs (.cn c0),.abs (.cn c1),.abs (.cn c2),.abs (.cn c3)] (.ret (.tup [(.one (.p (.list .byte ([])))),(.one (.p (.int .i64 1)))])) [.obj 57 [(.ptr 1 0),(.ptr 2 0),(.ptr 3 0),(.ptr 4 0),(.ptr 5 0)],.pack [.obj 41 [(.ptr 1 0),(.ptr 2 0)],.pack [.obj 88 [(.row 1),(.p (.int .i64 n))],.row .upl 86 l],.pack [.obj 118 [(.row 1),(.p (.int .i64 s))],.row .byte 5 b]],.abs (.cn c0),.abs (.cn c1),.abs (.cn c2),.abs (.cn c3)]:=by
  have hk:=outK hneed
  refine spcG zh mixed Tryz.func10 (by kernel_rfl) { cfgG with rl:=[0],keep:=some [0,1,2,6,7,8,10,37,38,39]} [xU,xR,xQ,xP,yu,yj,yF,yE,yM,yL,yS,yR,yO,yN,xY,xX,vK,vJ,qf,rZ] (by kernel_rfl) ?_
  intro I X hI hX
  rcases hk with⟨j,rfl⟩|⟨j,rfl⟩
  all_goals
    refine orcL ?_;go_invoke;refine orcS (by kernel_rfl) ?_
    simp only [zi,Nat.reduceAdd]
    subst hI
    simp only [nrmA,nrmB,nrlB,reduceCtorEq]
    (repeat' (first|refine And.intro ?_ ?_|intro _))<;>first|omega|exact True.intro|exact False.elim ‹False›|skip
def VR (I:Alg) (args:List D) (hp:List HO):Option CT:=match args,hp with
  |[.v (.one (.ptr 0 0)),.v (.one (.p (.int .i64 k))),.v (.one (.p (.list .byte x)))],[.obj 57 [(.ptr 1 0),(.ptr 2 0),(.ptr 3 0),(.ptr 4 0),(.ptr 5 0)],.pack [.obj 41 [(.ptr 1 0),(.ptr 2 0)],.pack [.obj 88 [(.row 1),(.p (.int .i64 n))],.row .upl 86 l],.pack [.obj 118 [(.row 1),(.p (.int .i64 s))],.row .byte 5 b]],.abs (.cn c0),.abs (.cn c1),.abs (.cn c2),.abs (.cn c3)]=>(fun(l:List Upl) (n:Int) (b:Str) (s:Int) (c0 c1 c2 c3:Cn) (k:Int) (x:Str)=>(some (.one ⟨I.hid (k<0∨4≤k),(.ret (.tup [(.one (.p (.list .byte (I.hid ([]))))),(.one (.p (.int .i64 1)))])),[.obj 57 [(.ptr 1 0),(.ptr 2 0),(.ptr 3 0),(.ptr 4 0),(.ptr 5 0)],.pack [.obj 41 [(.ptr 1 0),(.ptr 2 0)],.pack [.obj 88 [(.row 1),(.p (.int .i64 n))],.row .upl 86 l],.pack [.obj 118 [(.row 1),(.p (.int .i64 s))],.row .byte 5 b]],.abs (.cn c0),.abs (.cn c1),.abs (.cn c2),.abs (.cn c3)]⟩):Option CT)) l n b s c0 c1 c2 c3 k x
  |_,_=>none
theorem zfR:zx Tryz.prog 10 (VR alg):=by
  intro args hp r h
  unfold VR at h
  split at h
  · cases h;exact fun hn=>ztV _ _ _ _ _ _ _ _ _ _ hn
  · cases h
def Zr:Know Tryz.prog:=⟨10,VR,zfR⟩
def Zq:Know Tryz.prog:=⟨10,fun I=>zy I (VR I),zf zfR⟩
theorem ztQ (l:List Upl) (n:Int) (b:Str) (s:Int) (c0 c1 c2 c3:Cn) (k:Int) (hneed:k<0∨4≤k):Spc Tryz.prog 18 [.v (.one (.ptr 0 0)),.v (.one (.p (.int .i64 k)))] [.obj 57 [(.ptr 1 0),(.ptr 2 0),(.ptr 3 0),(.ptr 4 0),(.ptr 5 0)],.pack [.obj 41 [(.ptr 1 0),(.ptr 2 0)],.pack [.obj 88 [(.row 1),(.p (.int .i64 n))],.row .upl 86 l],.pack [.obj 118 [(.row 1),(.p (.int .i64 s))],.row .byte 5 b]],.abs (.cn c0),.abs (.cn c1),.abs (.cn c2),.abs (.cn c3)] (.ret (.v (.one (.p (.int .i64 1))))) [.obj 57 [(.ptr 1 0),(.ptr 2 0),(.ptr 3 0),(.ptr 4 0),(.ptr 5 0)],.pack [.obj 41 [(.ptr 1 0),(.ptr 2 0)],.pack [.obj 88 [(.row 1),(.p (.int .i64 n))],.row .upl 86 l],.pack [.obj 118 [(.row 1),(.p (.int .i64 s))],.row .byte 5 b]],.abs (.cn c0),.abs (.cn c1),.abs (.cn c2),.abs (.cn c3)]:=by
  have hk:=outK hneed
  refine spcG zh mixed Tryz.func18 (by kernel_rfl) { cfgG with keep:=some [0,1,4,5]} [xG,xE,zbS,zbR,ZH,ZG,YI,YH,VO,VN,za2,za1,zfM,zfL] (by kernel_rfl) ?_
  intro I X hI hX
  rcases hk with⟨j,rfl⟩|⟨j,rfl⟩
  all_goals
    refine orcL ?_;go_invoke;refine orcS (by kernel_rfl) ?_
    simp only [zi,Nat.reduceAdd]
    subst hI
    simp only [nrmA,nrmB,nrlB,reduceCtorEq]
    (repeat' (first|refine And.intro ?_ ?_|intro _))<;>first|omega|exact True.intro|exact False.elim ‹False›|skip
def VJ (I:Alg) (args:List D) (hp:List HO):Option CT:=match args,hp with
  |[.v (.one (.ptr 0 0)),.v (.one (.p (.int .i64 k)))],[.obj 57 [(.ptr 1 0),(.ptr 2 0),(.ptr 3 0),(.ptr 4 0),(.ptr 5 0)],.pack [.obj 41 [(.ptr 1 0),(.ptr 2 0)],.pack [.obj 88 [(.row 1),(.p (.int .i64 n))],.row .upl 86 l],.pack [.obj 118 [(.row 1),(.p (.int .i64 s))],.row .byte 5 b]],.abs (.cn c0),.abs (.cn c1),.abs (.cn c2),.abs (.cn c3)]=>(fun(l:List Upl) (n:Int) (b:Str) (s:Int) (c0 c1 c2 c3:Cn) (k:Int)=>(some (.one ⟨I.hid (k<0∨4≤k),(.ret (.v (.one (.p (.int .i64 1))))),[.obj 57 [(.ptr 1 0),(.ptr 2 0),(.ptr 3 0),(.ptr 4 0),(.ptr 5 0)],.pack [.obj 41 [(.ptr 1 0),(.ptr 2 0)],.pack [.obj 88 [(.row 1),(.p (.int .i64 n))],.row .upl 86 l],.pack [.obj 118 [(.row 1),(.p (.int .i64 s))],.row .byte 5 b]],.abs (.cn c0),.abs (.cn c1),.abs (.cn c2),.abs (.cn c3)]⟩):Option CT)) l n b s c0 c1 c2 c3 k
  |_,_=>none
theorem zfK:zx Tryz.prog 18 (VJ alg):=by
  intro args hp r h
  unfold VJ at h
  split at h
  · cases h;exact fun hn=>ztQ _ _ _ _ _ _ _ _ _ hn
  · cases h
def zn4:Know Tryz.prog:=⟨18,VJ,zfK⟩
def zn3:Know Tryz.prog:=⟨18,fun I=>zy I (VJ I),zf zfK⟩
theorem zxl (l:List Upl) (n:Int) (b:Str) (s:Int):Spc Tryz.prog 8 [.v (.one (.ptr 0 0))] [.pack [.obj 41 [(.ptr 1 0),(.ptr 2 0)],.pack [.obj 88 [(.row 1),(.p (.int .i64 n))],.row .upl 86 l],.pack [.obj 118 [(.row 1),(.p (.int .i64 s))],.row .byte 5 b]]] (.ret (.v (.one (.ptr 1 0)))) [.pack [.obj 41 [(.ptr 1 0),(.ptr 2 0)],.pack [.obj 88 [(.row 1),(.p (.int .i64 n))],.row .upl 86 l],.pack [.obj 118 [(.row 1),(.p (.int .i64 s))],.row .byte 5 b]],.obj 57 [(.ptr 0 0),(.ptr 2 0),(.ptr 3 0),(.ptr 4 0),(.ptr 5 0)],.abs (.cn cn0),.abs (.cn cn0),.abs (.cn cn0),.abs (.cn cn0)]:=by
  refine spcG zh mixed Tryz.func8 (by kernel_rfl) { cfgG with keep:=some [0,2,3]} [zli,zlh] (by kernel_rfl) ?_
  intro I X hI hX
  refine orcL ?_;go_invoke;refine orcS (by kernel_rfl) ?_
  simp only [zi,Nat.reduceAdd]
  subst hI
  simp only [nrmA,nrmB,nrlB,reduceCtorEq,HO.pack.injEq,HO.obj.injEq]
def zdX (I:Alg) (args:List D) (hp:List HO):Option CT:=match args,hp with
  |[.v (.one (.ptr 0 0))],[.pack [.obj 41 [(.ptr 1 0),(.ptr 2 0)],.pack [.obj 88 [(.row 1),(.p (.int .i64 n))],.row .upl 86 l],.pack [.obj 118 [(.row 1),(.p (.int .i64 s))],.row .byte 5 b]]]=>(fun(l:List Upl) (n:Int) (b:Str) (s:Int)=>(some (.one ⟨I.hid (True),(.ret (.v (.one (.ptr 1 0)))),[.pack [.obj 41 [(.ptr 1 0),(.ptr 2 0)],.pack [.obj 88 [(.row 1),(.p (.int .i64 n))],.row .upl 86 l],.pack [.obj 118 [(.row 1),(.p (.int .i64 s))],.row .byte 5 b]],.obj 57 [(.ptr 0 0),(.ptr 2 0),(.ptr 3 0),(.ptr 4 0),(.ptr 5 0)],.abs (.cn cn0),.abs (.cn cn0),.abs (.cn cn0),.abs (.cn cn0)]⟩):Option CT)) l n b s
  |_,_=>none
theorem zn2:zx Tryz.prog 8 (zdX alg):=by
  intro args hp r h
  unfold zdX at h
  split at h
  · cases h;exact fun hn=>zxl _ _ _ _
  · cases h
def Tc:Know Tryz.prog:=⟨8,zdX,zn2⟩
def U9:Know Tryz.prog:=⟨8,fun I=>zy I (zdX I),zf zn2⟩
end Go.Proofs.YtmkcejdibmilmaaGreatDoor
namespace Go.Proofs.YtmkcejdibmilmaaGreatDoor
open Go Go.Sep Go.Ab
theorem zoH (x:GE) (s t:Str):evG (evG x (evB s)) (evB t)=evG x (evB (s++t)):=by
  simp [evG,evB]
theorem zka (x:GE) {e:Evt} (h:e.kind=2):evG x e=evG x (evB e.bytes):=by
  simp [evG,evB,h]
theorem zlx (x:GE) (o:List Evt) (e:Evt):evsG x (uV o e)=evsG x (o++[e]):=by
  rcases List.eq_nil_or_concat o with rfl|⟨z,y,rfl⟩
  · rfl
  · rw [List.concat_eq_append,xW]
    split
    · rename_i h
      rw [XI,List.append_assoc,XI]
      show evG (evsG x z) (evB (y.bytes++e.bytes))=evG (evG (evsG x z) y) e
      rw [zka _ h.1,zka (evsG x z) h.2,zoH]
    · rfl
theorem zc2 (x:GE): ∀ (l o:List Evt),evsG x (l.foldl uV o)=evsG x (o++l)
  |[],o=>by simp
  | e::l,o=>by
    rw [List.foldl_cons,zc2 x l,XI,zlx,← XI];simp
theorem zoF (x:GE) (l:List Evt):evsG x (zZ l)=evsG x l:=zc2 x l []
theorem zeb: ∀ (l:List Evt) (x:GE),evsG x l=⟨(evsG ⟨x.q,x.h,x.b,x.i,x.w,[]⟩ l).q,(evsG ⟨x.q,x.h,x.b,x.i,x.w,[]⟩ l).h,(evsG ⟨x.q,x.h,x.b,x.i,x.w,[]⟩ l).b,(evsG ⟨x.q,x.h,x.b,x.i,x.w,[]⟩ l).i,(evsG ⟨x.q,x.h,x.b,x.i,x.w,[]⟩ l).w,x.o++(evsG ⟨x.q,x.h,x.b,x.i,x.w,[]⟩ l).o⟩
  |[],x=>by simp [evsG]
  | e::l,x=>by
    show evsG (evG x e) l=_
    rw [zeb l (evG x e),zhJ x e]
    dsimp only
    have e2:evsG ⟨x.q,x.h,x.b,x.i,x.w,[]⟩ (e::l)=evsG (evG ⟨x.q,x.h,x.b,x.i,x.w,[]⟩ e) l:=rfl
    rw [e2,zeb l (evG ⟨x.q,x.h,x.b,x.i,x.w,[]⟩ e)]
    simp [List.append_assoc]
theorem zb6: ∀ (b:Str) {q:Rq},q.pos=4→vF q b=q
  |[],_,_=>rfl
  | c ::b,q,h=>by
    have:rqF q c=q:=by
      unfold rqF
      rw [if_neg (by omega),if_neg (by omega),if_neg (by omega)]
    show vF (rqF q c) b=q
    rw [this];exact zb6 b h
theorem zd4 (q:Sto) (c:Cn) (b:Str):fedE q c b=evsG ⟨q,c.h,c.body,c.live,c.own,[]⟩ (zB c.q b).out:=zoF _ _
theorem QS {q:Sto} {c:Cn} {b:Str} (h:c.q.pos=4):fedE q c b=⟨q,c.h,c.body,c.live,c.own,[]⟩∧zB c.q b= { c.q with out:=[]}:=by
  have:zB c.q b= { c.q with out:=[]}:=zb6 b (q:= { c.q with out:=[]}) h
  rw [zd4,this]
  exact⟨rfl,rfl⟩
def qw (c:Cn):Cn:= { c with q:=uf c.q}
theorem zos (q:Sto) (c:Cn) (b:Str):fdQ q c b=(fedE q c b).q:=by
  unfold fdQ
  split
  · rename_i h;rw [(QS h).1]
  · rfl
theorem zsi (q:Sto) (c:Cn) (b:Str):fdO q c b=(fedE q c b).o:=by
  unfold fdO
  split
  · rename_i h;rw [(QS h).1]
  · rfl
theorem zot (q:Sto) (c:Cn) (b:Str):qw (fdC q c b)=qw (fedC q c b):=by
  unfold fdC
  split
  · rename_i h
    unfold fedC
    rw [(QS (q:=q) h).1,(QS (q:=q) h).2]
    rfl
  · rfl
theorem zor {q:Sto} {c d:Cn} (h:qw c=qw d) (b:Str):fedE q c b=fedE q d b∧qw (fedC q c b)=qw (fedC q d b):=by
  obtain⟨cq,ch,cb,ci,cw⟩:=c
  obtain⟨dq,dh,db,di,dw⟩:=d
  simp only [qw,Cn.mk.injEq] at h
  obtain⟨h1,rfl,rfl,rfl,rfl⟩:=h
  have e:=zg6 h1 b
  unfold fedC fedE
  dsimp only
  rw [e]
  exact⟨rfl,rfl⟩
theorem zun (q:Sto) (c:Cn) (a b:Str):(fedE q c (a++b)).q=(fedE (fedE q c a).q (fedC q c a) b).q∧(fedE q c (a++b)).o=(fedE q c a).o++(fedE (fedE q c a).q (fedC q c a) b).o∧qw (fedC q c (a++b))=qw (fedC (fedE q c a).q (fedC q c a) b):=by
  obtain⟨h1,h2⟩:=zkR c.q a b
  have e:fedE q c (a++b)=evsG (fedE q c a) (zB (zB c.q a) b).out:=by
    rw [zd4,h2,XI,← zd4]
  have e2:fedE (fedE q c a).q (fedC q c a) b=evsG ⟨(fedE q c a).q,(fedE q c a).h,(fedE q c a).b,(fedE q c a).i,(fedE q c a).w,[]⟩ (zB (zB c.q a) b).out:=zd4 _ _ _
  have e3:=zeb (zB (zB c.q a) b).out (fedE q c a)
  rw [← e,← e2] at e3
  refine⟨by rw [e3],by rw [e3],?_⟩
  unfold qw fedC
  simp only [Cn.mk.injEq]
  refine⟨h1.symm,?_,?_,?_,?_⟩
  · rw [e3];rfl
  · rw [e3];rfl
  · rw [e3];rfl
  · rw [e3];rfl
structure PcG (b:Str) (L:List Str) (i:Nat) (q:Sto) (c:Cn) (o:Str):Prop where
  le:i≤L.length
  hq:q=(fedE ⟨[],0,[],0⟩ cn0 (L.take i).flatten).q
  hc:qw c=qw (fedC ⟨[],0,[],0⟩ cn0 (L.take i).flatten)
  ho:o=(fedE ⟨[],0,[],0⟩ cn0 (L.take i).flatten).o
  cn:CnI c (L.take i).flatten.length
  sk:SOk q (12 * (L.take i).flatten.length)
theorem zeM:SOk ⟨[],0,[],0⟩ 0:=⟨zsL,by decide,by decide,by decide,by decide⟩
theorem zqw (b:Str) (L:List Str):PcG b L 0 ⟨[],0,[],0⟩ cn0 []:=⟨Nat.zero_le _,rfl,rfl,rfl,zgC,zeM⟩
theorem zrz {c d:Cn} (h:qw c=qw d) {k:Nat} (hc:CnI c k):CnI d k:=by
  obtain⟨cq,ch,cb,ci,cw⟩:=c
  obtain⟨dq,dh,db,di,dw⟩:=d
  simp only [qw,Cn.mk.injEq] at h
  obtain⟨h1,rfl,rfl,rfl,rfl⟩:=h
  have hp:cq.pos=dq.pos:=by show(uf cq).pos=(uf dq).pos;rw [h1]
  refine⟨?_,hc.2.1,hc.2.2.1,fun k=>hc.2.2.2 (by rw [hp];exact k)⟩
  have:=hc.1
  have e:({ cq with out:=[]}:Rq)= { dq with out:=[]}:=h1
  rw [e] at this
  exact this
theorem Qp {b:Str} {L:List Str} {i:Nat} {q:Sto} {c:Cn} {o:Str} (h:PcG b L i q c o) (hf:L.flatten=b) (k:i<L.length) (hb:b.length≤9000):FdN q c (L.getD i []):=by
  have h1:=zeD k
  have h2:=Ym L (i+1)
  rw [h1,List.length_append,hf] at h2
  exact⟨_,_,h.sk,h.cn,by omega,by omega⟩
theorem zlw {q:Sto} {m:Int} {c:Cn} {k:Nat} (hq:SOk q m) (h:CnI c k) {b:Str} (hb:k+b.length≤1000000):SOk (fdQ q c b) (m+12 * b.length)∧CnI (fdC q c b) (k+b.length):=by
  obtain⟨h1,h2⟩:=zwh hq h hb
  rw [zos]
  exact⟨h1,zrz (zot q c b).symm h2⟩
theorem zqv {b:Str} {L:List Str} {i:Nat} {q:Sto} {c:Cn} {o:Str} (h:PcG b L i q c o) (hf:L.flatten=b) (k:i<L.length) (hb:b.length≤9000):PcG b L (i+1) (fdQ q c (L.getD i [])) (fdC q c (L.getD i [])) (o++fdO q c (L.getD i [])):=by
  have h1:=zeD k
  have h2:=Ym L (i+1)
  rw [hf] at h2
  have h3:=congrArg List.length h1
  rw [List.length_append] at h3
  obtain⟨a1,a2,a3⟩:=zun ⟨[],0,[],0⟩ cn0 (L.take i).flatten (L.getD i [])
  obtain⟨b1,b2⟩:=zor (q:=q) h.hc (L.getD i [])
  obtain⟨s1,s2⟩:=zlw h.sk h.cn (b:=L.getD i []) (by omega)
  refine⟨k,?_,?_,?_,by rw [h3];exact s2,vZ s1 (by omega)⟩
  · rw [zos,b1,h1,a1,← h.hq]
  · rw [zot,b2,h1,a3,← h.hq]
  · rw [zsi,b1,h1,a2,← h.hq,← h.ho]
theorem zdA {b:Str} {L:List Str} {q:Sto} {c:Cn} {o:Str} (h:PcG b L L.length q c o) (hf:L.flatten=b):q=fdQ ⟨[],0,[],0⟩ cn0 b∧o=fdO ⟨[],0,[],0⟩ cn0 b∧wF c.q=wF (fdC ⟨[],0,[],0⟩ cn0 b).q:=by
  have e:=h
  have h1:=h.hq
  have h2:=h.hc
  have h3:=h.ho
  rw [List.take_length,hf] at h1 h2 h3
  rw [zos,zsi]
  refine⟨h1,h3,?_⟩
  rw [← zot] at h2
  have h4:uf c.q=uf (fdC ⟨[],0,[],0⟩ cn0 b).q:=congrArg Cn.q h2
  exact(zo3 h4).1
theorem zsj: ∀ (l:List Evt) {x:GE} {m:Int} {k:Nat},EOk x m k→EvO l→(evsG x l).o.length≤x.o.length+30000 * l.length
  |[],x,m,k,_,_=>Nat.le_add_right _ _
  | e::l,x,m,k,h,ho=>by
    have h1:=zsj l (zsm h (ho e List.mem_cons_self)) fun y hy=>ho y (List.mem_cons_of_mem _ hy)
    have h2:=zut h.1.1 h.2.1 e
    have h3:(evG x e).o.length=x.o.length+(evG ⟨x.q,x.h,x.b,x.i,x.w,[]⟩ e).o.length:=by rw [zhJ];simp
    show(evsG (evG x e) l).o.length≤_
    rw [List.length_cons];omega
theorem zwg {q:Sto} {m:Int} {c:Cn} {k:Nat} (hq:SOk q m) (h:CnI c k) {b:Str} (hb:k+b.length≤1000000):(fedE q c b).o.length≤120000 * (k+b.length):=by
  obtain⟨h1,h2,h3,h4⟩:=zoq h hb
  have h5:=zsj (zZ (zB c.q b).out) (x:=⟨q,c.h,c.body,c.live,c.own,[]⟩) (m:=m) (k:=k) ⟨hq,h.2.1,h.2.2.1⟩ h1
  have:(fedE q c b).o.length≤0+30000 * (zZ (zB c.q b).out).length:=h5
  omega
theorem Sm {b:Str} {L:List Str} {i:Nat} {q:Sto} {c:Cn} {o:Str} (h:PcG b L i q c o) (hf:L.flatten=b) (hb:b.length≤9000):o.length≤2000000000:=by
  have h2:=Ym L i
  rw [hf] at h2
  have:=zwg zeM zgC (b:=(L.take i).flatten) (by omega)
  rw [h.ho];omega
end Go.Proofs.YtmkcejdibmilmaaGreatDoor
namespace Go.Proofs.YtmkcejdibmilmaaGreatDoor
open Go Go.Sep Go.Ab
set_option maxRecDepth 100000
def begG:Str:=[71,69,84,32,47,32,72,84,84,80,47,49,46,49,13,10,72,111,115,116,58,32,97,13,10,13,10]
theorem zuG:fdK cn0=0∧20<(fdO ⟨[],0,[],0⟩ cn0 begG).length∧((fdO ⟨[],0,[],0⟩ cn0 begG).drop 9).take 3=[52,48,52]∧wF (fdC ⟨[],0,[],0⟩ cn0 begG).q=false:=by decide+kernel
theorem zwi {x:Str} (h:x.length≤9000):FdN ⟨[],0,[],0⟩ cn0 x:=⟨0,0,zeM,zgC,by omega,by omega⟩
set_option maxHeartbeats 2000000 in
theorem zlg:Spc Tryz.prog 6 [] [] (.ret (.v (.one (.p (.bool true))))) []:=by
  obtain⟨h1,h2,h3,h4⟩:=zuG
  have hk:=zlw zeM zgC (b:=begG) (by decide)
  have hf:=zwi (x:=begG) (by decide)
  refine spcG zh mixed Tryz.func6 (by kernel_rfl) { cfgG with fz:=[10],keep:=some [0,1,2,3,5]} [Zh,Zg,yO,yN,xY,xX,vK,vJ,qf,rZ,Zr,Zq,YI,YH,VO,VN,za2,za1,zfM,zfL,zn4,zn3,vN,vM,uq,um,tC,tu,qh,qg,Zu,Zt,Tc,U9] (by kernel_rfl) ?_
  intro I X hI hX
  refine orcL ?_;go_invoke;refine orcS (by kernel_rfl) ?_
  simp only [zi,Nat.reduceAdd]
  subst hI
  simp only [nrmA,nrmB,nrlB,reduceCtorEq,Int.reduceToNat,UInt8.reduceOfNat]
  simp only [show([71,69,84,32,47,32,72,84,84,80,47,49,46,49,13,10,72,111,115,116,58,32,97,13,10,13,10]:Str)=begG from rfl]
  generalize fdK cn0=K at *
  generalize fdO ⟨[],0,[],0⟩ cn0 begG=O at *
  generalize fdQ ⟨[],0,[],0⟩ cn0 begG=Q at *
  generalize fdC ⟨[],0,[],0⟩ cn0 begG=Y at *
  subst h1
  have hb:begG.length=27:=rfl
  rw [hb] at hk
  (repeat' (first|refine And.intro ?_ ?_|intro _))<;>first|omega|exact True.intro|exact False.elim ‹False›|skip
  all_goals first
    |omega
    |exact hf
    |exact h3
    |exact hk.1.1
    |exact hk.1.2.1
    |(have:=hk.1.2.2.1;omega)
    |exact hk.2.2.1.1
    |(exact(hk.2.2.1.2 _ ‹_›).1)
    |(exact(hk.2.2.1.2 _ ‹_›).2)
    |(have:=hk.2.2.2.1;omega)
    |(exact Bool.noConfusion (h4.symm.trans ‹wF _=true›))
def qN (I:Alg) (args:List D) (hp:List HO):Option CT:=match args,hp with
  |[],[]=>(fun(_:Unit)=>(some (.one ⟨I.hid (True),(.ret (.v (.one (.p (.bool true))))),[]⟩):Option CT)) ()
  |_,_=>none
theorem SI:zx Tryz.prog 6 (qN alg):=by
  intro args hp r h
  unfold qN at h
  split at h
  · cases h;exact fun hn=>zlg
  · cases h
def tq:Know Tryz.prog:=⟨6,qN,SI⟩
def uZ:Know Tryz.prog:=⟨6,fun I=>zy I (qN I),zf SI⟩
end Go.Proofs.YtmkcejdibmilmaaGreatDoor
namespace Go.Proofs.YtmkcejdibmilmaaGreatDoor
open Go Go.Sep Go.Ab
set_option maxRecDepth 100000
def pcK (n:Nat) (c:Int):Nat:=((c % 18446744073709551616) % ((n:Int)+1)).toNat
theorem zvx (n:Nat) (c:Int):pcK n c≤n:=by
  unfold pcK
  have:=Int.emod_lt_of_pos (c % 18446744073709551616) (show(0:Int)<(n:Int)+1 by omega)
  omega
def pcs:Str→List Int→List Str
  |b,[]=>[b]
  |b,c::r=>b.take (pcK b.length c)::pcs (b.drop (pcK b.length c)) r
theorem zjf: ∀ (cs:List Int) (b:Str),(pcs b cs).flatten=b
  |[],b=>by simp [pcs]
  |c::r,b=>by simp [pcs,zjf r]
theorem znp: ∀ (cs:List Int) (b:Str),(pcs b cs).length=cs.length+1
  |[],b=>rfl
  |c::r,b=>by simp [pcs,znp r]
theorem pcW (c:Int) {n k:Nat} (h:k≤n) (hn:n≤1000000):IntKind.i64.wrap ((IntKind.u64.wrap c).tmod (IntKind.u64.wrap ((n:Int) - k+1)))=(pcK (n - k) c:Int):=by
  have e1:IntKind.u64.wrap c=c % 18446744073709551616:=by simp [IntKind.wrap_u64]
  have e2:IntKind.u64.wrap ((n:Int) - k+1)=((n - k:Nat):Int)+1:=by rw [IntKind.wrap_u64];omega
  rw [e1,e2,Int.tmod_eq_emod_of_nonneg (by omega)]
  unfold pcK
  have h1:=Int.emod_lt_of_pos (c % 18446744073709551616) (show(0:Int)<((n - k:Nat):Int)+1 by omega)
  have h2:=Int.emod_nonneg (c % 18446744073709551616) (show((n - k:Nat):Int)+1≠0 by omega)
  generalize c % 18446744073709551616 % (((n - k:Nat):Int)+1)=z at *
  rw [IntKind.wrap_i64]
  omega
theorem pcU {n k:Nat} (h:k≤n) (hn:n≤1000000): ¬ IntKind.u64.wrap ((n:Int) - k+1)=0:=by rw [IntKind.wrap_u64];omega
theorem zte (b:Str) (cs:List Int) (hneed:cs.length≤1000000∧b.length≤1000000):Spc Tryz.prog 9 [.v (.one (.p (.list .byte b))),.v (.one (.p (.list .int cs)))] [] (.ret (.v (.one (.row 0)))) [.row .bytes 22 ((pcs b cs))]:=by
  refine spcG zh mixed Tryz.func9 (by kernel_rfl) { nr:=[5],keep:=some [0,1,4,5,6,7,8]} [] (by kernel_rfl) ?_
  intro I X hI hX
  refine orcL ?_;go_invoke;refine orcS (by kernel_rfl) ?_
  simp only [zi,Nat.reduceAdd]
  refine zC hI zh mixed [] hX [0,1,5,6,7] (fun(g:Nat × Nat × List Str)=>match g with|(i,k,o)=>i≤cs.length∧k≤b.length∧o.length=i∧pcs b cs=o++pcs (b.drop k) (cs.drop i)) (fun(g:Nat × Nat × List Str)=>match g with|(i,k,o)=>⟨[(0,.v (.one (.p (.list .byte b)))),(1,.v (.one (.p (.list .int cs)))),(5,.v (.one (.row 0))),(6,.v (.one (.p (.int .i64 k)))),(7,.v (.one (.p (.int .i64 i))))],[.row .bytes 22 o],44,none⟩) (fun(g:Nat × Nat × List Str)=>match g with|(i,k,o)=>cs.length - i) (0,0,[]) (by kernel_rfl) (by kernel_rfl) ?_ ?_
  · exact⟨Nat.zero_le _,Nat.zero_le _,rfl,rfl⟩
  rintro⟨i,k,o⟩ ⟨h1,h2,h3,h4⟩ A hA
  simp only at hA h1 h2 h3 h4
  refine orcL ?_;go_invoke;refine orcS (by kernel_rfl) ?_
  simp only [zi,Nat.reduceAdd]
  subst hI
  simp only [nrmA,nrmB,nrlB,reduceCtorEq]
  have hU:=pcU h2 hneed.2
  have hK:=zvx (b.length - k) (cs.getD i 0)
  have hW:=pcW (cs.getD i 0) h2 hneed.2
  rw [hW]
  have hgo:i<cs.length→_:=fun h=>hA (i+1,k+pcK (b.length - k) (cs.getD i 0),o++[(b.drop k).take (pcK (b.length - k) (cs.getD i 0))]) ⟨by simp only;omega,by simp only;omega,by simp [h3],by simp only;rw [h4,show cs.drop i=cs.getD i 0::cs.drop (i+1) by rw [List.drop_eq_getElem_cons h];simp [h]];simp [pcs,List.drop_drop]⟩ (by simp only;omega)
  have hend: ¬ i<cs.length→pcs b cs=o++[b.drop k]:=fun h=>by rw [h4,List.drop_of_length_le (l:=cs) (by omega)];rfl
  have hte:(b.drop k).take (b.length - k)=b.drop k:=List.take_of_length_le (by rw [List.length_drop];omega)
  have htk:((k:Int)+(pcK (b.length - k) (cs.getD i 0):Int)).toNat - k=pcK (b.length - k) (cs.getD i 0):=by omega
  rw [htk]
  generalize pcK (b.length - k) (cs.getD i 0)=z at *
  (repeat' (first|refine And.intro ?_ ?_|intro _))<;>first|omega|exact True.intro|exact False.elim ‹False›|skip
  all_goals first
    |omega
    |exact hU
    |(simp only [List.length_cons,List.length_nil];omega)
    |exact hgo (by omega)
    |(rw [hend (by omega),hte])
def Vm (I:Alg) (args:List D) (hp:List HO):Option CT:=match args,hp with
  |[.v (.one (.p (.list .byte b))),.v (.one (.p (.list .int cs)))],[]=>(fun(b:Str) (cs:List Int)=>(some (.one ⟨I.hid (cs.length≤1000000∧b.length≤1000000),(.ret (.v (.one (.row 0)))),[.row .bytes 22 (I.hid ((pcs b cs)))]⟩):Option CT)) b cs
  |_,_=>none
theorem zfa:zx Tryz.prog 9 (Vm alg):=by
  intro args hp r h
  unfold Vm at h
  split at h
  · cases h;exact fun hn=>zte _ _ hn
  · cases h
def Yy:Know Tryz.prog:=⟨9,Vm,zfa⟩
def Yx:Know Tryz.prog:=⟨9,fun I=>zy I (Vm I),zf zfa⟩
end Go.Proofs.YtmkcejdibmilmaaGreatDoor
namespace Go.Proofs.YtmkcejdibmilmaaGreatDoor
open Go Go.Sep Go.Ab
set_option maxRecDepth 100000
theorem modK (k:Int):IntKind.i64.wrap ((IntKind.u64.wrap k).tmod 4)=0∨IntKind.i64.wrap ((IntKind.u64.wrap k).tmod 4)=1∨IntKind.i64.wrap ((IntKind.u64.wrap k).tmod 4)=2∨IntKind.i64.wrap ((IntKind.u64.wrap k).tmod 4)=3:=by
  have h:0≤IntKind.u64.wrap k:=by
    have:IntKind.u64.wrap k=k % 18446744073709551616:=by simp [IntKind.wrap,IntKind.bits,IntKind.signed]
    rw [this];omega
  have h2:(IntKind.u64.wrap k).tmod 4=0∨(IntKind.u64.wrap k).tmod 4=1∨(IntKind.u64.wrap k).tmod 4=2∨(IntKind.u64.wrap k).tmod 4=3:=by
    have a:=Int.tmod_lt_of_pos (IntKind.u64.wrap k) (show(0:Int)<4 by decide)
    have b:=Int.tmod_nonneg 4 h
    omega
  rcases h2 with e|e|e|e<;>rw [e]<;>decide
set_option maxHeartbeats 4000000 in
theorem gPieces_ (b:Str) (cs:List Int) (k:Int):Spc Tryz.prog 3 [.v (.one (.p (.list .byte b))),.v (.one (.p (.list .int cs))),.v (.one (.p (.int .i64 k)))] [] (.ret (.v (.one (.p (.bool true))))) []:=by
  have hf:=zjf cs b
  have hl:=znp cs b
  refine spcG zh mixed Tryz.func3 (by kernel_rfl) { cfgG with nr:=[11],keep:=some [0,1,2,6,7,8,9,10,11,12,13,14,15,16,17]} [xB,xA,Zk,Zj,Y0,YZ,Zh,Zg,ZE,ZC,Yq,Yp,yO,yN,xY,xX,vK,vJ,qf,rZ,Zr,Zq,vN,vM,uq,um,tC,tu,qh,qg,Zu,Zt,Tc,U9,tq,uZ,Yy,Yx] (by kernel_rfl) ?_
  intro I X hI hX
  refine orcL ?_;go_invoke;refine orcS (by kernel_rfl) ?_
  simp only [zi,Nat.reduceAdd]
  generalize pcs b cs=L at *
  (repeat' (first|refine And.intro ?_ ?_|intro _))
  all_goals try(subst hI;(simp only [nrmA,nrmB,nrlB,reduceCtorEq] at *);first|done|trivial|omega|exact⟨by omega,by omega⟩)
  have hb:b.length≤9000∧cs.length≤60:=by
    subst hI
    simp only [nrmA,nrmB,nrlB,reduceCtorEq] at *
    omega
  have hh: ∀ {α:Type} (y:α),I.hid y=y:=fun y=>by subst hI;rfl
  simp only [hh]
  have hk:I.wrap .i64 (I.rem (I.wrap .u64 k) 4)=0∨I.wrap .i64 (I.rem (I.wrap .u64 k) 4)=1∨I.wrap .i64 (I.rem (I.wrap .u64 k) 4)=2∨I.wrap .i64 (I.rem (I.wrap .u64 k) 4)=3:=by
    subst hI
    exact modK k
  generalize I.wrap .i64 (I.rem (I.wrap .u64 k) 4)=kk at *
  have hn0:=zwi (x:=b) hb.1
  rcases hk with rfl|rfl|rfl|rfl
  · refine zC hI zh mixed [xB,xA,Zk,Zj,Y0,YZ,Zh,Zg,ZE,ZC,Yq,Yp,yO,yN,xY,xX,vK,vJ,qf,rZ,Zr,Zq,vN,vM,uq,um,tC,tu,qh,qg,Zu,Zt,Tc,U9,tq,uZ,Yy,Yx] hX [0,2,7,8,9,10,11,12,13] (fun(g:Nat × List Upl × Int × Str × Int × Cn × Str)=>match g with|(i,l1,n1,b1,s1,c,o)=>PcG b L i ⟨l1,n1,b1,s1⟩ c o) (fun(g:Nat × List Upl × Int × Str × Int × Cn × Str)=>match g with|(i,l1,n1,b1,s1,c,o)=>⟨[(0,.v (.one (.p (.list .byte b)))),(2,.v (.one (.p (.int .i64 0)))),(7,.v (.one (.ptr 0 0))),(8,.v (.one (.ptr 1 0))),(9,.v (.one (.ptr 2 0))),(10,.v (.one (.ptr 3 0))),(11,.v (.one (.row 4))),(12,.v (.one (.row 5))),(13,.v (.one (.p (.int .i64 i))))],[.pack [.obj 41 [(.ptr 1 0),(.ptr 2 0)],.pack [.obj 88 [(.row 1),(.p (.int .i64 n1))],.row .upl 86 l1],.pack [.obj 118 [(.row 1),(.p (.int .i64 s1))],.row .byte 5 b1]],.pack [.obj 41 [(.ptr 1 0),(.ptr 2 0)],.pack [.obj 88 [(.row 1),(.p (.int .i64 0))],.row .upl 86 ([])],.pack [.obj 118 [(.row 1),(.p (.int .i64 0))],.row .byte 5 ([])]],.obj 57 [(.ptr 0 0),(.ptr 6 0),(.ptr 7 0),(.ptr 8 0),(.ptr 9 0)],.obj 57 [(.ptr 1 0),(.ptr 10 0),(.ptr 11 0),(.ptr 12 0),(.ptr 13 0)],.row .byte 5 o,.row .bytes 22 L,.abs (.cn c),.abs (.cn cn0),.abs (.cn cn0),.abs (.cn cn0),.abs (.cn cn0),.abs (.cn cn0),.abs (.cn cn0),.abs (.cn cn0)],102,none⟩) (fun(g:Nat × List Upl × Int × Str × Int × Cn × Str)=>match g with|(i,l1,n1,b1,s1,c,o)=>L.length - i) (0,[],0,[],0,cn0,[]) (by kernel_rfl) (by kernel_rfl) ?_ ?_
    · exact zqw b L
    rintro⟨i,l1,n1,b1,s1,c,o⟩ h1 A hA
    simp only at hA h1
    refine orcL ?_;go_invoke;refine orcS (by kernel_rfl) ?_
    simp only [zi,Nat.reduceAdd]
    have e1:I.get L [] (i:Int)=L.getD i []:=by subst hI;first|rfl|simp
    simp only [e1,hh]
    have hfk:fdK c=0∨fdK c=18:=by unfold fdK;split<;>simp
    have hf0:fdK cn0=0:=rfl
    have hnd:=fun h:i<L.length=>Qp h1 hf h hb.1
    have hnx:=fun h:i<L.length=>zqv h1 hf h hb.1
    have hol:=fun h:i<L.length=>Sm (hnx h) hf hb.1
    have hil:=h1.le
    have hen:=fun h: ¬ i<L.length=>zdA (show PcG b L L.length ⟨l1,n1,b1,s1⟩ c o by rw [show L.length=i by omega];exact h1) hf
    have hol1:=Sm h1 hf hb.1
    have hwk:=(zlw zeM zgC (b:=b) (by omega)).1
    have hct:=h1.sk.1.cnt
    have hcu:=hwk.1.cnt
    generalize L.getD i []=x at *
    subst hI
    rw [hf0]
    simp only [nrmA,nrmB,nrlB,reduceCtorEq]
    (repeat' (first|refine And.intro ?_ ?_|intro _))<;>first|omega|exact True.intro|exact False.elim ‹False›|skip
    all_goals first
      |omega
      |exact hn0
      |exact hnd (by omega)
      |exact hA (i+1,_,_,_,_,_,_) (hnx (by omega)) (by dsimp only;omega)
      |(have:=hol (by omega);rw [List.length_append] at this;omega)
      |exact h1.sk.1
      |exact hwk.1
      |exact Nat.le_trans hct (by decide)
      |exact(hen (by omega)).2.2
      |exact congrArg Sto.l (hen (by omega)).1
      |exact(hen (by omega)).2.1
  · refine zC hI zh mixed [xB,xA,Zk,Zj,Y0,YZ,Zh,Zg,ZE,ZC,Yq,Yp,yO,yN,xY,xX,vK,vJ,qf,rZ,Zr,Zq,vN,vM,uq,um,tC,tu,qh,qg,Zu,Zt,Tc,U9,tq,uZ,Yy,Yx] hX [0,2,7,8,9,10,11,12,13] (fun(g:Nat × List Upl × Int × Str × Int × Cn × Str)=>match g with|(i,l1,n1,b1,s1,c,o)=>PcG b L i ⟨l1,n1,b1,s1⟩ c o) (fun(g:Nat × List Upl × Int × Str × Int × Cn × Str)=>match g with|(i,l1,n1,b1,s1,c,o)=>⟨[(0,.v (.one (.p (.list .byte b)))),(2,.v (.one (.p (.int .i64 1)))),(7,.v (.one (.ptr 0 0))),(8,.v (.one (.ptr 1 0))),(9,.v (.one (.ptr 2 0))),(10,.v (.one (.ptr 3 0))),(11,.v (.one (.row 4))),(12,.v (.one (.row 5))),(13,.v (.one (.p (.int .i64 i))))],[.pack [.obj 41 [(.ptr 1 0),(.ptr 2 0)],.pack [.obj 88 [(.row 1),(.p (.int .i64 n1))],.row .upl 86 l1],.pack [.obj 118 [(.row 1),(.p (.int .i64 s1))],.row .byte 5 b1]],.pack [.obj 41 [(.ptr 1 0),(.ptr 2 0)],.pack [.obj 88 [(.row 1),(.p (.int .i64 0))],.row .upl 86 ([])],.pack [.obj 118 [(.row 1),(.p (.int .i64 0))],.row .byte 5 ([])]],.obj 57 [(.ptr 0 0),(.ptr 6 0),(.ptr 7 0),(.ptr 8 0),(.ptr 9 0)],.obj 57 [(.ptr 1 0),(.ptr 10 0),(.ptr 11 0),(.ptr 12 0),(.ptr 13 0)],.row .byte 5 o,.row .bytes 22 L,.abs (.cn cn0),.abs (.cn c),.abs (.cn cn0),.abs (.cn cn0),.abs (.cn cn0),.abs (.cn cn0),.abs (.cn cn0),.abs (.cn cn0)],102,none⟩) (fun(g:Nat × List Upl × Int × Str × Int × Cn × Str)=>match g with|(i,l1,n1,b1,s1,c,o)=>L.length - i) (0,[],0,[],0,cn0,[]) (by kernel_rfl) (by kernel_rfl) ?_ ?_
    · exact zqw b L
    rintro⟨i,l1,n1,b1,s1,c,o⟩ h1 A hA
    simp only at hA h1
    refine orcL ?_;go_invoke;refine orcS (by kernel_rfl) ?_
    simp only [zi,Nat.reduceAdd]
    have e1:I.get L [] (i:Int)=L.getD i []:=by subst hI;first|rfl|simp
    simp only [e1,hh]
    have hfk:fdK c=0∨fdK c=18:=by unfold fdK;split<;>simp
    have hf0:fdK cn0=0:=rfl
    have hnd:=fun h:i<L.length=>Qp h1 hf h hb.1
    have hnx:=fun h:i<L.length=>zqv h1 hf h hb.1
    have hol:=fun h:i<L.length=>Sm (hnx h) hf hb.1
    have hil:=h1.le
    have hen:=fun h: ¬ i<L.length=>zdA (show PcG b L L.length ⟨l1,n1,b1,s1⟩ c o by rw [show L.length=i by omega];exact h1) hf
    have hol1:=Sm h1 hf hb.1
    have hwk:=(zlw zeM zgC (b:=b) (by omega)).1
    have hct:=h1.sk.1.cnt
    have hcu:=hwk.1.cnt
    generalize L.getD i []=x at *
    subst hI
    rw [hf0]
    simp only [nrmA,nrmB,nrlB,reduceCtorEq]
    (repeat' (first|refine And.intro ?_ ?_|intro _))<;>first|omega|exact True.intro|exact False.elim ‹False›|skip
    all_goals first
      |omega
      |exact hn0
      |exact hnd (by omega)
      |exact hA (i+1,_,_,_,_,_,_) (hnx (by omega)) (by dsimp only;omega)
      |(have:=hol (by omega);rw [List.length_append] at this;omega)
      |exact h1.sk.1
      |exact hwk.1
      |exact Nat.le_trans hct (by decide)
      |exact(hen (by omega)).2.2
      |exact congrArg Sto.l (hen (by omega)).1
      |exact(hen (by omega)).2.1
  · refine zC hI zh mixed [xB,xA,Zk,Zj,Y0,YZ,Zh,Zg,ZE,ZC,Yq,Yp,yO,yN,xY,xX,vK,vJ,qf,rZ,Zr,Zq,vN,vM,uq,um,tC,tu,qh,qg,Zu,Zt,Tc,U9,tq,uZ,Yy,Yx] hX [0,2,7,8,9,10,11,12,13] (fun(g:Nat × List Upl × Int × Str × Int × Cn × Str)=>match g with|(i,l1,n1,b1,s1,c,o)=>PcG b L i ⟨l1,n1,b1,s1⟩ c o) (fun(g:Nat × List Upl × Int × Str × Int × Cn × Str)=>match g with|(i,l1,n1,b1,s1,c,o)=>⟨[(0,.v (.one (.p (.list .byte b)))),(2,.v (.one (.p (.int .i64 2)))),(7,.v (.one (.ptr 0 0))),(8,.v (.one (.ptr 1 0))),(9,.v (.one (.ptr 2 0))),(10,.v (.one (.ptr 3 0))),(11,.v (.one (.row 4))),(12,.v (.one (.row 5))),(13,.v (.one (.p (.int .i64 i))))],[.pack [.obj 41 [(.ptr 1 0),(.ptr 2 0)],.pack [.obj 88 [(.row 1),(.p (.int .i64 n1))],.row .upl 86 l1],.pack [.obj 118 [(.row 1),(.p (.int .i64 s1))],.row .byte 5 b1]],.pack [.obj 41 [(.ptr 1 0),(.ptr 2 0)],.pack [.obj 88 [(.row 1),(.p (.int .i64 0))],.row .upl 86 ([])],.pack [.obj 118 [(.row 1),(.p (.int .i64 0))],.row .byte 5 ([])]],.obj 57 [(.ptr 0 0),(.ptr 6 0),(.ptr 7 0),(.ptr 8 0),(.ptr 9 0)],.obj 57 [(.ptr 1 0),(.ptr 10 0),(.ptr 11 0),(.ptr 12 0),(.ptr 13 0)],.row .byte 5 o,.row .bytes 22 L,.abs (.cn cn0),.abs (.cn cn0),.abs (.cn c),.abs (.cn cn0),.abs (.cn cn0),.abs (.cn cn0),.abs (.cn cn0),.abs (.cn cn0)],102,none⟩) (fun(g:Nat × List Upl × Int × Str × Int × Cn × Str)=>match g with|(i,l1,n1,b1,s1,c,o)=>L.length - i) (0,[],0,[],0,cn0,[]) (by kernel_rfl) (by kernel_rfl) ?_ ?_
    · exact zqw b L
    rintro⟨i,l1,n1,b1,s1,c,o⟩ h1 A hA
    simp only at hA h1
    refine orcL ?_;go_invoke;refine orcS (by kernel_rfl) ?_
    simp only [zi,Nat.reduceAdd]
    have e1:I.get L [] (i:Int)=L.getD i []:=by subst hI;first|rfl|simp
    simp only [e1,hh]
    have hfk:fdK c=0∨fdK c=18:=by unfold fdK;split<;>simp
    have hf0:fdK cn0=0:=rfl
    have hnd:=fun h:i<L.length=>Qp h1 hf h hb.1
    have hnx:=fun h:i<L.length=>zqv h1 hf h hb.1
    have hol:=fun h:i<L.length=>Sm (hnx h) hf hb.1
    have hil:=h1.le
    have hen:=fun h: ¬ i<L.length=>zdA (show PcG b L L.length ⟨l1,n1,b1,s1⟩ c o by rw [show L.length=i by omega];exact h1) hf
    have hol1:=Sm h1 hf hb.1
    have hwk:=(zlw zeM zgC (b:=b) (by omega)).1
    have hct:=h1.sk.1.cnt
    have hcu:=hwk.1.cnt
    generalize L.getD i []=x at *
    subst hI
    rw [hf0]
    simp only [nrmA,nrmB,nrlB,reduceCtorEq]
    (repeat' (first|refine And.intro ?_ ?_|intro _))<;>first|omega|exact True.intro|exact False.elim ‹False›|skip
    all_goals first
      |omega
      |exact hn0
      |exact hnd (by omega)
      |exact hA (i+1,_,_,_,_,_,_) (hnx (by omega)) (by dsimp only;omega)
      |(have:=hol (by omega);rw [List.length_append] at this;omega)
      |exact h1.sk.1
      |exact hwk.1
      |exact Nat.le_trans hct (by decide)
      |exact(hen (by omega)).2.2
      |exact congrArg Sto.l (hen (by omega)).1
      |exact(hen (by omega)).2.1
  · refine zC hI zh mixed [xB,xA,Zk,Zj,Y0,YZ,Zh,Zg,ZE,ZC,Yq,Yp,yO,yN,xY,xX,vK,vJ,qf,rZ,Zr,Zq,vN,vM,uq,um,tC,tu,qh,qg,Zu,Zt,Tc,U9,tq,uZ,Yy,Yx] hX [0,2,7,8,9,10,11,12,13] (fun(g:Nat × List Upl × Int × Str × Int × Cn × Str)=>match g with|(i,l1,n1,b1,s1,c,o)=>PcG b L i ⟨l1,n1,b1,s1⟩ c o) (fun(g:Nat × List Upl × Int × Str × Int × Cn × Str)=>match g with|(i,l1,n1,b1,s1,c,o)=>⟨[(0,.v (.one (.p (.list .byte b)))),(2,.v (.one (.p (.int .i64 3)))),(7,.v (.one (.ptr 0 0))),(8,.v (.one (.ptr 1 0))),(9,.v (.one (.ptr 2 0))),(10,.v (.one (.ptr 3 0))),(11,.v (.one (.row 4))),(12,.v (.one (.row 5))),(13,.v (.one (.p (.int .i64 i))))],[.pack [.obj 41 [(.ptr 1 0),(.ptr 2 0)],.pack [.obj 88 [(.row 1),(.p (.int .i64 n1))],.row .upl 86 l1],.pack [.obj 118 [(.row 1),(.p (.int .i64 s1))],.row .byte 5 b1]],.pack [.obj 41 [(.ptr 1 0),(.ptr 2 0)],.pack [.obj 88 [(.row 1),(.p (.int .i64 0))],.row .upl 86 ([])],.pack [.obj 118 [(.row 1),(.p (.int .i64 0))],.row .byte 5 ([])]],.obj 57 [(.ptr 0 0),(.ptr 6 0),(.ptr 7 0),(.ptr 8 0),(.ptr 9 0)],.obj 57 [(.ptr 1 0),(.ptr 10 0),(.ptr 11 0),(.ptr 12 0),(.ptr 13 0)],.row .byte 5 o,.row .bytes 22 L,.abs (.cn cn0),.abs (.cn cn0),.abs (.cn cn0),.abs (.cn c),.abs (.cn cn0),.abs (.cn cn0),.abs (.cn cn0),.abs (.cn cn0)],102,none⟩) (fun(g:Nat × List Upl × Int × Str × Int × Cn × Str)=>match g with|(i,l1,n1,b1,s1,c,o)=>L.length - i) (0,[],0,[],0,cn0,[]) (by kernel_rfl) (by kernel_rfl) ?_ ?_
    · exact zqw b L
    rintro⟨i,l1,n1,b1,s1,c,o⟩ h1 A hA
    simp only at hA h1
    refine orcL ?_;go_invoke;refine orcS (by kernel_rfl) ?_
    simp only [zi,Nat.reduceAdd]
    have e1:I.get L [] (i:Int)=L.getD i []:=by subst hI;first|rfl|simp
    simp only [e1,hh]
    have hfk:fdK c=0∨fdK c=18:=by unfold fdK;split<;>simp
    have hf0:fdK cn0=0:=rfl
    have hnd:=fun h:i<L.length=>Qp h1 hf h hb.1
    have hnx:=fun h:i<L.length=>zqv h1 hf h hb.1
    have hol:=fun h:i<L.length=>Sm (hnx h) hf hb.1
    have hil:=h1.le
    have hen:=fun h: ¬ i<L.length=>zdA (show PcG b L L.length ⟨l1,n1,b1,s1⟩ c o by rw [show L.length=i by omega];exact h1) hf
    have hol1:=Sm h1 hf hb.1
    have hwk:=(zlw zeM zgC (b:=b) (by omega)).1
    have hct:=h1.sk.1.cnt
    have hcu:=hwk.1.cnt
    generalize L.getD i []=x at *
    subst hI
    rw [hf0]
    simp only [nrmA,nrmB,nrlB,reduceCtorEq]
    (repeat' (first|refine And.intro ?_ ?_|intro _))<;>first|omega|exact True.intro|exact False.elim ‹False›|skip
    all_goals first
      |omega
      |exact hn0
      |exact hnd (by omega)
      |exact hA (i+1,_,_,_,_,_,_) (hnx (by omega)) (by dsimp only;omega)
      |(have:=hol (by omega);rw [List.length_append] at this;omega)
      |exact h1.sk.1
      |exact hwk.1
      |exact Nat.le_trans hct (by decide)
      |exact(hen (by omega)).2.2
      |exact congrArg Sto.l (hen (by omega)).1
      |exact(hen (by omega)).2.1
end Go.Proofs.YtmkcejdibmilmaaGreatDoor
