/- Texts of this proof, one behind the other: LnR ChkL Evt ReqL ReqP SeekL SeekM Mrk FrmL Pfx TusA TusB TusC TusD TusE TusF GatL RplA FrmA FrmB LnA FrmC FrmD FldP FrmE EvJ FrmF FrmG FrmH FrmI GatP GatA. -/
import Derived.Test.YtkjepecoodjbmaaGreatDoorMc
set_option linter.all false
namespace Go.Proofs.YtkjepecoodjbmaaGreatDoor
open Go Go.Sep Go.Ab
theorem zfz {r:Str} {s:Ln} (h:wU ln0 r=.more s):zF r=([],0,false,0):=by
 have:=zfA r;rw [h] at this;exact this.1
theorem zcl {r t rest:Str} (h:wU ln0 r=.line t rest): ∃ n:Nat,zF r=(t,(n:Int),true,0)∧n≤r.length∧0<n∧rest=r.drop n:=by
 have:=zfA r;rw [h] at this;obtain⟨n,h1,h2⟩:=this
 exact⟨n,by rw [zF,h1];simp,h2⟩
theorem zlJ {r rest:Str} {e:Int} (h:wU ln0 r=.bad e rest): ∃ n:Nat,zF r=([],(n:Int),false,e)∧e≠0∧n≤r.length∧0<n∧rest=r.drop n:=by
 have:=zfA r;rw [h] at this;obtain⟨n,h1,h2⟩:=this
 exact⟨n,by rw [zF,h1];simp,h2⟩
theorem uH (r:Str): ∃ n:Nat,(zF r).2.1=(n:Int)∧n≤r.length∧((zF r).2.2.1=true∨(zF r).2.2.2≠0→0<n)∧((zF r).2.2.1=false→(zF r).2.2.2=0→n=0)∧((zF r).2.2.1=true→(zF r).2.2.2=0):=by
 cases h:wU ln0 r with
 |more s=>rw [zfz h];exact⟨0,rfl,jM _,by simp,by simp,by simp⟩
 |line t rest=>obtain⟨n,h1,h2,h3,_⟩:=zcl h;rw [h1];exact⟨n,rfl,h2,fun _=>h3,by simp,by simp⟩
 |bad e rest=>obtain⟨n,h1,h2,h3,h4,_⟩:=zlJ h;rw [h1];exact⟨n,rfl,h3,fun _=>h4,fun _ h=>absurd h h2,by simp⟩
theorem zlM {s:Ln} {c:UInt8} (h:(lnF s c).2.2.2=0):(lnF s c).1.code=0:=by
 unfold lnF at h ⊢
 split
 · rename_i h1;rw [if_pos h1] at h;exact h
 rename_i h1;rw [if_neg h1] at h
 split
 · rename_i h2
   rw [if_pos h2] at h
   split
   · rfl
   · rename_i h3;rw [if_neg h3] at h;cases h
 rename_i h2;rw [if_neg h2] at h
 split
 · rename_i h3;rw [if_pos h3] at h;cases h
 rename_i h3;rw [if_neg h3] at h
 split
 · exact Decidable.not_not.1 h1
 rename_i h4;rw [if_neg h4] at h
 split
 · rename_i h5;rw [if_pos h5] at h;cases h
 rename_i h5;rw [if_neg h5] at h
 split
 · rename_i h6;rw [if_pos h6] at h;cases h
 · exact Decidable.not_not.1 h1
theorem zlL {s:Ln} {c:UInt8} (h:(lnF s c).2.2.1=true) (h0:s.code=0):(lnF s c).2.2.2=0∧(lnF s c).1=ln0:=by
 unfold lnF at h ⊢
 rw [if_neg (by simp [h0])] at h ⊢
 split
 · rename_i h2
   rw [if_pos h2] at h
   split
   · exact⟨rfl,rfl⟩
   · rename_i h3;rw [if_neg h3] at h;cases h
 rename_i h2;rw [if_neg h2] at h
 split at h
 · cases h
 split at h
 · cases h
 split at h
 · cases h
 split at h
 · cases h
 · cases h
theorem zd8: ∀ (r pre:Str),(vU pre r).1.length≤pre.length+r.length
 |[],pre=>by simp [vU]
 | c ::r,pre=>by
   rw [vU.eq_def];simp only
   split
   · split
     · simp
     · split
       · simp
       · simp
   split
   · simp
   split
   · simp
   split
   · simp
   · have:=zd8 r (pre++[c])
     rw [jk] at this
     simp at this ⊢
     omega
theorem ZA (r:Str):(zF r).1.length≤r.length:=by have:=zd8 r [];simpa [zF] using this
end Go.Proofs.YtkjepecoodjbmaaGreatDoor
namespace Go.Proofs.YtkjepecoodjbmaaGreatDoor
open Go Go.Sep Go.Ab
def wC (line:Str):Int × Bool:=numA (Lib.trimS (cutB line 59).1 [32,9]) 16 6
theorem zce: ∀ (s:Str) (n:Int),0≤n→0≤(numG 16 n s).1
 |[],n,h=>h
 | c::l,n,h=>by
   rw [numG]
   split
   · exact Int.le_refl _
   · exact zce l _ (by omega)
theorem qL (t:Str):0≤(wC t).1:=by
 unfold wC numA
 split
 · exact Int.le_refl _
 · exact zce _ _ (Int.le_refl _)
def ch0:Ch:=⟨ln0,0,0,0,0,0⟩
def chL (s:Ch) (t:Str):Ch × Int:=
 if s.pos=2 then(if t=[] then({ s with pos:=0},0) else(s,5))
 else if s.pos=0 then
  (if(wC t).2=false then(s,7)
  else if 4000 - s.all<(wC t).1 then(s,4)
  else if(wC t).1=0 then({ s with pos:=3},0)
  else({ s with pos:=1,left:=(wC t).1},0))
 else if s.pos=3 then
  (if t=[] then({ s with pos:=4},0)
  else if s.tails=16 then(s,8)
  else({ s with tails:=s.tails+1},(yj t).2))
 else(s,0)
def chF (s:Ch) (c:UInt8):Ch × Str × Bool × Int:=
 if s.code≠0 then(s,[],false,s.code)
 else if s.pos=4 then({ s with code:=18},[],false,18)
 else if s.pos=1 then({ s with left:=s.left - 1,all:=s.all+1,pos:=if s.left - 1=0 then 2 else 1},[c],false,0)
 else if(lnF s.ln c).2.2.2≠0 then({ s with ln:=(lnF s.ln c).1,code:=(lnF s.ln c).2.2.2},[],false,(lnF s.ln c).2.2.2)
 else if(lnF s.ln c).2.2.1=true then
  (if(chL { s with ln:=(lnF s.ln c).1} (lnF s.ln c).2.1).2≠0 then({ (chL { s with ln:=(lnF s.ln c).1} (lnF s.ln c).2.1).1 with code:=(chL { s with ln:=(lnF s.ln c).1} (lnF s.ln c).2.1).2},[],false,(chL { s with ln:=(lnF s.ln c).1} (lnF s.ln c).2.1).2)
  else((chL { s with ln:=(lnF s.ln c).1} (lnF s.ln c).2.1).1,[],decide ((chL { s with ln:=(lnF s.ln c).1} (lnF s.ln c).2.1).1.pos=4),0))
 else({ s with ln:=(lnF s.ln c).1},[],false,0)
inductive ChR where
 |more (out:Str) (held:Nat)
 |over (out rest:Str)
 |bad (out:Str) (e:Int) (rest:Str)
def ChR.pre (o:Str):ChR→ChR
 |.more p h=>.more (o++p) h
 |.over p r=>.over (o++p) r
 |.bad p e r=>.bad (o++p) e r
def ChR.fg:ChR→ChR
 |.more p _=>.more p 0
 |x=>x
theorem ChR.pre_nil (x:ChR):x.pre []=x:=by cases x<;>simp [ChR.pre]
theorem ChR.zpF (o p:Str) (x:ChR):(x.pre o).pre p=x.pre (p++o):=by cases x<;>simp [ChR.pre]
theorem ChR.zxf (o:Str) (x:ChR):(x.pre o).fg=x.fg.pre o:=by cases x<;>rfl
def sO (s:Ch):Str→ChR
 |[]=>.more [] 0
 | c::r=>
   if(chF s c).2.2.2≠0 then .bad [] (chF s c).2.2.2 r
   else if(chF s c).2.2.1=true then .over [] r
   else(sO (chF s c).1 r).pre (chF s c).2.1
def zbD:Nat→Int→Str→ChR
 |0,_,r=>.more [] r.length
 | f+1,k,r=>
   if(zF r).2.2.2≠0 then .bad [] (zF r).2.2.2 (r.drop (zF r).2.1.toNat)
   else if(zF r).2.2.1=false then .more [] r.length
   else if(zF r).1=[] then .over [] (r.drop (zF r).2.1.toNat)
   else if k=16 then .bad [] 8 (r.drop (zF r).2.1.toNat)
   else if(yj (zF r).1).2≠0 then .bad [] (yj (zF r).1).2 (r.drop (zF r).2.1.toNat)
   else zbD f (k+1) (r.drop (zF r).2.1.toNat)
def endR (k:Str→ChR) (r:Str):ChR:=
 if(zF r).2.2.2≠0 then .bad [] (zF r).2.2.2 (r.drop (zF r).2.1.toNat)
 else if(zF r).2.2.1=false then .more [] r.length
 else if(zF r).1=[] then k (r.drop (zF r).2.1.toNat)
 else .bad [] 5 (r.drop (zF r).2.1.toNat)
def zdm:Nat→Int→Str→ChR
 |0,_,r=>.more [] r.length
 | f+1,a,r=>
   if(zF r).2.2.2≠0 then .bad [] (zF r).2.2.2 (r.drop (zF r).2.1.toNat)
   else if(zF r).2.2.1=false then .more [] r.length
   else if(wC (zF r).1).2=false then .bad [] 7 (r.drop (zF r).2.1.toNat)
   else if 4000 - a<(wC (zF r).1).1 then .bad [] 4 (r.drop (zF r).2.1.toNat)
   else if(wC (zF r).1).1=0 then zbD f 0 (r.drop (zF r).2.1.toNat)
   else if((r.drop (zF r).2.1.toNat).length:Int)<(wC (zF r).1).1 then .more (r.drop (zF r).2.1.toNat) 0
   else(endR (zdm f (a+(wC (zF r).1).1)) ((r.drop (zF r).2.1.toNat).drop (wC (zF r).1).1.toNat)).pre ((r.drop (zF r).2.1.toNat).take (wC (zF r).1).1.toNat)
theorem zeM {s:Ch} (hc:s.code=0) (hp:s.pos=0∨s.pos=2∨s.pos=3): ∀ (r:Str) (l:Ln),l.code=0→sO { s with ln:=l} r=match wU l r with
  |.more _=>.more [] 0
  |.bad e rest=>.bad [] e rest
  |.line t rest=>if(chL { s with ln:=ln0} t).2≠0 then .bad [] (chL { s with ln:=ln0} t).2 rest else if(chL { s with ln:=ln0} t).1.pos=4 then .over [] rest else sO (chL { s with ln:=ln0} t).1 rest
 |[],l,hl=>rfl
 | c ::r,l,hl=>by
   have e0:chF { s with ln:=l} c=(if(lnF l c).2.2.2≠0 then({ s with ln:=(lnF l c).1,code:=(lnF l c).2.2.2},[],false,(lnF l c).2.2.2)
    else if(lnF l c).2.2.1=true then
     (if(chL { s with ln:=(lnF l c).1} (lnF l c).2.1).2≠0 then({ (chL { s with ln:=(lnF l c).1} (lnF l c).2.1).1 with code:=(chL { s with ln:=(lnF l c).1} (lnF l c).2.1).2},[],false,(chL { s with ln:=(lnF l c).1} (lnF l c).2.1).2)
     else((chL { s with ln:=(lnF l c).1} (lnF l c).2.1).1,[],decide ((chL { s with ln:=(lnF l c).1} (lnF l c).2.1).1.pos=4),0))
    else({ s with ln:=(lnF l c).1},[],false,0)):=by
    unfold chF
    rw [if_neg (show ¬ (s.code≠0) by rw [hc];simp),if_neg (show ¬ s.pos=4 by omega),if_neg (show ¬ s.pos=1 by omega)]
   by_cases h1:(lnF l c).2.2.1=true
   · obtain⟨h2,h3⟩:=zlL h1 hl
     rw [if_neg (by simp [h2]),if_pos h1,h3] at e0
     rw [sO,e0,wU,if_pos h1]
     show _=(if(chL { s with ln:=ln0} (lnF l c).2.1).2≠0 then ChR.bad [] (chL { s with ln:=ln0} (lnF l c).2.1).2 r else if(chL { s with ln:=ln0} (lnF l c).2.1).1.pos=4 then .over [] r else sO (chL { s with ln:=ln0} (lnF l c).2.1).1 r)
     generalize chL { s with ln:=ln0} (lnF l c).2.1=z
     by_cases h4:z.2=0
     · by_cases h5:z.1.pos=4
       · simp [h4,h5]
       · simp [h4,h5,ChR.pre_nil]
     · simp [h4]
   · by_cases h2:(lnF l c).2.2.2=0
     · have ih:=zeM hc hp r (lnF l c).1 (zlM h2)
       rw [if_neg (by simp [h2]),if_neg h1] at e0
       rw [sO,e0,wU,if_neg h1];simp only [h2,ne_eq,jf,if_false,jd,ChR.pre_nil];exact ih
     · rw [if_pos h2] at e0
       rw [sO,e0,wU,if_neg h1,if_pos h2]
       simp [h2]
theorem Vk {s:Ch} (hc:s.code=0) (hp:s.pos=0∨s.pos=2∨s.pos=3) (hl:s.ln=ln0) (r:Str):sO s r=
  if(zF r).2.2.2≠0 then .bad [] (zF r).2.2.2 (r.drop (zF r).2.1.toNat)
  else if(zF r).2.2.1=false then .more [] 0
  else if(chL s (zF r).1).2≠0 then .bad [] (chL s (zF r).1).2 (r.drop (zF r).2.1.toNat)
  else if(chL s (zF r).1).1.pos=4 then .over [] (r.drop (zF r).2.1.toNat)
  else sO (chL s (zF r).1).1 (r.drop (zF r).2.1.toNat):=by
 have e:s= { s with ln:=ln0}:=by rw [← hl]
 have h:=zeM hc hp r ln0 rfl;rw [← e] at h;rw [h]
 cases hr:wU ln0 r with
 |more x=>rw [zfz hr];simp
 |line t rest=>obtain⟨n,h1,h2,h3,rfl⟩:=zcl hr;rw [h1];simp
 |bad e rest=>obtain⟨n,h1,h2,h3,h4,rfl⟩:=zlJ hr;rw [h1];simp [h2]
theorem zeN: ∀ (r:Str) (s:Ch) (n:Nat),s.code=0→s.pos=1→s.left=((n+1:Nat):Int)→sO s r=if r.length<n+1 then .more r 0 else(sO { s with pos:=2,left:=0,all:=s.all+(n+1:Nat)} (r.drop (n+1))).pre (r.take (n+1))
 |[],s,n,hc,hp,hl=>by rw [if_pos (by simp)];rfl
 | c ::r,s,n,hc,hp,hl=>by
   have e0:chF s c=({ s with left:=s.left - 1,all:=s.all+1,pos:=if s.left - 1=0 then 2 else 1},[c],false,0):=by
    unfold chF
    rw [if_neg (by simp [hc]),if_neg (by omega),if_pos hp]
   rw [sO,e0];simp only [ne_eq,jf,if_false,jd]
   cases n with
   | zero=>
     rw [if_pos (by omega),if_neg (by simp)]
     simp only [hl];rfl
   | succ n=>
     rw [if_neg (by omega)]
     have ih:=zeN r { s with left:=s.left - 1,all:=s.all+1,pos:=1} n hc rfl (by show s.left - 1=_;omega)
     rw [ih];simp only [jh,List.drop_succ_cons,List.take_succ_cons]
     by_cases h:r.length<n+1
     · rw [if_pos h,if_pos (by omega)];rfl
     · rw [if_neg h,if_neg (by omega),ChR.zpF]
       congr 2
       simp only [Ch.mk.injEq,true_and,and_true];omega
theorem ztQ {s:Ch} (hp:s.pos=3) (t:Str):chL s t=(if t=[] then({ s with pos:=4},0) else if s.tails=16 then(s,8) else({ s with tails:=s.tails+1},(yj t).2)):=by
 unfold chL
 rw [if_neg (by omega),if_neg (by omega),if_pos hp]
theorem zk0: ∀ (f:Nat) (r:Str) (s:Ch),r.length<f→s.code=0→s.pos=3→s.ln=ln0→sO s r=(zbD f s.tails r).fg
 |0,r,s,hf,_,_,_=>by omega
 | f + 1, r, s,hf,hc,hp,hl=>by
   rw [Vk hc (.inr (.inr hp)) hl,zbD,ztQ hp];obtain⟨n,hn,h1,h2,h3,h4⟩:=uH r;rw [hn,jJ]
   have ih:=fun(hlt:(r.drop n).length<f)=>zk0 f (r.drop n) { s with pos:=3,tails:=s.tails+1} hlt hc rfl hl
   rw [jC] at ih;generalize zF r=x at *;obtain⟨t,n',ok,e⟩:=x;simp only at *
   by_cases c1:e=0
   · subst c1
     cases ok with
     |false=>simp [ChR.fg]
     | true=>
       have hpos:=h2 (.inl rfl)
       by_cases c3:t=[]
       · simp [c3,ChR.fg]
       · by_cases c4:s.tails=16
         · simp [c3,c4,ChR.fg]
         · by_cases c5:(yj t).2=0
           · simp only [c3,c4,c5,hp,ne_eq,jf,if_false,if_true,je,show ¬ (3:Int)=4 by decide]
             exact ih (by omega)
           · simp [c3,c4,c5,ChR.fg]
   · simp [c1,ChR.fg]
theorem zk1: ∀ (f:Nat) (r:Str) (s:Ch),r.length<f→s.code=0→s.pos=0→s.ln=ln0→s.tails=0→sO s r=(zdm f s.all r).fg
 |0,r,s,hf,_,_,_,_=>by omega
 | f + 1, r, s,hf,hc,hp,hl,ht=>by
   have hL: ∀ t,chL s t=(if(wC t).2=false then(s,7) else if 4000 - s.all<(wC t).1 then(s,4) else if(wC t).1=0 then({ s with pos:=3},0) else({ s with pos:=1,left:=(wC t).1},0)):=fun t=>by
    unfold chL
    rw [if_neg (by omega),if_pos hp]
   rw [Vk hc (.inl hp) hl,zdm,hL];obtain⟨n,hn,h1,h2,h3,h4⟩:=uH r;rw [hn,jJ];have hm0:=qL (zF r).1;have hrl:(r.drop n).length=r.length - n:=jC;generalize r.drop n=q at *;generalize zF r=x at *;obtain⟨t,n',ok,e⟩:=x;simp only at *
   by_cases c1:e=0
   · subst c1
     cases ok with
     |false=>simp [ChR.fg]
     | true=>
       have hpos:=h2 (.inl rfl)
       by_cases c3:(wC t).2=false
       · simp [c3,ChR.fg]
       by_cases c4:4000 - s.all<(wC t).1
       · simp [c3,c4,ChR.fg]
       by_cases c5:(wC t).1=0
       · have:=zk0 f q { s with pos:=3} (by omega) hc rfl hl
         rw [c5] at c4
         simp only [c3,c4,c5,ne_eq,jf,if_false,if_true,je,show ¬ (3:Int)=4 by decide]
         rw [this]
         show(zbD f s.tails q).fg=_
         rw [ht]
       generalize hsz:(wC t).1=m at *
       obtain⟨k,rfl⟩: ∃ k:Nat,m=((k+1:Nat):Int):=⟨(m - 1).toNat,by omega⟩
       simp only [c3,c4,c5,ne_eq,jf,if_false,if_true,je,show ¬ (1:Int)=4 by decide]
       rw [zeN q { s with pos:=1,left:=((k+1:Nat):Int)} k hc rfl rfl,jJ]
       by_cases c6:q.length<k+1
       · rw [if_pos c6,if_pos (by omega)];rfl
       rw [if_neg c6,if_neg (by omega),ChR.zxf]
       congr 1
       have hd:(q.drop (k+1)).length=q.length - (k+1):=jC;generalize q.drop (k+1)=q2 at *
       rw [Vk (by exact hc) (.inr (.inl rfl)) (by exact hl),endR]
       obtain⟨n2,hn2,g1,g2,g3,g4⟩:=uH q2;rw [hn2,jJ]
       have ih:=fun(hlt:(q2.drop n2).length<f)=>zk1 f (q2.drop n2) { s with pos:=0,left:=0,all:=s.all+((k+1:Nat):Int)} hlt hc rfl hl ht
       rw [jC] at ih;unfold chL;simp only [if_true];generalize zF q2=x2 at *;obtain⟨t2,n2',ok2,e2⟩:=x2;simp only at *
       by_cases d1:e2=0
       · subst d1
         cases ok2 with
         |false=>simp [ChR.fg]
         | true=>
           by_cases d3:t2=[]
           · simp only [d3,ne_eq,jf,if_false,if_true,je,show ¬ (0:Int)=4 by decide]
             exact ih (by omega)
           · simp [d3,ChR.fg]
       · simp [d1,ChR.fg]
   · simp [c1,ChR.fg]
def yR (b:Str):ChR:=zdm (b.length+1) 0 b
theorem Rh (b:Str):sO ch0 b=(yR b).fg:=zk1 (b.length+1) b ch0 (Nat.lt_succ_self _) rfl rfl rfl rfl
theorem ChR.zvg {o o' rest:Str} {e:Int} {x:ChR} (h:x.pre o=.bad o' e rest): ∃ p,x=.bad p e rest∧o'=o++p:=by
 cases x<;>simp only [ChR.pre,ChR.bad.injEq,reduceCtorEq] at h
 obtain⟨rfl,rfl,rfl⟩:=h;exact⟨_,rfl,rfl⟩
theorem ChR.zll {o o' rest:Str} {x:ChR} (h:x.pre o=.over o' rest): ∃ p,x=.over p rest∧o'=o++p:=by
 cases x<;>simp only [ChR.pre,ChR.over.injEq,reduceCtorEq] at h
 obtain⟨rfl,rfl⟩:=h;exact⟨_,rfl,rfl⟩
theorem Qu: ∀ {r:Str} {s:Ch} {o rest:Str} {e:Int},sO s r=.bad o e rest→rest.length<r.length∧e≠0
 |[],s,o,rest,e,h=>by cases h
 | c ::r,s,o,rest,e,h=>by
   rw [sO] at h
   split at h
   · rename_i h0;cases h;exact⟨by simp,h0⟩
   split at h
   · cases h
   · obtain⟨p,h1,_⟩:=ChR.zvg h
     have:=Qu h1
     exact⟨by rw [jh];omega,this.2⟩
theorem VU: ∀ {r:Str} {s:Ch} {o rest:Str},sO s r=.over o rest→rest.length<r.length
 |[],s,o,rest,h=>by cases h
 | c ::r,s,o,rest,h=>by
   rw [sO] at h
   split at h
   · cases h
   split at h
   · cases h;simp
   · obtain⟨p,h1,_⟩:=ChR.zll h
     have:=VU h1;rw [jh];omega
def WQ (b:Str):ChR→Int
 |.more _ h=>(b.length:Int) - h
 |.over _ r=>(b.length:Int) - r.length
 |.bad _ _ r=>(b.length:Int) - r.length
def outR:ChR→Str
 |.more o _=>o
 |.over o _=>o
 |.bad o _ _=>o
def isR:ChR→Bool
 |.over _ _=>true
 |_=>false
def Qb:ChR→Int
 |.bad _ e _=>e
 |_=>0
theorem zmG {s:Ch} {c:UInt8}:(chF s c).2.1.length≤1∧((chF s c).2.2.2≠0→(chF s c).2.1=[])∧((chF s c).2.2.1=true→(chF s c).2.2.2=0∧(chF s c).2.1=[]∧(chF s c).1.pos=4∧(chF s c).1.code=0)∧((chF s c).2.2.2≠0→(chF s c).2.2.1=false∧(chF s c).1.code=(chF s c).2.2.2):=by
 unfold chF
 split
 · simp
 rename_i h0
 split
 · simp
 split
 · simp
 split
 · simp
 split
 · split
   · simp
   · refine⟨by simp,by simp,fun h=>⟨rfl,rfl,by simpa using h,?_⟩,fun h=>absurd rfl h⟩
     have: ∀ (x:Ch) (t:Str),x.code=0→(chL x t).1.code=0:=by
      intro x t hx;unfold chL
      split
      · split<;>exact hx
      split
      · split
        · exact hx
        split
        · exact hx
        split<;>exact hx
      split
      · split
        · exact hx
        split<;>exact hx
      · exact hx
     exact this _ _ (by simpa using h0)
 · simp
end Go.Proofs.YtkjepecoodjbmaaGreatDoor
namespace Go.Proofs.YtkjepecoodjbmaaGreatDoor
open Go Go.Sep Go.Ab
def hd0:Hd:=⟨[],[],0,[],0⟩
def prt0:Prt:=⟨[],[],[],[]⟩
def evH (h:Hd):Evt:=⟨1,h,[],prt0,0⟩
def evB (b:Str):Evt:=⟨2,hd0,b,prt0,0⟩
def evE:Evt:=⟨3,hd0,[],prt0,0⟩
def evF (c:Int):Evt:=⟨4,hd0,[],prt0,c⟩
def uP (out:List Evt) (e:Evt):List Evt:=
 match out.getLast? with
 |some x=>if e.kind=2∧x.kind=2 then out.dropLast++[evB (x.bytes++e.bytes)] else out++[e]
 |none=>out++[e]
def zH (l:List Evt):List Evt:=l.foldl uP []
theorem yO (z:List Evt) (x e:Evt):uP (z++[x]) e=if e.kind=2∧x.kind=2 then z++[evB (x.bytes++e.bytes)] else z++[x]++[e]:=by
 unfold uP
 simp
theorem YO (e:Evt):uP [] e=[e]:=rfl
end Go.Proofs.YtkjepecoodjbmaaGreatDoor
namespace Go.Proofs.YtkjepecoodjbmaaGreatDoor
open Go Go.Sep Go.Ab
def zO:Str→List Str
 |[]=>[[]]
 |c::r=>if c=32 then []::zO r else(match zO r with|[]=>[[c]]|w::ws=>(c::w)::ws)
theorem Xi (s:Str):zO s≠[]:=by
 cases s with
 |nil=>simp [zO]
 | cons c r=>
   simp only [zO]
   split
   · simp
   · split<;>simp
def YP:Str:=[72,84,84,80,47,49,46,49]
def UF:Str:=[72,84,84,80,47,49,46,48]
def begM (s:Str):Int × Hd:=
 match zO s with
 | [a,b,c]=>
   if qI a=false then(6,hd0)
   else if b.head?≠some 47∨b.contains 9=true then(5,hd0)
   else if c=YP then(0,⟨a,b,1,[],0⟩)
   else if c=UF then(0,⟨a,b,0,[],0⟩)
   else(11,⟨a,b,0,[],0⟩)
 |_=>(5,hd0)
def zfJ:Str:=[104,111,115,116]
def Qc:Str:=[99,111,110,116,101,110,116,45,108,101,110,103,116,104]
def zoh:Str:=[116,114,97,110,115,102,101,114,45,101,110,99,111,100,105,110,103]
def Sj:Str:=[99,104,117,110,107,101,100]
def sizM (z0:Str) (n:Int):List Str→Int × Int
 |[]=>(n,0)
 |s::r=>if(numA s 10 9).2=false then(0,7) else if s≠z0 then(0,12) else sizM z0 (numA s 10 9).1 r
def lenM (mi:Int) (f:List Fld):Int × Int:=
 if valsF f zoh≠[] then
  if valsF f Qc≠[]∨mi=0 then(0,12)
  else if 1<(valsF f zoh).length∨lowS ((valsF f zoh).getD 0 [])≠Sj then(0,11)
  else(-1,0)
 else if(sizM ((valsF f Qc).getD 0 []) 0 (valsF f Qc)).2≠0 then(0,(sizM ((valsF f Qc).getD 0 []) 0 (valsF f Qc)).2)
 else if 4000<(sizM ((valsF f Qc).getD 0 []) 0 (valsF f Qc)).1 then(0,4)
 else((sizM ((valsF f Qc).getD 0 []) 0 (valsF f Qc)).1,0)
def zjt (mi:Int) (f:List Fld):Bool:=decide ((oneF (valsF f zfJ)).2=9)||(decide ((oneF (valsF f zfJ)).2=10)&&decide (mi=1))
def lenH (h:Hd):Int × Int:=if zjt h.minor h.fields=true then(0,13) else lenM h.minor h.fields
def zxP (q:Rq) (e:Evt):Rq:= { q with out:=q.out++[e]}
def xO (q:Rq) (c:Int):Rq:= { q with pos:=4,out:=q.out++[evF c]}
def vY (q:Rq):Rq:= { q with out:=q.out++[evE],pos:=0,h:=hd0,own:=true}
def yC (q:Rq):Rq × Int:=
 if zjt q.h.minor q.h.fields=true then(q,13)
 else if(lenM q.h.minor q.h.fields).2≠0 then({ q with own:=false},(lenM q.h.minor q.h.fields).2)
 else if(lenM q.h.minor q.h.fields).1=0 then(vY { q with h:= { q.h with length:=0},own:=false,out:=q.out++[evH { q.h with length:=0}]},0)
 else if 0<(lenM q.h.minor q.h.fields).1 then({ q with h:= { q.h with length:=(lenM q.h.minor q.h.fields).1},own:=false,out:=q.out++[evH { q.h with length:=(lenM q.h.minor q.h.fields).1}],pos:=2,left:=(lenM q.h.minor q.h.fields).1},0)
 else({ q with h:= { q.h with length:=(lenM q.h.minor q.h.fields).1},own:=false,out:=q.out++[evH { q.h with length:=(lenM q.h.minor q.h.fields).1}],pos:=3,ck:=some ch0},0)
def zJ (q:Rq) (s:Str):Rq × Int:=
 if q.pos=0 then
  if s=[] then(q,0)
  else if(begM s).1=0 then({ q with h:=(begM s).2,pos:=1},0)
  else if(begM s).1=11 then({ q with h:=(begM s).2},11)
  else(q,(begM s).1)
 else if s=[] then yC q
 else if q.h.fields.length=16 then(q,8)
 else({ q with h:= { q.h with fields:=q.h.fields++[(yj s).1]}},(yj s).2)
def ckOf (q:Rq):Ch:=match q.ck with|some c=>c|none=>ch0
def rqF (q:Rq) (c:UInt8):Rq:=
 if q.pos=2 then
  if q.left - 1=0 then vY { q with out:=q.out++[evB [c]],left:=0} else { q with out:=q.out++[evB [c]],left:=q.left - 1}
 else if q.pos=3 then
  if(chF (ckOf q) c).2.2.2≠0 then xO { q with ck:=some (chF (ckOf q) c).1} (chF (ckOf q) c).2.2.2
  else if(chF (ckOf q) c).2.2.1=true then vY { q with ck:=some (chF (ckOf q) c).1,out:=if(chF (ckOf q) c).2.1≠[] then q.out++[evB (chF (ckOf q) c).2.1] else q.out}
  else { q with ck:=some (chF (ckOf q) c).1,out:=if(chF (ckOf q) c).2.1≠[] then q.out++[evB (chF (ckOf q) c).2.1] else q.out}
 else if q.pos=0∨q.pos=1 then
  if(lnF q.ln c).2.2.2≠0 then xO { q with ln:=(lnF q.ln c).1} (lnF q.ln c).2.2.2
  else if(lnF q.ln c).2.2.1=true then
   if(zJ { q with ln:=(lnF q.ln c).1} (lnF q.ln c).2.1).2≠0 then xO (zJ { q with ln:=(lnF q.ln c).1} (lnF q.ln c).2.1).1 (zJ { q with ln:=(lnF q.ln c).1} (lnF q.ln c).2.1).2
   else(zJ { q with ln:=(lnF q.ln c).1} (lnF q.ln c).2.1).1
  else { q with ln:=(lnF q.ln c).1}
 else q
def rq0:Rq:=⟨ln0,0,hd0,0,none,true,[]⟩
def yE (q:Rq) (b:Str):Rq:=b.foldl rqF q
def zC (q:Rq) (b:Str):Rq:=yE { q with out:=[]} b
def x9 (q:Rq):Bool:=decide (q.pos≠4)&&(decide (q.pos≠0)||lnB q.ln)
end Go.Proofs.YtkjepecoodjbmaaGreatDoor
namespace Go.Proofs.YtkjepecoodjbmaaGreatDoor
open Go Go.Sep Go.Ab
def YE (o:List Evt) (q:Rq):Rq:= { q with out:=o++q.out}
theorem zm8 (o:List Evt) (q:Rq):yC (YE o q)=(YE o (yC q).1,(yC q).2):=by
 unfold yC YE vY;simp only
 repeat' split
 all_goals simp
theorem zm6 (o:List Evt) (q:Rq) (s:Str):zJ (YE o q) s=(YE o (zJ q s).1,(zJ q s).2):=by
 unfold zJ;simp only [zm8];have e1:(YE o q).pos=q.pos:=rfl;have e2:(YE o q).h=q.h:=rfl;rw [e1,e2]
 repeat' split
 all_goals rfl
theorem zvc (o:List Evt) (q:Rq) (c:UInt8):rqF (YE o q) c=YE o (rqF q c):=by
 obtain⟨ln,p,h,n,ck,own,out⟩:=q;have hl: ∀ (l:Ln) (s:Str),zJ ⟨l,p,h,n,ck,own,o++out⟩ s=(YE o (zJ ⟨l,p,h,n,ck,own,out⟩ s).1,(zJ ⟨l,p,h,n,ck,own,out⟩ s).2):=fun l s=>zm6 o ⟨l,p,h,n,ck,own,out⟩ s;have hc:ckOf ⟨ln,p,h,n,ck,own,o++out⟩=ckOf ⟨ln,p,h,n,ck,own,out⟩:=rfl
 show rqF ⟨ln,p,h,n,ck,own,o++out⟩ c=_
 unfold rqF;simp only [hl,hc]
 repeat' split
 all_goals first
  |rfl
  |(simp [YE,vY,xO];done)
theorem zoW (o:List Evt) (b:Str): ∀ (q:Rq),yE (YE o q) b=YE o (yE q b):=by
 induction b with
 |nil=>intro q;rfl
 |cons c r ih=>intro q;show yE (rqF (YE o q) c) r=_;rw [zvc];exact ih _
theorem zoX (q:Rq) (a b:Str):yE q (a++b)=yE (yE q a) b:=List.foldl_append
def wH (q:Rq):Rq:= { q with out:=[]}
theorem Xw (q:Rq) (a b:Str):wH (zC (zC q a) b)=wH (zC q (a++b))∧(zC q (a++b)).out=(zC q a).out++(zC (zC q a) b).out:=by
 have h1:zC q (a++b)=yE (zC q a) b:=zoX _ a b
 have h2:zC q a=YE (zC q a).out (wH (zC q a)):=by
  unfold YE wH;simp
 have h3:yE (zC q a) b=YE (zC q a).out (zC (zC q a) b):=by
  conv=>lhs;rw [h2]
  rw [zoW];rfl
 rw [h1,h3];exact⟨rfl,rfl⟩
end Go.Proofs.YtkjepecoodjbmaaGreatDoor
namespace Go.Sep.P
theorem Yp {a b s:List UInt8} (ha:a<:+s) (hb:b<:+s) (h:a.length≤b.length):a<:+b:=List.suffix_of_suffix_length_le ha hb h
structure Top (m s:List UInt8) (b n:Nat):Prop where
 le:n≤b
 suf:m.take n<:+s
 top: ∀ k,k≤b→m.take k<:+s→k≤n
theorem Top.eq {m s:List UInt8} {b n n':Nat} (h:Top m s b n) (h':Top m s b n'):n=n':=
 Nat.le_antisymm (h'.top n h.le h.suf) (h.top n' h'.le h'.suf)
def rG (m s:List UInt8):Nat→Nat
 |0=>0
 |k+1=>if m.take (k+1)<:+s then k+1 else rG m s k
theorem ug (m s:List UInt8): ∀ b,Top m s b (rG m s b)
 |0=>⟨jL _,by simp [rG],fun k hk _=>hk⟩
 | b + 1=>by
   unfold rG
   split
   · rename_i h;exact⟨jL _,h,fun k hk _=>hk⟩
   · rename_i h
     have ih:=ug m s b;refine⟨Nat.le_succ_of_le ih.le,ih.suf,fun k hk hs=> ?_⟩
     rcases Nat.lt_or_ge k (b+1) with h1|h1
     · exact ih.top k (by omega) hs
     · have:k=b+1:=by omega
       subst this;exact(h hs).elim
def held (m s:List UInt8):Nat:=rG m s (m.length - 1)
def yh (m:List UInt8) (i:Nat):Nat:=rG m (m.take i) (i - 1)
theorem qF {m:List UInt8} {i:Nat} (h:0<i):yh m i<i:=by
 have:=(ug m (m.take i) (i - 1)).le;unfold yh;omega
def fall (m:List UInt8) (c:UInt8):Nat→Nat→Nat
 |0,n=>n
 |f+1,n=>if n=0 then 0 else if m[n]? =some c then n else fall m c f (yh m n)
theorem TI (m:List UInt8) (c:UInt8) (f:Nat):fall m c f 0=0:=by cases f<;>simp [fall]
theorem ziq (m:List UInt8) (c:UInt8): ∀ (f n:Nat),n≤f→∀ g,n≤g→fall m c f n=fall m c g n
 | 0,n,h,g,_=>by
   have:n=0:=by omega
   subst this;rw [TI,TI]
 | f + 1,n,h,g,hg=>by
   cases g with
   | zero=>
     have:n=0:=by omega
     subst this;rw [TI,TI]
   | succ g=>
     simp only [fall]
     split
     · rfl
     · split
       · rfl
       · rename_i h0 _
         have hb:=qF (m:=m) (i:=n) (by omega)
         exact ziq m c f _ (by omega) g (by omega)
structure zxH (m:List UInt8) (c:UInt8) (n j:Nat):Prop where
 le:j≤n
 suf:m.take j<:+m.take n
 top: ∀ k,k≤n→m.take k<:+m.take n→m[k]? =some c→k≤j
 fits:j=0∨m[j]? =some c
theorem zjG (m:List UInt8) (c:UInt8) (hm: ∀ k,k≤m.length→(m.take k).length=k): ∀ (f n:Nat),n≤f→n≤m.length→zxH m c n (fall m c f n)
 | 0,n,h,hn=>by
   have:n=0:=by omega
   subst this;exact⟨jL _,List.suffix_refl _,fun k hk _ _=>hk,.inl rfl⟩
 | f + 1,n,h,hn=>by
   simp only [fall]
   split
   · rename_i h0;subst h0;exact⟨jL _,List.suffix_refl _,fun k hk _ _=>hk,.inl rfl⟩
   · split
     · rename_i h0 h1;exact⟨jL _,List.suffix_refl _,fun k hk _ _=>hk,.inr h1⟩
     · rename_i h0 h1
       have hb:=qF (m:=m) (i:=n) (by omega)
       have ht:Top m (m.take n) (n - 1) (yh m n):=ug m (m.take n) (n - 1)
       have ih:=zjG m c hm f (yh m n) (by omega) (by omega)
       refine⟨by have:=ih.le;omega,ih.suf.trans ht.suf,fun k hk hs hc=> ?_,ih.fits⟩
       have hne:k≠n:=by rintro rfl;exact h1 hc
       have hkb:k≤yh m n:=ht.top k (by omega) hs
       refine ih.top k hkb (Yp hs ht.suf ?_) hc
       rw [hm k (by omega),hm _ (by omega)]
       exact hkb
theorem take_len {m:List UInt8}: ∀ k,k≤m.length→(m.take k).length=k:=fun k hk=>by simp;omega
theorem Yo {m s:List UInt8} {k:Nat} {c:UInt8} (hk:k<m.length):m.take (k+1)<:+s++[c]↔m.take k<:+s∧m[k]? =some c:=by
 rw [jB hk,jm hk];constructor
 · rintro⟨t,ht⟩
   rw [← jo] at ht;have:=List.append_inj' ht rfl
   exact⟨⟨t,this.1⟩,by simpa using this.2⟩
 · rintro⟨⟨t,ht⟩,hc⟩
   have hc':m[k]=c:=by simpa using hc
   exact⟨t,by rw [← jo,ht,hc']⟩
theorem Top.step {m s:List UInt8} {b n:Nat} {c:UInt8} (h:Top m s b n) (hb:b<m.length):
  (m[fall m c n n]? =some c→Top m (s++[c]) (b+1) (fall m c n n+1))∧(m[fall m c n n]? ≠some c→Top m (s++[c]) (b+1) 0∧fall m c n n=0):=by
 have hn:n≤m.length:=by have:=h.le;omega
 have hf:=zjG m c take_len n n (jL _) hn;generalize fall m c n n=j at hf
 have hjl:j<m.length:=by have:=hf.le;have:=h.le;omega
 have key: ∀ k,k+1≤b+1→m.take (k+1)<:+s++[c]→k≤j∧m[k]? =some c:=by
  intro k hk hs
  obtain⟨h1,h2⟩:=(Yo (by omega)).1 hs
  have h3:=h.top k (by omega) h1
  have h4:m.take k<:+m.take n:=Yp h1 h.suf (by rw [take_len k (by omega),take_len n hn];exact h3)
  exact⟨hf.top k h3 h4 h2,h2⟩
 constructor
 · intro hc
   refine⟨by have:=hf.le;have:=h.le;omega,(Yo hjl).2 ⟨hf.suf.trans h.suf,hc⟩,fun k hk hs=> ?_⟩
   cases k with
   |zero=>omega
   |succ k=>have:=(key k hk hs).1;omega
 · intro hc
   have hj0:j=0:=hf.fits.resolve_right hc;subst hj0
   refine⟨⟨jM _,by simp,fun k hk hs=> ?_⟩,rfl⟩
   cases k with
   |zero=>omega
   | succ k=>
     obtain⟨h1,h2⟩:=key k hk hs
     have:k=0:=by omega
     subst this;exact(hc h2).elim
theorem zj3 {m:List UInt8} {i:Nat} (hi:i<m.length) (h0:0<i):
  yh m (i+1)=(if m[fall m m[i] (yh m i) (yh m i)]? =some m[i] then fall m m[i] (yh m i) (yh m i)+1 else 0):=by
 have ht:=ug m (m.take i) (i - 1)
 have hs:=ht.step (c:=m[i]) (by omega)
 have e:m.take i++[m[i]]=m.take (i+1):=(jB hi).symm
 rw [e,show i - 1+1=i by omega] at hs
 have hnew:=ug m (m.take (i+1)) (i+1 - 1)
 change Top m (m.take (i+1)) i (yh m (i+1)) at hnew
 change(m[fall m m[i] (yh m i) (yh m i)]? =some m[i]→_)∧_ at hs
 split
 · rename_i hc;exact hnew.eq (hs.1 hc)
 · rename_i hc;exact hnew.eq (hs.2 hc).1
theorem zqO {m:List UInt8} {n k j:Nat} (hj:0<j) (hk:k+j=n) (hn:n≤m.length) (h:m.take k++m.take j=m.take n):
  m.take k++m.take (j - yh m j)=m.take (k+(j - yh m j))∧m.take (k+(j - yh m j))++m.take (yh m j)=m.take n:=by
 have hb:=qF (m:=m) hj;have ht:Top m (m.take j) (j - 1) (yh m j):=ug m (m.take j) (j - 1);generalize yh m j=b at hb ht;obtain⟨t,e⟩:=ht.suf;have hl:=congrArg List.length e
 rw [jk,take_len b (by omega),take_len j (by omega)] at hl
 have e2:t=m.take (j - b):=by
  have h1:(m.take j).take t.length=t:=by rw [← e];simp
  rw [List.take_take,show min t.length j=j - b by omega] at h1
  exact h1.symm
 subst e2
 have e3:m.take n=(m.take k++m.take (j - b))++m.take b:=by rw [jo,e,h]
 have e4:m.take (k+(j - b))=m.take k++m.take (j - b):=by
  have h1:(m.take n).take (k+(j - b))=m.take (k+(j - b)):=by rw [List.take_take,show min (k+(j - b)) n=k+(j - b) by omega]
  rw [← h1,e3]
  exact List.take_left' (by rw [jk,take_len k (by omega),take_len _ (by omega)])
 exact⟨e4.symm,by rw [e4,e3]⟩
theorem zio {m:List UInt8} {c:UInt8} {j:Nat} (h0:0<j) (h:m[j]? ≠some c):fall m c j j=fall m c (yh m j) (yh m j):=by
 have hb:=qF (m:=m) h0
 cases j with
 |zero=>omega
 | succ i=>
   rw [fall,if_neg (by omega),if_neg h]
   exact ziq m c _ _ (by omega) _ (jL _)
theorem Y4 {m:List UInt8} {c:UInt8} {j:Nat} (h:j=0∨m[j]? =some c):fall m c j j=j:=by
 cases j with
 |zero=>rfl
 |succ i=>rw [fall,if_neg (by omega),if_pos (h.resolve_left (by omega))]
def feed (m:List UInt8) (n:Nat) (c:UInt8):List UInt8 × Nat × Bool:=
 let j:=fall m c n n
 let out:=m.take (n - j)
 if m[j]? =some c then(if j+1<m.length then(out,j+1,false) else(out,0,true)) else(out++[c],0,false)
end Go.Sep.P
namespace Go.Proofs.YtkjepecoodjbmaaGreatDoor
open Go Go.Sep Go.Ab
set_option maxRecDepth 100000
set_option linter.unusedSimpArgs false
set_option linter.unusedVariables false
def cfgS:Cfg:= { sl:=[⟨310,0,.byte,some 5⟩,⟨310,1,.int,some 3⟩],nr:=[6]}
def zac (m:Str):List Int:=(List.range (m.length+1)).map fun i=>((P.yh m i:Nat):Int)
theorem zrt (m:Str) (i:Int) (h0:0≤i) (h:i≤m.length):(zac m).getD i.toNat 0=(P.yh m i.toNat:Nat):=by
 unfold zac
 rw [jH,List.getElem?_map,List.getElem?_range (by omega)];rfl
theorem zrr (m:Str):(zac m).length=m.length+1:=by simp [zac]
def qA (m:Str) (n:Nat) (c:UInt8):Str × Nat × Bool:=if m=[] then([c],n,false) else P.feed m n c
def zfT (I:Alg) (args:List D) (hp:List HO):Option CT:=match args,hp with
 |[.v (.one (.ptr 0 0)),.v (.one (.p (.int .u8 k)))],[.pack [.obj 310 [(.row 1),(.row 2),(.p (.int .i64 n))],.row .byte 5 m,.row .int 3 bs]]=>(fun(m:Str) (n:Int) (bs:List Int) (k:Int)=>(some (.one ⟨I.hid (bs=zac m∧m.length≤1000000∧0≤n∧(m=[]∨n<m.length)∧0≤k∧k≤255),(.ret (.tup [(.one (.row 1)),(.one (.p (.bool (I.hid ((qA m n.toNat (UInt8.ofNat k.toNat)).2.2)))))])),[.pack [.obj 310 [(.row 1),(.row 2),(.p (.int .i64 (I.hid (((qA m n.toNat (UInt8.ofNat k.toNat)).2.1:Int)))))],.row .byte 5 m,.row .int 3 bs],.row .byte 5 (I.hid ((qA m n.toNat (UInt8.ofNat k.toNat)).1))]⟩):Option CT)) m n bs k
 |_,_=>none
theorem zqL:zx Tryz.prog 276 (zfT alg):=by
 intro args hp r h;unfold zfT at h;split at h<;>cases h
 rename_i k n m bs
 revert bs;intro(bs:List Int)
 simp only [CT.Good,zi];intro hneed;obtain⟨hbs,hl,hn0,hn,hk0,hk1⟩:=hneed;generalize hr:qA m n.toNat (UInt8.ofNat k.toNat)=r;obtain⟨out,n',fd⟩:=r
 refine spcG zh mixed Tryz.func276 (by kernel_rfl) { cfgS with keep:=some [0,1,4,5,6,7]} [] (by kernel_rfl) ?_
 intro I X hI hX
 refine orcL ?_;go_invoke;refine orcS (by kernel_rfl) ?_
 simp only [zq,Nat.reduceAdd];refine⟨fun h=> ?_,fun h=> ?_⟩
 · subst hI
   simp only [nrmA,nrmB] at h
   have:m=[]:=List.eq_nil_of_length_eq_zero (by omega)
   subst this;simp only [qA,if_true,Prod.mk.injEq] at hr;obtain⟨rfl,rfl,rfl⟩:=hr;simp only [nrmA,nrmB];refine⟨⟨hk0,hk1⟩,?_⟩;rw [Int.toNat_of_nonneg hn0]
 have hm:m≠[]:=by
  subst hI;simp only [nrmA,nrmB] at h;rintro rfl;simp at h
 have hm0:0<m.length:=by cases m<;>simp_all
 have hn:n<m.length:=hn.resolve_left hm;simp only [qA,if_neg hm] at hr
 refine zB hI zh mixed [TS] hX [0,1,6] (fun(p:Nat × Str)=>p.1≤n.toNat∧p.2.length+p.1=n.toNat∧P.fall m (UInt8.ofNat k.toNat) p.1 p.1=P.fall m (UInt8.ofNat k.toNat) n.toNat n.toNat∧p.2++m.take p.1=m.take n.toNat∧p.2=m.take p.2.length)
  (fun p=>⟨[(0,.v (.one (.ptr 0 0))),(1,.v (.one (.p (.int .u8 k)))),(6,.v (.one (.row 1)))],[.pack [.obj 310 [.row 1,.row 2,.p (.int .i64 p.1)],.row .byte 5 m,.row .int 3 bs],.row .byte 5 p.2],100,none⟩) (fun p=>p.1) (n.toNat,[])
  (by kernel_rfl) ?_ ⟨jL _,by simp,rfl,by simp,by simp⟩ ?_
 · simp only [Int.toNat_of_nonneg hn0];kernel_rfl
 rintro⟨j,o⟩ ⟨hjn,hoj,hfall,hcat,hpre⟩ A hA;simp only at hjn hoj hfall hcat hpre
 refine orcL ?_;go_invoke;refine orcS (by kernel_rfl) ?_
 simp only [zq,Nat.reduceAdd];subst hI hbs;simp only [nrmA,nrmB]
 have hb:=zrt m j (by omega) (by omega)
 simp only [jJ] at hb;have hbl:0<j→P.yh m j<j:=P.qF
 have hj:j<m.length:=by omega
 have hge:m.getD j 0=m[j]:=by simp [hj]
 rw [hb,zrr,hge]
 have hcc:(m[j].toNat:Int)=k↔m[j]? =some (UInt8.ofNat k.toNat):=by
  rw [jm hj,jw,← UInt8.toNat_inj,UInt8.toNat_ofNat'];omega
 simp only [hcc];have hfeed:=hr;simp only [P.feed] at hfeed;rw [← hfall] at hfeed
 refine⟨fun h0=>⟨by omega,by omega,fun hne=>⟨by omega,by omega,by omega,by omega,by simp only [jv];omega,?_⟩,fun heq=>⟨by omega,by omega,fun hne=>(hne heq).elim,fun _=>⟨by omega,fun hlt=> ?_,fun hlt=> ?_⟩⟩⟩,fun h0=>⟨by omega,by omega,fun hne=> ?_,fun heq=>⟨by omega,fun hlt=> ?_,fun hlt=> ?_⟩⟩⟩
 · obtain⟨h1,h2⟩:=P.zqO (m:=m) (n:=n.toNat) (k:=o.length) (j:=j) (by omega) (by omega) (by omega) (by rw [← hpre];exact hcat)
   have hx:(↑j - ↑(P.yh m j):Int).toNat=j - P.yh m j:=by omega
   have hbj:=hbl (by omega)
   rw [hx]
   refine hA (P.yh m j,o++m.take (j - P.yh m j)) ⟨by simp only;omega,?_,?_,?_,?_⟩ hbj
   · simp only [jk,jv];omega
   · rw [← hfall];exact(P.zio (by omega) hne).symm
   · simp only;rw [← h2,← h1,← hpre]
   · have:(o++m.take (j - P.yh m j)).length=o.length+(j - P.yh m j):=by simp only [jk,jv];omega
     simp only;rw [this,← h1,← hpre]
 · have hstop:=P.Y4 (c:=UInt8.ofNat k.toNat) (.inr heq)
   rw [hstop,if_pos heq,if_pos (by omega)] at hfeed
   simp only [Prod.mk.injEq] at hfeed;obtain⟨rfl,rfl,rfl⟩:=hfeed
   rw [show n.toNat - j=o.length by omega,← hpre]
   exact⟨rfl,rfl⟩
 · have hstop:=P.Y4 (c:=UInt8.ofNat k.toNat) (.inr heq)
   rw [hstop,if_pos heq,if_neg (by omega)] at hfeed
   simp only [Prod.mk.injEq] at hfeed;obtain⟨rfl,rfl,rfl⟩:=hfeed
   rw [show n.toNat - j=o.length by omega,← hpre]
   exact⟨rfl,rfl⟩
 all_goals
  have hj0:j=0:=by omega
  subst hj0;have hstop:=P.Y4 (m:=m) (c:=UInt8.ofNat k.toNat) (j:=0) (.inl rfl);rw [hstop] at hfeed
  rw [show n.toNat=o.length by omega,Nat.sub_zero,← hpre] at hfeed
 · rw [if_neg hne] at hfeed
   simp only [Prod.mk.injEq] at hfeed;obtain⟨rfl,rfl,rfl⟩:=hfeed
   exact⟨⟨hk0,hk1⟩,by simp only [jh,ji];omega,rfl,rfl⟩
 · rw [if_pos heq,if_pos (by omega)] at hfeed
   simp only [Prod.mk.injEq] at hfeed;obtain⟨rfl,rfl,rfl⟩:=hfeed;exact⟨rfl,rfl⟩
 · rw [if_pos heq,if_neg (by omega)] at hfeed
   simp only [Prod.mk.injEq] at hfeed;obtain⟨rfl,rfl,rfl⟩:=hfeed;exact⟨rfl,rfl⟩
def RU:Know Tryz.prog:=⟨276,zfT,zqL⟩
def RS:Know Tryz.prog:=⟨276,fun I=>zy I (zfT I),zf zqL⟩
def wV (m:Str) (i:Nat):List Int:=(List.range (m.length+1)).map fun q=>if q<i then((P.yh m q:Nat):Int) else 0
theorem zj2 (m:Str) (i:Nat) (h:m.length<i):wV m i=zac m:=by
 unfold wV zac;refine List.map_congr_left fun q hq=> ?_
 rw [if_pos (by have:=List.mem_range.1 hq;omega)]
theorem zjY (m:Str):wV m 2=List.replicate (m.length+1) 0:=by
 unfold wV
 refine List.ext_getElem (by simp) fun q h1 h2=> ?_
 simp only [List.getElem_map,List.getElem_range,List.getElem_replicate]
 split
 · have:q=0∨q=1:=by omega
   rcases this with rfl|rfl
   · simp [P.yh,P.rG]
   · simp [P.yh,P.rG]
 · rfl
theorem zj0 (m:Str) (i:Nat):(wV m i).length=m.length+1:=by simp [wV]
theorem zj1 (m:Str) (i q:Nat) (h:q<i) (hm:q≤m.length):(wV m i).getD q 0=(P.yh m q:Nat):=by
 unfold wV
 rw [jH,List.getElem?_map,List.getElem?_range (by omega)]
 simp [h]
theorem zjZ (m:Str) (i:Nat):(wV m i).set i ((P.yh m i:Nat):Int)=wV m (i+1):=by
 unfold wV
 refine List.ext_getElem (by simp) fun q h1 h2=> ?_
 simp only [List.getElem_set,List.getElem_map,List.getElem_range]
 by_cases h:i=q
 · subst h;simp
 · rw [if_neg h]
   by_cases hq:q<i
   · rw [if_pos hq,if_pos (by omega)]
   · rw [if_neg hq,if_neg (by omega)]
def zly (I:Alg) (args:List D) (hp:List HO):Option CT:=match args,hp with
 |[.v (.one (.p (.list .byte m)))],[]=>(fun(m:Str)=>(some (.one ⟨I.hid (m.length≤999999),(.ret (.v (.one (.ptr 0 0)))),[.pack [.obj 310 [(.row 1),(.row 2),(.p (.int .i64 0))],.row .byte 5 m,.row .int 3 (I.hid ((zac m)))]]⟩):Option CT)) m
 |_,_=>none
theorem zul:zx Tryz.prog 275 (zly alg):=by
 intro args hp r h;unfold zly at h;split at h<;>cases h
 rename_i m;simp only [CT.Good,zi];intro hneed
 refine spcG zh mixed Tryz.func275 (by kernel_rfl) { cfgS with seam:=[2],keep:=some [0,2,3,4,5]} [zbm,TS] (by kernel_rfl) ?_
 intro I X hI hX
 refine orcL ?_;go_invoke;refine orcS (by kernel_rfl) ?_
 simp only [zq,Nat.reduceAdd]
 refine⟨?n1,⟨?n2,?n3,?n4,?n5,seam hI zh mixed [] hX [0,3] ⟨[(0,.v (.one (.p (.list .byte m)))),(3,.v (.one (.ptr 0 0)))],[.pack [.obj 310 [(.row 1),(.row 2),(.p (.int .i64 0))],.row .byte 5 m,.row .int 3 ((I.rep (α:=Int) (I.add (I.len (α:=UInt8) m) 1) (0:Int)))]],60,none⟩ (by kernel_rfl) ?on⟩,?n3,?n4,?n5,?n2,seam hI zh mixed [] hX [0,3] _ (by kernel_rfl) ?on⟩
 case on=>
  have hrep:(I.rep (α:=Int) (I.add (I.len (α:=UInt8) m) 1) (0:Int))=wV m 2:=by
   subst hI;simp only [nrmA,nrmB];rw [zjY];rfl
  rw [hrep];generalize hb2:wV m 2=b2
  refine orcL ?_;go_invoke;refine orcS (by kernel_rfl) ?_
  simp only [zq,Nat.reduceAdd]
  refine zB hI zh mixed [zbm,TS] hX [0,3,5,4] (fun(g:Nat × Nat × List Int)=>match g with|(i,k,bs)=>1≤i∧(i≤m.length∨i=1)∧k=P.yh m i∧bs=wV m (i+1)) (fun(g:Nat × Nat × List Int)=>match g with|(i,k,bs)=>⟨[(0,.v (.one (.p (.list .byte m)))),(3,.v (.one (.ptr 0 0))),(5,.v (.one (.p (.int .i64 i)))),(4,.v (.one (.p (.int .i64 k))))],[.pack [.obj 310 [(.row 1),(.row 2),(.p (.int .i64 0))],.row .byte 5 m,.row .int 3 bs]],60,none⟩) (fun(g:Nat × Nat × List Int)=>match g with|(i,k,bs)=>m.length - i) (1,0,b2) (by kernel_rfl) (by kernel_rfl) ?_ ?_
  · exact⟨jL _,.inr rfl,by simp [P.yh,P.rG],hb2.symm⟩
  rintro⟨i,k,bs⟩ ⟨hi,him,rfl,hbs⟩ A hA;simp only at hA;generalize hk:P.yh m i=k at hA
  refine orcL ?_;go_invoke;refine orcS (by kernel_rfl) ?_
  simp only [zq,Nat.reduceAdd];refine⟨fun hlt=> ?_,fun hlt=> ?_⟩
  · refine zB hI zh mixed [zbm,TS] hX [0,3,5,4] (fun(q:Nat)=>q≤k∧P.fall m (m.getD i 0) q q=P.fall m (m.getD i 0) k k) (fun(q:Nat)=>⟨[(0,.v (.one (.p (.list .byte m)))),(3,.v (.one (.ptr 0 0))),(5,.v (.one (.p (.int .i64 i)))),(4,.v (.one (.p (.int .i64 q))))],[.pack [.obj 310 [(.row 1),(.row 2),(.p (.int .i64 0))],.row .byte 5 m,.row .int 3 bs]],60,none⟩) (fun(q:Nat)=>q) k (by kernel_rfl) (by kernel_rfl) ?_ ?_
    · exact⟨jL _,rfl⟩
    rintro q ⟨hq,hfall⟩ B hB
    refine orcL ?_;go_invoke;refine orcS (by kernel_rfl) ?_
    simp only [zq,Nat.reduceAdd];subst hI hbs;simp only [nrmA,nrmB] at hlt
    have hil:i<m.length:=by omega
    have hkl:k<i:=by rw [← hk];exact P.qF (by omega)
    have hql:q<m.length:=by omega
    have hst:=P.zj3 hil (by omega)
    have hgi:m.getD i 0=m[i]:=by simp [hil]
    have hgq:m.getD q 0=m[q]:=by simp [hql]
    have hg0:=zj1 m (i+1) q (by omega) (by omega)
    have hbl:0<q→P.yh m q<q:=P.qF;rw [hk] at hst;rw [hgi] at hfall;rw [← hfall] at hst;simp only [nrmA,nrmB]
    rw [hgi,hgq,zj0,hg0,show((i:Int)+1).toNat=i+1 by omega]
    have hset:=zjZ m (i+1)
    have hcc:m[i]=m[q]↔m[q]? =some m[i]:=by rw [jm hql];simp [eq_comm]
    have hA1:(q=0∨m[i]=m[q])→m[i]=m[q]→A ⟨[(0,.v (.one (.p (.list .byte m)))),(3,.v (.one (.ptr 0 0))),(5,.v (.one (.p (.int .i64 ((i:Int)+1))))),(4,.v (.one (.p (.int .i64 ((q:Int)+1)))))],[.pack [.obj 310 [(.row 1),(.row 2),(.p (.int .i64 0))],.row .byte 5 m,.row .int 3 (((wV m (i+1)).set (i+1) ((q:Int)+1)))]],60,none⟩:=by
     intro h1 h2
     rw [P.Y4 (by rw [← hcc];exact h1),if_pos (hcc.1 h2)] at hst
     have:=hA (i+1,q+1,wV m (i+2)) ⟨by omega,by omega,hst.symm,rfl⟩ (by simp only;omega)
     rw [hst] at hset;rw [← hset] at this;exact this
    have hA2:(q=0∨m[i]=m[q])→¬m[i]=m[q]→A ⟨[(0,.v (.one (.p (.list .byte m)))),(3,.v (.one (.ptr 0 0))),(5,.v (.one (.p (.int .i64 ((i:Int)+1))))),(4,.v (.one (.p (.int .i64 q))))],[.pack [.obj 310 [(.row 1),(.row 2),(.p (.int .i64 0))],.row .byte 5 m,.row .int 3 (((wV m (i+1)).set (i+1) (q:Int)))]],60,none⟩:=by
     intro h1 h2;obtain rfl:q=0:=h1.resolve_right h2;rw [P.Y4 (.inl rfl),if_neg (fun h=>h2 (hcc.2 h))] at hst
     have:=hA (i+1,0,wV m (i+2)) ⟨by omega,by omega,hst.symm,rfl⟩ (by simp only;omega)
     rw [hst] at hset;rw [← hset] at this;exact this
    (repeat' (first|refine ja ?_ ?_|intro _))<;>first|omega|exact jb|exact jc ‹False›|skip
    · refine hB (P.yh m q) ⟨by have:=hbl (by omega);omega,?_⟩ (hbl (by omega))
      rw [hgi,← P.zio (by omega) (fun h=>‹¬m[i]=m[q]› (hcc.2 h)),hfall]
    · exact hA1 (.inr ‹_›) ‹_›
    · exact hA2 (.inr ‹_›) ‹_›
    · exact hA1 (.inl (by omega)) ‹_›
    · exact hA2 (.inl (by omega)) ‹_›
  · subst hI hbs
    simp only [nrmA,nrmB] at hlt
    rw [zj2 m _ (by omega)]
    exact⟨trivial,rfl⟩
 all_goals subst hI;simp only [nrmA,nrmB];try omega
def zuk:Know Tryz.prog:=⟨275,zly,zul⟩
def zuj:Know Tryz.prog:=⟨275,fun I=>zy I (zly I),zf zul⟩
end Go.Proofs.YtkjepecoodjbmaaGreatDoor
namespace Go.Proofs.YtkjepecoodjbmaaGreatDoor
open Go Go.Sep Go.Ab
set_option maxRecDepth 100000
def Uo (s:Str):Bool:= !decide (70<s.length)&&(YC s&&(decide (Lib.trimS s [32,9]=s)&&decide (s≠[])))
def VN (b:Str) (c:UInt8):Str:=
 if c=47∨c=92 then []
 else if c=9∨zbP (c.toNat:Int)=false∨c=34∨c=58 then b++[95]
 else if c=46∧b=[] then b
 else b++[c]
def ziZ (s:Str):Str:=if(s.foldl VN []).take 40=[] then [102,105,108,101] else(s.foldl VN []).take 40
theorem zoI (s:Str) (i:Nat) (h:i<s.length):(s.take (i+1)).foldl VN []=VN ((s.take i).foldl VN []) (s.getD i 0):=by
 rw [jB h,List.foldl_append]
 simp [h]
theorem zsd (s:Str): ∀ b:Str,(s.foldl VN b).length≤b.length+s.length:=by
 induction s with
 |nil=>intro b;simp
 | cons c r ih=>
   intro b;have h:=ih (VN b c)
   have h2:(VN b c).length≤b.length+1:=by
    unfold VN
    repeat' split
    all_goals simp
   rw [List.foldl_cons,jh];omega
theorem zmS (c:UInt8) (k:Nat) (h:k<256):(c.toNat:Int)=(k:Int)↔c=UInt8.ofNat k:=by
 constructor
 · intro e
   rw [← UInt8.toNat_inj,UInt8.toNat_ofNat',Nat.mod_eq_of_lt h];omega
 · intro e
   rw [e,UInt8.toNat_ofNat',Nat.mod_eq_of_lt h]
theorem zse (b:Str) (c:UInt8):VN b c=if(c.toNat:Int)=47 then [] else if(c.toNat:Int)=92 then [] else if(c.toNat:Int)=9 then b++[95] else if zbP (c.toNat:Int)=false then b++[95] else if(c.toNat:Int)=34 then b++[95] else if(c.toNat:Int)=58 then b++[95] else if(c.toNat:Int)=46 then(if(b.length:Int)=0 then b else b++[c]) else b++[c]:=by
 have h0:(b.length:Int)=0↔b=[]:=by rw [← List.length_eq_zero_iff];omega
 have e1:(c.toNat:Int)=47↔c=47:=zmS c 47 (by decide)
 have e2:(c.toNat:Int)=92↔c=92:=zmS c 92 (by decide)
 have e3:(c.toNat:Int)=9↔c=9:=zmS c 9 (by decide)
 have e4:(c.toNat:Int)=34↔c=34:=zmS c 34 (by decide)
 have e5:(c.toNat:Int)=58↔c=58:=zmS c 58 (by decide)
 have e6:(c.toNat:Int)=46↔c=46:=zmS c 46 (by decide)
 simp only [e1,e2,e3,e4,e5,e6,h0];unfold VN;generalize zbP (c.toNat:Int)=k;clear e1 e2 e3 e4 e5 e6 h0
 repeat' split
 all_goals simp_all
def zbg (I:Alg) (args:List D) (hp:List HO):Option CT:=match args,hp with
 |[.v (.one (.p (.str s)))],[]=>(fun(s:Str)=>(some (.one ⟨I.hid (s.length≤1000000),(.ret (.v (.one (.p (.str (I.hid ((ziZ s)))))))),[]⟩):Option CT)) s
 |_,_=>none
theorem zmi:zx Tryz.prog 300 (zbg alg):=by
 intro args hp r h;unfold zbg at h;split at h<;>cases h
 rename_i s;simp only [CT.Good,zi];intro hneed
 refine spcG zh mixed Tryz.func300 (by kernel_rfl) { nr:=[3],keep:=some [0,2,3,4,5,7,8]} [rO,Y9] (by kernel_rfl) ?_
 intro I X hI hX
 refine orcL ?_;go_invoke;refine orcS (by kernel_rfl) ?_
 simp only [zq,Nat.reduceAdd]
 refine zB hI zh mixed [rO,Y9] hX [0,3,7,8] (fun(g:Nat × Str)=>match g with|(i,b)=>i≤s.length∧b=(s.take i).foldl VN []) (fun(g:Nat × Str)=>match g with|(i,b)=>⟨[(0,.v (.one (.p (.str s)))),(3,.v (.one (.row 0))),(7,.v (.one (.p (.int .i64 ((I.len (α:=UInt8) s)))))),(8,.v (.one (.p (.int .i64 i))))],[.row .byte 5 b],63,none⟩) (fun(g:Nat × Str)=>match g with|(i,b)=>s.length - i) (0,[]) (by kernel_rfl) (by kernel_rfl) ?_ ?_
 · exact⟨jM _,rfl⟩
 rintro⟨i,b⟩ ⟨h1,h2⟩ A hA;simp only at hA h1 h2
 refine orcL ?_;go_invoke;refine orcS (by kernel_rfl) ?_
 simp only [zq,Nat.reduceAdd];subst hI;simp only [nrmA,nrmB,nrlB,reduceCtorEq];have hs:=zoI s i;have hbl:=zsd (s.take i) [];rw [← h2] at hs hbl;rw [jv,ji] at hbl
 have hA2:i<s.length→_:=fun h=>hA (i+1,VN b (s.getD i 0)) ⟨by simp only;omega,(hs h).symm⟩ (by simp only;omega)
 have l0:=(s.getD i 0).toNat_lt;rw [zse] at hA2
 have hend: ¬ i<s.length→s.foldl VN []=b:=fun h=>by rw [h2,jq (by omega)]
 have hm: ¬ i<s.length→ziZ s=if b.take 40=[] then [102,105,108,101] else b.take 40:=fun h=>by unfold ziZ;rw [hend h]
 have hn:0<b.length→¬ b.take 40=[]:=fun h k=>by have:=congrArg List.length k;rw [jv,ji] at this;omega
 generalize s.getD i 0=c at *
 (repeat' (first|refine ja ?_ ?_|intro _))<;>first|omega|exact jb|exact jc ‹False›|skip
 all_goals first
  |omega
  |exact⟨by omega,by omega⟩
  |(simp only [jr];omega)
  |(rw [hm (by omega),if_neg (hn (by omega))];first|rfl|exact(jq (by omega)).symm)
  |(rw [hm (by omega),if_pos (by rw [List.eq_nil_of_length_eq_zero (show b.length=0 by omega)];rfl)])
  |(have h:=hA2 (by omega);(repeat(first|rw [if_pos (by first|omega|assumption)] at h|rw [if_neg (by first|omega|assumption|simpa using ‹_=true›)] at h));simp only [Int.natCast_add,Int.natCast_one] at h;exact h)
def ztC:Know Tryz.prog:=⟨300,zbg,zmi⟩
def ztB:Know Tryz.prog:=⟨300,fun I=>zy I (zbg I),zf zmi⟩
def zbj (I:Alg) (args:List D) (hp:List HO):Option CT:=match args,hp with
 |[.v (.one (.p (.str s)))],[]=>(fun(s:Str)=>(some (.one ⟨I.hid (s.length≤140737488355328),(.ret (.v (.one (.p (.bool (I.hid ((Uo s)))))))),[]⟩):Option CT)) s
 |_,_=>none
theorem zmp:zx Tryz.prog 274 (zbj alg):=by
 intro args hp r h;unfold zbj at h;split at h<;>cases h
 rename_i s;simp only [CT.Good,zi];intro hneed
 refine spcG zh mixed Tryz.func274 (by kernel_rfl) { keep:=some [0,2]} [tV,tN,Sr,Sm] (by kernel_rfl) ?_
 intro I X hI hX
 refine orcL ?_;go_invoke;refine orcS (by kernel_rfl) ?_
 simp only [zq,Nat.reduceAdd];subst hI;simp only [nrmA,nrmB,nrlB,reduceCtorEq];unfold Uo
 have h70:(70<s.length)↔((70:Int)<(s.length:Int)):=by omega
 simp only [h70]
 (repeat' (first|refine ja ?_ ?_|intro _))<;>first|omega|exact jb|exact jc ‹False›|skip
 all_goals first
  |omega
  |(rw [decide_eq_false (by omega),‹YC s=true›,decide_eq_true ‹Lib.trimS s _=s›];cases s<;>simp)
  |(simp_all;done)
def zmo:Know Tryz.prog:=⟨274,zbj,zmp⟩
def zmn:Know Tryz.prog:=⟨274,fun I=>zy I (zbj I),zf zmp⟩
end Go.Proofs.YtkjepecoodjbmaaGreatDoor
namespace Go.Proofs.YtkjepecoodjbmaaGreatDoor
open Go Go.Sep Go.Ab
def pctM:Str→Option Str
 |[]=>some []
 | c ::r=>
   if c≠37 then(pctM r).map (c:: ·)
   else match r with
    |a::b::r'=>if hexK (a.toNat:Int)<0∨hexK (b.toNat:Int)<0 then none else(pctM r').map (UInt8.ofNat (16 * hexK (a.toNat:Int)+hexK (b.toNat:Int)).toNat:: ·)
    |_=>none
def utfS:Str:=[117,116,102,45,56,39,39]
def extM (s:Str):Option Str:=if s.length<7∨lowS (s.take 7)≠utfS then none else pctM (s.drop 7)
def qE:Str:=[99,111,110,116,101,110,116,45,100,105,115,112,111,115,105,116,105,111,110]
def zmy:Str:=[99,111,110,116,101,110,116,45,116,121,112,101]
def zuB:Str:=[102,111,114,109,45,100,97,116,97]
def zvu:Str:=[110,97,109,101]
def ztv:Str:=[102,105,108,101,110,97,109,101]
def zik:Str:=[102,105,108,101,110,97,109,101,42]
def extV (s:Str):Str:=(extM s).getD []
def extB (s:Str):Bool:=(extM s).isSome
def zvj (f x:Str × Bool):Str:=if x.2=true then ziZ (extV x.1) else if f.2=true then ziZ f.1 else []
def partT (t:Str × Int):Str:=if t.2=0 then t.1 else []
def zsP (a:Str × Int) (m:Med × Int) (n f x:Str × Bool) (t:Str × Int):Prt × Int:=
 if a.2≠0 then(prt0,a.2)
 else if m.2≠0 then(prt0,m.2)
 else if m.1.word≠zuB then(prt0,11)
 else if n.2=false then(prt0,6)
 else if x.2=true∧extB x.1=false then(prt0,5)
 else if t.2=9 then(prt0,9)
 else(⟨n.1,zvj f x,partT t,[]⟩,0)
def ZR (l:List Fld):Prt × Int:=
 zsP (oneF (valsF l qE)) (wI (oneF (valsF l qE)).1) (getP (wI (oneF (valsF l qE)).1).1.params zvu) (getP (wI (oneF (valsF l qE)).1).1.params ztv) (getP (wI (oneF (valsF l qE)).1).1.params zik) (oneF (valsF l zmy))
def evP (p:Prt):Evt:=⟨5,hd0,[],p,0⟩
def evO:Evt:=⟨6,hd0,[],prt0,0⟩
def xQ (f:Fm) (c:Int):Fm:= { f with pos:=8,code:=c,out:=f.out++[evF c]}
def fmSk (f:Fm) (c:UInt8):Fm:= { f with held:=((qA f.mark f.held.toNat c).2.1:Int)}
def vH (f:Fm):Fm:=
 if(ZR f.fields).2≠0 then xQ f (ZR f.fields).2
 else if f.parts=12 then xQ f 8
 else fmSk (fmSk { f with parts:=f.parts+1,pos:=6,out:=f.out++[evP (ZR f.fields).1],skip:=2} 13) 10
def sG (f:Fm) (s:Str):Fm:=
 if s=[] then vH f
 else if f.fields.length=16 then xQ f 8
 else if(yj s).2≠0 then xQ f (yj s).2
 else { f with fields:=f.fields++[(yj s).1]}
def vg (f:Fm) (c:UInt8):Fm:=
 if f.pos=1∧c=45 then { f with pos:=2}
 else if f.pos=2∧c=45 then { f with pos:=7,out:=f.out++[evE]}
 else if f.pos≠2∧(c=32∨c=9) then { f with pos:=3}
 else if f.pos≠2∧c=13 then { f with pos:=4}
 else xQ f 5
def sN (f:Fm) (c:UInt8):Str:=(qA f.mark f.held.toNat c).1.drop (min f.skip ((qA f.mark f.held.toNat c).1.length:Int)).toNat
def uN (f:Fm) (c:UInt8):Fm:=
 if(qA f.mark f.held.toNat c).2.2=false then
  { fmSk f c with skip:=f.skip - min f.skip ((qA f.mark f.held.toNat c).1.length:Int),out:=if f.pos=6∧sN f c≠[] then f.out++[evB (sN f c)] else f.out}
 else { fmSk f c with pos:=1,skip:=0,out:=if f.pos=6 then(if sN f c≠[] then f.out++[evB (sN f c),evO] else f.out++[evO]) else f.out}
def lnOf (f:Fm):Ln:=match f.ln with|some l=>l|none=>ln0
def fmF (f:Fm) (c:UInt8):Fm:=
 if f.pos=0∨f.pos=6 then uN f c
 else if f.pos=1∨f.pos=2∨f.pos=3 then vg f c
 else if f.pos=4 then(if c≠10 then xQ f 2 else { f with pos:=5,ln:=some ln0,fields:=[]})
 else if f.pos=5 then
  if(lnF (lnOf f) c).2.2.2≠0 then xQ { f with ln:=some (lnF (lnOf f) c).1} (lnF (lnOf f) c).2.2.2
  else if(lnF (lnOf f) c).2.2.1=true then sG { f with ln:=some (lnF (lnOf f) c).1} (lnF (lnOf f) c).2.1
  else { f with ln:=some (lnF (lnOf f) c).1}
 else f
def zcF (b:Str):Str:=[13,10,45,45]++b
def fm0 (b:Str):Fm:=fmSk (fmSk ⟨zcF b,0,zac (zcF b),0,none,[],0,0,0,[]⟩ 13) 10
def Tj (f:Fm) (b:Str):Fm:=b.foldl fmF f
def xP (f:Fm) (b:Str):Fm:=Tj { f with out:=[]} b
def qm (f:Fm):Int:=if f.pos=8 then f.code else if f.pos=7 then 0 else 14
def prtS (l:List Prt) (e:Evt):List Prt:=
 if e.kind=5 then l++[e.part]
 else if e.kind=2 then(match l.getLast? with|some p=>l.dropLast++[{ p with bytes:=p.bytes++e.bytes}]|none=>l)
 else l
def YH (b x:Str):List Prt × Int:=
 if Uo b=false then([],5)
 else if qm (xP (fm0 b) x)≠0 then([],qm (xP (fm0 b) x))
 else((zH (xP (fm0 b) x).out).foldl prtS [],0)
end Go.Proofs.YtkjepecoodjbmaaGreatDoor
namespace Go.Proofs.YtkjepecoodjbmaaGreatDoor
open Go Go.Sep Go.Ab
set_option maxRecDepth 100000
def qX (I:Alg) (args:List D) (hp:List HO):Option CT:=match args,hp with
 |[.v (.one (.p (.str s))),.v (.one (.p (.str p)))],[]=>(fun(s p:Str)=>(some (.one ⟨I.hid (True),(.ret (.v (.one (.p (.bool (I.hid (Lib.hasPrefix s p))))))),[]⟩):Option CT)) s p
 |_,_=>none
theorem QE:zx Tryz.prog 48 (qX alg):=by
 intro args hp r h;unfold qX at h;split at h<;>cases h
 rename_i s p;simp only [CT.Good,zi];intro _
 refine Spc.of_below ⟨_,Tryz.func48,by kernel_rfl,by kernel_rfl⟩ fun S bs w vs _ hM=> ?_
 obtain⟨v,r,rfl⟩: ∃ v r,vs=v::r:=by cases vs with|nil=>exact hM.elim|cons v r=>exact⟨v,r,rfl⟩
 obtain⟨h1,hM⟩:=hM
 obtain⟨v2,r2,rfl⟩: ∃ v r2,r=v::r2:=by cases r with|nil=>exact hM.elim|cons v r=>exact⟨v,r,rfl⟩
 obtain⟨h2,hM⟩:=hM
 obtain rfl:r2=[]:=by cases r2 with|nil=>rfl|cons v r=>exact hM.elim
 cases h1 with
 | str _ hl1=>
   cases h2 with
   | str _ hl2=>
     refine⟨.bool (Lib.hasPrefix s p),.bool _,(Tryz.strings_HasPrefix (Sep.S s) (Sep.S p) w).mono fun e w' h=> ?_⟩;obtain⟨he,rfl⟩:=h;exact⟨he,Go.RowKit.Below.refl _ _⟩
def xG:Know Tryz.prog:=⟨48,qX,QE⟩
def xE:Know Tryz.prog:=⟨48,fun I=>zy I (qX I),zf QE⟩
def Zd (I:Alg) (args:List D) (hp:List HO):Option CT:=match args,hp with
 |[.v (.one (.p (.str s))),.v (.one (.p (.str ([c]))))],[]=>(fun(s:Str) (c:UInt8)=>(some (.one ⟨I.hid (True),(.ret (.v (.one (.p (.bool (I.hid (decide (0≤Lib.indexByte s c)))))))),[]⟩):Option CT)) s c
 |_,_=>none
theorem QY:zx Tryz.prog 211 (Zd alg):=by
 intro args hp r h;unfold Zd at h;split at h<;>cases h
 rename_i s c;simp only [CT.Good,zi];intro _
 refine Spc.of_below ⟨_,Tryz.func211,by kernel_rfl,by kernel_rfl⟩ fun S bs w vs _ hM=> ?_
 obtain⟨v,r,rfl⟩: ∃ v r,vs=v::r:=by cases vs with|nil=>exact hM.elim|cons v r=>exact⟨v,r,rfl⟩
 obtain⟨h1,hM⟩:=hM
 obtain⟨v2,r2,rfl⟩: ∃ v r2,r=v::r2:=by cases r with|nil=>exact hM.elim|cons v r=>exact⟨v,r,rfl⟩
 obtain⟨h2,hM⟩:=hM
 obtain rfl:r2=[]:=by cases r2 with|nil=>rfl|cons v r=>exact hM.elim
 cases h1 with
 | str _ hl1=>
   cases h2 with
   | str _ hl2=>
     refine⟨.bool (decide (0≤Lib.indexByte s c)),.bool _,(Tryz.strings_Contains_one (Sep.S s) c w).mono fun e w' h=> ?_⟩;obtain⟨he,rfl⟩:=h;exact⟨he,Go.RowKit.Below.refl _ _⟩
def QX:Know Tryz.prog:=⟨211,Zd,QY⟩
def QW:Know Tryz.prog:=⟨211,fun I=>zy I (Zd I),zf QY⟩
end Go.Proofs.YtkjepecoodjbmaaGreatDoor
namespace Go.Proofs.YtkjepecoodjbmaaGreatDoor
open Go Go.Sep Go.Ab
set_option maxRecDepth 100000
theorem zda (s p:Str):(Lib.trimPrefix s p).length≤s.length:=by
 unfold Lib.trimPrefix
 split
 · simp
 · exact jL _
def Zc (I:Alg) (args:List D) (hp:List HO):Option CT:=match args,hp with
 |[.v (.one (.p (.str s))),.v (.one (.p (.str p)))],[]=>(fun(s p:Str)=>(some (.one ⟨I.hid (True),(.ret (.tup [(.one (.p (.str (I.hid ((Lib.trimPrefix s p)))))),(.one (.p (.bool (I.hid (Lib.hasPrefix s p)))))])),[]⟩):Option CT)) s p
 |_,_=>none
theorem QV:zx Tryz.prog 181 (Zc alg):=by
 intro args hp r h;unfold Zc at h;split at h<;>cases h
 rename_i s p;simp only [CT.Good,zi];intro _
 refine Spc.of_below ⟨_,Tryz.func181,by kernel_rfl,by kernel_rfl⟩ fun S bs w vs _ hM=> ?_
 obtain⟨v,r,rfl⟩: ∃ v r,vs=v::r:=by cases vs with|nil=>exact hM.elim|cons v r=>exact⟨v,r,rfl⟩
 obtain⟨h1,hM⟩:=hM
 obtain⟨v2,r2,rfl⟩: ∃ v r2,r=v::r2:=by cases r with|nil=>exact hM.elim|cons v r=>exact⟨v,r,rfl⟩
 obtain⟨h2,hM⟩:=hM
 obtain rfl:r2=[]:=by cases r2 with|nil=>rfl|cons v r=>exact hM.elim
 cases h1 with
 | str _ hl1=>
   cases h2 with
   | str _ hl2=>
     refine⟨.tuple #[.string (Sep.S (Lib.trimPrefix s p)),.bool (Lib.hasPrefix s p)],⟨[.string (Sep.S (Lib.trimPrefix s p)),.bool (Lib.hasPrefix s p)],⟨.str _ (Nat.le_trans (zda _ _) hl1),.bool _,trivial⟩,rfl⟩,(Tryz.strings_CutPrefix (Sep.S s) (Sep.S p) w).mono fun e w' h=> ?_⟩;obtain⟨he,rfl⟩:=h;exact⟨he,Go.RowKit.Below.refl _ _⟩
def QT:Know Tryz.prog:=⟨181,Zc,QV⟩
def QS:Know Tryz.prog:=⟨181,fun I=>zy I (Zc I),zf QV⟩
def FOk (f:List Fld):Prop:=f.length≤1000∧∀ x ∈ f,x.name.length≤1000000∧x.value.length≤1000000
def cfgT:Cfg:= { sl:=zc0.sl++[⟨170,1000003,.byte,none⟩],fz:=[126]}
def zai (I:Alg) (args:List D) (hp:List HO):Option CT:=match args,hp with
 |[.v (.one (.p (.int .i64 st))),.v (.one (.p (.list .fld fs)))],[]=>(fun(st:Int) (fs:List Fld)=>(some (.one ⟨I.hid (True),(.pan (.ifc 165 true [(.int .i64 st),(.list .fld fs),(.list .byte (I.hid ([])))])),[]⟩):Option CT)) st fs
 |_,_=>none
theorem zkt:zx Tryz.prog 126 (zai alg):=by
 intro args hp r h;unfold zai at h;split at h<;>cases h
 rename_i st fs
 revert fs;intro(fs:List Fld)
 simp only [CT.Good,zi];intro _
 refine spcG zh mixed Tryz.func126 (by kernel_rfl) { keep:=some [0,1]} [] (by kernel_rfl) ?_
 intro I X hI hX
 refine orcL ?_;go_invoke;refine orcS (by kernel_rfl) ?_
 simp only [zq,Nat.reduceAdd]
 try trivial
def zX:Know Tryz.prog:=⟨126,zai,zkt⟩
def zW:Know Tryz.prog:=⟨126,fun I=>zy I (zai I),zf zkt⟩
def VA (I:Alg) (args:List D) (hp:List HO):Option CT:=match args,hp with
 |[.v (.one (.p (.str n))),.v (.one (.p (.str v)))],[]=>(fun(n v:Str)=>(some (.one ⟨I.hid (True),(.ret (.v (.agg [(.p (.str n)),(.p (.str v))]))),[]⟩):Option CT)) n v
 |_,_=>none
theorem zgv:zx Tryz.prog 87 (VA alg):=by
 intro args hp r h;unfold VA at h;split at h<;>cases h
 rename_i n v;simp only [CT.Good,zi];intro _
 refine spcG zh mixed Tryz.func87 (by kernel_rfl) { keep:=some [0,1,4]} [] (by kernel_rfl) ?_
 intro I X hI hX
 refine orcL ?_;go_invoke;refine orcS (by kernel_rfl) ?_
 simp only [zq,Nat.reduceAdd]
 try trivial
def yL:Know Tryz.prog:=⟨87,VA,zgv⟩
def yK:Know Tryz.prog:=⟨87,fun I=>zy I (VA I),zf zgv⟩
def ze2 (I:Alg) (args:List D) (hp:List HO):Option CT:=match args,hp with
 |[.v (.one (.p (.int .i64 n)))],[]=>(fun(n:Int)=>(some (.one ⟨I.hid (0≤n∧n<1000000000),(.ret (.v (.one (.p (.str (I.hid ((decS n)))))))),[]⟩):Option CT)) n
 |_,_=>none
theorem zop:zx Tryz.prog 127 (ze2 alg):=by
 intro args hp r h;unfold ze2 at h;split at h<;>cases h
 rename_i n;simp only [CT.Good,zi];intro hneed
 refine spcG zh mixed Tryz.func127 (by kernel_rfl) { keep:=some [0,2]} [Vg,Vf] (by kernel_rfl) ?_
 intro I X hI hX
 refine orcL ?_;go_invoke;refine orcS (by kernel_rfl) ?_
 simp only [zq,Nat.reduceAdd];subst hI;simp only [nrmA,nrmB]
 first|exact hneed|exact⟨hneed,trivial⟩|trace_state
def wS:Know Tryz.prog:=⟨127,ze2,zop⟩
def wR:Know Tryz.prog:=⟨127,fun I=>zy I (ze2 I),zf zop⟩
theorem zwp (m t:Str) (mi:Int) (f:List Fld) (le:Int) (l:List Upl) (n:Int) (b:Str) (s:Int) (nm:Str) (hneed:(FOk f∧nm.length≤1000000)∧¬ (oneT f nm).2=9):Spc Tryz.prog 128 [.v (.one (.ptr 0 0)),.v (.one (.p (.str nm)))] [.obj 170 [(.ptr 1 0),(.p (.str m)),(.p (.str t)),(.p (.int .i64 mi)),(.p (.list .fld f)),(.p (.int .i64 le))],.pack [.obj 54 [(.ptr 1 0),(.ptr 2 0)],.pack [.obj 124 [(.row 1),(.p (.int .i64 n))],.row .upl 81 l],.pack [.obj 156 [(.row 1),(.p (.int .i64 s))],.row .byte 5 b]]] (.ret (.tup [(.one (.p (.str ((oneT f nm).1)))),(.one (.p (.bool (decide ((oneT f nm).2=0)))))])) [.obj 170 [(.ptr 1 0),(.p (.str m)),(.p (.str t)),(.p (.int .i64 mi)),(.p (.list .fld f)),(.p (.int .i64 le))],.pack [.obj 54 [(.ptr 1 0),(.ptr 2 0)],.pack [.obj 124 [(.row 1),(.p (.int .i64 n))],.row .upl 81 l],.pack [.obj 156 [(.row 1),(.p (.int .i64 s))],.row .byte 5 b]]]:=by
 obtain⟨⟨hf,hn⟩,h9⟩:=hneed
 refine spcG zh mixed Tryz.func128 (by kernel_rfl) { cfgT with keep:=some [0,1,4,5,6,7]} [RX,RV,zX,zW] (by kernel_rfl) ?_
 intro I X hI hX
 refine orcL ?_;go_invoke;refine orcS (by kernel_rfl) ?_
 simp only [zq,Nat.reduceAdd];subst hI;unfold oneT at *;simp only [nrmA,nrmB,nrlB,reduceCtorEq]
 (repeat' (first|refine ja ?_ ?_|intro _))<;>first|omega|exact jb|exact jc ‹False›|skip
 all_goals first|exact hf.1|exact hn|exact hf.2|(exact(hf.2 _ ‹_›).1)|(exact(hf.2 _ ‹_›).2)|rfl|(exact⟨hf.1,hn,hf.2⟩)|(exfalso;exact h9 ‹_›)|(simp_all;done)|trace_state
theorem zwo (m t:Str) (mi:Int) (f:List Fld) (le:Int) (l:List Upl) (n:Int) (b:Str) (s:Int) (nm:Str) (hneed:(FOk f∧nm.length≤1000000)∧(oneT f nm).2=9):Spc Tryz.prog 128 [.v (.one (.ptr 0 0)),.v (.one (.p (.str nm)))] [.obj 170 [(.ptr 1 0),(.p (.str m)),(.p (.str t)),(.p (.int .i64 mi)),(.p (.list .fld f)),(.p (.int .i64 le))],.pack [.obj 54 [(.ptr 1 0),(.ptr 2 0)],.pack [.obj 124 [(.row 1),(.p (.int .i64 n))],.row .upl 81 l],.pack [.obj 156 [(.row 1),(.p (.int .i64 s))],.row .byte 5 b]]] (.pan (.ifc 165 true [(.int .i64 400),(.list .fld ([])),(.list .byte ([]))])) [.obj 170 [(.ptr 1 0),(.p (.str m)),(.p (.str t)),(.p (.int .i64 mi)),(.p (.list .fld f)),(.p (.int .i64 le))],.pack [.obj 54 [(.ptr 1 0),(.ptr 2 0)],.pack [.obj 124 [(.row 1),(.p (.int .i64 n))],.row .upl 81 l],.pack [.obj 156 [(.row 1),(.p (.int .i64 s))],.row .byte 5 b]]]:=by
 obtain⟨⟨hf,hn⟩,h9⟩:=hneed
 refine spcG zh mixed Tryz.func128 (by kernel_rfl) { cfgT with keep:=some [0,1,4,5,6,7]} [RX,RV,zX,zW] (by kernel_rfl) ?_
 intro I X hI hX
 refine orcL ?_;go_invoke;refine orcS (by kernel_rfl) ?_
 simp only [zq,Nat.reduceAdd];subst hI;unfold oneT at *;simp only [nrmA,nrmB,nrlB,reduceCtorEq]
 (repeat' (first|refine ja ?_ ?_|intro _))<;>first|omega|exact jb|exact jc ‹False›|skip
 all_goals first|exact hf.1|exact hn|exact hf.2|(exact(hf.2 _ ‹_›).1)|(exact(hf.2 _ ‹_›).2)|rfl|(exact⟨hf.1,hn,hf.2⟩)|(exfalso;contradiction)|(simp_all;done)|trace_state
def ze1 (I:Alg) (args:List D) (hp:List HO):Option CT:=match args,hp with
 |[.v (.one (.ptr 0 0)),.v (.one (.p (.str nm)))],[.obj 170 [(.ptr 1 0),(.p (.str m)),(.p (.str t)),(.p (.int .i64 mi)),(.p (.list .fld f)),(.p (.int .i64 le))],.pack [.obj 54 [(.ptr 1 0),(.ptr 2 0)],.pack [.obj 124 [(.row 1),(.p (.int .i64 n))],.row .upl 81 l],.pack [.obj 156 [(.row 1),(.p (.int .i64 s))],.row .byte 5 b]]]=>(fun(m t:Str) (mi:Int) (f:List Fld) (le:Int) (l:List Upl) (n:Int) (b:Str) (s:Int) (nm:Str)=>(some (.br (I.hid (decide ((oneT f nm).2=9))) (.one ⟨I.hid ((FOk f∧nm.length≤1000000)∧(oneT f nm).2=9),(.pan (.ifc 165 true [(.int .i64 400),(.list .fld (I.hid ([]))),(.list .byte (I.hid ([])))])),[.obj 170 [(.ptr 1 0),(.p (.str m)),(.p (.str t)),(.p (.int .i64 mi)),(.p (.list .fld f)),(.p (.int .i64 le))],.pack [.obj 54 [(.ptr 1 0),(.ptr 2 0)],.pack [.obj 124 [(.row 1),(.p (.int .i64 n))],.row .upl 81 l],.pack [.obj 156 [(.row 1),(.p (.int .i64 s))],.row .byte 5 b]]]⟩) (.one ⟨I.hid ((FOk f∧nm.length≤1000000)∧¬ (oneT f nm).2=9),(.ret (.tup [(.one (.p (.str (I.hid ((oneT f nm).1))))),(.one (.p (.bool (I.hid (decide ((oneT f nm).2=0))))))])),[.obj 170 [(.ptr 1 0),(.p (.str m)),(.p (.str t)),(.p (.int .i64 mi)),(.p (.list .fld f)),(.p (.int .i64 le))],.pack [.obj 54 [(.ptr 1 0),(.ptr 2 0)],.pack [.obj 124 [(.row 1),(.p (.int .i64 n))],.row .upl 81 l],.pack [.obj 156 [(.row 1),(.p (.int .i64 s))],.row .byte 5 b]]]⟩)):Option CT)) m t mi f le l n b s nm
 |_,_=>none
theorem zoo:zx Tryz.prog 128 (ze1 alg):=by
 intro args hp r h;unfold ze1 at h
 split at h
 · cases h;exact⟨fun _ hn=>zwo _ _ _ _ _ _ _ _ _ _ hn,fun _ hn=>zwp _ _ _ _ _ _ _ _ _ _ hn⟩
 · cases h
def wQ:Know Tryz.prog:=⟨128,ze1,zoo⟩
def wP:Know Tryz.prog:=⟨128,fun I=>zy I (ze1 I),zf zoo⟩
end Go.Proofs.YtkjepecoodjbmaaGreatDoor
namespace Go.Proofs.YtkjepecoodjbmaaGreatDoor
open Go Go.Sep Go.Ab
set_option maxRecDepth 100000
theorem Zy (f:List Fld) (n:Str):(oneT f n).2=0∨(oneT f n).2=9∨(oneT f n).2=10:=by
 unfold oneT oneF
 repeat' split
 all_goals simp
theorem zuW (m t:Str) (mi:Int) (f:List Fld) (le:Int) (l:List Upl) (n:Int) (b:Str) (s:Int) (nm:Str) (hneed:(FOk f∧nm.length≤1000000)∧Wy f nm=true):Spc Tryz.prog 178 [.v (.one (.ptr 0 0)),.v (.one (.p (.str nm)))] [.obj 170 [(.ptr 1 0),(.p (.str m)),(.p (.str t)),(.p (.int .i64 mi)),(.p (.list .fld f)),(.p (.int .i64 le))],.pack [.obj 54 [(.ptr 1 0),(.ptr 2 0)],.pack [.obj 124 [(.row 1),(.p (.int .i64 n))],.row .upl 81 l],.pack [.obj 156 [(.row 1),(.p (.int .i64 s))],.row .byte 5 b]]] (.ret (.v (.one (.p (.int .i64 ((yB f nm))))))) [.obj 170 [(.ptr 1 0),(.p (.str m)),(.p (.str t)),(.p (.int .i64 mi)),(.p (.list .fld f)),(.p (.int .i64 le))],.pack [.obj 54 [(.ptr 1 0),(.ptr 2 0)],.pack [.obj 124 [(.row 1),(.p (.int .i64 n))],.row .upl 81 l],.pack [.obj 156 [(.row 1),(.p (.int .i64 s))],.row .byte 5 b]]]:=by
 obtain⟨⟨hf,hn⟩,h9⟩:=hneed;have hcd:=Zy f nm
 refine spcG zh mixed Tryz.func178 (by kernel_rfl) { cfgT with keep:=some [0,1,4,5,6,7]} [rW,rV,zX,zW,wQ,wP] (by kernel_rfl) ?_
 intro I X hI hX
 refine orcL ?_;go_invoke;refine orcS (by kernel_rfl) ?_
 simp only [zq,Nat.reduceAdd];subst hI;unfold Wy at h9;unfold yB;simp only [nrmA,nrmB,nrlB,reduceCtorEq]
 (repeat' (first|refine ja ?_ ?_|intro _))<;>first|omega|exact jb|exact jc ‹False›|skip
 all_goals first|omega|assumption|(exact hf)|exact hf.1|(exact(hf.2 _ ‹_›).1)|(exact(hf.2 _ ‹_›).2)|(exact⟨hf,by decide⟩)|(exact⟨⟨hf,by decide⟩,‹_›⟩)|(exfalso;simp_all;done)|(simp_all;done)|(simp_all;omega)|(rcases hcd with h|h|h<;>simp_all;done)|trace_state
theorem zuV (m t:Str) (mi:Int) (f:List Fld) (le:Int) (l:List Upl) (n:Int) (b:Str) (s:Int) (nm:Str) (hneed:(FOk f∧nm.length≤1000000)∧Wy f nm=false):Spc Tryz.prog 178 [.v (.one (.ptr 0 0)),.v (.one (.p (.str nm)))] [.obj 170 [(.ptr 1 0),(.p (.str m)),(.p (.str t)),(.p (.int .i64 mi)),(.p (.list .fld f)),(.p (.int .i64 le))],.pack [.obj 54 [(.ptr 1 0),(.ptr 2 0)],.pack [.obj 124 [(.row 1),(.p (.int .i64 n))],.row .upl 81 l],.pack [.obj 156 [(.row 1),(.p (.int .i64 s))],.row .byte 5 b]]] (.pan (.ifc 165 true [(.int .i64 400),(.list .fld ([])),(.list .byte ([]))])) [.obj 170 [(.ptr 1 0),(.p (.str m)),(.p (.str t)),(.p (.int .i64 mi)),(.p (.list .fld f)),(.p (.int .i64 le))],.pack [.obj 54 [(.ptr 1 0),(.ptr 2 0)],.pack [.obj 124 [(.row 1),(.p (.int .i64 n))],.row .upl 81 l],.pack [.obj 156 [(.row 1),(.p (.int .i64 s))],.row .byte 5 b]]]:=by
 obtain⟨⟨hf,hn⟩,h9⟩:=hneed;have hcd:=Zy f nm
 refine spcG zh mixed Tryz.func178 (by kernel_rfl) { cfgT with keep:=some [0,1,4,5,6,7]} [rW,rV,zX,zW,wQ,wP] (by kernel_rfl) ?_
 intro I X hI hX
 refine orcL ?_;go_invoke;refine orcS (by kernel_rfl) ?_
 simp only [zq,Nat.reduceAdd];subst hI;unfold Wy at h9;simp only [nrmA,nrmB,nrlB,reduceCtorEq]
 (repeat' (first|refine ja ?_ ?_|intro _))<;>first|omega|exact jb|exact jc ‹False›|skip
 all_goals first|omega|assumption|(exact hf)|exact hf.1|(exact(hf.2 _ ‹_›).1)|(exact(hf.2 _ ‹_›).2)|(exact⟨hf,by decide⟩)|(exact⟨⟨hf,by decide⟩,‹_›⟩)|(exfalso;simp_all;done)|(simp_all;done)|(simp_all;omega)|(rcases hcd with h|h|h<;>simp_all;done)|trace_state
def zak (I:Alg) (args:List D) (hp:List HO):Option CT:=match args,hp with
 |[.v (.one (.ptr 0 0)),.v (.one (.p (.str nm)))],[.obj 170 [(.ptr 1 0),(.p (.str m)),(.p (.str t)),(.p (.int .i64 mi)),(.p (.list .fld f)),(.p (.int .i64 le))],.pack [.obj 54 [(.ptr 1 0),(.ptr 2 0)],.pack [.obj 124 [(.row 1),(.p (.int .i64 n))],.row .upl 81 l],.pack [.obj 156 [(.row 1),(.p (.int .i64 s))],.row .byte 5 b]]]=>(fun(m t:Str) (mi:Int) (f:List Fld) (le:Int) (l:List Upl) (n:Int) (b:Str) (s:Int) (nm:Str)=>(some (.br (I.hid (Wy f nm)) (.one ⟨I.hid ((FOk f∧nm.length≤1000000)∧Wy f nm=true),(.ret (.v (.one (.p (.int .i64 (I.hid ((yB f nm)))))))),[.obj 170 [(.ptr 1 0),(.p (.str m)),(.p (.str t)),(.p (.int .i64 mi)),(.p (.list .fld f)),(.p (.int .i64 le))],.pack [.obj 54 [(.ptr 1 0),(.ptr 2 0)],.pack [.obj 124 [(.row 1),(.p (.int .i64 n))],.row .upl 81 l],.pack [.obj 156 [(.row 1),(.p (.int .i64 s))],.row .byte 5 b]]]⟩) (.one ⟨I.hid ((FOk f∧nm.length≤1000000)∧Wy f nm=false),(.pan (.ifc 165 true [(.int .i64 400),(.list .fld (I.hid ([]))),(.list .byte (I.hid ([])))])),[.obj 170 [(.ptr 1 0),(.p (.str m)),(.p (.str t)),(.p (.int .i64 mi)),(.p (.list .fld f)),(.p (.int .i64 le))],.pack [.obj 54 [(.ptr 1 0),(.ptr 2 0)],.pack [.obj 124 [(.row 1),(.p (.int .i64 n))],.row .upl 81 l],.pack [.obj 156 [(.row 1),(.p (.int .i64 s))],.row .byte 5 b]]]⟩)):Option CT)) m t mi f le l n b s nm
 |_,_=>none
theorem zkv:zx Tryz.prog 178 (zak alg):=by
 intro args hp r h;unfold zak at h
 split at h
 · cases h;exact⟨fun _ hn=>zuW _ _ _ _ _ _ _ _ _ _ hn,fun _ hn=>zuV _ _ _ _ _ _ _ _ _ _ hn⟩
 · cases h
def sW:Know Tryz.prog:=⟨178,zak,zkv⟩
def sV:Know Tryz.prog:=⟨178,fun I=>zy I (zak I),zf zkv⟩
theorem zr4 (m t:Str) (mi:Int) (f:List Fld) (le:Int) (l:List Upl) (n:Int) (b:Str) (s:Int) (hneed:FOk f∧Uz f=true):Spc Tryz.prog 179 [.v (.one (.ptr 0 0))] [.obj 170 [(.ptr 1 0),(.p (.str m)),(.p (.str t)),(.p (.int .i64 mi)),(.p (.list .fld f)),(.p (.int .i64 le))],.pack [.obj 54 [(.ptr 1 0),(.ptr 2 0)],.pack [.obj 124 [(.row 1),(.p (.int .i64 n))],.row .upl 81 l],.pack [.obj 156 [(.row 1),(.p (.int .i64 s))],.row .byte 5 b]]] (.ret (.v (.one (.p (.bool ((zhi f))))))) [.obj 170 [(.ptr 1 0),(.p (.str m)),(.p (.str t)),(.p (.int .i64 mi)),(.p (.list .fld f)),(.p (.int .i64 le))],.pack [.obj 54 [(.ptr 1 0),(.ptr 2 0)],.pack [.obj 124 [(.row 1),(.p (.int .i64 n))],.row .upl 81 l],.pack [.obj 156 [(.row 1),(.p (.int .i64 s))],.row .byte 5 b]]]:=by
 obtain⟨hf,h9⟩:=hneed;have hcd:=Zy f zbA;unfold zbA at hcd
 refine spcG zh mixed Tryz.func179 (by kernel_rfl) { cfgT with keep:=some [0,2,3,4]} [zX,zW,wQ,wP] (by kernel_rfl) ?_
 intro I X hI hX
 refine orcL ?_;go_invoke;refine orcS (by kernel_rfl) ?_
 simp only [zq,Nat.reduceAdd];subst hI;unfold Uz zbA at h9;unfold zhi zbA;simp only [nrmA,nrmB,nrlB,reduceCtorEq]
 (repeat' (first|refine ja ?_ ?_|intro _))<;>first|omega|exact jb|exact jc ‹False›|skip
 all_goals first|omega|assumption|(exact hf)|exact hf.1|(exact(hf.2 _ ‹_›).1)|(exact(hf.2 _ ‹_›).2)|(exact⟨hf,by decide⟩)|(exact⟨⟨hf,by decide⟩,‹_›⟩)|(exfalso;simp_all;done)|(simp_all;done)|(simp_all;omega)|(rcases hcd with h|h|h<;>simp_all;done)|trace_state
theorem zr3 (m t:Str) (mi:Int) (f:List Fld) (le:Int) (l:List Upl) (n:Int) (b:Str) (s:Int) (hneed:FOk f∧Uz f=false):Spc Tryz.prog 179 [.v (.one (.ptr 0 0))] [.obj 170 [(.ptr 1 0),(.p (.str m)),(.p (.str t)),(.p (.int .i64 mi)),(.p (.list .fld f)),(.p (.int .i64 le))],.pack [.obj 54 [(.ptr 1 0),(.ptr 2 0)],.pack [.obj 124 [(.row 1),(.p (.int .i64 n))],.row .upl 81 l],.pack [.obj 156 [(.row 1),(.p (.int .i64 s))],.row .byte 5 b]]] (.pan (.ifc 165 true [(.int .i64 400),(.list .fld ([])),(.list .byte ([]))])) [.obj 170 [(.ptr 1 0),(.p (.str m)),(.p (.str t)),(.p (.int .i64 mi)),(.p (.list .fld f)),(.p (.int .i64 le))],.pack [.obj 54 [(.ptr 1 0),(.ptr 2 0)],.pack [.obj 124 [(.row 1),(.p (.int .i64 n))],.row .upl 81 l],.pack [.obj 156 [(.row 1),(.p (.int .i64 s))],.row .byte 5 b]]]:=by
 obtain⟨hf,h9⟩:=hneed;have hcd:=Zy f zbA;unfold zbA at hcd
 refine spcG zh mixed Tryz.func179 (by kernel_rfl) { cfgT with keep:=some [0,2,3,4]} [zX,zW,wQ,wP] (by kernel_rfl) ?_
 intro I X hI hX
 refine orcL ?_;go_invoke;refine orcS (by kernel_rfl) ?_
 simp only [zq,Nat.reduceAdd];subst hI;unfold Uz zbA at h9;simp only [nrmA,nrmB,nrlB,reduceCtorEq]
 (repeat' (first|refine ja ?_ ?_|intro _))<;>first|omega|exact jb|exact jc ‹False›|skip
 all_goals first|omega|assumption|(exact hf)|exact hf.1|(exact(hf.2 _ ‹_›).1)|(exact(hf.2 _ ‹_›).2)|(exact⟨hf,by decide⟩)|(exact⟨⟨hf,by decide⟩,‹_›⟩)|(exfalso;simp_all;done)|(simp_all;done)|(simp_all;omega)|(rcases hcd with h|h|h<;>simp_all;done)|trace_state
def Vz (I:Alg) (args:List D) (hp:List HO):Option CT:=match args,hp with
 |[.v (.one (.ptr 0 0))],[.obj 170 [(.ptr 1 0),(.p (.str m)),(.p (.str t)),(.p (.int .i64 mi)),(.p (.list .fld f)),(.p (.int .i64 le))],.pack [.obj 54 [(.ptr 1 0),(.ptr 2 0)],.pack [.obj 124 [(.row 1),(.p (.int .i64 n))],.row .upl 81 l],.pack [.obj 156 [(.row 1),(.p (.int .i64 s))],.row .byte 5 b]]]=>(fun(m t:Str) (mi:Int) (f:List Fld) (le:Int) (l:List Upl) (n:Int) (b:Str) (s:Int)=>(some (.br (I.hid (Uz f)) (.one ⟨I.hid (FOk f∧Uz f=true),(.ret (.v (.one (.p (.bool (I.hid ((zhi f)))))))),[.obj 170 [(.ptr 1 0),(.p (.str m)),(.p (.str t)),(.p (.int .i64 mi)),(.p (.list .fld f)),(.p (.int .i64 le))],.pack [.obj 54 [(.ptr 1 0),(.ptr 2 0)],.pack [.obj 124 [(.row 1),(.p (.int .i64 n))],.row .upl 81 l],.pack [.obj 156 [(.row 1),(.p (.int .i64 s))],.row .byte 5 b]]]⟩) (.one ⟨I.hid (FOk f∧Uz f=false),(.pan (.ifc 165 true [(.int .i64 400),(.list .fld (I.hid ([]))),(.list .byte (I.hid ([])))])),[.obj 170 [(.ptr 1 0),(.p (.str m)),(.p (.str t)),(.p (.int .i64 mi)),(.p (.list .fld f)),(.p (.int .i64 le))],.pack [.obj 54 [(.ptr 1 0),(.ptr 2 0)],.pack [.obj 124 [(.row 1),(.p (.int .i64 n))],.row .upl 81 l],.pack [.obj 156 [(.row 1),(.p (.int .i64 s))],.row .byte 5 b]]]⟩)):Option CT)) m t mi f le l n b s
 |_,_=>none
theorem zgu:zx Tryz.prog 179 (Vz alg):=by
 intro args hp r h;unfold Vz at h
 split at h
 · cases h;exact⟨fun _ hn=>zr4 _ _ _ _ _ _ _ _ _ hn,fun _ hn=>zr3 _ _ _ _ _ _ _ _ _ hn⟩
 · cases h
def zos:Know Tryz.prog:=⟨179,Vz,zgu⟩
def zor:Know Tryz.prog:=⟨179,fun I=>zy I (Vz I),zf zgu⟩
theorem zwn (c:Int) (hneed:c=0):Spc Tryz.prog 133 [.v (.one (.p (.int .i64 c)))] [] (.ret (.tup [])) []:=by
 refine spcG zh mixed Tryz.func133 (by kernel_rfl) { keep:=some [0,2,9,16]} [zX,zW] (by kernel_rfl) ?_
 intro I X hI hX
 refine orcL ?_;go_invoke;refine orcS (by kernel_rfl) ?_
 simp only [zq,Nat.reduceAdd];subst hI;simp only [nrmA,nrmB,nrlB,reduceCtorEq]
 (repeat' (first|refine ja ?_ ?_|intro _))<;>first|omega|exact jb|exact jc ‹False›|skip
 all_goals first|omega|(simp_all;done)|trace_state
theorem zwm (c:Int) (hneed: ¬ c=0):Spc Tryz.prog 133 [.v (.one (.p (.int .i64 c)))] [] (.pan (.ifc 165 true [(.int .i64 ((VG c))),(.list .fld ([])),(.list .byte ([]))])) []:=by
 generalize hr:VG c=r;unfold VG at hr
 refine spcG zh mixed Tryz.func133 (by kernel_rfl) { keep:=some [0,2,9,16]} [zX,zW] (by kernel_rfl) ?_
 intro I X hI hX
 refine orcL ?_;go_invoke;refine orcS (by kernel_rfl) ?_
 simp only [zq,Nat.reduceAdd];subst hI;simp only [nrmA,nrmB,nrlB,reduceCtorEq]
 (repeat' (first|refine ja ?_ ?_|intro _))<;>first|omega|exact jb|exact jc ‹False›|skip
 all_goals first|omega|(((repeat(first|rewrite [if_pos (by first|omega|assumption|(simp only [*,or_self,or_true,true_or,or_false,false_or,jf,jg,jd,je,and_self,and_true,true_and];done)|(simp only [*];omega)|(simp [*];done)|(simp [*];omega))] at hr|rewrite [if_neg (by first|omega|assumption|(simp only [*,or_self,or_true,true_or,or_false,false_or,jf,jg,jd,je,and_self,and_true,true_and];done)|(simp only [*];omega)|(simp [*];done)|(simp [*];omega))] at hr)));omega)|(simp_all;done)|trace_state
def ze0 (I:Alg) (args:List D) (hp:List HO):Option CT:=match args,hp with
 |[.v (.one (.p (.int .i64 c)))],[]=>(fun(c:Int)=>(some (.br (I.hid (decide (c=0))) (.one ⟨I.hid (c=0),(.ret (.tup [])),[]⟩) (.one ⟨I.hid (¬ c=0),(.pan (.ifc 165 true [(.int .i64 (I.hid ((VG c)))),(.list .fld (I.hid ([]))),(.list .byte (I.hid ([])))])),[]⟩)):Option CT)) c
 |_,_=>none
theorem zon:zx Tryz.prog 133 (ze0 alg):=by
 intro args hp r h;unfold ze0 at h
 split at h
 · cases h;exact⟨fun _ hn=>zwn _ hn,fun _ hn=>zwm _ hn⟩
 · cases h
def uD:Know Tryz.prog:=⟨133,ze0,zon⟩
def uy:Know Tryz.prog:=⟨133,fun I=>zy I (ze0 I),zf zon⟩
def ze3 (I:Alg) (args:List D) (hp:List HO):Option CT:=match args,hp with
 |[.v (.agg [(.p (.int .i64 id)),(.p (.int .i64 sz)),(.p (.str no)),(.p (.list .byte bb)),(.p (.int .i64 se))])],[]=>(fun(id sz:Int) (no bb:Str) (se:Int)=>(some (.one ⟨I.hid (sz<1000000000),(.ret (.v (.agg [(.p (.str (I.hid ((lenF ⟨id,sz,no,bb,se⟩).name)))),(.p (.str (I.hid ((lenF ⟨id,sz,no,bb,se⟩).value))))]))),[]⟩):Option CT)) id sz no bb se
 |_,_=>none
theorem zoq:zx Tryz.prog 183 (ze3 alg):=by
 intro args hp r h;unfold ze3 at h;split at h<;>cases h
 rename_i id sz no bb se;simp only [CT.Good,zi];intro hneed;generalize hr:lenF ⟨id,sz,no,bb,se⟩=r;obtain⟨a,v⟩:=r;unfold lenF at hr
 refine spcG zh mixed Tryz.func183 (by kernel_rfl) { keep:=some [0,1,2]} [yL,yK,wS,wR] (by kernel_rfl) ?_
 intro I X hI hX
 refine orcL ?_;go_invoke;refine orcS (by kernel_rfl) ?_
 simp only [zq,Nat.reduceAdd];subst hI;simp only [nrmA,nrmB,nrlB,reduceCtorEq,V0.agg.injEq];simp only at hr
 (repeat' (first|refine ja ?_ ?_|intro _))<;>first|omega|exact jb|exact jc ‹False›|skip
 all_goals first|omega|(((repeat(first|rewrite [if_pos (by first|omega|assumption|(simp only [*,or_self,or_true,true_or,or_false,false_or,jf,jg,jd,je,and_self,and_true,true_and];done)|(simp only [*];omega)|(simp [*];done)|(simp [*];omega))] at hr|rewrite [if_neg (by first|omega|assumption|(simp only [*,or_self,or_true,true_or,or_false,false_or,jf,jg,jd,je,and_self,and_true,true_and];done)|(simp only [*];omega)|(simp [*];done)|(simp [*];omega))] at hr)));cases hr;rfl)|(((repeat(first|rewrite [if_pos (by first|omega|assumption|(simp only [*,or_self,or_true,true_or,or_false,false_or,jf,jg,jd,je,and_self,and_true,true_and];done)|(simp only [*];omega)|(simp [*];done)|(simp [*];omega))] at hr|rewrite [if_neg (by first|omega|assumption|(simp only [*,or_self,or_true,true_or,or_false,false_or,jf,jg,jd,je,and_self,and_true,true_and];done)|(simp only [*];omega)|(simp [*];done)|(simp [*];omega))] at hr)));cases hr;simp [zwc,zwd];done)|(simp_all;done)|trace_state
def zuY:Know Tryz.prog:=⟨183,ze3,zoq⟩
def zuX:Know Tryz.prog:=⟨183,fun I=>zy I (ze3 I),zf zoq⟩
end Go.Proofs.YtkjepecoodjbmaaGreatDoor
namespace Go.Proofs.YtkjepecoodjbmaaGreatDoor
open Go Go.Sep Go.Ab
set_option maxRecDepth 100000
theorem zfv {f:List Fld} (hf:FOk f) (n:Str):(oneT f n).1.length≤1000000:=by
 unfold oneT oneF
 split
 · simp
 · split
   · rename_i h
     rw [jH]
     cases hq:(valsF f n)[0]? with
     |none=>simp
     | some y=>
       have:=List.mem_of_getElem? hq;unfold valsF at this;rw [List.mem_map] at this;obtain⟨x,hx,rfl⟩:=this;exact(hf.2 x (List.mem_filter.1 hx).1).2
   · simp
def Xe (I:Alg) (args:List D) (hp:List HO):Option CT:=match args,hp with
 |[.v (.one (.ptr 0 0))],[.obj 170 [(.ptr 1 0),(.p (.str m)),(.p (.str t)),(.p (.int .i64 mi)),(.p (.list .fld f)),(.p (.int .i64 le))],.pack [.obj 54 [(.ptr 1 0),(.ptr 2 0)],.pack [.obj 124 [(.row 1),(.p (.int .i64 n))],.row .upl 81 l],.pack [.obj 156 [(.row 1),(.p (.int .i64 s))],.row .byte 5 b]]]=>(fun(m t:Str) (mi:Int) (f:List Fld) (le:Int) (l:List Upl) (n:Int) (b:Str) (s:Int)=>(some (.one ⟨I.hid (FOk f∧zQ l n∧n≤200000∧b.length≤100000),(.pan (.ifc 165 true [(.int .i64 (I.hid ((vO ⟨l,n,b,s⟩ f).st))),(.list .fld (I.hid ((vO ⟨l,n,b,s⟩ f).fs))),(.list .byte (I.hid ([])))])),[.obj 170 [(.ptr 1 0),(.p (.str m)),(.p (.str t)),(.p (.int .i64 mi)),(.p (.list .fld f)),(.p (.int .i64 le))],.pack [.obj 54 [(.ptr 1 0),(.ptr 2 0)],.pack [.obj 124 [(.row 1),(.p (.int .i64 (I.hid ((vO ⟨l,n,b,s⟩ f).q.n))))],.row .upl 81 (I.hid ((vO ⟨l,n,b,s⟩ f).q.l))],.pack [.obj 156 [(.row 1),(.p (.int .i64 (I.hid ((vO ⟨l,n,b,s⟩ f).q.s))))],.row .byte 5 (I.hid ((vO ⟨l,n,b,s⟩ f).q.b))]]]⟩):Option CT)) m t mi f le l n b s
 |_,_=>none
set_option maxHeartbeats 2000000 in
theorem zdx:zx Tryz.prog 129 (Xe alg):=by
 intro args hp r h;unfold Xe at h;split at h<;>cases h
 rename_i m t mi f le n l s b
 revert f l;intro(f:List Fld) (l:List Upl)
 simp only [CT.Good,zi];intro hneed;obtain⟨hf,hs,hn,hb⟩:=hneed;have hn0:=hs.n0;have hdl:=uO (n+1);have hcm:=Zy f ziP;have hol:=zfv hf ziP;generalize hr:vO ⟨l,n,b,s⟩ f=r;obtain⟨st,fs,⟨l',n',b',s'⟩⟩:=r;unfold vO creE wsC wsS syS at hr
 refine spcG zh mixed Tryz.func129 (by kernel_rfl) { cfgT with keep:=some [0,2,3,4,6,7]} [Qm,Ql,zU,zT,zX,zW,yL,yK,wS,wR,wQ,wP,sW,sV,zos,zor,uD,uy] (by kernel_rfl) ?_
 intro I X hI hX
 refine orcL ?_;go_invoke;refine orcS (by kernel_rfl) ?_
 simp only [zq,Nat.reduceAdd];subst hI;unfold xN ziP at *;unfold locN xg at hr;simp only at hr;simp only [nrmA,nrmB,nrlB,reduceCtorEq,HO.pack.injEq,HO.obj.injEq]
 by_cases h1:Wy f [117,112,108,111,97,100,45,108,101,110,103,116,104]=false
 · rw [if_pos h1] at hr
   cases hr
   (repeat' (first|refine ja ?_ ?_|intro _))<;>first|omega|exact jb|exact jc ‹False›|skip
   all_goals first
    |omega
    |assumption
    |exact hs
    |exact hf.1
    |(exact(hf.2 _ ‹_›).1)
    |(exact(hf.2 _ ‹_›).2)
    |(simp only [jh,ji];omega)
    |(simp_all;done)
    |(exfalso;simp_all;done)
    |(simp only [wrtL,wrtN,wrtB,if_neg h5];done)
 rw [if_neg h1] at hr;simp only [Bool.not_eq_false] at h1
 by_cases h2:Uz f=false
 · rw [if_pos h2] at hr
   cases hr
   (repeat' (first|refine ja ?_ ?_|intro _))<;>first|omega|exact jb|exact jc ‹False›|skip
   all_goals first
    |omega
    |assumption
    |exact hs
    |exact hf.1
    |(exact(hf.2 _ ‹_›).1)
    |(exact(hf.2 _ ‹_›).2)
    |(simp only [jh,ji];omega)
    |(simp_all;done)
    |(exfalso;simp_all;done)
    |(simp only [wrtL,wrtN,wrtB,if_neg h5];done)
 rw [if_neg h2] at hr;simp only [Bool.not_eq_false] at h2
 by_cases h3:decide (0≤yB f [117,112,108,111,97,100,45,108,101,110,103,116,104])=zhi f
 · rw [if_pos h3] at hr
   cases hr
   (repeat' (first|refine ja ?_ ?_|intro _))<;>first|omega|exact jb|exact jc ‹False›|skip
   all_goals first
    |omega
    |assumption
    |exact hs
    |exact hf.1
    |(exact(hf.2 _ ‹_›).1)
    |(exact(hf.2 _ ‹_›).2)
    |(simp only [jh,ji];omega)
    |(simp_all;done)
    |(exfalso;simp_all;done)
    |(simp only [wrtL,wrtN,wrtB,if_neg h5];done)
 rw [if_neg h3] at hr
 by_cases h4:(oneT f [117,112,108,111,97,100,45,109,101,116,97,100,97,116,97]).2=9
 · rw [if_pos h4] at hr
   cases hr
   (repeat' (first|refine ja ?_ ?_|intro _))<;>first|omega|exact jb|exact jc ‹False›|skip
   all_goals first
    |omega
    |assumption
    |exact hs
    |exact hf.1
    |(exact(hf.2 _ ‹_›).1)
    |(exact(hf.2 _ ‹_›).2)
    |(simp only [jh,ji];omega)
    |(simp_all;done)
    |(exfalso;simp_all;done)
    |(simp only [wrtL,wrtN,wrtB,if_neg h5];done)
 rw [if_neg h4] at hr;generalize(oneT f [117,112,108,111,97,100,45,109,101,116,97,100,97,116,97]).1=mt at *;generalize yB f [117,112,108,111,97,100,45,108,101,110,103,116,104]=nv at *
 by_cases h5:wrtC l n b ⟨1,n+1,nv,mt⟩=0
 · rw [if_neg (fun h=>h h5)] at hr
   cases hr;simp only [h5,if_true] at *
   (repeat' (first|refine ja ?_ ?_|intro _))<;>first|omega|exact jb|exact jc ‹False›|skip
   all_goals first
    |omega
    |assumption
    |exact hs
    |exact hf.1
    |(exact(hf.2 _ ‹_›).1)
    |(exact(hf.2 _ ‹_›).2)
    |(simp only [jh,ji];omega)
    |(simp_all;done)
    |(exfalso;simp_all;done)
    |(simp only [wrtL,wrtN,wrtB,if_neg h5];done)
 · rw [if_pos h5] at hr
   cases hr
   (repeat' (first|refine ja ?_ ?_|intro _))<;>first|omega|exact jb|exact jc ‹False›|skip
   all_goals first
    |omega
    |assumption
    |exact hs
    |exact hf.1
    |(exact(hf.2 _ ‹_›).1)
    |(exact(hf.2 _ ‹_›).2)
    |(simp only [jh,ji];omega)
    |(simp_all;done)
    |(exfalso;simp_all;done)
    |(simp only [wrtL,wrtN,wrtB,if_neg h5];done)
def Zu:Know Tryz.prog:=⟨129,Xe,zdx⟩
def Zt:Know Tryz.prog:=⟨129,fun I=>zy I (Xe I),zf zdx⟩
theorem zwl (m t:Str) (mi:Int) (f:List Fld) (le:Int) (l:List Upl) (n:Int) (b:Str) (s:Int) (hneed:zQ l n∧uplB ⟨l,n,b,s⟩ t=true):Spc Tryz.prog 130 [.v (.one (.ptr 0 0))] [.obj 170 [(.ptr 1 0),(.p (.str m)),(.p (.str t)),(.p (.int .i64 mi)),(.p (.list .fld f)),(.p (.int .i64 le))],.pack [.obj 54 [(.ptr 1 0),(.ptr 2 0)],.pack [.obj 124 [(.row 1),(.p (.int .i64 n))],.row .upl 81 l],.pack [.obj 156 [(.row 1),(.p (.int .i64 s))],.row .byte 5 b]]] (.ret (.v (.agg [(.p (.int .i64 ((getU l (idV t)).id))),(.p (.int .i64 ((getU l (idV t)).size))),(.p (.str ((getU l (idV t)).note))),(.p (.list .byte ((getU l (idV t)).bytes))),(.p (.int .i64 ((getU l (idV t)).sent)))]))) [.obj 170 [(.ptr 1 0),(.p (.str m)),(.p (.str t)),(.p (.int .i64 mi)),(.p (.list .fld f)),(.p (.int .i64 le))],.pack [.obj 54 [(.ptr 1 0),(.ptr 2 0)],.pack [.obj 124 [(.row 1),(.p (.int .i64 n))],.row .upl 81 l],.pack [.obj 156 [(.row 1),(.p (.int .i64 s))],.row .byte 5 b]]]:=by
 obtain⟨hs,hu⟩:=hneed;have hnn:=vZ (t.drop 7);have hnx:=vZ (Lib.trimPrefix t xg)
 have htp:Lib.hasPrefix t xg=true→Lib.trimPrefix t xg=t.drop 7:=fun h=>by unfold Lib.trimPrefix;rw [if_pos h];rfl
 unfold uplB idB idV at hu
 try unfold idV
 refine spcG zh mixed Tryz.func130 (by kernel_rfl) { cfgT with keep:=some [0,2,3,4,5,6,7]} [rW,rV,Xn,Xm,Rf,S9,QT,QS,zX,zW,wS,wR] (by kernel_rfl) ?_
 intro I X hI hX
 refine orcL ?_;go_invoke;refine orcS (by kernel_rfl) ?_
 simp only [zq,Nat.reduceAdd];subst hI;rw [show([47,102,105,108,101,115,47]:Str)=xg from rfl];simp only [nrmA,nrmB,nrlB,reduceCtorEq,HO.pack.injEq,HO.obj.injEq];generalize Lib.hasPrefix t xg=hb at *
 cases hb with
 | true=>
   rw [htp rfl] at *;generalize t.drop 7=tt at *;generalize numA tt 10 9=na at *;obtain⟨nv,ok⟩:=na;simp only [Bool.true_and] at *
   (repeat' (first|refine ja ?_ ?_|intro _))<;>first|omega|exact jb|exact jc ‹False›|skip
   all_goals first|omega|assumption|exact hs|(simp_all;done)|trace_state
 | false=>
   simp only [Bool.false_and] at *
   (repeat' (first|refine ja ?_ ?_|intro _))<;>first|omega|exact jb|exact jc ‹False›|skip
   all_goals first|omega|assumption|exact hs|(simp_all;done)|trace_state
theorem zwk (m t:Str) (mi:Int) (f:List Fld) (le:Int) (l:List Upl) (n:Int) (b:Str) (s:Int) (hneed:zQ l n∧uplB ⟨l,n,b,s⟩ t=false):Spc Tryz.prog 130 [.v (.one (.ptr 0 0))] [.obj 170 [(.ptr 1 0),(.p (.str m)),(.p (.str t)),(.p (.int .i64 mi)),(.p (.list .fld f)),(.p (.int .i64 le))],.pack [.obj 54 [(.ptr 1 0),(.ptr 2 0)],.pack [.obj 124 [(.row 1),(.p (.int .i64 n))],.row .upl 81 l],.pack [.obj 156 [(.row 1),(.p (.int .i64 s))],.row .byte 5 b]]] (.pan (.ifc 165 true [(.int .i64 404),(.list .fld ([])),(.list .byte ([]))])) [.obj 170 [(.ptr 1 0),(.p (.str m)),(.p (.str t)),(.p (.int .i64 mi)),(.p (.list .fld f)),(.p (.int .i64 le))],.pack [.obj 54 [(.ptr 1 0),(.ptr 2 0)],.pack [.obj 124 [(.row 1),(.p (.int .i64 n))],.row .upl 81 l],.pack [.obj 156 [(.row 1),(.p (.int .i64 s))],.row .byte 5 b]]]:=by
 obtain⟨hs,hu⟩:=hneed;have hnn:=vZ (t.drop 7);have hnx:=vZ (Lib.trimPrefix t xg)
 have htp:Lib.hasPrefix t xg=true→Lib.trimPrefix t xg=t.drop 7:=fun h=>by unfold Lib.trimPrefix;rw [if_pos h];rfl
 unfold uplB idB idV at hu
 try unfold idV
 refine spcG zh mixed Tryz.func130 (by kernel_rfl) { cfgT with keep:=some [0,2,3,4,5,6,7]} [rW,rV,Xn,Xm,Rf,S9,QT,QS,zX,zW,wS,wR] (by kernel_rfl) ?_
 intro I X hI hX
 refine orcL ?_;go_invoke;refine orcS (by kernel_rfl) ?_
 simp only [zq,Nat.reduceAdd];subst hI;rw [show([47,102,105,108,101,115,47]:Str)=xg from rfl];simp only [nrmA,nrmB,nrlB,reduceCtorEq,HO.pack.injEq,HO.obj.injEq];generalize Lib.hasPrefix t xg=hb at *
 cases hb with
 | true=>
   rw [htp rfl] at *;generalize t.drop 7=tt at *;generalize numA tt 10 9=na at *;obtain⟨nv,ok⟩:=na;simp only [Bool.true_and] at *
   (repeat' (first|refine ja ?_ ?_|intro _))<;>first|omega|exact jb|exact jc ‹False›|skip
   all_goals first|omega|assumption|exact hs|(simp_all;done)|trace_state
 | false=>
   simp only [Bool.false_and] at *
   (repeat' (first|refine ja ?_ ?_|intro _))<;>first|omega|exact jb|exact jc ‹False›|skip
   all_goals first|omega|assumption|exact hs|(simp_all;done)|trace_state
def zeZ (I:Alg) (args:List D) (hp:List HO):Option CT:=match args,hp with
 |[.v (.one (.ptr 0 0))],[.obj 170 [(.ptr 1 0),(.p (.str m)),(.p (.str t)),(.p (.int .i64 mi)),(.p (.list .fld f)),(.p (.int .i64 le))],.pack [.obj 54 [(.ptr 1 0),(.ptr 2 0)],.pack [.obj 124 [(.row 1),(.p (.int .i64 n))],.row .upl 81 l],.pack [.obj 156 [(.row 1),(.p (.int .i64 s))],.row .byte 5 b]]]=>(fun(m t:Str) (mi:Int) (f:List Fld) (le:Int) (l:List Upl) (n:Int) (b:Str) (s:Int)=>(some (.br (I.hid (uplB ⟨l,n,b,s⟩ t)) (.one ⟨I.hid (zQ l n∧uplB ⟨l,n,b,s⟩ t=true),(.ret (.v (.agg [(.p (.int .i64 (I.hid ((getU l (idV t)).id)))),(.p (.int .i64 (I.hid ((getU l (idV t)).size)))),(.p (.str (I.hid ((getU l (idV t)).note)))),(.p (.list .byte (I.hid ((getU l (idV t)).bytes)))),(.p (.int .i64 (I.hid ((getU l (idV t)).sent))))]))),[.obj 170 [(.ptr 1 0),(.p (.str m)),(.p (.str t)),(.p (.int .i64 mi)),(.p (.list .fld f)),(.p (.int .i64 le))],.pack [.obj 54 [(.ptr 1 0),(.ptr 2 0)],.pack [.obj 124 [(.row 1),(.p (.int .i64 n))],.row .upl 81 l],.pack [.obj 156 [(.row 1),(.p (.int .i64 s))],.row .byte 5 b]]]⟩) (.one ⟨I.hid (zQ l n∧uplB ⟨l,n,b,s⟩ t=false),(.pan (.ifc 165 true [(.int .i64 404),(.list .fld (I.hid ([]))),(.list .byte (I.hid ([])))])),[.obj 170 [(.ptr 1 0),(.p (.str m)),(.p (.str t)),(.p (.int .i64 mi)),(.p (.list .fld f)),(.p (.int .i64 le))],.pack [.obj 54 [(.ptr 1 0),(.ptr 2 0)],.pack [.obj 124 [(.row 1),(.p (.int .i64 n))],.row .upl 81 l],.pack [.obj 156 [(.row 1),(.p (.int .i64 s))],.row .byte 5 b]]]⟩)):Option CT)) m t mi f le l n b s
 |_,_=>none
theorem zok:zx Tryz.prog 130 (zeZ alg):=by
 intro args hp r h;unfold zeZ at h
 split at h
 · cases h;exact⟨fun _ hn=>zwl _ _ _ _ _ _ _ _ _ hn,fun _ hn=>zwk _ _ _ _ _ _ _ _ _ hn⟩
 · cases h
def zbF:Know Tryz.prog:=⟨130,zeZ,zok⟩
def zbE:Know Tryz.prog:=⟨130,fun I=>zy I (zeZ I),zf zok⟩
def zah (I:Alg) (args:List D) (hp:List HO):Option CT:=match args,hp with
 |[.v (.one (.ptr 0 0)),.v (.agg [(.p (.int .i64 ui)),(.p (.int .i64 uz)),(.p (.str uo)),(.p (.list .byte ub)),(.p (.int .i64 us))])],[.obj 170 [(.ptr 1 0),(.p (.str m)),(.p (.str t)),(.p (.int .i64 mi)),(.p (.list .fld f)),(.p (.int .i64 le))],.pack [.obj 54 [(.ptr 1 0),(.ptr 2 0)],.pack [.obj 124 [(.row 1),(.p (.int .i64 n))],.row .upl 81 l],.pack [.obj 156 [(.row 1),(.p (.int .i64 s))],.row .byte 5 b]]]=>(fun(m t:Str) (mi:Int) (f:List Fld) (le:Int) (l:List Upl) (n:Int) (b:Str) (s:Int) (ui uz:Int) (uo ub:Str) (us:Int)=>(some (.one ⟨I.hid (uz<1000000000∧ub.length<1000000),(.pan (.ifc 165 true [(.int .i64 200),(.list .fld (I.hid ((zdb ⟨ui,uz,uo,ub,us⟩)))),(.list .byte (I.hid ([])))])),[.obj 170 [(.ptr 1 0),(.p (.str m)),(.p (.str t)),(.p (.int .i64 mi)),(.p (.list .fld f)),(.p (.int .i64 le))],.pack [.obj 54 [(.ptr 1 0),(.ptr 2 0)],.pack [.obj 124 [(.row 1),(.p (.int .i64 n))],.row .upl 81 l],.pack [.obj 156 [(.row 1),(.p (.int .i64 s))],.row .byte 5 b]]]⟩):Option CT)) m t mi f le l n b s ui uz uo ub us
 |_,_=>none
theorem zks:zx Tryz.prog 131 (zah alg):=by
 intro args hp r h;unfold zah at h;split at h<;>cases h
 rename_i ui uz uo ub us m t mi f le n l s b
 revert f l;intro(f:List Fld) (l:List Upl)
 simp only [CT.Good,zi];intro hneed;obtain⟨h1,h2⟩:=hneed;generalize hr:zdb ⟨ui,uz,uo,ub,us⟩=r;unfold zdb at hr;generalize hl:lenF ⟨ui,uz,uo,ub,us⟩=lf at hr;obtain⟨ln,lv⟩:=lf
 refine spcG zh mixed Tryz.func131 (by kernel_rfl) { cfgT with keep:=some [0,1,3,4]} [zX,zW,yL,yK,wS,wR,zuY,zuX] (by kernel_rfl) ?_
 intro I X hI hX
 refine orcL ?_;go_invoke;refine orcS (by kernel_rfl) ?_
 simp only [zq,Nat.reduceAdd];subst hI;simp only at hr;simp only [nrmA,nrmB,nrlB,reduceCtorEq,HO.pack.injEq,HO.obj.injEq];rw [hl]
 (repeat' (first|refine ja ?_ ?_|intro _))<;>first|omega|exact jb|exact jc ‹False›|skip
 all_goals first|omega|with_reducible assumption|(subst hr;simp_all;done)|(subst hr;(simp_all [zbz,zxA,zwV,zwb]);done)|trace_state
def Vw:Know Tryz.prog:=⟨131,zah,zks⟩
def Vu:Know Tryz.prog:=⟨131,fun I=>zy I (zah I),zf zks⟩
end Go.Proofs.YtkjepecoodjbmaaGreatDoor
namespace Go.Proofs.YtkjepecoodjbmaaGreatDoor
open Go Go.Sep Go.Ab
set_option maxRecDepth 100000
theorem Zq {l:List Upl} {n:Int} {b:Str} {e:Ent} (h:e.kind≠1):wrtN l n b e=n:=by
 unfold wrtN zdf;rw [if_neg h]
 split<;>rfl
def Vy (I:Alg) (args:List D) (hp:List HO):Option CT:=match args,hp with
 |[.v (.one (.ptr 0 0)),.v (.agg [(.p (.int .i64 ui)),(.p (.int .i64 uz)),(.p (.str uo)),(.p (.list .byte ub)),(.p (.int .i64 us))]),.v (.one (.p (.list .byte body)))],[.obj 170 [(.ptr 1 0),(.p (.str m)),(.p (.str t)),(.p (.int .i64 mi)),(.p (.list .fld f)),(.p (.int .i64 le))],.pack [.obj 54 [(.ptr 1 0),(.ptr 2 0)],.pack [.obj 124 [(.row 1),(.p (.int .i64 n))],.row .upl 81 l],.pack [.obj 156 [(.row 1),(.p (.int .i64 s))],.row .byte 5 b]]]=>(fun(m t:Str) (mi:Int) (f:List Fld) (le:Int) (l:List Upl) (n:Int) (b:Str) (s:Int) (ui uz:Int) (uo ub:Str) (us:Int) (body:Str)=>(some (.one ⟨I.hid (FOk f∧zQ l n∧n≤200000∧b.length≤100000∧body.length≤100000∧ub.length≤1000000∧uz≤1000000),(.pan (.ifc 165 true [(.int .i64 (I.hid ((tJ ⟨l,n,b,s⟩ ⟨ui,uz,uo,ub,us⟩ f body).st))),(.list .fld (I.hid ((tJ ⟨l,n,b,s⟩ ⟨ui,uz,uo,ub,us⟩ f body).fs))),(.list .byte (I.hid ([])))])),[.obj 170 [(.ptr 1 0),(.p (.str m)),(.p (.str t)),(.p (.int .i64 mi)),(.p (.list .fld f)),(.p (.int .i64 le))],.pack [.obj 54 [(.ptr 1 0),(.ptr 2 0)],.pack [.obj 124 [(.row 1),(.p (.int .i64 (I.hid ((tJ ⟨l,n,b,s⟩ ⟨ui,uz,uo,ub,us⟩ f body).q.n))))],.row .upl 81 (I.hid ((tJ ⟨l,n,b,s⟩ ⟨ui,uz,uo,ub,us⟩ f body).q.l))],.pack [.obj 156 [(.row 1),(.p (.int .i64 (I.hid ((tJ ⟨l,n,b,s⟩ ⟨ui,uz,uo,ub,us⟩ f body).q.s))))],.row .byte 5 (I.hid ((tJ ⟨l,n,b,s⟩ ⟨ui,uz,uo,ub,us⟩ f body).q.b))]]]⟩):Option CT)) m t mi f le l n b s ui uz uo ub us body
 |_,_=>none
set_option maxHeartbeats 8000000 in
theorem zgt:zx Tryz.prog 132 (Vy alg):=by
 intro args hp r h;unfold Vy at h;split at h<;>cases h
 rename_i ui uz uo ub us body m t mi f le n l s b
 revert f l;intro(f:List Fld) (l:List Upl)
 simp only [CT.Good,zi];intro hneed;obtain⟨hf,hs,hn,hb,hbl,hub,huz⟩:=hneed;have hn0:=hs.n0;have hcm:=Zy f Yc;have hol:=zfv hf Yc;have hs2:=zdp hs b (apE ui body)
 have hnn:wrtN l n b (apE ui body)=n:=Zq (by simp [apE])
 have hbb:=Y8 (l:=l) (n:=n) (b:=b) (apE ui body) hb;generalize hr:tJ ⟨l,n,b,s⟩ ⟨ui,uz,uo,ub,us⟩ f body=r;obtain⟨st,fs,⟨l',n',b',s'⟩⟩:=r;unfold tJ wsC wsS syS at hr;simp only at hr
 refine spcG zh mixed Tryz.func132 (by kernel_rfl) { cfgT with seam:=[5,10,17],keep:=some [0,1,2,4,6,8,9,10,11]} [vT,vS,xB,xA,xw,xu,zU,zT,xk,xh,zX,zW,yL,yK,wS,wR,wQ,wP,sW,sV,uD,uy] (by kernel_rfl) ?_
 intro I X hI hX
 refine orcL ?_;go_invoke;refine orcS (by kernel_rfl) ?_
 simp only [zq,Nat.reduceAdd]
 have hh: ∀ {α:Type} (x:α),I.hid x=x:=by subst hI;intros;rfl
 have key17: ∀ (nv sz:Int),nv=(ub.length:Int)→(if(if apG l ui nv then 17 else wrtC l n b (apE ui body))≠0 then(⟨VG (if apG l ui nv then 17 else wrtC l n b (apE ui body)),[],⟨l,n,b,s⟩⟩:TA)
  else if 0≤sz∧uz<0 then
   if wrtC (wrtL l n b (apE ui body)) (wrtN l n b (apE ui body)) (wrtB l n b (apE ui body)) ⟨3,ui,sz,[]⟩≠0 then(⟨VG (wrtC (wrtL l n b (apE ui body)) (wrtN l n b (apE ui body)) (wrtB l n b (apE ui body)) ⟨3,ui,sz,[]⟩),[],⟨wrtL l n b (apE ui body),wrtN l n b (apE ui body),wrtB l n b (apE ui body),s⟩⟩:TA)
   else(⟨204,[⟨zbz,decS (nv+(body.length:Int))⟩],⟨wrtL (wrtL l n b (apE ui body)) (wrtN l n b (apE ui body)) (wrtB l n b (apE ui body)) ⟨3,ui,sz,[]⟩,wrtN (wrtL l n b (apE ui body)) (wrtN l n b (apE ui body)) (wrtB l n b (apE ui body)) ⟨3,ui,sz,[]⟩,wrtB (wrtL l n b (apE ui body)) (wrtN l n b (apE ui body)) (wrtB l n b (apE ui body)) ⟨3,ui,sz,[]⟩,((wrtB (wrtL l n b (apE ui body)) (wrtN l n b (apE ui body)) (wrtB l n b (apE ui body)) ⟨3,ui,sz,[]⟩).length:Int)⟩⟩:TA)
  else(⟨204,[⟨zbz,decS (nv+(body.length:Int))⟩],⟨wrtL l n b (apE ui body),wrtN l n b (apE ui body),wrtB l n b (apE ui body),((wrtB l n b (apE ui body)).length:Int)⟩⟩:TA))=⟨st,fs,⟨l',n',b',s'⟩⟩→Ok Tryz.prog X (fun o h=>o=AOut.pan (C.ifc 165 true [P.int IntKind.i64 st,P.list U.fld fs,P.list U.byte []])∧h=[HO.obj 170 [C.ptr 1 0,C.p (P.str m),C.p (P.str t),C.p (P.int IntKind.i64 mi),C.p (P.list U.fld f),C.p (P.int IntKind.i64 le)],HO.pack [HO.obj 54 [C.ptr 1 0,C.ptr 2 0],HO.pack [HO.obj 124 [C.row 1,C.p (P.int IntKind.i64 n')],HO.row U.upl 81 l'],HO.pack [HO.obj 156 [C.row 1,C.p (P.int IntKind.i64 s')],HO.row U.byte 5 b']]]) (go I tab { cfgT with seam:=[5,10,17],keep:=some [0,1,2,4,6,8,9,10,11]} [vT,vS,xB,xA,xw,xu,zU,zT,xk,xh,zX,zW,yL,yK,wS,wR,wQ,wP,sW,sV,uD,uy] [⟨vV Tryz.f132,finK I tab { cfgT with seam:=[5,10,17],keep:=some [0,1,2,4,6,8,9,10,11]} 2 Tryz.f132⟩] 0 [1,1,1,1,1,1,1,1,0] ⟨[(0,.v (.one (.ptr 0 0))),(1,.v (.agg [(.p (.int .i64 ui)),(.p (.int .i64 uz)),(.p (.str uo)),(.p (.list .byte ub)),(.p (.int .i64 us))])),(2,.v (.one (.p (.list .byte body)))),(4,.v (.one (.ptr 2 0))),(10,.v (.one (.p (.int .i64 nv)))),(11,.v (.one (.p (.int .i64 sz))))],[.obj 170 [(.ptr 1 0),(.p (.str m)),(.p (.str t)),(.p (.int .i64 mi)),(.p (.list .fld f)),(.p (.int .i64 le))],.pack [.obj 54 [(.ptr 1 0),(.ptr 2 0)],.pack [.obj 124 [(.row 1),(.p (.int .i64 n))],.row .upl 81 l],.pack [.obj 156 [(.row 1),(.p (.int .i64 s))],.row .byte 5 b]],.pack [.obj 81 [(.p (.int .i64 ui)),(.p (.int .i64 uz)),(.p (.str uo)),(.p (.list .byte ub)),(.p (.int .i64 us))]]],131,none⟩):=by
  intro nv sz hnv hr
  refine orcL ?_;go_invoke;refine orcS (by kernel_rfl) ?_
  simp only [zq,Nat.reduceAdd];clear hX hcm hol;unfold zbz at hr;unfold apE at *;subst hI;simp only [nrmA,nrmB,nrlB,reduceCtorEq,HO.pack.injEq,HO.obj.injEq]
  by_cases hg:apG l ui nv=true
  · simp only [hg,if_true] at hr ⊢
    rw [if_pos (by decide)] at hr
    clear hs2 hnn hbb;simp only [TA.mk.injEq,Sto.mk.injEq] at hr;obtain⟨q1,q2,q3,q4,q5,q6⟩:=hr;subst q1 q2 q3 q4 q5 q6;simp only [nrmA,nrmB,nrlB,reduceCtorEq,HO.pack.injEq,HO.obj.injEq,decide_true,decide_false,je,jd,forall_const,false_implies,true_implies,jf,jg]
    (repeat' (first|refine ja ?_ ?_|intro _))<;>first|omega|exact jb|exact jc ‹False›|skip
    all_goals first
     |with_reducible rfl
     |with_reducible assumption
     |omega
     |exact hs
     |exact hf.1
     |(exact(hf.2 _ ‹_›).1)
     |(exact(hf.2 _ ‹_›).2)
     |exact⟨hf,by decide⟩
     |exact⟨⟨hf,by decide⟩,by assumption⟩
     |(simp only [jh,ji];omega)
     |(exfalso;simp_all;done)
  simp only [hg,jd,if_false] at hr ⊢;clear hg
  by_cases h1:wrtC l n b ⟨2,ui,0,body⟩=0
  · rw [if_neg (fun h=>h h1)] at hr
    simp only [h1] at ⊢
    clear h1;generalize wrtL l n b ⟨2,ui,0,body⟩=l2 at *;generalize wrtN l n b ⟨2,ui,0,body⟩=n2 at *;generalize wrtB l n b ⟨2,ui,0,body⟩=b2 at *
    by_cases h2:0≤sz∧uz<0
    · rw [if_pos h2] at hr
      by_cases h3:wrtC l2 n2 b2 ⟨3,ui,sz,[]⟩=0
      · rw [if_neg (fun h=>h h3)] at hr
        simp only [TA.mk.injEq,Sto.mk.injEq] at hr;obtain⟨q1,q2,q3,q4,q5,q6⟩:=hr;subst q1 q2 q3 q4 q5 q6
        simp only [h3] at ⊢
        clear h3;simp only [nrmA,nrmB,nrlB,reduceCtorEq,HO.pack.injEq,HO.obj.injEq,decide_true,decide_false,je,jd,forall_const,false_implies,true_implies,jf,jg]
        (repeat' (first|refine ja ?_ ?_|intro _))<;>first|omega|exact jb|exact jc ‹False›|skip
        all_goals first
         |with_reducible rfl
         |with_reducible assumption
         |omega
         |exact hs
         |exact hf.1
         |(exact(hf.2 _ ‹_›).1)
         |(exact(hf.2 _ ‹_›).2)
         |exact⟨hf,by decide⟩
         |exact⟨⟨hf,by decide⟩,by assumption⟩
         |(simp only [jh,ji];omega)
         |(exfalso;simp_all;done)
      · rw [if_pos h3] at hr
        simp only [TA.mk.injEq,Sto.mk.injEq] at hr;obtain⟨q1,q2,q3,q4,q5,q6⟩:=hr;subst q1 q2 q3 q4 q5 q6
        have e1:wrtL l2 n2 b2 ⟨3,ui,sz,[]⟩=l2:=by simp only [wrtL,if_neg h3]
        have e2:wrtN l2 n2 b2 ⟨3,ui,sz,[]⟩=n2:=by simp only [wrtN,if_neg h3]
        have e3:wrtB l2 n2 b2 ⟨3,ui,sz,[]⟩=b2:=by simp only [wrtB,if_neg h3]
        rw [e1,e2,e3];clear e1 e2 e3;generalize wrtC l2 n2 b2 ⟨3,ui,sz,[]⟩=c3 at *;simp only [nrmA,nrmB,nrlB,reduceCtorEq,HO.pack.injEq,HO.obj.injEq,decide_true,decide_false,je,jd,forall_const,false_implies,true_implies,jf,jg,h3]
        (repeat' (first|refine ja ?_ ?_|intro _))<;>first|omega|exact jb|exact jc ‹False›|skip
        all_goals first
         |with_reducible rfl
         |with_reducible assumption
         |omega
         |exact hs
         |exact hf.1
         |(exact(hf.2 _ ‹_›).1)
         |(exact(hf.2 _ ‹_›).2)
         |exact⟨hf,by decide⟩
         |exact⟨⟨hf,by decide⟩,by assumption⟩
         |(simp only [jh,ji];omega)
         |(exfalso;simp_all;done)
    · rw [if_neg h2] at hr
      simp only [TA.mk.injEq,Sto.mk.injEq] at hr;obtain⟨q1,q2,q3,q4,q5,q6⟩:=hr;subst q1 q2 q3 q4 q5 q6;simp only [nrmA,nrmB,nrlB,reduceCtorEq,HO.pack.injEq,HO.obj.injEq,decide_true,decide_false,je,jd,forall_const,false_implies,true_implies,jf,jg]
      (repeat' (first|refine ja ?_ ?_|intro _))<;>first|omega|exact jb|exact jc ‹False›|skip
      all_goals first
       |with_reducible rfl
       |with_reducible assumption
       |omega
       |exact hs
       |exact hf.1
       |(exact(hf.2 _ ‹_›).1)
       |(exact(hf.2 _ ‹_›).2)
       |exact⟨hf,by decide⟩
       |exact⟨⟨hf,by decide⟩,by assumption⟩
       |(simp only [jh,ji];omega)
       |(exfalso;simp_all;done)
  · rw [if_pos h1] at hr
    simp only [TA.mk.injEq,Sto.mk.injEq] at hr;obtain⟨q1,q2,q3,q4,q5,q6⟩:=hr;subst q1 q2 q3 q4 q5 q6
    have e1:wrtL l n b ⟨2,ui,0,body⟩=l:=by simp only [wrtL,if_neg h1]
    have e2:wrtN l n b ⟨2,ui,0,body⟩=n:=by simp only [wrtN,if_neg h1]
    have e3:wrtB l n b ⟨2,ui,0,body⟩=b:=by simp only [wrtB,if_neg h1]
    rw [e1,e2,e3];clear e1 e2 e3 hs2 hnn hbb;generalize wrtC l n b ⟨2,ui,0,body⟩=c2 at *;simp only [nrmA,nrmB,nrlB,reduceCtorEq,HO.pack.injEq,HO.obj.injEq,decide_true,decide_false,je,jd,forall_const,false_implies,true_implies,jf,jg,h1]
    (repeat' (first|refine ja ?_ ?_|intro _))<;>first|omega|exact jb|exact jc ‹False›|skip
    all_goals first
     |with_reducible rfl
     |with_reducible assumption
     |omega
     |exact hs
     |exact hf.1
     |(exact(hf.2 _ ‹_›).1)
     |(exact(hf.2 _ ‹_›).2)
     |exact⟨hf,by decide⟩
     |exact⟨⟨hf,by decide⟩,by assumption⟩
     |(simp only [jh,ji];omega)
     |(exfalso;simp_all;done)
 have key10: ∀ (nv:Int),nv=(ub.length:Int)→(if Wy f xN=false then(⟨400,[],⟨l,n,b,s⟩⟩:TA)
  else if 0≤yB f xN∧0≤uz∧yB f xN≠uz then(⟨400,[],⟨l,n,b,s⟩⟩:TA)
  else if 0≤yB f xN∧uz<0∧(2000<yB f xN∨yB f xN<nv+(body.length:Int)) then(⟨413,[],⟨l,n,b,s⟩⟩:TA)
  else if zbW b ((body.length:Int)+60)=false then(⟨507,[],⟨l,n,b,s⟩⟩:TA)
  else(if(if apG l ui nv then 17 else wrtC l n b (apE ui body))≠0 then(⟨VG (if apG l ui nv then 17 else wrtC l n b (apE ui body)),[],⟨l,n,b,s⟩⟩:TA)
  else if 0≤(yB f xN)∧uz<0 then
   if wrtC (wrtL l n b (apE ui body)) (wrtN l n b (apE ui body)) (wrtB l n b (apE ui body)) ⟨3,ui,(yB f xN),[]⟩≠0 then(⟨VG (wrtC (wrtL l n b (apE ui body)) (wrtN l n b (apE ui body)) (wrtB l n b (apE ui body)) ⟨3,ui,(yB f xN),[]⟩),[],⟨wrtL l n b (apE ui body),wrtN l n b (apE ui body),wrtB l n b (apE ui body),s⟩⟩:TA)
   else(⟨204,[⟨zbz,decS (nv+(body.length:Int))⟩],⟨wrtL (wrtL l n b (apE ui body)) (wrtN l n b (apE ui body)) (wrtB l n b (apE ui body)) ⟨3,ui,(yB f xN),[]⟩,wrtN (wrtL l n b (apE ui body)) (wrtN l n b (apE ui body)) (wrtB l n b (apE ui body)) ⟨3,ui,(yB f xN),[]⟩,wrtB (wrtL l n b (apE ui body)) (wrtN l n b (apE ui body)) (wrtB l n b (apE ui body)) ⟨3,ui,(yB f xN),[]⟩,((wrtB (wrtL l n b (apE ui body)) (wrtN l n b (apE ui body)) (wrtB l n b (apE ui body)) ⟨3,ui,(yB f xN),[]⟩).length:Int)⟩⟩:TA)
  else(⟨204,[⟨zbz,decS (nv+(body.length:Int))⟩],⟨wrtL l n b (apE ui body),wrtN l n b (apE ui body),wrtB l n b (apE ui body),((wrtB l n b (apE ui body)).length:Int)⟩⟩:TA)))=⟨st,fs,⟨l',n',b',s'⟩⟩→Ok Tryz.prog X (fun o h=>o=AOut.pan (C.ifc 165 true [P.int IntKind.i64 st,P.list U.fld fs,P.list U.byte []])∧h=[HO.obj 170 [C.ptr 1 0,C.p (P.str m),C.p (P.str t),C.p (P.int IntKind.i64 mi),C.p (P.list U.fld f),C.p (P.int IntKind.i64 le)],HO.pack [HO.obj 54 [C.ptr 1 0,C.ptr 2 0],HO.pack [HO.obj 124 [C.row 1,C.p (P.int IntKind.i64 n')],HO.row U.upl 81 l'],HO.pack [HO.obj 156 [C.row 1,C.p (P.int IntKind.i64 s')],HO.row U.byte 5 b']]]) (go I tab { cfgT with seam:=[5,10,17],keep:=some [0,1,2,4,6,8,9,10,11]} [vT,vS,xB,xA,xw,xu,zU,zT,xk,xh,zX,zW,yL,yK,wS,wR,wQ,wP,sW,sV,uD,uy] [⟨vV Tryz.f132,finK I tab { cfgT with seam:=[5,10,17],keep:=some [0,1,2,4,6,8,9,10,11]} 2 Tryz.f132⟩] 0 [1,1,1,1,1,1,0] ⟨[(0,.v (.one (.ptr 0 0))),(1,.v (.agg [(.p (.int .i64 ui)),(.p (.int .i64 uz)),(.p (.str uo)),(.p (.list .byte ub)),(.p (.int .i64 us))])),(2,.v (.one (.p (.list .byte body)))),(4,.v (.one (.ptr 2 0))),(10,.v (.one (.p (.int .i64 nv))))],[.obj 170 [(.ptr 1 0),(.p (.str m)),(.p (.str t)),(.p (.int .i64 mi)),(.p (.list .fld f)),(.p (.int .i64 le))],.pack [.obj 54 [(.ptr 1 0),(.ptr 2 0)],.pack [.obj 124 [(.row 1),(.p (.int .i64 n))],.row .upl 81 l],.pack [.obj 156 [(.row 1),(.p (.int .i64 s))],.row .byte 5 b]],.pack [.obj 81 [(.p (.int .i64 ui)),(.p (.int .i64 uz)),(.p (.str uo)),(.p (.list .byte ub)),(.p (.int .i64 us))]]],131,none⟩):=by
  intro nv hnv hr
  refine orcL ?_;go_invoke;refine orcS (by kernel_rfl) ?_
  simp only [zq,Nat.reduceAdd];clear hcm hol hs2 hnn hbb;subst hI;unfold xN at *;simp only [nrmA,nrmB,nrlB,reduceCtorEq,HO.pack.injEq,HO.obj.injEq];generalize yB f [117,112,108,111,97,100,45,108,101,110,103,116,104]=sz at *
  by_cases hd1:Wy f [117,112,108,111,97,100,45,108,101,110,103,116,104]=false
  · rw [if_pos hd1] at hr
    simp only [TA.mk.injEq,Sto.mk.injEq] at hr;obtain⟨q1,q2,q3,q4,q5,q6⟩:=hr;subst q1 q2 q3 q4 q5 q6;simp only [nrmA,nrmB,nrlB,reduceCtorEq,HO.pack.injEq,HO.obj.injEq,decide_true,decide_false,je,jd,forall_const,false_implies,true_implies,jf,jg,hd1]
    (repeat' (first|refine ja ?_ ?_|intro _))<;>first|omega|exact jb|exact jc ‹False›|skip
    all_goals first
     |with_reducible rfl
     |with_reducible assumption
     |omega
     |exact hs
     |exact hf.1
     |(exact(hf.2 _ ‹_›).1)
     |(exact(hf.2 _ ‹_›).2)
     |exact⟨hf,by decide⟩
     |exact⟨⟨hf,by decide⟩,by assumption⟩
     |(simp only [jh,ji];omega)
     |(exfalso;simp_all;done)
  rw [if_neg hd1] at hr
  try simp only [Bool.not_eq_false] at hd1
  simp only [nrmA,nrmB,nrlB,reduceCtorEq,HO.pack.injEq,HO.obj.injEq,decide_true,decide_false,je,jd,forall_const,false_implies,true_implies,jf,jg,hd1]
  by_cases hd2:0≤sz∧0≤uz∧sz≠uz
  · rw [if_pos hd2] at hr
    simp only [TA.mk.injEq,Sto.mk.injEq] at hr;obtain⟨q1,q2,q3,q4,q5,q6⟩:=hr;subst q1 q2 q3 q4 q5 q6
    (repeat' (first|refine ja ?_ ?_|intro _))<;>first|omega|exact jb|exact jc ‹False›|skip
    all_goals first
     |with_reducible rfl
     |with_reducible assumption
     |omega
     |exact hs
     |exact hf.1
     |(exact(hf.2 _ ‹_›).1)
     |(exact(hf.2 _ ‹_›).2)
     |exact⟨hf,by decide⟩
     |exact⟨⟨hf,by decide⟩,by assumption⟩
     |(simp only [jh,ji];omega)
     |(exfalso;simp_all;done)
  rw [if_neg hd2] at hr
  by_cases hd3:0≤sz∧uz<0∧(2000<sz∨sz<nv+(body.length:Int))
  · rw [if_pos hd3] at hr
    simp only [TA.mk.injEq,Sto.mk.injEq] at hr;obtain⟨q1,q2,q3,q4,q5,q6⟩:=hr;subst q1 q2 q3 q4 q5 q6
    (repeat' (first|refine ja ?_ ?_|intro _))<;>first|omega|exact jb|exact jc ‹False›|skip
    all_goals first
     |with_reducible rfl
     |with_reducible assumption
     |omega
     |exact hs
     |exact hf.1
     |(exact(hf.2 _ ‹_›).1)
     |(exact(hf.2 _ ‹_›).2)
     |exact⟨hf,by decide⟩
     |exact⟨⟨hf,by decide⟩,by assumption⟩
     |(simp only [jh,ji];omega)
     |(exfalso;simp_all;done)
  rw [if_neg hd3] at hr
  by_cases hd4:zbW b ((body.length:Int)+60)=false
  · rw [if_pos hd4] at hr
    simp only [TA.mk.injEq,Sto.mk.injEq] at hr;obtain⟨q1,q2,q3,q4,q5,q6⟩:=hr;subst q1 q2 q3 q4 q5 q6;simp only [nrmA,nrmB,nrlB,reduceCtorEq,HO.pack.injEq,HO.obj.injEq,decide_true,decide_false,je,jd,forall_const,false_implies,true_implies,jf,jg,hd4]
    (repeat' (first|refine ja ?_ ?_|intro _))<;>first|omega|exact jb|exact jc ‹False›|skip
    all_goals first
     |with_reducible rfl
     |with_reducible assumption
     |omega
     |exact hs
     |exact hf.1
     |(exact(hf.2 _ ‹_›).1)
     |(exact(hf.2 _ ‹_›).2)
     |exact⟨hf,by decide⟩
     |exact⟨⟨hf,by decide⟩,by assumption⟩
     |(simp only [jh,ji];omega)
     |(exfalso;simp_all;done)
  rw [if_neg hd4] at hr
  try simp only [Bool.not_eq_false] at hd4
  simp only [nrmA,nrmB,nrlB,reduceCtorEq,HO.pack.injEq,HO.obj.injEq,decide_true,decide_false,je,jd,forall_const,false_implies,true_implies,jf,jg,hd4]
  (repeat' (first|refine ja ?_ ?_|intro _))<;>first|omega|exact jb|exact jc ‹False›|skip
  all_goals first
   |(with_reducible show Ok _ _ _ _;(try(exfalso;omega));exact seam rfl zh mixed [vT,vS,xB,xA,xw,xu,zU,zT,xk,xh,zX,zW,yL,yK,wS,wR,wQ,wP,sW,sV,uD,uy] hX [0,1,2,4,10,11] ⟨[(0,.v (.one (.ptr 0 0))),(1,.v (.agg [(.p (.int .i64 ui)),(.p (.int .i64 uz)),(.p (.str uo)),(.p (.list .byte ub)),(.p (.int .i64 us))])),(2,.v (.one (.p (.list .byte body)))),(4,.v (.one (.ptr 2 0))),(10,.v (.one (.p (.int .i64 nv)))),(11,.v (.one (.p (.int .i64 sz))))],[.obj 170 [(.ptr 1 0),(.p (.str m)),(.p (.str t)),(.p (.int .i64 mi)),(.p (.list .fld f)),(.p (.int .i64 le))],.pack [.obj 54 [(.ptr 1 0),(.ptr 2 0)],.pack [.obj 124 [(.row 1),(.p (.int .i64 n))],.row .upl 81 l],.pack [.obj 156 [(.row 1),(.p (.int .i64 s))],.row .byte 5 b]],.pack [.obj 81 [(.p (.int .i64 ui)),(.p (.int .i64 uz)),(.p (.str uo)),(.p (.list .byte ub)),(.p (.int .i64 us))]]],131,none⟩ (by kernel_rfl) (key17 nv sz hnv hr))
   |with_reducible rfl
   |with_reducible assumption
   |omega
   |exact hs
   |exact hf.1
   |(exact(hf.2 _ ‹_›).1)
   |(exact(hf.2 _ ‹_›).2)
   |exact⟨hf,by decide⟩
   |exact⟨⟨hf,by decide⟩,by assumption⟩
   |(simp only [jh,ji];omega)
   |(exfalso;simp_all;done)
 have key5: ∀ (_u:Unit),(if Wy f Yx=false then(⟨400,[],⟨l,n,b,s⟩⟩:TA)
  else if yB f Yx<0 then(⟨400,[],⟨l,n,b,s⟩⟩:TA)
  else if yB f Yx≠(ub.length:Int) then(⟨409,[],⟨l,n,b,s⟩⟩:TA)
  else(if Wy f xN=false then(⟨400,[],⟨l,n,b,s⟩⟩:TA)
  else if 0≤yB f xN∧0≤uz∧yB f xN≠uz then(⟨400,[],⟨l,n,b,s⟩⟩:TA)
  else if 0≤yB f xN∧uz<0∧(2000<yB f xN∨yB f xN<(yB f Yx)+(body.length:Int)) then(⟨413,[],⟨l,n,b,s⟩⟩:TA)
  else if zbW b ((body.length:Int)+60)=false then(⟨507,[],⟨l,n,b,s⟩⟩:TA)
  else(if(if apG l ui (yB f Yx) then 17 else wrtC l n b (apE ui body))≠0 then(⟨VG (if apG l ui (yB f Yx) then 17 else wrtC l n b (apE ui body)),[],⟨l,n,b,s⟩⟩:TA)
  else if 0≤(yB f xN)∧uz<0 then
   if wrtC (wrtL l n b (apE ui body)) (wrtN l n b (apE ui body)) (wrtB l n b (apE ui body)) ⟨3,ui,(yB f xN),[]⟩≠0 then(⟨VG (wrtC (wrtL l n b (apE ui body)) (wrtN l n b (apE ui body)) (wrtB l n b (apE ui body)) ⟨3,ui,(yB f xN),[]⟩),[],⟨wrtL l n b (apE ui body),wrtN l n b (apE ui body),wrtB l n b (apE ui body),s⟩⟩:TA)
   else(⟨204,[⟨zbz,decS ((yB f Yx)+(body.length:Int))⟩],⟨wrtL (wrtL l n b (apE ui body)) (wrtN l n b (apE ui body)) (wrtB l n b (apE ui body)) ⟨3,ui,(yB f xN),[]⟩,wrtN (wrtL l n b (apE ui body)) (wrtN l n b (apE ui body)) (wrtB l n b (apE ui body)) ⟨3,ui,(yB f xN),[]⟩,wrtB (wrtL l n b (apE ui body)) (wrtN l n b (apE ui body)) (wrtB l n b (apE ui body)) ⟨3,ui,(yB f xN),[]⟩,((wrtB (wrtL l n b (apE ui body)) (wrtN l n b (apE ui body)) (wrtB l n b (apE ui body)) ⟨3,ui,(yB f xN),[]⟩).length:Int)⟩⟩:TA)
  else(⟨204,[⟨zbz,decS ((yB f Yx)+(body.length:Int))⟩],⟨wrtL l n b (apE ui body),wrtN l n b (apE ui body),wrtB l n b (apE ui body),((wrtB l n b (apE ui body)).length:Int)⟩⟩:TA))))=⟨st,fs,⟨l',n',b',s'⟩⟩→Ok Tryz.prog X (fun o h=>o=AOut.pan (C.ifc 165 true [P.int IntKind.i64 st,P.list U.fld fs,P.list U.byte []])∧h=[HO.obj 170 [C.ptr 1 0,C.p (P.str m),C.p (P.str t),C.p (P.int IntKind.i64 mi),C.p (P.list U.fld f),C.p (P.int IntKind.i64 le)],HO.pack [HO.obj 54 [C.ptr 1 0,C.ptr 2 0],HO.pack [HO.obj 124 [C.row 1,C.p (P.int IntKind.i64 n')],HO.row U.upl 81 l'],HO.pack [HO.obj 156 [C.row 1,C.p (P.int IntKind.i64 s')],HO.row U.byte 5 b']]]) (go I tab { cfgT with seam:=[5,10,17],keep:=some [0,1,2,4,6,8,9,10,11]} [vT,vS,xB,xA,xw,xu,zU,zT,xk,xh,zX,zW,yL,yK,wS,wR,wQ,wP,sW,sV,uD,uy] [⟨vV Tryz.f132,finK I tab { cfgT with seam:=[5,10,17],keep:=some [0,1,2,4,6,8,9,10,11]} 2 Tryz.f132⟩] 0 [1,1,1,1,0] ⟨[(0,.v (.one (.ptr 0 0))),(1,.v (.agg [(.p (.int .i64 ui)),(.p (.int .i64 uz)),(.p (.str uo)),(.p (.list .byte ub)),(.p (.int .i64 us))])),(2,.v (.one (.p (.list .byte body)))),(4,.v (.one (.ptr 2 0)))],[.obj 170 [(.ptr 1 0),(.p (.str m)),(.p (.str t)),(.p (.int .i64 mi)),(.p (.list .fld f)),(.p (.int .i64 le))],.pack [.obj 54 [(.ptr 1 0),(.ptr 2 0)],.pack [.obj 124 [(.row 1),(.p (.int .i64 n))],.row .upl 81 l],.pack [.obj 156 [(.row 1),(.p (.int .i64 s))],.row .byte 5 b]],.pack [.obj 81 [(.p (.int .i64 ui)),(.p (.int .i64 uz)),(.p (.str uo)),(.p (.list .byte ub)),(.p (.int .i64 us))]]],131,none⟩):=by
  intro _ hr
  refine orcL ?_;go_invoke;refine orcS (by kernel_rfl) ?_
  simp only [zq,Nat.reduceAdd];clear hcm hol hs2 hnn hbb key17;subst hI;unfold Yx at *;simp only [nrmA,nrmB,nrlB,reduceCtorEq,HO.pack.injEq,HO.obj.injEq];generalize yB f [117,112,108,111,97,100,45,111,102,102,115,101,116]=nv at *
  by_cases hd5:Wy f [117,112,108,111,97,100,45,111,102,102,115,101,116]=false
  · rw [if_pos hd5] at hr
    simp only [TA.mk.injEq,Sto.mk.injEq] at hr;obtain⟨q1,q2,q3,q4,q5,q6⟩:=hr;subst q1 q2 q3 q4 q5 q6;simp only [nrmA,nrmB,nrlB,reduceCtorEq,HO.pack.injEq,HO.obj.injEq,decide_true,decide_false,je,jd,forall_const,false_implies,true_implies,jf,jg,hd5]
    (repeat' (first|refine ja ?_ ?_|intro _))<;>first|omega|exact jb|exact jc ‹False›|skip
    all_goals first
     |with_reducible rfl
     |with_reducible assumption
     |omega
     |exact hs
     |exact hf.1
     |(exact(hf.2 _ ‹_›).1)
     |(exact(hf.2 _ ‹_›).2)
     |exact⟨hf,by decide⟩
     |exact⟨⟨hf,by decide⟩,by assumption⟩
     |(simp only [jh,ji];omega)
     |(exfalso;simp_all;done)
  rw [if_neg hd5] at hr
  try simp only [Bool.not_eq_false] at hd5
  simp only [nrmA,nrmB,nrlB,reduceCtorEq,HO.pack.injEq,HO.obj.injEq,decide_true,decide_false,je,jd,forall_const,false_implies,true_implies,jf,jg,hd5]
  by_cases hd6:nv<0
  · rw [if_pos hd6] at hr
    simp only [TA.mk.injEq,Sto.mk.injEq] at hr;obtain⟨q1,q2,q3,q4,q5,q6⟩:=hr;subst q1 q2 q3 q4 q5 q6
    (repeat' (first|refine ja ?_ ?_|intro _))<;>first|omega|exact jb|exact jc ‹False›|skip
    all_goals first
     |with_reducible rfl
     |with_reducible assumption
     |omega
     |exact hs
     |exact hf.1
     |(exact(hf.2 _ ‹_›).1)
     |(exact(hf.2 _ ‹_›).2)
     |exact⟨hf,by decide⟩
     |exact⟨⟨hf,by decide⟩,by assumption⟩
     |(simp only [jh,ji];omega)
     |(exfalso;simp_all;done)
  rw [if_neg hd6] at hr
  by_cases hd7:nv≠(ub.length:Int)
  · rw [if_pos hd7] at hr
    simp only [TA.mk.injEq,Sto.mk.injEq] at hr;obtain⟨q1,q2,q3,q4,q5,q6⟩:=hr;subst q1 q2 q3 q4 q5 q6
    (repeat' (first|refine ja ?_ ?_|intro _))<;>first|omega|exact jb|exact jc ‹False›|skip
    all_goals first
     |with_reducible rfl
     |with_reducible assumption
     |omega
     |exact hs
     |exact hf.1
     |(exact(hf.2 _ ‹_›).1)
     |(exact(hf.2 _ ‹_›).2)
     |exact⟨hf,by decide⟩
     |exact⟨⟨hf,by decide⟩,by assumption⟩
     |(simp only [jh,ji];omega)
     |(exfalso;simp_all;done)
  rw [if_neg hd7] at hr
  (repeat' (first|refine ja ?_ ?_|intro _))<;>first|omega|exact jb|exact jc ‹False›|skip
  all_goals first
   |(with_reducible show Ok _ _ _ _;(try(exfalso;omega));exact seam rfl zh mixed [vT,vS,xB,xA,xw,xu,zU,zT,xk,xh,zX,zW,yL,yK,wS,wR,wQ,wP,sW,sV,uD,uy] hX [0,1,2,4,10] ⟨[(0,.v (.one (.ptr 0 0))),(1,.v (.agg [(.p (.int .i64 ui)),(.p (.int .i64 uz)),(.p (.str uo)),(.p (.list .byte ub)),(.p (.int .i64 us))])),(2,.v (.one (.p (.list .byte body)))),(4,.v (.one (.ptr 2 0))),(10,.v (.one (.p (.int .i64 nv))))],[.obj 170 [(.ptr 1 0),(.p (.str m)),(.p (.str t)),(.p (.int .i64 mi)),(.p (.list .fld f)),(.p (.int .i64 le))],.pack [.obj 54 [(.ptr 1 0),(.ptr 2 0)],.pack [.obj 124 [(.row 1),(.p (.int .i64 n))],.row .upl 81 l],.pack [.obj 156 [(.row 1),(.p (.int .i64 s))],.row .byte 5 b]],.pack [.obj 81 [(.p (.int .i64 ui)),(.p (.int .i64 uz)),(.p (.str uo)),(.p (.list .byte ub)),(.p (.int .i64 us))]]],131,none⟩ (by kernel_rfl) (key10 nv (by omega) hr))
   |with_reducible rfl
   |with_reducible assumption
   |omega
   |exact hs
   |exact hf.1
   |(exact(hf.2 _ ‹_›).1)
   |(exact(hf.2 _ ‹_›).2)
   |exact⟨hf,by decide⟩
   |exact⟨⟨hf,by decide⟩,by assumption⟩
   |(simp only [jh,ji];omega)
   |(exfalso;simp_all;done)
 clear hs2 hnn hbb key17 key10;subst hI;rw [show([99,111,110,116,101,110,116,45,116,121,112,101]:Str)=Yc from rfl];rw [show([97,112,112,108,105,99,97,116,105,111,110,47,111,102,102,115,101,116,43,111,99,116,101,116,45,115,116,114,101,97,109]:Str)=octS from rfl];simp only [nrmA,nrmB,nrlB,reduceCtorEq,HO.pack.injEq,HO.obj.injEq]
 have hcl:Yc.length≤1000000:=by decide
 generalize oneT f Yc=oc at *;obtain⟨ov,oc⟩:=oc
 try simp only at *
 generalize wI ov=pm at *;obtain⟨⟨pw,pp⟩,pc⟩:=pm
 try simp only at *
 by_cases hd8:oc=9
 · rw [if_pos hd8] at hr
   simp only [TA.mk.injEq,Sto.mk.injEq] at hr;obtain⟨q1,q2,q3,q4,q5,q6⟩:=hr;subst q1 q2 q3 q4 q5 q6;simp only [nrmA,nrmB,nrlB,reduceCtorEq,HO.pack.injEq,HO.obj.injEq,decide_true,decide_false,je,jd,forall_const,false_implies,true_implies,jf,jg,hd8]
   (repeat' (first|refine ja ?_ ?_|intro _))<;>first|omega|exact jb|exact jc ‹False›|skip
   all_goals first
    |with_reducible rfl
    |with_reducible assumption
    |omega
    |exact hs
    |exact hf.1
    |(exact(hf.2 _ ‹_›).1)
    |(exact(hf.2 _ ‹_›).2)
    |exact⟨hf,by decide⟩
    |exact⟨⟨hf,by decide⟩,by assumption⟩
    |(simp only [jh,ji];omega)
    |(exfalso;simp_all;done)
 rw [if_neg hd8] at hr
 try simp only [Bool.not_eq_false] at hd8
 simp only [nrmA,nrmB,nrlB,reduceCtorEq,HO.pack.injEq,HO.obj.injEq,decide_true,decide_false,je,jd,forall_const,false_implies,true_implies,jf,jg,hd8]
 by_cases hd9:pc≠0∨pw≠octS
 · rw [if_pos hd9] at hr
   simp only [TA.mk.injEq,Sto.mk.injEq] at hr;obtain⟨q1,q2,q3,q4,q5,q6⟩:=hr;subst q1 q2 q3 q4 q5 q6
   (repeat' (first|refine ja ?_ ?_|intro _))<;>first|omega|exact jb|exact jc ‹False›|skip
   all_goals first
    |with_reducible rfl
    |with_reducible assumption
    |omega
    |exact hs
    |exact hf.1
    |(exact(hf.2 _ ‹_›).1)
    |(exact(hf.2 _ ‹_›).2)
    |exact⟨hf,by decide⟩
    |exact⟨⟨hf,by decide⟩,by assumption⟩
    |(simp only [jh,ji];omega)
    |(exfalso;simp_all;done)
 rw [if_neg hd9] at hr;simp only [not_or,ne_eq,Decidable.not_not] at hd9;obtain⟨g1,g2⟩:=hd9;clear hcm;subst g1 g2;simp only [nrmA,nrmB,nrlB,reduceCtorEq,HO.pack.injEq,HO.obj.injEq,jf,false_implies,true_and,and_true]
 (repeat' (first|refine ja ?_ ?_|intro _))<;>first|omega|exact jb|exact jc ‹False›|skip
 all_goals first
  |(with_reducible show Ok _ _ _ _;(try(exfalso;omega));exact seam rfl zh mixed [vT,vS,xB,xA,xw,xu,zU,zT,xk,xh,zX,zW,yL,yK,wS,wR,wQ,wP,sW,sV,uD,uy] hX [0,1,2,4] ⟨[(0,.v (.one (.ptr 0 0))),(1,.v (.agg [(.p (.int .i64 ui)),(.p (.int .i64 uz)),(.p (.str uo)),(.p (.list .byte ub)),(.p (.int .i64 us))])),(2,.v (.one (.p (.list .byte body)))),(4,.v (.one (.ptr 2 0)))],[.obj 170 [(.ptr 1 0),(.p (.str m)),(.p (.str t)),(.p (.int .i64 mi)),(.p (.list .fld f)),(.p (.int .i64 le))],.pack [.obj 54 [(.ptr 1 0),(.ptr 2 0)],.pack [.obj 124 [(.row 1),(.p (.int .i64 n))],.row .upl 81 l],.pack [.obj 156 [(.row 1),(.p (.int .i64 s))],.row .byte 5 b]],.pack [.obj 81 [(.p (.int .i64 ui)),(.p (.int .i64 uz)),(.p (.str uo)),(.p (.list .byte ub)),(.p (.int .i64 us))]]],131,none⟩ (by kernel_rfl) (key5 () hr))
  |with_reducible rfl
  |with_reducible assumption
  |omega
  |exact hs
  |exact hf.1
  |(exact(hf.2 _ ‹_›).1)
  |(exact(hf.2 _ ‹_›).2)
  |exact⟨hf,by decide⟩
  |exact⟨⟨hf,by decide⟩,by assumption⟩
  |(simp only [jh,ji];omega)
  |(exfalso;simp_all;done)
  |skip
 exact seam rfl zh mixed [vT,vS,xB,xA,xw,xu,zU,zT,xk,xh,zX,zW,yL,yK,wS,wR,wQ,wP,sW,sV,uD,uy] hX [0,1,2,4] ⟨[(0,.v (.one (.ptr 0 0))),(1,.v (.agg [(.p (.int .i64 ui)),(.p (.int .i64 uz)),(.p (.str uo)),(.p (.list .byte ub)),(.p (.int .i64 us))])),(2,.v (.one (.p (.list .byte body)))),(4,.v (.one (.ptr 2 0)))],[.obj 170 [(.ptr 1 0),(.p (.str m)),(.p (.str t)),(.p (.int .i64 mi)),(.p (.list .fld f)),(.p (.int .i64 le))],.pack [.obj 54 [(.ptr 1 0),(.ptr 2 0)],.pack [.obj 124 [(.row 1),(.p (.int .i64 n))],.row .upl 81 l],.pack [.obj 156 [(.row 1),(.p (.int .i64 s))],.row .byte 5 b]],.pack [.obj 81 [(.p (.int .i64 ui)),(.p (.int .i64 uz)),(.p (.str uo)),(.p (.list .byte ub)),(.p (.int .i64 us))]]],131,none⟩ (by kernel_rfl) (key5 () hr)
def YB:Know Tryz.prog:=⟨132,Vy,zgt⟩
def YA:Know Tryz.prog:=⟨132,fun I=>zy I (Vy I),zf zgt⟩
end Go.Proofs.YtkjepecoodjbmaaGreatDoor
namespace Go.Proofs.YtkjepecoodjbmaaGreatDoor
open Go Go.Sep Go.Ab
set_option maxRecDepth 100000
theorem znt {l:List Upl} {n:Int} (h:zQ l n) (id:Int):(getU l id).bytes.length≤2000∧(getU l id).size≤2000:=by
 unfold getU
 split
 · rename_i hi
   rw [vM hi];have:=h.each _ (List.getElem_mem hi);exact⟨this.bl,this.s2⟩
 · decide
def Vx (I:Alg) (args:List D) (hp:List HO):Option CT:=match args,hp with
 |[.v (.one (.ptr 0 0)),.v (.one (.p (.list .byte body)))],[.obj 170 [(.ptr 1 0),(.p (.str m)),(.p (.str t)),(.p (.int .i64 mi)),(.p (.list .fld f)),(.p (.int .i64 le))],.pack [.obj 54 [(.ptr 1 0),(.ptr 2 0)],.pack [.obj 124 [(.row 1),(.p (.int .i64 n))],.row .upl 81 l],.pack [.obj 156 [(.row 1),(.p (.int .i64 s))],.row .byte 5 b]]]=>(fun(m t:Str) (mi:Int) (f:List Fld) (le:Int) (l:List Upl) (n:Int) (b:Str) (s:Int) (body:Str)=>(some (.one ⟨I.hid (FOk f∧zQ l n∧n≤200000∧b.length≤100000∧body.length≤100000),(.pan (.ifc 165 true [(.int .i64 (I.hid ((yY ⟨l,n,b,s⟩ m t f body).st))),(.list .fld (I.hid ((yY ⟨l,n,b,s⟩ m t f body).fs))),(.list .byte (I.hid ([])))])),[.obj 170 [(.ptr 1 0),(.p (.str m)),(.p (.str t)),(.p (.int .i64 mi)),(.p (.list .fld f)),(.p (.int .i64 le))],.pack [.obj 54 [(.ptr 1 0),(.ptr 2 0)],.pack [.obj 124 [(.row 1),(.p (.int .i64 (I.hid ((yY ⟨l,n,b,s⟩ m t f body).q.n))))],.row .upl 81 (I.hid ((yY ⟨l,n,b,s⟩ m t f body).q.l))],.pack [.obj 156 [(.row 1),(.p (.int .i64 (I.hid ((yY ⟨l,n,b,s⟩ m t f body).q.s))))],.row .byte 5 (I.hid ((yY ⟨l,n,b,s⟩ m t f body).q.b))]]]⟩):Option CT)) m t mi f le l n b s body
 |_,_=>none
set_option maxHeartbeats 8000000 in
theorem zgs:zx Tryz.prog 88 (Vx alg):=by
 intro args hp r h;unfold Vx at h;split at h<;>cases h
 rename_i body m t mi f le n l s b
 revert f l;intro(f:List Fld) (l:List Upl)
 simp only [CT.Good,zi];intro hneed;obtain⟨hf,hs,hn,hb,hbl⟩:=hneed;have hn0:=hs.n0;have hus:=znt hs (idV t);generalize hr:yY ⟨l,n,b,s⟩ m t f body=r;obtain⟨st,fs,⟨l',n',b',s'⟩⟩:=r;unfold yY at hr
 try simp only at hr
 refine spcG zh mixed Tryz.func88 (by kernel_rfl) { cfgT with seam:=[3,10],keep:=some [0,1,4,5,7,55]} [wM,wL,zU,zT,zX,zW,yL,yK,wS,wR,wQ,wP,uD,uy,Zu,Zt,zbF,zbE,Vw,Vu,YB,YA] (by kernel_rfl) ?_
 intro I X hI hX
 refine orcL ?_;go_invoke;refine orcS (by kernel_rfl) ?_
 simp only [zq,Nat.reduceAdd]
 have key10: ∀ (_u:Unit),(if uplB ⟨l,n,b,s⟩ t=false then(⟨404,[],⟨l,n,b,s⟩⟩:TA)
  else if m=ztc then(⟨200,zdb (getU l (idV t)),⟨l,n,b,s⟩⟩:TA)
  else if m=Zw then tJ ⟨l,n,b,s⟩ (getU l (idV t)) f body
  else if m=ztN then zdk ⟨l,n,b,s⟩ (getU l (idV t))
  else(⟨405,[],⟨l,n,b,s⟩⟩:TA))=⟨st,fs,⟨l',n',b',s'⟩⟩→Ok Tryz.prog X (fun o h=>o=AOut.pan (C.ifc 165 true [P.int IntKind.i64 st,P.list U.fld fs,P.list U.byte []])∧h=[HO.obj 170 [C.ptr 1 0,C.p (P.str m),C.p (P.str t),C.p (P.int IntKind.i64 mi),C.p (P.list U.fld f),C.p (P.int IntKind.i64 le)],HO.pack [HO.obj 54 [C.ptr 1 0,C.ptr 2 0],HO.pack [HO.obj 124 [C.row 1,C.p (P.int IntKind.i64 n')],HO.row U.upl 81 l'],HO.pack [HO.obj 156 [C.row 1,C.p (P.int IntKind.i64 s')],HO.row U.byte 5 b']]]) (go I tab { cfgT with seam:=[3,10],keep:=some [0,1,4,5,7,55]} [wM,wL,zU,zT,zX,zW,yL,yK,wS,wR,wQ,wP,uD,uy,Zu,Zt,zbF,zbE,Vw,Vu,YB,YA] [⟨vV Tryz.f88,finK I tab { cfgT with seam:=[3,10],keep:=some [0,1,4,5,7,55]} 2 Tryz.f88⟩] 0 [1,1,1,1,0] ⟨[(0,.v (.one (.ptr 0 0))),(1,.v (.one (.p (.list .byte body))))],[.obj 170 [(.ptr 1 0),(.p (.str m)),(.p (.str t)),(.p (.int .i64 mi)),(.p (.list .fld f)),(.p (.int .i64 le))],.pack [.obj 54 [(.ptr 1 0),(.ptr 2 0)],.pack [.obj 124 [(.row 1),(.p (.int .i64 n))],.row .upl 81 l],.pack [.obj 156 [(.row 1),(.p (.int .i64 s))],.row .byte 5 b]]],84,none⟩):=by
  intro _ hr
  refine orcL ?_;go_invoke;refine orcS (by kernel_rfl) ?_
  simp only [zq,Nat.reduceAdd];subst hI;unfold ztc Zw ztN at hr;unfold zdk wsC wsS syS at hr
  try simp only at hr
  simp only [nrmA,nrmB,nrlB,reduceCtorEq,HO.pack.injEq,HO.obj.injEq];generalize getU l (idV t)=u at *;obtain⟨ui,uz,uo,ub,us⟩:=u
  try simp only at *
  by_cases hd1:uplB ⟨l,n,b,s⟩ t=false
  · rw [if_pos hd1] at hr
    simp only [TA.mk.injEq,Sto.mk.injEq] at hr;obtain⟨q1,q2,q3,q4,q5,q6⟩:=hr;subst q1 q2 q3 q4 q5 q6
    try simp only [nrmA,nrmB,nrlB,reduceCtorEq,HO.pack.injEq,HO.obj.injEq,decide_true,decide_false,je,jd,forall_const,false_implies,true_implies,jf,jg,hd1]
    (repeat' (first|refine ja ?_ ?_|intro _))<;>first|omega|exact jb|exact jc ‹False›|skip
    all_goals first
     |with_reducible rfl
     |with_reducible assumption
     |omega
     |exact hs
     |exact hf.1
     |(exact(hf.2 _ ‹_›).1)
     |(exact(hf.2 _ ‹_›).2)
     |exact⟨hf,by decide⟩
     |exact⟨⟨hf,by decide⟩,by assumption⟩
     |(simp only [jh,ji];omega)
     |(exfalso;simp_all;done)
  rw [if_neg hd1] at hr
  try simp only [Bool.not_eq_false,ne_eq,Decidable.not_not] at hd1
  try simp only [nrmA,nrmB,nrlB,reduceCtorEq,HO.pack.injEq,HO.obj.injEq,decide_true,decide_false,je,jd,forall_const,false_implies,true_implies,jf,jg,hd1]
  by_cases hd2:m=[72,69,65,68]
  · rw [if_pos hd2] at hr
    simp only [TA.mk.injEq,Sto.mk.injEq] at hr;obtain⟨q1,q2,q3,q4,q5,q6⟩:=hr;subst q1 q2 q3 q4 q5 q6
    try simp only [nrmA,nrmB,nrlB,reduceCtorEq,HO.pack.injEq,HO.obj.injEq,decide_true,decide_false,je,jd,forall_const,false_implies,true_implies,jf,jg,hd2]
    (repeat' (first|refine ja ?_ ?_|intro _))<;>first|omega|exact jb|exact jc ‹False›|skip
    all_goals first
     |with_reducible rfl
     |with_reducible assumption
     |omega
     |exact hs
     |exact hf.1
     |(exact(hf.2 _ ‹_›).1)
     |(exact(hf.2 _ ‹_›).2)
     |exact⟨hf,by decide⟩
     |exact⟨⟨hf,by decide⟩,by assumption⟩
     |(simp only [jh,ji];omega)
     |(exfalso;simp_all;done)
  rw [if_neg hd2] at hr
  try simp only [Bool.not_eq_false,ne_eq,Decidable.not_not] at hd2
  try simp only [nrmA,nrmB,nrlB,reduceCtorEq,HO.pack.injEq,HO.obj.injEq,decide_true,decide_false,je,jd,forall_const,false_implies,true_implies,jf,jg,hd2]
  by_cases hd3:m=[80,65,84,67,72]
  · rw [if_pos hd3] at hr
    simp only [nrmA,nrmB,nrlB,reduceCtorEq,HO.pack.injEq,HO.obj.injEq,decide_true,decide_false,je,jd,forall_const,false_implies,true_implies,jf,jg,hd3,hr]
    (repeat' (first|refine ja ?_ ?_|intro _))<;>first|omega|exact jb|exact jc ‹False›|skip
    all_goals first
     |with_reducible rfl
     |with_reducible assumption
     |omega
     |exact hs
     |exact hf.1
     |(exact(hf.2 _ ‹_›).1)
     |(exact(hf.2 _ ‹_›).2)
     |exact⟨hf,by decide⟩
     |exact⟨⟨hf,by decide⟩,by assumption⟩
     |(simp only [jh,ji];omega)
     |(exfalso;simp_all;done)
  rw [if_neg hd3] at hr
  try simp only [Bool.not_eq_false,ne_eq,Decidable.not_not] at hd3
  try simp only [nrmA,nrmB,nrlB,reduceCtorEq,HO.pack.injEq,HO.obj.injEq,decide_true,decide_false,je,jd,forall_const,false_implies,true_implies,jf,jg,hd3]
  by_cases hd:m=[68,69,76,69,84,69]
  · rw [if_pos hd] at hr
    by_cases h1:wrtC l n b ⟨4,ui,0,[]⟩=0
    · rw [if_neg (fun h=>h h1)] at hr
      simp only [TA.mk.injEq,Sto.mk.injEq] at hr;obtain⟨q1,q2,q3,q4,q5,q6⟩:=hr;subst q1 q2 q3 q4 q5 q6;simp only [nrmA,nrmB,nrlB,reduceCtorEq,HO.pack.injEq,HO.obj.injEq,decide_true,decide_false,je,jd,forall_const,false_implies,true_implies,jf,jg,hd,h1]
      (repeat' (first|refine ja ?_ ?_|intro _))<;>first|omega|exact jb|exact jc ‹False›|skip
      all_goals first
       |with_reducible rfl
       |with_reducible assumption
       |omega
       |exact hs
       |exact hf.1
       |(exact(hf.2 _ ‹_›).1)
       |(exact(hf.2 _ ‹_›).2)
       |exact⟨hf,by decide⟩
       |exact⟨⟨hf,by decide⟩,by assumption⟩
       |(simp only [jh,ji];omega)
       |(exfalso;simp_all;done)
    · rw [if_pos h1] at hr
      simp only [TA.mk.injEq,Sto.mk.injEq] at hr;obtain⟨q1,q2,q3,q4,q5,q6⟩:=hr;subst q1 q2 q3 q4 q5 q6
      have e1:wrtL l n b ⟨4,ui,0,[]⟩=l:=by simp only [wrtL,if_neg h1]
      have e2:wrtN l n b ⟨4,ui,0,[]⟩=n:=by simp only [wrtN,if_neg h1]
      have e3:wrtB l n b ⟨4,ui,0,[]⟩=b:=by simp only [wrtB,if_neg h1]
      try rw [e1,e2,e3]
      simp only [nrmA,nrmB,nrlB,reduceCtorEq,HO.pack.injEq,HO.obj.injEq,decide_true,decide_false,je,jd,forall_const,false_implies,true_implies,jf,jg,hd,h1]
      (repeat' (first|refine ja ?_ ?_|intro _))<;>first|omega|exact jb|exact jc ‹False›|skip
      all_goals first
       |with_reducible rfl
       |with_reducible assumption
       |omega
       |exact hs
       |exact hf.1
       |(exact(hf.2 _ ‹_›).1)
       |(exact(hf.2 _ ‹_›).2)
       |exact⟨hf,by decide⟩
       |exact⟨⟨hf,by decide⟩,by assumption⟩
       |(simp only [jh,ji];omega)
       |(exfalso;simp_all;done)
  · rw [if_neg hd] at hr
    simp only [TA.mk.injEq,Sto.mk.injEq] at hr;obtain⟨q1,q2,q3,q4,q5,q6⟩:=hr;subst q1 q2 q3 q4 q5 q6;simp only [nrmA,nrmB,nrlB,reduceCtorEq,HO.pack.injEq,HO.obj.injEq,decide_true,decide_false,je,jd,forall_const,false_implies,true_implies,jf,jg,hd]
    (repeat' (first|refine ja ?_ ?_|intro _))<;>first|omega|exact jb|exact jc ‹False›|skip
    all_goals first
     |with_reducible rfl
     |with_reducible assumption
     |omega
     |exact hs
     |exact hf.1
     |(exact(hf.2 _ ‹_›).1)
     |(exact(hf.2 _ ‹_›).2)
     |exact⟨hf,by decide⟩
     |exact⟨⟨hf,by decide⟩,by assumption⟩
     |(simp only [jh,ji];omega)
     |(exfalso;simp_all;done)
 have key3: ∀ (q:Bool),q=decide (t=qx)→(if(oneT f ziS).2=9 then(⟨400,[],⟨l,n,b,s⟩⟩:TA)
  else if(oneT f ziS).1≠verS then(⟨412,[⟨zoa,verS⟩],⟨l,n,b,s⟩⟩:TA)
  else if t=qx then(if m≠zpG then(⟨405,[],⟨l,n,b,s⟩⟩:TA) else vO ⟨l,n,b,s⟩ f)
  else(if uplB ⟨l,n,b,s⟩ t=false then(⟨404,[],⟨l,n,b,s⟩⟩:TA)
  else if m=ztc then(⟨200,zdb (getU l (idV t)),⟨l,n,b,s⟩⟩:TA)
  else if m=Zw then tJ ⟨l,n,b,s⟩ (getU l (idV t)) f body
  else if m=ztN then zdk ⟨l,n,b,s⟩ (getU l (idV t))
  else(⟨405,[],⟨l,n,b,s⟩⟩:TA)))=⟨st,fs,⟨l',n',b',s'⟩⟩→Ok Tryz.prog X (fun o h=>o=AOut.pan (C.ifc 165 true [P.int IntKind.i64 st,P.list U.fld fs,P.list U.byte []])∧h=[HO.obj 170 [C.ptr 1 0,C.p (P.str m),C.p (P.str t),C.p (P.int IntKind.i64 mi),C.p (P.list U.fld f),C.p (P.int IntKind.i64 le)],HO.pack [HO.obj 54 [C.ptr 1 0,C.ptr 2 0],HO.pack [HO.obj 124 [C.row 1,C.p (P.int IntKind.i64 n')],HO.row U.upl 81 l'],HO.pack [HO.obj 156 [C.row 1,C.p (P.int IntKind.i64 s')],HO.row U.byte 5 b']]]) (go I tab { cfgT with seam:=[3,10],keep:=some [0,1,4,5,7,55]} [wM,wL,zU,zT,zX,zW,yL,yK,wS,wR,wQ,wP,uD,uy,Zu,Zt,zbF,zbE,Vw,Vu,YB,YA] [⟨vV Tryz.f88,finK I tab { cfgT with seam:=[3,10],keep:=some [0,1,4,5,7,55]} 2 Tryz.f88⟩] 0 [1,1,0,0] ⟨[(0,.v (.one (.ptr 0 0))),(1,.v (.one (.p (.list .byte body)))),(4,.v (.one (.p (.bool q))))],[.obj 170 [(.ptr 1 0),(.p (.str m)),(.p (.str t)),(.p (.int .i64 mi)),(.p (.list .fld f)),(.p (.int .i64 le))],.pack [.obj 54 [(.ptr 1 0),(.ptr 2 0)],.pack [.obj 124 [(.row 1),(.p (.int .i64 n))],.row .upl 81 l],.pack [.obj 156 [(.row 1),(.p (.int .i64 s))],.row .byte 5 b]]],84,none⟩):=by
  intro q hq hr
  refine orcL ?_;go_invoke;refine orcS (by kernel_rfl) ?_
  simp only [zq,Nat.reduceAdd];subst hI;rw [show([116,117,115,45,114,101,115,117,109,97,98,108,101]:Str)=ziS from rfl];unfold verS zpG at hr;unfold zoa at hr
  have htl:ziS.length≤1000000:=by decide
  simp only [nrmA,nrmB,nrlB,reduceCtorEq,HO.pack.injEq,HO.obj.injEq];generalize oneT f ziS=oc at *;obtain⟨ov,oc⟩:=oc
  try simp only at *
  by_cases hd4:oc=9
  · rw [if_pos hd4] at hr
    simp only [TA.mk.injEq,Sto.mk.injEq] at hr;obtain⟨q1,q2,q3,q4,q5,q6⟩:=hr;subst q1 q2 q3 q4 q5 q6
    try simp only [nrmA,nrmB,nrlB,reduceCtorEq,HO.pack.injEq,HO.obj.injEq,decide_true,decide_false,je,jd,forall_const,false_implies,true_implies,jf,jg,hd4]
    (repeat' (first|refine ja ?_ ?_|intro _))<;>first|omega|exact jb|exact jc ‹False›|skip
    all_goals first
     |with_reducible rfl
     |with_reducible assumption
     |omega
     |exact hs
     |exact hf.1
     |(exact(hf.2 _ ‹_›).1)
     |(exact(hf.2 _ ‹_›).2)
     |exact⟨hf,by decide⟩
     |exact⟨⟨hf,by decide⟩,by assumption⟩
     |(simp only [jh,ji];omega)
     |(exfalso;simp_all;done)
  rw [if_neg hd4] at hr
  try simp only [Bool.not_eq_false,ne_eq,Decidable.not_not] at hd4
  try simp only [nrmA,nrmB,nrlB,reduceCtorEq,HO.pack.injEq,HO.obj.injEq,decide_true,decide_false,je,jd,forall_const,false_implies,true_implies,jf,jg,hd4]
  by_cases hd5:ov≠[49,46,48,46,48]
  · rw [if_pos hd5] at hr
    simp only [TA.mk.injEq,Sto.mk.injEq] at hr;obtain⟨q1,q2,q3,q4,q5,q6⟩:=hr;subst q1 q2 q3 q4 q5 q6
    try simp only [nrmA,nrmB,nrlB,reduceCtorEq,HO.pack.injEq,HO.obj.injEq,decide_true,decide_false,je,jd,forall_const,false_implies,true_implies,jf,jg,hd5]
    (repeat' (first|refine ja ?_ ?_|intro _))<;>first|omega|exact jb|exact jc ‹False›|skip
    all_goals first
     |with_reducible rfl
     |with_reducible assumption
     |omega
     |exact hs
     |exact hf.1
     |(exact(hf.2 _ ‹_›).1)
     |(exact(hf.2 _ ‹_›).2)
     |exact⟨hf,by decide⟩
     |exact⟨⟨hf,by decide⟩,by assumption⟩
     |(simp only [jh,ji];omega)
     |(exfalso;simp_all;done)
  rw [if_neg hd5] at hr
  try simp only [Bool.not_eq_false,ne_eq,Decidable.not_not] at hd5
  try simp only [nrmA,nrmB,nrlB,reduceCtorEq,HO.pack.injEq,HO.obj.injEq,decide_true,decide_false,je,jd,forall_const,false_implies,true_implies,jf,jg,hd5]
  by_cases hff:t=qx
  · rw [if_pos hff] at hr
    rw [decide_eq_true hff] at hq;subst hq;simp only [nrmA,nrmB,nrlB,reduceCtorEq,HO.pack.injEq,HO.obj.injEq,decide_true,decide_false,je,jd,forall_const,false_implies,true_implies,jf,jg]
    by_cases hd6:m≠[80,79,83,84]
    · rw [if_pos hd6] at hr
      simp only [TA.mk.injEq,Sto.mk.injEq] at hr;obtain⟨q1,q2,q3,q4,q5,q6⟩:=hr;subst q1 q2 q3 q4 q5 q6
      try simp only [nrmA,nrmB,nrlB,reduceCtorEq,HO.pack.injEq,HO.obj.injEq,decide_true,decide_false,je,jd,forall_const,false_implies,true_implies,jf,jg,hd6]
      (repeat' (first|refine ja ?_ ?_|intro _))<;>first|omega|exact jb|exact jc ‹False›|skip
      all_goals first
       |with_reducible rfl
       |with_reducible assumption
       |omega
       |exact hs
       |exact hf.1
       |(exact(hf.2 _ ‹_›).1)
       |(exact(hf.2 _ ‹_›).2)
       |exact⟨hf,by decide⟩
       |exact⟨⟨hf,by decide⟩,by assumption⟩
       |(simp only [jh,ji];omega)
       |(exfalso;simp_all;done)
    rw [if_neg hd6] at hr
    try simp only [Bool.not_eq_false,ne_eq,Decidable.not_not] at hd6
    try simp only [nrmA,nrmB,nrlB,reduceCtorEq,HO.pack.injEq,HO.obj.injEq,decide_true,decide_false,je,jd,forall_const,false_implies,true_implies,jf,jg,hd6]
    simp only [nrmA,nrmB,nrlB,reduceCtorEq,HO.pack.injEq,HO.obj.injEq,decide_true,decide_false,je,jd,forall_const,false_implies,true_implies,jf,jg,hr]
    (repeat' (first|refine ja ?_ ?_|intro _))<;>first|omega|exact jb|exact jc ‹False›|skip
    all_goals first
     |with_reducible rfl
     |with_reducible assumption
     |omega
     |exact hs
     |exact hf.1
     |(exact(hf.2 _ ‹_›).1)
     |(exact(hf.2 _ ‹_›).2)
     |exact⟨hf,by decide⟩
     |exact⟨⟨hf,by decide⟩,by assumption⟩
     |(simp only [jh,ji];omega)
     |(exfalso;simp_all;done)
  · rw [if_neg hff] at hr
    rw [decide_eq_false hff] at hq;subst hq;simp only [nrmA,nrmB,nrlB,reduceCtorEq,HO.pack.injEq,HO.obj.injEq,decide_true,decide_false,je,jd,forall_const,false_implies,true_implies,jf,jg]
    (repeat' (first|refine ja ?_ ?_|intro _))<;>first|omega|exact jb|exact jc ‹False›|skip
    all_goals first
     |((with_reducible show Ok _ _ _ _);(try(exfalso;omega));exact seam rfl zh mixed [wM,wL,zU,zT,zX,zW,yL,yK,wS,wR,wQ,wP,uD,uy,Zu,Zt,zbF,zbE,Vw,Vu,YB,YA] hX [0,1] ⟨[(0,.v (.one (.ptr 0 0))),(1,.v (.one (.p (.list .byte body))))],[.obj 170 [(.ptr 1 0),(.p (.str m)),(.p (.str t)),(.p (.int .i64 mi)),(.p (.list .fld f)),(.p (.int .i64 le))],.pack [.obj 54 [(.ptr 1 0),(.ptr 2 0)],.pack [.obj 124 [(.row 1),(.p (.int .i64 n))],.row .upl 81 l],.pack [.obj 156 [(.row 1),(.p (.int .i64 s))],.row .byte 5 b]]],84,none⟩ (by kernel_rfl) (key10 () hr))
     |with_reducible rfl
     |with_reducible assumption
     |omega
     |exact hs
     |exact hf.1
     |(exact(hf.2 _ ‹_›).1)
     |(exact(hf.2 _ ‹_›).2)
     |exact⟨hf,by decide⟩
     |exact⟨⟨hf,by decide⟩,by assumption⟩
     |(simp only [jh,ji];omega)
     |(exfalso;simp_all;done)
 clear key10;subst hI;unfold zwR zoa verS zwh zwj zwi at hr;rw [show([47,102,105,108,101,115]:Str)=qx from rfl];simp only [nrmA,nrmB,nrlB,reduceCtorEq,HO.pack.injEq,HO.obj.injEq]
 by_cases hd7:t=qx∧m=[79,80,84,73,79,78,83]
 · rw [if_pos hd7] at hr
   simp only [TA.mk.injEq,Sto.mk.injEq] at hr;obtain⟨q1,q2,q3,q4,q5,q6⟩:=hr;subst q1 q2 q3 q4 q5 q6
   try simp only [nrmA,nrmB,nrlB,reduceCtorEq,HO.pack.injEq,HO.obj.injEq,decide_true,decide_false,je,jd,forall_const,false_implies,true_implies,jf,jg,hd7]
   (repeat' (first|refine ja ?_ ?_|intro _))<;>first|omega|exact jb|exact jc ‹False›|skip
   all_goals first
    |with_reducible rfl
    |with_reducible assumption
    |omega
    |exact hs
    |exact hf.1
    |(exact(hf.2 _ ‹_›).1)
    |(exact(hf.2 _ ‹_›).2)
    |exact⟨hf,by decide⟩
    |exact⟨⟨hf,by decide⟩,by assumption⟩
    |(simp only [jh,ji];omega)
    |(exfalso;simp_all;done)
 rw [if_neg hd7] at hr
 try simp only [Bool.not_eq_false,ne_eq,Decidable.not_not] at hd7
 try simp only [nrmA,nrmB,nrlB,reduceCtorEq,HO.pack.injEq,HO.obj.injEq,decide_true,decide_false,je,jd,forall_const,false_implies,true_implies,jf,jg,hd7]
 have hbeq:(t == qx)=decide (t=qx):=by rw [Bool.eq_iff_iff];simp
 (repeat' (first|refine ja ?_ ?_|intro _))<;>first|omega|exact jb|exact jc ‹False›|skip
 all_goals first
  |((with_reducible show Ok _ _ _ _);(try(exfalso;omega));exact seam rfl zh mixed [wM,wL,zU,zT,zX,zW,yL,yK,wS,wR,wQ,wP,uD,uy,Zu,Zt,zbF,zbE,Vw,Vu,YB,YA] hX [0,1,4] ⟨[(0,.v (.one (.ptr 0 0))),(1,.v (.one (.p (.list .byte body)))),(4,.v (.one (.p (.bool ((t == qx))))))],[.obj 170 [(.ptr 1 0),(.p (.str m)),(.p (.str t)),(.p (.int .i64 mi)),(.p (.list .fld f)),(.p (.int .i64 le))],.pack [.obj 54 [(.ptr 1 0),(.ptr 2 0)],.pack [.obj 124 [(.row 1),(.p (.int .i64 n))],.row .upl 81 l],.pack [.obj 156 [(.row 1),(.p (.int .i64 s))],.row .byte 5 b]]],84,none⟩ (by kernel_rfl) (key3 _ hbeq hr))
  |with_reducible rfl
  |with_reducible assumption
  |omega
  |exact hs
  |exact hf.1
  |(exact(hf.2 _ ‹_›).1)
  |(exact(hf.2 _ ‹_›).2)
  |exact⟨hf,by decide⟩
  |exact⟨⟨hf,by decide⟩,by assumption⟩
  |(simp only [jh,ji];omega)
  |(exfalso;simp_all;done)
def zom:Know Tryz.prog:=⟨88,Vx,zgs⟩
def zol:Know Tryz.prog:=⟨88,fun I=>zy I (Vx I),zf zgs⟩
end Go.Proofs.YtkjepecoodjbmaaGreatDoor
namespace Go.Proofs.YtkjepecoodjbmaaGreatDoor
open Go Go.Sep Go.Ab
set_option maxRecDepth 100000
theorem te {c:Prop} [Decidable c] {a b:TA} (ha:a.fs.length≤4) (hb:b.fs.length≤4):(if c then a else b).fs.length≤4:=by split<;>assumption
theorem zdE (q:Sto) (m t:Str) (f:List Fld) (body:Str):(yY q m t f body).fs.length≤4:=by
 have h1:(vO q f).fs.length≤4:=by
  unfold vO
  repeat' split
  all_goals simp
 have h2: ∀ u,(tJ q u f body).fs.length≤4:=fun u=>by
  unfold tJ
  repeat' refine te ?_ ?_
  all_goals simp
 have h3: ∀ u,(zdk q u).fs.length≤4:=fun u=>by unfold zdk;split<;>simp
 have h4: ∀ u,(zdb u).length≤4:=fun u=>by unfold zdb;split<;>simp
 unfold yY
 repeat' split
 all_goals first|exact h1|exact h2 _|exact h3 _|exact h4 _|simp
theorem zwq (m t:Str) (mi:Int) (f:List Fld) (le:Int) (l:List Upl) (n:Int) (b:Str) (s st:Int) (fs:List Fld) (hfs:fs.length≤1000):SpcD Tryz.prog 86 [.ptr 2 0] (.pan (.ifc 165 true [.int .i64 st,.list .fld fs,.list .byte []])) [.pack [.obj 54 [.ptr 1 0,.ptr 2 0],.pack [.obj 124 [.row 1,.p (.int .i64 n)],.row .upl 81 l],.pack [.obj 156 [.row 1,.p (.int .i64 s)],.row .byte 5 b]],.obj 30 [.p (.str m),.p (.str t),.p (.int .i64 mi),.p (.list .fld f),.p (.int .i64 le)],.obj 128 [.p (.int .i64 0),.nilS,.nilS],.obj 170 [.ptr 0 0,.p (.str m),.p (.str t),.p (.int .i64 mi),.p (.list .fld f),.p (.int .i64 le)]] .ret [.pack [.obj 54 [.ptr 1 0,.ptr 2 0],.pack [.obj 124 [.row 1,.p (.int .i64 n)],.row .upl 81 l],.pack [.obj 156 [.row 1,.p (.int .i64 s)],.row .byte 5 b]],.pack [.obj 30 [.p (.str m),.p (.str t),.p (.int .i64 mi),.p (.list .fld f),.p (.int .i64 le)]],.pack [.obj 128 [.p (.int .i64 st),.row 1,.p (.list .byte [])],.row .fld 108 (resT::fs)],.obj 170 [.ptr 0 0,.p (.str m),.p (.str t),.p (.int .i64 mi),.p (.list .fld f),.p (.int .i64 le)]]:=by
 refine SN zh mixed Tryz.func86 (by kernel_rfl) cfgT [yL,yK] (rest:=_) rfl (by kernel_rfl) ?_
 intro I X hI hX
 refine orcL ?_;go_invoke;refine orcS (by kernel_rfl) ?_
 simp only [zq,Nat.reduceAdd];subst hI;simp only [nrmA,nrmB,nrlB,reduceCtorEq,HO.pack.injEq,HO.obj.injEq,jh,ji,List.cons_append,List.nil_append];unfold resT zwf verS
 (repeat' (first|refine ja ?_ ?_|intro _))<;>first|omega|exact jb|exact jc ‹False›|skip
 all_goals first|omega|trivial|rfl|trace_state
def zxK:Door Tryz.prog where
 g:=86
 c :=fun _ m caps hp=>match m,caps,hp with
   |.pan (.ifc 165 true [.int .i64 st,.list .fld fs,.list .byte bb]),[.ptr 2 0],[.pack [.obj 54 [.ptr 1 0,.ptr 2 0],.pack [.obj 124 [.row 1,.p (.int .i64 n)],.row .upl 81 l],.pack [.obj 156 [.row 1,.p (.int .i64 s)],.row .byte 5 b]],.obj 30 [.p (.str m),.p (.str t),.p (.int .i64 mi),.p (.list .fld f),.p (.int .i64 le)],.obj 128 [.p (.int .i64 z0),.nilS,.nilS],.obj 170 [.ptr 0 0,.p (.str m1),.p (.str t1),.p (.int .i64 mi1),.p (.list .fld f1),.p (.int .i64 le1)]]=>some (fs.length≤1000∧bb=[]∧z0=0∧m1=m∧t1=t∧mi1=mi∧f1=f∧le1=le,.ret,[.pack [.obj 54 [.ptr 1 0,.ptr 2 0],.pack [.obj 124 [.row 1,.p (.int .i64 n)],.row .upl 81 l],.pack [.obj 156 [.row 1,.p (.int .i64 s)],.row .byte 5 b]],.pack [.obj 30 [.p (.str m),.p (.str t),.p (.int .i64 mi),.p (.list .fld f),.p (.int .i64 le)]],.pack [.obj 128 [.p (.int .i64 st),.row 1,.p (.list .byte [])],.row .fld 108 (resT::fs)],.obj 170 [.ptr 0 0,.p (.str m),.p (.str t),.p (.int .i64 mi),.p (.list .fld f),.p (.int .i64 le)]])
   |_,_,_=>none
 ok:=by
  intro m caps hp p m' hp' h hp1
  split at h
  · cases h
    obtain⟨h1,rfl,rfl,rfl,rfl,rfl,rfl,rfl⟩:=hp1;exact zwq _ _ _ _ _ _ _ _ _ _ _ h1
  · cases h
def zkw (I:Alg) (args:List D) (hp:List HO):Option CT:=match args,hp with
 |[.v (.one (.ptr 0 0)),.v (.agg [(.p (.str m)),(.p (.str t)),(.p (.int .i64 mi)),(.p (.list .fld f)),(.p (.int .i64 le))]),.v (.one (.p (.list .byte body)))],[.pack [.obj 54 [(.ptr 1 0),(.ptr 2 0)],.pack [.obj 124 [(.row 1),(.p (.int .i64 n))],.row .upl 81 l],.pack [.obj 156 [(.row 1),(.p (.int .i64 s))],.row .byte 5 b]]]=>(fun(m t:Str) (mi:Int) (f:List Fld) (le:Int) (l:List Upl) (n:Int) (b:Str) (s:Int) (body:Str)=>(some (.one ⟨I.hid (FOk f∧zQ l n∧n≤200000∧b.length≤100000∧body.length≤100000),(.ret (.v (.agg [(.p (.int .i64 (I.hid ((yY ⟨l,n,b,s⟩ m t f body).st)))),(.p (.list .fld (I.hid ((resT::(yY ⟨l,n,b,s⟩ m t f body).fs))))),(.p (.list .byte (I.hid ([]))))]))),[.pack [.obj 54 [(.ptr 1 0),(.ptr 2 0)],.pack [.obj 124 [(.row 1),(.p (.int .i64 (I.hid ((yY ⟨l,n,b,s⟩ m t f body).q.n))))],.row .upl 81 (I.hid ((yY ⟨l,n,b,s⟩ m t f body).q.l))],.pack [.obj 156 [(.row 1),(.p (.int .i64 (I.hid ((yY ⟨l,n,b,s⟩ m t f body).q.s))))],.row .byte 5 (I.hid ((yY ⟨l,n,b,s⟩ m t f body).q.b))]]]⟩):Option CT)) m t mi f le l n b s body
 |_,_=>none
theorem zt0:zx Tryz.prog 49 (zkw alg):=by
 intro args hp r h;unfold zkw at h;split at h<;>cases h
 rename_i m t mi f le body n l s b
 revert f l;intro(f:List Fld) (l:List Upl)
 simp only [CT.Good,zi];intro hneed;have hfew:=zdE ⟨l,n,b,s⟩ m t f body;generalize hr:yY ⟨l,n,b,s⟩ m t f body=r at hfew;obtain⟨st,fs,⟨l',n',b',s'⟩⟩:=r
 refine zwt zh mixed Tryz.func49 (by kernel_rfl) { cfgT with keep:=some [0,1,2,4,6,7]} [zom,zol] zxK (by kernel_rfl) ?_
 intro I X hI hX
 refine orcL ?_;go_invoke;refine orcS (by kernel_rfl) ?_
 simp only [zq,Nat.reduceAdd];subst hI;simp only at hfew;simp only [nrmA,nrmB,nrlB,reduceCtorEq,V0.agg.injEq,HO.pack.injEq,HO.obj.injEq];simp only [hr]
 (repeat' (first|refine ja ?_ ?_|intro _))<;>first|omega|exact jb|exact jc ‹False›|skip
 all_goals first|omega|rfl|assumption|exact hneed.2.1|exact hneed.1.1|(exact(hneed.1.2 _ ‹_›).1)|(exact(hneed.1.2 _ ‹_›).2)|trace_state
def zdw:Know Tryz.prog:=⟨49,zkw,zt0⟩
def zdv:Know Tryz.prog:=⟨49,fun I=>zy I (zkw I),zf zt0⟩
def zg5 (t:Str):Bool:=decide (t=qx)||Lib.hasPrefix t xg
def zaj (I:Alg) (args:List D) (hp:List HO):Option CT:=match args,hp with
 |[.v (.one (.p (.str t)))],[]=>(fun(t:Str)=>(some (.one ⟨I.hid (t.length≤1000000),(.ret (.v (.one (.p (.bool (I.hid ((zg5 t)))))))),[]⟩):Option CT)) t
 |_,_=>none
theorem zku:zx Tryz.prog 124 (zaj alg):=by
 intro args hp r h;unfold zaj at h;split at h<;>cases h
 rename_i t;simp only [CT.Good,zi];intro hneed;generalize hr:zg5 t=r;unfold zg5 at hr
 refine spcG zh mixed Tryz.func124 (by kernel_rfl) { cfgT with keep:=some [0,2]} [xG,xE] (by kernel_rfl) ?_
 intro I X hI hX
 refine orcL ?_;go_invoke;refine orcS (by kernel_rfl) ?_
 simp only [zq,Nat.reduceAdd];subst hI;rw [show([47,102,105,108,101,115]:Str)=qx from rfl]
 try rw [show([47,102,105,108,101,115,47]:Str)=xg from rfl]
 simp only [nrmA,nrmB,nrlB,reduceCtorEq,V0.agg.injEq]
 by_cases h1:t=qx
 · rw [decide_eq_true h1,Bool.true_or] at hr
   subst hr;simp only [nrmA,nrmB,nrlB,reduceCtorEq,h1]
   (repeat' (first|refine ja ?_ ?_|intro _))<;>first|omega|exact jb|exact jc ‹False›|skip
   all_goals first|omega|rfl|assumption|(simp_all;done)|trace_state
 · rw [decide_eq_false h1,Bool.false_or] at hr
   simp only [nrmA,nrmB,nrlB,reduceCtorEq,h1]
   (repeat' (first|refine ja ?_ ?_|intro _))<;>first|omega|exact jb|exact jc ‹False›|skip
   all_goals first|omega|rfl|assumption|(simp_all;done)|trace_state
def zr2:Know Tryz.prog:=⟨124,zaj,zku⟩
def zr1:Know Tryz.prog:=⟨124,fun I=>zy I (zaj I),zf zku⟩
end Go.Proofs.YtkjepecoodjbmaaGreatDoor
namespace Go.Proofs.YtkjepecoodjbmaaGreatDoor
open Go Go.Sep Go.Ab
def zw9:Str:=[47,102,111,114,109]
def znz:Str:=[102,105,108,101,110,97,109,101,32]
def zwY:Str:=[109,117,108,116,105,112,97,114,116,47,102,111,114,109,45,100,97,116,97]
def bndT:Str:=[98,111,117,110,100,97,114,121]
structure GA where
 r:Rpl
 q:Sto
def Y7 (st:Int):Rpl:=⟨st,[],[]⟩
def qQ (f:List Fld) (body:Str):List Prt × Int:=
 if(oneT f Yc).2≠0 then([],415)
 else if(wI (oneT f Yc).1).2≠0∨(wI (oneT f Yc).1).1.word≠zwY∨(getP (wI (oneT f Yc).1).1.params bndT).2=false then([],415)
 else if(YH (getP (wI (oneT f Yc).1).1.params bndT).1 body).2≠0 then([],400)
 else((YH (getP (wI (oneT f Yc).1).1.params bndT).1 body).1,0)
def apCd (q:Sto) (id off:Int) (x:Str):Int:=if apG q.l id off then 17 else wsC q (apE id x)
def apQ (q:Sto) (id off:Int) (x:Str):Sto:=if apG q.l id off then q else wsS q (apE id x)
def zdl (id:Int):Ent:=⟨4,id,0,[]⟩
def rE (q:Sto) (p:Prt):Ent:=creE q (p.bytes.length:Int) (znz++p.file)
def zfC (q:Sto) (p:Prt):Int:=if wsC q (rE q p)≠0 then wsC q (rE q p) else apCd (wsS q (rE q p)) (q.n+1) 0 p.bytes
def Zj (q:Sto) (p:Prt):Sto:=
 if wsC q (rE q p)≠0 then wsS q (rE q p)
 else if apCd (wsS q (rE q p)) (q.n+1) 0 p.bytes≠0 then wsS (apQ (wsS q (rE q p)) (q.n+1) 0 p.bytes) (zdl (q.n+1))
 else apQ (wsS q (rE q p)) (q.n+1) 0 p.bytes
def TM (q:Sto):List Int→Sto
 |[]=>q
 |k::r=>TM (wsS q (zdl k)) r
def zod (t:Str) (id:Int) (p:Prt):Str:=t++(decS id++[32]++p.file++[10])
def qy (q:Sto) (ids:List Int) (t:Str):List Prt→GA
 |[]=>⟨⟨201,[],t⟩,syS q⟩
 | p::r=>
   if p.file=[] then qy q ids t r
   else if zfC q p≠0 then⟨Y7 (if zfC q p=4 then 413 else 507),syS (TM (Zj q p) ids)⟩
   else qy (Zj q p) (ids++[q.n+1]) (zod t (q.n+1) p) r
def WT:List Prt→Int
 |[]=>0
 |p::r=>((p.bytes.length:Int)+200)+WT r
def Ti (q:Sto) (f:List Fld) (body:Str):GA:=
 if(qQ f body).2≠0 then⟨Y7 (qQ f body).2,q⟩
 else if zbW q.b (WT (qQ f body).1)=false then⟨Y7 507,q⟩
 else qy q [] [] (qQ f body).1
def rplT (x:TA):Rpl:=⟨x.st,resT::x.fs,[]⟩
def ansG (q:Sto) (m t:Str) (f:List Fld) (body:Str):GA:=
 if zg5 t then⟨rplT (yY q m t f body),(yY q m t f body).q⟩
 else if t≠zw9 then⟨Y7 404,q⟩
 else if m≠zpG then⟨Y7 405,q⟩
 else Ti q f body
def QZ (r:Rpl):Str:=writeT r.status r.fields r.body
structure GE where
 q:Sto
 h:Hd
 b:Str
 i:Bool
 w:Bool
 o:Str
def zqP (c:Int):Rpl:=Y7 (if c=4 then 413 else 400)
def evG (x:GE) (e:Evt):GE:=
 if e.kind=1 then { x with h:=e.head,b:=[],i:=true,w:=true}
 else if e.kind=2 then { x with b:=x.b++e.bytes}
 else if e.kind=3 then⟨(ansG x.q x.h.method x.h.target x.h.fields x.b).q,x.h,x.b,false,false,x.o++QZ (ansG x.q x.h.method x.h.target x.h.fields x.b).r⟩
 else if e.kind=4 then { x with i:=false,o:=x.o++QZ (zqP e.code)}
 else x
def evsG (x:GE) (l:List Evt):GE:=l.foldl evG x
def fedE (q:Sto) (c:Cn) (b:Str):GE:=evsG ⟨q,c.h,c.body,c.live,c.own,[]⟩ (zH (zC c.q b).out)
def fedC (q:Sto) (c:Cn) (b:Str):Cn:=⟨zC c.q b,(fedE q c b).h,(fedE q c b).b,(fedE q c b).i,(fedE q c b).w⟩
def cn0:Cn:=⟨rq0,hd0,[],false,true⟩
structure GS where
 q:Sto
 c0:Cn
 c1:Cn
 c2:Cn
 c3:Cn
def GS.at (g:GS) (k:Int):Cn:=if k=0 then g.c0 else if k=1 then g.c1 else if k=2 then g.c2 else g.c3
def GS.put (g:GS) (k:Int) (c:Cn) (q:Sto):GS:=⟨q,if k=0 then c else g.c0,if k=1 then c else g.c1,if k=2 then c else g.c2,if k=3 then c else g.c3⟩
def zdi (c:Cn):Bool:=c.live&&(decide (c.h.method=Zw)&&(decide (c.body≠[])&&Lib.hasPrefix c.h.target xg))
def rH (q:Sto) (c:Cn):Sto:=if zdi c then(yY q c.h.method c.h.target c.h.fields c.body).q else q
end Go.Proofs.YtkjepecoodjbmaaGreatDoor
namespace Go.Proofs.YtkjepecoodjbmaaGreatDoor
open Go Go.Sep Go.Ab
set_option maxRecDepth 100000
def zeT (I:Alg) (args:List D) (hp:List HO):Option CT:=match args,hp with
 |[.v (.one (.p (.int .i64 n)))],[]=>(fun(n:Int)=>(some (.one ⟨I.hid (True),(.ret (.v (.one (.p (.str (I.hid (SL n))))))),[]⟩):Option CT)) n
 |_,_=>none
theorem zn3:zx Tryz.prog 174 (zeT alg):=by
 intro args hp r h;unfold zeT at h;split at h<;>cases h
 rename_i n;simp only [CT.Good,zi];intro _;generalize hr:SL n=r
 refine spcG zh mixed Tryz.func174 (by kernel_rfl) { keep:=some [0,2,3]} [] (by kernel_rfl) ?_
 intro I X hI hX
 refine orcL ?_;go_invoke;refine orcS (by kernel_rfl) ?_
 simp only [zq,Nat.reduceAdd];subst hI;simp only [nrmA,nrmB];unfold SL at hr
 (repeat' (first|refine ja ?_ ?_|intro _))<;>first|omega|exact jb|exact jc ‹False›|skip
 all_goals((repeat(first|rewrite [if_pos (by first|omega|assumption|(simp only [*,or_self,or_true,true_or,or_false,false_or,jf,jg,jd,je,and_self,and_true,true_and];done)|(simp only [*];omega)|(simp [*];done)|(simp [*];omega))] at hr|rewrite [if_neg (by first|omega|assumption|(simp only [*,or_self,or_true,true_or,or_false,false_or,jf,jg,jd,je,and_self,and_true,true_and];done)|(simp only [*];omega)|(simp [*];done)|(simp [*];omega))] at hr));exact hr)
def zn2:Know Tryz.prog:=⟨174,zeT,zn3⟩
def zn1:Know Tryz.prog:=⟨174,fun I=>zy I (zeT I),zf zn3⟩
theorem zrx {fs:List Fld} {i:Nat} (h:i<fs.length):badF (fs.drop i)=if(textF (fs.getD i ⟨[],[]⟩)).2=0 then badF (fs.drop (i+1)) else(textF (fs.getD i ⟨[],[]⟩)).2:=by
 rw [jE h,badF];simp [h]
theorem znH {fs:List Fld} {i:Nat} (h:i<fs.length):Yt (fs.take (i+1))=Yt (fs.take i)++(textF (fs.getD i ⟨[],[]⟩)).1++[13,10]:=by
 rw [jB h,zqJ];simp [Yt,h]
theorem zqj {st:Int} (h:SL st≠[]):(zju st).length≤100:=by
 have:=uO st;have:=(zbw h).2.2;unfold zju
 simp;omega
def Ud (I:Alg) (args:List D) (hp:List HO):Option CT:=match args,hp with
 |[.v (.agg [(.p (.int .i64 st)),(.p (.list .fld fs)),(.p (.list .byte b))])],[]=>(fun(st:Int) (fs:List Fld) (b:Str)=>(some (.one ⟨I.hid ((fs.length≤100∧∀ f ∈ fs,f.name.length≤1000000∧f.value.length≤1000000)∧b.length≤9000),(.ret (.tup [(.one (.p (.list .byte (I.hid ((writeT st fs b)))))),(.one (.p (.int .i64 (I.hid ((zdq st fs))))))])),[]⟩):Option CT)) st fs b
 |_,_=>none
set_option maxHeartbeats 4000000 in
theorem zgW:zx Tryz.prog 123 (Ud alg):=by
 intro args hp r h;unfold Ud at h;split at h<;>cases h
 rename_i st fs b
 revert fs;intro(fs:List Fld)
 simp only [CT.Good,zi];intro hneed;obtain⟨⟨hfl,hf⟩,hb⟩:=hneed;generalize hc:zdq st fs=c;generalize ht:writeT st fs b=t;have hwf:=zbw (n:=st);have hdl:=uO st;have hhl:=zqj (st:=st);have hbl:=uO (b.length:Int);have hclen:[99,111,110,116,101,110,116,45,108,101,110,103,116,104]=zv1:=rfl
 refine spcG zh mixed Tryz.func123 (by kernel_rfl) { rl:=[0],keep:=some [0,1,2,3,4,6,7,8,37,38,39]} [zof,zoe,zcS,zcR,Vg,Vf,zn2,zn1] (by kernel_rfl) ?_
 intro I X hI hX
 refine orcL ?_;go_invoke;refine orcS (by kernel_rfl) ?_
 simp only [zq,Nat.reduceAdd];rw [hclen]
 (repeat' (first|refine ja ?_ ?_|intro _))
 all_goals try(subst hI;(simp only [nrmA,nrmB,nrlB,reduceCtorEq] at *);first|done|trivial|(unfold writeT at ht;unfold zdq at ht hc;((repeat(first|rewrite [if_pos (by first|omega|assumption|(simp only [*,or_self,or_true,true_or,or_false,false_or,jf,jg,jd,je,and_self,and_true,true_and];done)|(simp only [*];omega)|(simp [*];done)|(simp [*];omega))] at hc|rewrite [if_neg (by first|omega|assumption|(simp only [*,or_self,or_true,true_or,or_false,false_or,jf,jg,jd,je,and_self,and_true,true_and];done)|(simp only [*];omega)|(simp [*];done)|(simp [*];omega))] at hc)));subst hc;((repeat(first|rewrite [if_pos (by first|omega|assumption|(simp only [*,or_self,or_true,true_or,or_false,false_or,jf,jg,jd,je,and_self,and_true,true_and];done)|(simp only [*];omega)|(simp [*];done)|(simp [*];omega))] at ht|rewrite [if_neg (by first|omega|assumption|(simp only [*,or_self,or_true,true_or,or_false,false_or,jf,jg,jd,je,and_self,and_true,true_and];done)|(simp only [*];omega)|(simp [*];done)|(simp [*];omega))] at ht)));subst ht;exact⟨rfl,rfl⟩)|(have:=hwf ‹_›;simp only [jk,jh,ji];omega)|(have:=hwf ‹_›;omega)|exact⟨by omega,by decide,hf⟩)
 have hok:SL st≠[]∧fs.length<16∧¬ 0<(valsF fs zv1).length:=by
  subst hI;simp only [nrmA,nrmB,nrlB,reduceCtorEq] at *
  exact⟨by assumption,by omega,by omega⟩
 have hc2:c=badF fs:=by
  rw [← hc,zdq,if_neg hok.1,if_neg (by omega),if_neg hok.2.2]
 have ht2:badF fs=0→t=zju st++Yt fs++zr0 b.length++b:=fun h=>by
  rw [← ht,writeT,hc,hc2,if_pos h]
 have ht3:badF fs≠0→t=[]:=fun h=>by rw [← ht,writeT,hc,hc2,if_neg h]
 refine zB hI zh mixed [zof,zoe,zcS,zcR,Vg,Vf,zn2,zn1] hX [1,3,4,37,38,39] (fun(g:Nat × Str)=>match g with|(i,o)=>i≤fs.length∧o=zju st++Yt (fs.take i)∧badF fs=badF (fs.drop i)) (fun(g:Nat × Str)=>match g with|(i,o)=>⟨[(1,.v (.one (.ptr 0 0))),(3,.v (.one (.p (.int .i64 0)))),(4,.v (.one (.row 1))),(37,.v (.one (.p (.list .fld fs)))),(38,.v (.one (.p (.int .i64 ((I.len (α:=Fld) fs)))))),(39,.v (.one (.p (.int .i64 i))))],[.pack [.obj 128 [(.p (.int .i64 st)),(.p (.list .fld fs)),(.p (.list .byte b))]],.row .byte 5 o],68,none⟩) (fun(g:Nat × Str)=>match g with|(i,o)=>fs.length - i) (0,(I.app (I.app (I.app (I.app ([72,84,84,80,47,49,46,49,32]:Str) (I.hid (decS st))) [32]) (I.hid (SL st))) [13,10])) (by kernel_rfl) (by kernel_rfl) ?_ ?_
 · refine⟨jM _,?_,rfl⟩
   subst hI;simp only [Vm,zi,zju,List.take_zero,Yt,List.append_nil]
 rintro⟨i,o⟩ ⟨h1,h2,h3⟩ A hA;simp only at hA h1 h2 h3
 refine orcL ?_;go_invoke;refine orcS (by kernel_rfl) ?_
 simp only [zq,Nat.reduceAdd];subst hI;simp only [nrmA,nrmB,nrlB,reduceCtorEq]
 have hx:i<fs.length→(fs.getD i ⟨[],[]⟩) ∈ fs:=fun h=>by rw [show fs.getD i ⟨[],[]⟩=fs[i] by simp [h]];exact List.getElem_mem h
 have hd:i<fs.length→_:=fun h=>zrx (fs:=fs) (i:=i) h;have hk:i<fs.length→_:=fun h=>znH (fs:=fs) (i:=i) h
 have hol:(Yt (fs.take i)).length≤202 * 16:=by
  have:=zcM (fs.take i);rw [jv] at this;have:=hok.2.1;omega
 have hhl:=hhl hok.1
 have hol2:o.length≤4000:=by rw [h2,jk];omega
 have hend: ¬ i<fs.length→badF fs=0∧Yt (fs.take i)=Yt fs:=fun h=>by
  rw [h3,jF (by omega),jq (by omega)];exact⟨rfl,rfl⟩
 have hfi:=fun h=>hf _ (hx h);have htl:=fun f=>zgp f;generalize fs.getD i ⟨[],[]⟩=x at *;have e0:(⟨x.name,x.value⟩:Fld)=x:=rfl;rw [e0];have htl:=htl x
 refine⟨fun c1=>⟨⟨by omega,by omega⟩,⟨by omega,by omega⟩,hfi (by omega),fun c2=> ?_,fun c2=>⟨?_,?_,by omega,?_⟩⟩,fun c1=> ?_⟩
 · have hd:=hd (by omega)
   rw [if_neg c2] at hd
   exact⟨(ht3 (by rw [h3,hd];exact c2)).symm,by rw [hc2,h3,hd]⟩
 · simp only [jh,ji];omega
 · simp only [jk,jh,ji];omega
 · have hd:=hd (by omega)
   rw [if_pos c2] at hd
   exact hA (i+1,o++((textF x).1++[13,10])) ⟨by simp only;omega,by simp only;rw [hk (by omega),h2];simp only [jo],by simp only;rw [h3,hd]⟩ (by simp only;omega)
 · obtain⟨e1,e2⟩:=hend (by omega)
   simp only [jk,jh,ji]
   refine⟨by omega,by omega,by omega,by omega,by omega,?_,by rw [hc2,e1]⟩
   rw [ht2 e1,h2,e2];unfold zr0;simp only [jo]
def zpB:Know Tryz.prog:=⟨123,Ud,zgW⟩
def zpA:Know Tryz.prog:=⟨123,fun I=>zy I (Ud I),zf zgW⟩
end Go.Proofs.YtkjepecoodjbmaaGreatDoor
namespace Go.Proofs.YtkjepecoodjbmaaGreatDoor
open Go Go.Sep Go.Ab
set_option maxRecDepth 100000
def zcX (s p:Str):Str × Bool:=if s.length<p.length∨lowS (s.take p.length)≠p then([],false) else(s.drop p.length,true)
def zfX (I:Alg) (args:List D) (hp:List HO):Option CT:=match args,hp with
 |[.v (.one (.p (.str s))),.v (.one (.p (.str p)))],[]=>(fun(s p:Str)=>(some (.one ⟨I.hid (s.length≤1000000∧p.length≤100),(.ret (.tup [(.one (.p (.str (I.hid ((zcX s p).1))))),(.one (.p (.bool (I.hid ((zcX s p).2)))))])),[]⟩):Option CT)) s p
 |_,_=>none
theorem zqU:zx Tryz.prog 301 (zfX alg):=by
 intro args hp r h;unfold zfX at h;split at h<;>cases h
 rename_i s p;simp only [CT.Good,zi];intro hneed;obtain⟨h1,h2⟩:=hneed;generalize hr:zcX s p=r;obtain⟨a,k⟩:=r
 refine spcG zh mixed Tryz.func301 (by kernel_rfl) { keep:=some [0,1,4,5]} [vJ,vI] (by kernel_rfl) ?_
 intro I X hI hX
 refine orcL ?_;go_invoke;refine orcS (by kernel_rfl) ?_
 simp only [zq,Nat.reduceAdd];subst hI;unfold zcX at hr;simp only [nrmA,nrmB,nrlB,reduceCtorEq]
 (repeat' (first|refine ja ?_ ?_|intro _))<;>first|omega|exact jb|exact jc ‹False›|skip
 all_goals first
  |omega
  |(simp only [jv];omega)
  |(rw [if_pos (Or.inl (by omega))] at hr;cases hr;rfl)
  |(rw [if_pos (Or.inr ‹_›)] at hr;cases hr;rfl)
  |(rw [if_neg (fun h=>h.elim (fun h=>by omega) (fun h=>h ‹_›))] at hr;cases hr;first|rfl|exact jq (by simp))
def zqT:Know Tryz.prog:=⟨301,zfX,zqU⟩
def zqS:Know Tryz.prog:=⟨301,fun I=>zy I (zfX I),zf zqU⟩
theorem zxT {r:Str} {i:Nat} (h:i<r.length) (k: ¬ r.getD i 0=37):pctM (r.drop i)=(pctM (r.drop (i+1))).map (r.getD i 0:: ·):=by
 have e:r.getD i 0=r[i]:=by simp [h]
 rw [e] at k;rw [jE h,pctM.eq_def];simp only;rw [if_pos k,e]
theorem zxS {r:Str} {i:Nat} (h:i<r.length) (k:r.getD i 0=37) (h2:r.length≤i+2):pctM (r.drop i)=none:=by
 have e:r.getD i 0=r[i]:=by simp [h]
 rw [e] at k;rw [jE h,pctM.eq_def];simp only [k,ne_eq,jf,if_false]
 have hl:(r.drop (i+1)).length≤1:=by rw [jC];omega
 match hd:r.drop (i+1),hl with
 |[],_=>rfl
 |[_],_=>rfl
 |_::_::_,h=>simp at h
theorem zxU {r:Str} {i:Nat} (h:i+2<r.length) (k:r.getD i 0=37):pctM (r.drop i)=if hexK ((r.getD (i+1) 0).toNat:Int)<0∨hexK ((r.getD (i+2) 0).toNat:Int)<0 then none else(pctM (r.drop (i+3))).map (UInt8.ofNat (16 * hexK ((r.getD (i+1) 0).toNat:Int)+hexK ((r.getD (i+2) 0).toNat:Int)).toNat:: ·):=by
 have h0:i<r.length:=by omega
 have h1:i+1<r.length:=by omega
 have e0:r.getD i 0=r[i]:=by simp [h0]
 have e1:r.getD (i+1) 0=r[i+1]:=by simp [h1]
 have e2:r.getD (i+2) 0=r[i+2]:=by simp [h]
 rw [e0] at k
 rw [jE h0,jE h1,jE h,pctM,if_neg (by simp [k]),e1,e2]
def zfW (I:Alg) (args:List D) (hp:List HO):Option CT:=match args,hp with
 |[.v (.one (.p (.str s)))],[]=>(fun(s:Str)=>(some (.one ⟨I.hid (s.length≤1000000),(.ret (.tup [(.one (.p (.str (I.hid ((extV s)))))),(.one (.p (.bool (I.hid ((extB s))))))])),[]⟩):Option CT)) s
 |_,_=>none
theorem zqR:zx Tryz.prog 299 (zfW alg):=by
 intro args hp r h;unfold zfW at h;split at h<;>cases h
 rename_i s;simp only [CT.Good,zi];intro hneed;unfold extV extB;generalize hr:extM s=r
 refine spcG zh mixed Tryz.func299 (by kernel_rfl) { nr:=[6],keep:=some [0,2,3,4,5,6,7]} [zed,zec,zqT,zqS] (by kernel_rfl) ?_
 intro I X hI hX
 refine orcL ?_;go_invoke;refine orcS (by kernel_rfl) ?_
 simp only [zq,Nat.reduceAdd];rw [show([117,116,102,45,56,39,39]:Str)=utfS from rfl]
 have hc:extM s=if(zcX s utfS).2=false then none else pctM (zcX s utfS).1:=by
  unfold extM zcX
  by_cases h:s.length<7∨lowS (s.take 7)≠utfS
  · rw [if_pos h,if_pos (show s.length<utfS.length∨lowS (s.take utfS.length)≠utfS from h)];rfl
  · rw [if_neg h,if_neg (show ¬ (s.length<utfS.length∨lowS (s.take utfS.length)≠utfS) from h)];rfl
 have hl:(zcX s utfS).1.length≤1000000:=by
  unfold zcX
  split
  · simp
  · simp only [jC];omega
 rw [hc] at hr;generalize(zcX s utfS).2=k at *;generalize(zcX s utfS).1=R at *
 have h7:utfS.length≤100:=by decide
 (repeat' (first|refine ja ?_ ?_|intro _))
 all_goals try(subst hI;(simp only [nrmA,nrmB,nrlB,reduceCtorEq] at *);first|done|trivial|omega|exact⟨hneed,h7⟩|(rw [if_pos ‹_›] at hr;rw [← hr];exact⟨rfl,rfl⟩))
 have hk:k=true:=by
  subst hI;simp only [nrmA,nrmB,nrlB,reduceCtorEq] at *
  simpa using ‹_›
 rw [hk] at hr;simp only [je,if_false] at hr
 rw [show I.hid R=R by subst hI;rfl]
 refine zB hI zh mixed [zed,zec,zqT,zqS] hX [4,6,7] (fun(g:Nat × Str)=>match g with|(i,b)=>i≤R.length∧b.length≤i∧r=(pctM (R.drop i)).map (b++ ·)) (fun(g:Nat × Str)=>match g with|(i,b)=>⟨[(4,.v (.one (.p (.str R)))),(6,.v (.one (.row 0))),(7,.v (.one (.p (.int .i64 i))))],[.row .byte 5 b],72,none⟩) (fun(g:Nat × Str)=>match g with|(i,b)=>R.length - i) (0,[]) (by kernel_rfl) (by kernel_rfl) ?_ ?_
 · refine⟨jM _,jL _,?_⟩
   rw [List.drop_zero,hr]
   cases r<;>rfl
 rintro⟨i,b⟩ ⟨h1,h2,h3⟩ A hA;simp only at hA h1 h2 h3
 refine orcL ?_;go_invoke;refine orcS (by kernel_rfl) ?_
 simp only [zq,Nat.reduceAdd];subst hI;simp only [nrmA,nrmB,nrlB,reduceCtorEq]
 have e1:((i:Int)+1).toNat=i+1:=by omega
 have e2:((i:Int)+2).toNat=i+2:=by omega
 rw [e1,e2]
 have b37:(R.getD i 0).toNat=37↔R.getD i 0=37:=⟨fun h=>UInt8.toNat_inj.1 h,fun h=>by rw [h];rfl⟩
 have g0:i<R.length→¬ R.getD i 0=37→_:=fun h k=>zxT h k;have g1:i<R.length→R.getD i 0=37→R.length≤i+2→_:=fun h k=>zxS h k;have g2:i+2<R.length→R.getD i 0=37→_:=fun h k=>zxU h k;have l0:=(R.getD i 0).toNat_lt;have l1:=(R.getD (i+1) 0).toNat_lt;have l2:=(R.getD (i+2) 0).toNat_lt
 have m1:=RD (k:=((R.getD (i+1) 0).toNat:Int)) ⟨by omega,by omega⟩
 have m2:=RD (k:=((R.getD (i+2) 0).toNat:Int)) ⟨by omega,by omega⟩
 have hend: ¬ i<R.length→r=some b:=fun h=>by rw [h3,jF (by omega)];simp [pctM]
 have hA2:=fun(c:UInt8) (j:Nat) (h:i<j) (hj:j≤R.length) (e:pctM (R.drop i)=(pctM (R.drop j)).map (c:: ·))=>hA (j,b++[c]) ⟨hj,by rw [jk,jr];omega,by rw [h3,e,Option.map_map];congr 1;funext x;simp⟩ (by simp only;omega)
 generalize R.getD i 0=x0 at *;generalize R.getD (i+1) 0=x1 at *;generalize R.getD (i+2) 0=x2 at *
 refine⟨fun c=>⟨by omega,fun c2=>⟨by omega,by omega,by simp only [jr];omega,by omega,?_⟩,fun c2=> ?_⟩,fun c=> ?_⟩
 · have:=hA2 x0 (i+1) (by omega) (by omega) (g0 (by omega) (fun h=>c2 (by have:=b37.2 h;omega)))
   simp only [Int.natCast_add,Int.natCast_one] at this;exact this
 · have hx:x0=37:=b37.1 (by omega)
   subst hx
   have gs:R.length≤i+2→r=none:=fun h=>by rw [h3,g1 (by omega) rfl h];rfl
   have gm:=fun h=>g2 h rfl
   have gn:i+2<R.length→(hexK (x1.toNat:Int)<0∨hexK (x2.toNat:Int)<0)→r=none:=fun h k=>by rw [h3,gm h,if_pos k];rfl
   have gy:i+2<R.length→¬ hexK (x1.toNat:Int)<0→¬ hexK (x2.toNat:Int)<0→_:=fun h k k2=>hA2 (UInt8.ofNat (16 * hexK (x1.toNat:Int)+hexK (x2.toNat:Int)).toNat) (i+3) (by omega) (by omega) (by rw [gm h,if_neg (fun q=>q.elim k k2)])
   have wr: ¬ hexK (x1.toNat:Int)<0→¬ hexK (x2.toNat:Int)<0→IntKind.u8.wrap (16 * hexK (x1.toNat:Int)+hexK (x2.toNat:Int))=16 * hexK (x1.toNat:Int)+hexK (x2.toNat:Int):=fun k k2=>zxI _ ⟨by omega,by omega⟩
   (repeat' (first|refine ja ?_ ?_|intro _))<;>first|omega|exact jb|exact jc ‹False›|skip
   all_goals first
    |omega
    |(rw [gs (by omega)];done)
    |(rw [gs (by omega)];rfl)
    |(rw [gn (by omega) (Or.inl ‹_›)];rfl)
    |(rw [gn (by omega) (Or.inr ‹_›)];rfl)
    |(rw [wr ‹_› ‹_›];omega)
    |(simp only [jr];omega)
    |(rw [wr ‹_› ‹_›,show(i:Int)+2+1=((i+3:Nat):Int) by omega];exact gy (by omega) ‹_› ‹_›)
 · rw [hend (by omega)]
   exact⟨rfl,rfl⟩
def zvY:Know Tryz.prog:=⟨299,zfW,zqR⟩
def zvX:Know Tryz.prog:=⟨299,fun I=>zy I (zfW I),zf zqR⟩
end Go.Proofs.YtkjepecoodjbmaaGreatDoor
namespace Go.Proofs.YtkjepecoodjbmaaGreatDoor
open Go Go.Sep Go.Ab
set_option maxRecDepth 100000
theorem zfi: ∀ (n:Nat) (r:Str),r.length≤n→∀ v,pctM r=some v→v.length≤r.length
 |n,[],_,v,h=>by rw [pctM] at h;cases h;exact jL _
 |0,c::r,h,_,_=>by simp at h
 | n + 1,c::r,hl,v,h=>by
   rw [jh] at hl;rw [pctM.eq_def] at h;simp only at h
   split at h
   · cases hp:pctM r with
     |none=>rw [hp] at h;cases h
     | some u=>
       rw [hp] at h;cases h
       have:=zfi n r (by omega) u hp
       simp only [jh];omega
   · split at h
     · rename_i a b r'
       split at h
       · cases h
       · cases hp:pctM r' with
         |none=>rw [hp] at h;cases h
         | some u=>
           rw [hp] at h;cases h
           have:=zfi n r' (by simp only [jh] at hl;omega) u hp
           simp only [jh];omega
     · cases h
theorem ztF (s:Str):(extV s).length≤s.length:=by
 unfold extV extM
 split
 · simp
 · cases h:pctM (s.drop 7) with
   |none=>simp
   | some v=>
     have:=zfi _ _ (jL _) v h;rw [jC] at this;simp only [Option.getD_some];omega
def PsOk (N:Nat) (l:List Fld):Prop:=l.length≤8∧∀ f ∈ l,f.value.length≤N
theorem zp0 (N:Nat): ∀ (n:Nat) (s:Str) (ps:List Fld),s.length≤N→PsOk N ps→PsOk N (medL n s ps).2.1
 |0,s,ps,_,h=>h
 | n + 1, s,ps,hs,h=>by
   rw [medL];have h1:=vX (s.drop 1);have h2:=zfk (skS (s.drop 1));have h3:=vX (parM (skS (s.drop 1))).2.2;rw [jC] at h1
   split
   · split
     · exact h
     · split
       · exact h
       · split
         · exact h
         · rename_i h8
           refine zp0 N n _ _ (by omega) ⟨by rw [jk,jr];have:=h.1;omega,fun f hf=> ?_⟩
           rcases List.mem_append.1 hf with h5|h5
           · exact h.2 f h5
           · rw [List.mem_singleton.1 h5];omega
   · split<;>exact h
theorem zg1 (s:Str):PsOk s.length (wI s).1.params:=by
 have h0:PsOk s.length []:=⟨by decide,fun f h=>by cases h⟩
 have hb: ∀ w t:Str,t.length≤s.length→PsOk s.length (medB w t).2.1.params:=fun w t ht=>by
  have h1:=vX t
  exact zp0 s.length _ _ [] (by omega) h0
 have h1:=vX s;have h2:=uq (skS s);have h3:=uq ((tokE (skS s)).drop 1);rw [jC] at h3
 have hm:PsOk s.length (ve s).2.1.params:=by
  unfold ve medA
  split
  · exact h0
  · split
    · split
      · exact h0
      · exact hb _ _ (by omega)
    · exact hb _ _ (by omega)
 unfold wI
 split
 · exact h0
 · split
   · exact hm
   · exact h0
theorem zlY {N:Nat} {l:List Fld} (h: ∀ f ∈ l,f.value.length≤N) (n:Str):(getP l n).1.length≤N:=by
 unfold getP
 cases hf:l.find? (fun f=>f.name == n) with
 |none=>simp
 |some f=>exact h f (List.mem_of_find?_eq_some hf)
theorem zsV {N:Nat} {l:List Fld} (h: ∀ f ∈ l,f.value.length≤N) (n:Str):(oneF (valsF l n)).1.length≤N:=by
 unfold oneF
 split
 · simp
 · split
   · rename_i h1
     match hv:valsF l n,h1 with
     | [x],_=>
       have:x ∈ valsF l n:=by rw [hv];exact List.mem_singleton.2 rfl
       unfold valsF at this;obtain⟨f,hf,rfl⟩:=List.mem_map.1 this;exact h f (List.mem_filter.1 hf).1
   · simp
def zbi (I:Alg) (args:List D) (hp:List HO):Option CT:=match args,hp with
 |[.v (.one (.p (.list .fld l)))],[]=>(fun(l:List Fld)=>(some (.one ⟨I.hid (l.length≤1000∧∀ f ∈ l,f.name.length≤1000000∧f.value.length≤1000000),(.ret (.tup [(.agg [(.p (.str (I.hid ((ZR l).1.name)))),(.p (.str (I.hid ((ZR l).1.file)))),(.p (.str (I.hid ((ZR l).1.type)))),.nilS]),(.one (.p (.int .i64 (I.hid ((ZR l).2)))))])),[]⟩):Option CT)) l
 |_,_=>none
theorem zmm:zx Tryz.prog 298 (zbi alg):=by
 intro args hp r h;unfold zbi at h;split at h<;>cases h
 rename_i l
 revert l;intro(l:List Fld)
 simp only [CT.Good,zi];intro hneed;obtain⟨hl,hf⟩:=hneed;generalize hr:ZR l=r
 refine spcG zh mixed Tryz.func298 (by kernel_rfl) { raw:=true,keep:=some [0,2,3,4,5,6,7,8,9,10,11,12,13,77]} [RX,RV,ztC,ztB,zvY,zvX,Rx,Rw,vT,vS] (by kernel_rfl) ?_
 intro I X hI hX
 refine orcL ?_;go_invoke;refine orcS (by kernel_rfl) ?_
 simp only [zq,Nat.reduceAdd]
 try rw [show([99,111,110,116,101,110,116,45,100,105,115,112,111,115,105,116,105,111,110]:Str)=qE from rfl]
 try rw [show([99,111,110,116,101,110,116,45,116,121,112,101]:Str)=zmy from rfl]
 try rw [show([102,111,114,109,45,100,97,116,97]:Str)=zuB from rfl]
 try rw [show([102,105,108,101,110,97,109,101]:Str)=ztv from rfl]
 try rw [show([102,105,108,101,110,97,109,101,42]:Str)=zik from rfl]
 try rw [show([110,97,109,101]:Str)=zvu from rfl]
 have hk1:qE.length≤1000000:=by decide
 have hk2:zmy.length≤1000000:=by decide
 have hv:=zsV (fun f h=>(hf f h).2) qE;have hp:=zg1 (oneF (valsF l qE)).1;have hg:=fun n=>zlY hp.2 n;have hg1:=hg zik;have hg2:=hg ztv;have hx:=ztF (getP (wI (oneF (valsF l qE)).1).1.params zik).1;unfold ZR at hr;subst hI;simp only [nrmA,nrmB,nrlB,reduceCtorEq];have hpl:=hp.1;clear hp hg;generalize oneF (valsF l zmy)=t at *;generalize getP (wI (oneF (valsF l qE)).1).1.params zik=x at *;generalize getP (wI (oneF (valsF l qE)).1).1.params ztv=f at *;generalize getP (wI (oneF (valsF l qE)).1).1.params zvu=n at *;generalize wI (oneF (valsF l qE)).1=m at *;generalize oneF (valsF l qE)=a at *;unfold zsP zvj partT at hr
 (repeat' (first|refine ja ?_ ?_|intro _))<;>first|omega|exact jb|exact jc ‹False›|skip
 all_goals first
  |omega
  |exact hl
  |exact hk1
  |exact hk2
  |exact(hf _ ‹_›).1
  |exact(hf _ ‹_›).2
  |exact absurd (‹extB x.fst=true›.symm.trans ‹extB x.fst=false›) (by decide)
  |(subst hr;clear hf hX hv hg1 hg2 hx hpl hl hk1 hk2;simp [*,prt0];done)
def zml:Know Tryz.prog:=⟨298,zbi,zmm⟩
def zmk:Know Tryz.prog:=⟨298,fun I=>zy I (zbi I),zf zmm⟩
end Go.Proofs.YtkjepecoodjbmaaGreatDoor
namespace Go.Proofs.YtkjepecoodjbmaaGreatDoor
open Go Go.Sep Go.Ab
set_option maxRecDepth 100000
def ztR:Cfg:= { sl:=[⟨207,0,.byte,some 5⟩]}
def zaZ (I:Alg) (args:List D) (hp:List HO):Option CT:=match args,hp with
 |[],[]=>(fun(_:Unit)=>(some (.one ⟨I.hid (True),(.ret (.v (.one (.ptr 0 0)))),[.pack [.obj 207 [(.row 1),(.p (.bool false)),(.p (.int .i64 0))],.row .byte 5 (I.hid ([]))]]⟩):Option CT)) ()
 |_,_=>none
theorem zlK:zx Tryz.prog 89 (zaZ alg):=by
 intro args hp r h;unfold zaZ at h;split at h<;>cases h
 simp only [CT.Good,zi];intro _
 refine spcG zh mixed Tryz.func89 (by kernel_rfl) { ztR with keep:=some [0]} [] (by kernel_rfl) ?_
 intro I X hI hX
 refine orcL ?_;go_invoke;refine orcS (by kernel_rfl) ?_
 simp only [zq,Nat.reduceAdd];trivial
def zaY:Know Tryz.prog:=⟨89,zaZ,zlK⟩
def zaX:Know Tryz.prog:=⟨89,fun I=>zy I (zaZ I),zf zlK⟩
def Uu (I:Alg) (args:List D) (hp:List HO):Option CT:=match args,hp with
 |[.v (.one (.ptr 0 0)),.v (.one (.p (.int .i64 c)))],[.pack [.obj 207 [(.row 1),(.p (.bool cr)),(.p (.int .i64 code))],.row .byte 5 b]]=>(fun(b:Str) (cr:Bool) (code c:Int)=>(some (.one ⟨I.hid (True),(.ret (.tup [(.one (.p (.str (I.hid ([]))))),(.one (.p (.bool false))),(.one (.p (.int .i64 c)))])),[.pack [.obj 207 [(.row 1),(.p (.bool cr)),(.p (.int .i64 c))],.row .byte 5 b]]⟩):Option CT)) b cr code c
 |_,_=>none
theorem zhc:zx Tryz.prog 169 (Uu alg):=by
 intro args hp r h;unfold Uu at h;split at h<;>cases h
 rename_i c cr code b;simp only [CT.Good,zi];intro _
 refine spcG zh mixed Tryz.func169 (by kernel_rfl) { ztR with keep:=some [0,1,4,5,6]} [] (by kernel_rfl) ?_
 intro I X hI hX
 refine orcL ?_;go_invoke;refine orcS (by kernel_rfl) ?_
 simp only [zq,Nat.reduceAdd];subst hI;simp only [nrmA,nrmB,nrlB,reduceCtorEq,HO.pack.injEq,HO.obj.injEq]
 try trivial
def zp6:Know Tryz.prog:=⟨169,Uu,zhc⟩
def zp5:Know Tryz.prog:=⟨169,fun I=>zy I (Uu I),zf zhc⟩
def Ut (I:Alg) (args:List D) (hp:List HO):Option CT:=match args,hp with
 |[.v (.one (.ptr 0 0)),.v (.one (.p (.int .u8 k)))],[.pack [.obj 207 [(.row 1),(.p (.bool cr)),(.p (.int .i64 code))],.row .byte 5 b]]=>(fun(b:Str) (cr:Bool) (code k:Int)=>(some (.one ⟨I.hid (0≤k∧k≤255∧b.length≤1000000),(.ret (.tup [(.one (.p (.str (I.hid ((lnF ⟨b,cr,code⟩ (UInt8.ofNat k.toNat)).2.1))))),(.one (.p (.bool (I.hid ((lnF ⟨b,cr,code⟩ (UInt8.ofNat k.toNat)).2.2.1))))),(.one (.p (.int .i64 (I.hid ((lnF ⟨b,cr,code⟩ (UInt8.ofNat k.toNat)).2.2.2)))))])),[.pack [.obj 207 [(.row 1),(.p (.bool (I.hid ((lnF ⟨b,cr,code⟩ (UInt8.ofNat k.toNat)).1.cr)))),(.p (.int .i64 (I.hid ((lnF ⟨b,cr,code⟩ (UInt8.ofNat k.toNat)).1.code))))],.row .byte 5 (I.hid ((lnF ⟨b,cr,code⟩ (UInt8.ofNat k.toNat)).1.b))]]⟩):Option CT)) b cr code k
 |_,_=>none
set_option maxHeartbeats 4000000 in
theorem zhb:zx Tryz.prog 121 (Ut alg):=by
 intro args hp r h;unfold Ut at h;split at h<;>cases h
 rename_i k cr code b;simp only [CT.Good,zi];intro hneed;obtain⟨hk0,hk1,hbl⟩:=hneed
 have hkk:((UInt8.ofNat k.toNat).toNat:Int)=k:=by rw [UInt8.toNat_ofNat',Nat.mod_eq_of_lt (by omega)];omega
 generalize hr:lnF ⟨b,cr,code⟩ (UInt8.ofNat k.toNat)=r
 have h10:UInt8.ofNat k.toNat=10↔k=10:=⟨fun h=>by rw [h] at hkk;exact hkk.symm,fun h=>by subst h;rfl⟩
 have h13:UInt8.ofNat k.toNat=13↔k=13:=⟨fun h=>by rw [h] at hkk;exact hkk.symm,fun h=>by subst h;rfl⟩
 unfold lnF zmZ at hr;rw [hkk] at hr;simp only [h10,h13] at hr;obtain⟨⟨rb,rc,rcode⟩,rt,ro,re⟩:=r
 refine spcG zh mixed Tryz.func121 (by kernel_rfl) { ztR with nr:=[8],keep:=some [0,1,4,5,6,7]} [rO,Y9,zp6,zp5] (by kernel_rfl) ?_
 intro I X hI hX
 refine orcL ?_;go_invoke;refine orcS (by kernel_rfl) ?_
 simp only [zq,Nat.reduceAdd];subst hI;simp only [nrmA,nrmB,nrlB,reduceCtorEq,HO.pack.injEq,HO.obj.injEq];generalize UInt8.ofNat k.toNat=c at *;cases cr
 all_goals simp only [jd,if_false,if_true] at hr
 all_goals(repeat' (first|refine ja ?_ ?_|intro _))<;>first|omega|exact jb|exact jc ‹False›|skip
 all_goals first
  |omega
  |(exfalso;simp at *;done)
  |(((repeat(first|rewrite [if_pos (by first|omega|assumption|(simp only [*,or_self,or_true,true_or,or_false,false_or,jf,jg,jd,je,and_self,and_true,true_and];done)|(simp only [*];omega)|(simp [*];done)|(simp [*];omega))] at hr|rewrite [if_neg (by first|omega|assumption|(simp only [*,or_self,or_true,true_or,or_false,false_or,jf,jg,jd,je,and_self,and_true,true_and];done)|(simp only [*];omega)|(simp [*];done)|(simp [*];omega))] at hr)));cases hr;first|rfl|done|with_reducible assumption|exact⟨rfl,rfl,rfl⟩|(simp;done)|(simp;omega))
def qj:Know Tryz.prog:=⟨121,Ut,zhb⟩
def qi:Know Tryz.prog:=⟨121,fun I=>zy I (Ut I),zf zhb⟩
end Go.Proofs.YtkjepecoodjbmaaGreatDoor
namespace Go.Proofs.YtkjepecoodjbmaaGreatDoor
open Go Go.Sep Go.Ab
set_option maxRecDepth 100000
def cfgF:Cfg:= { sl:=[⟨207,0,.byte,some 5⟩,⟨310,0,.byte,some 5⟩,⟨310,1,.int,some 3⟩,⟨302,3,.fld,some 108⟩,⟨302,7,.evt,some 34⟩]}
def um (f:Fm):Prop:=f.out.length≤10000000
def fm9 (f:Fm):Prop:=f.out.length≤9000000
theorem u8k {k:Int} (h0:0≤k) (h1:k≤255) (n:Nat) (hn:n<256):(UInt8.ofNat k.toNat=UInt8.ofNat n)=(k=n):=by
 rw [← UInt8.toNat_inj,UInt8.toNat_ofNat',UInt8.toNat_ofNat',Nat.mod_eq_of_lt hn,Nat.mod_eq_of_lt (by omega)]
 exact propext ⟨fun h=>by omega,fun h=>by omega⟩
def Tn (I:Alg) (args:List D) (hp:List HO):Option CT:=match args,hp with
 |[.v (.one (.ptr 0 0)),.v (.agg [(.p (.int .i64 k)),(.p (.str ea)),(.p (.str eb)),(.p (.int .i64 ei)),(.p (.list .fld ef)),(.p (.int .i64 en)),(.p (.list .byte ebs)),(.p (.str ex)),(.p (.str ey)),(.p (.str ez)),(.p (.nl et)),(.p (.int .i64 ec))])],[.abs (.fm ⟨m,hd,bs,p,none,fs,pa,sk,co,out⟩)]=>(fun(m:Str) (hd:Int) (bs:List Int) (p:Int) (fs:List Fld) (pa sk co:Int) (out:List Evt) (k:Int) (ea eb:Str) (ei:Int) (ef:List Fld) (en:Int) (ebs ex ey ez et:Str) (ec:Int)=>(some (.one ⟨I.hid (um ⟨m,hd,bs,p,none,fs,pa,sk,co,out⟩),(.ret (.tup [])),[.abs (.fm ⟨m,hd,bs,p,none,fs,pa,sk,co,(I.hid (out++[⟨k,⟨ea,eb,ei,ef,en⟩,ebs,⟨ex,ey,ez,et⟩,ec⟩]))⟩)]⟩):Option CT)) m hd bs p fs pa sk co out k ea eb ei ef en ebs ex ey ez et ec
 |_,_=>none
theorem zh4:zx Tryz.prog 296 (Tn alg):=by
 intro args hp r h;unfold Tn at h;split at h<;>cases h
 rename_i k ea eb ei ef en ebs ex ey ez et ec m hd bs p fs pa sk co out
 revert ef bs fs out;intro(ef:List Fld) (bs:List Int) (fs:List Fld) (out:List Evt)
 simp only [CT.Good,zi];intro hneed;unfold um at hneed;simp only at hneed
 refine spcG zh mixed Tryz.func296 (by kernel_rfl) { cfgF with keep:=some [0,1,3]} [] (by kernel_rfl) ?_
 intro I X hI hX
 refine orcL ?_;go_invoke;refine orcS (by kernel_rfl) ?_
 simp only [zq,Nat.reduceAdd];subst hI;simp only [nrmA,nrmB,nrlB,reduceCtorEq,HO.abs.injEq,Gh.fm.injEq,Fm.mk.injEq]
 (repeat' (first|refine ja ?_ ?_|intro _))<;>first|omega|exact jb|exact jc ‹False›|skip
 all_goals first
  |omega
  |rfl
  |with_reducible assumption
  |(simp only [jh,ji];omega)
  |(unfold um;simp only;omega)
  |(simp;done)
def uM:Know Tryz.prog:=⟨296,Tn,zh4⟩
def uK:Know Tryz.prog:=⟨296,fun I=>zy I (Tn I),zf zh4⟩
def Tm (I:Alg) (args:List D) (hp:List HO):Option CT:=match args,hp with
 |[.v (.one (.ptr 0 0)),.v (.agg [(.p (.int .i64 k)),(.p (.str ea)),(.p (.str eb)),(.p (.int .i64 ei)),(.p (.list .fld ef)),(.p (.int .i64 en)),(.p (.list .byte ebs)),(.p (.str ex)),(.p (.str ey)),(.p (.str ez)),(.p (.nl et)),(.p (.int .i64 ec))])],[.abs (.fm ⟨m,hd,bs,p,some ln,fs,pa,sk,co,out⟩)]=>(fun(m:Str) (hd:Int) (bs:List Int) (p:Int) (ln:Ln) (fs:List Fld) (pa sk co:Int) (out:List Evt) (k:Int) (ea eb:Str) (ei:Int) (ef:List Fld) (en:Int) (ebs ex ey ez et:Str) (ec:Int)=>(some (.one ⟨I.hid (um ⟨m,hd,bs,p,some ln,fs,pa,sk,co,out⟩),(.ret (.tup [])),[.abs (.fm ⟨m,hd,bs,p,some ln,fs,pa,sk,co,(I.hid (out++[⟨k,⟨ea,eb,ei,ef,en⟩,ebs,⟨ex,ey,ez,et⟩,ec⟩]))⟩)]⟩):Option CT)) m hd bs p ln fs pa sk co out k ea eb ei ef en ebs ex ey ez et ec
 |_,_=>none
theorem zh3:zx Tryz.prog 296 (Tm alg):=by
 intro args hp r h;unfold Tm at h;split at h<;>cases h
 rename_i k ea eb ei ef en ebs ex ey ez et ec m hd bs p ln fs pa sk co out
 revert ef bs fs out;intro(ef:List Fld) (bs:List Int) (fs:List Fld) (out:List Evt)
 simp only [CT.Good,zi];intro hneed;unfold um at hneed;simp only at hneed
 refine spcG zh mixed Tryz.func296 (by kernel_rfl) { cfgF with keep:=some [0,1,3]} [uM,uK] (by kernel_rfl) ?_
 intro I X hI hX
 refine orcL ?_;go_invoke;refine orcS (by kernel_rfl) ?_
 simp only [zq,Nat.reduceAdd];subst hI;simp only [nrmA,nrmB,nrlB,reduceCtorEq,HO.abs.injEq,Gh.fm.injEq,Fm.mk.injEq]
 (repeat' (first|refine ja ?_ ?_|intro _))<;>first|omega|exact jb|exact jc ‹False›|skip
 all_goals first
  |omega
  |rfl
  |with_reducible assumption
  |(simp only [jh,ji];omega)
  |(unfold um;simp only;omega)
  |(simp;done)
def sF:Know Tryz.prog:=⟨296,Tm,zh3⟩
def sD:Know Tryz.prog:=⟨296,fun I=>zy I (Tm I),zf zh3⟩
theorem zl8 (m:Str) (hd:Int) (bs:List Int) (p:Int) (fs:List Fld) (pa sk co:Int) (out:List Evt) (c:Int) (hneed:um ⟨m,hd,bs,p,none,fs,pa,sk,co,out⟩):Spc Tryz.prog 291 [.v (.one (.ptr 0 0)),.v (.one (.p (.int .i64 c)))] [.abs (.fm ⟨m,hd,bs,p,none,fs,pa,sk,co,out⟩)] (.ret (.tup [])) [.abs (.fm ((xQ ⟨m,hd,bs,p,none,fs,pa,sk,co,out⟩ c)))]:=by
 unfold um at hneed;simp only at hneed
 refine spcG zh mixed Tryz.func291 (by kernel_rfl) { cfgF with keep:=some [0,1]} [uM,uK,sF,sD] (by kernel_rfl) ?_
 intro I X hI hX
 refine orcL ?_;go_invoke;refine orcS (by kernel_rfl) ?_
 simp only [zq,Nat.reduceAdd];subst hI;simp only [nrmA,nrmB,nrlB,reduceCtorEq,HO.abs.injEq,Gh.fm.injEq,Fm.mk.injEq]
 (repeat' (first|refine ja ?_ ?_|intro _))<;>first|omega|exact jb|exact jc ‹False›|skip
 all_goals first
  |omega
  |rfl
  |with_reducible assumption
  |(simp only [jh,ji];omega)
  |(unfold um;simp only;omega)
  |(simp;done)
def X7 (I:Alg) (args:List D) (hp:List HO):Option CT:=match args,hp with
 |[.v (.one (.ptr 0 0)),.v (.one (.p (.int .i64 c)))],[.abs (.fm ⟨m,hd,bs,p,none,fs,pa,sk,co,out⟩)]=>(fun(m:Str) (hd:Int) (bs:List Int) (p:Int) (fs:List Fld) (pa sk co:Int) (out:List Evt) (c:Int)=>(some (.one ⟨I.hid (um ⟨m,hd,bs,p,none,fs,pa,sk,co,out⟩),(.ret (.tup [])),[.abs (.fm (I.hid ((xQ ⟨m,hd,bs,p,none,fs,pa,sk,co,out⟩ c))))]⟩):Option CT)) m hd bs p fs pa sk co out c
 |_,_=>none
theorem zew:zx Tryz.prog 291 (X7 alg):=by
 intro args hp r h;unfold X7 at h
 split at h
 · cases h;exact fun hn=>zl8 _ _ _ _ _ _ _ _ _ _ hn
 · cases h
def znE:Know Tryz.prog:=⟨291,X7,zew⟩
def znD:Know Tryz.prog:=⟨291,fun I=>zy I (X7 I),zf zew⟩
theorem ztq (m:Str) (hd:Int) (bs:List Int) (p:Int) (ln:Ln) (fs:List Fld) (pa sk co:Int) (out:List Evt) (c:Int) (hneed:um ⟨m,hd,bs,p,some ln,fs,pa,sk,co,out⟩):Spc Tryz.prog 291 [.v (.one (.ptr 0 0)),.v (.one (.p (.int .i64 c)))] [.abs (.fm ⟨m,hd,bs,p,some ln,fs,pa,sk,co,out⟩)] (.ret (.tup [])) [.abs (.fm ((xQ ⟨m,hd,bs,p,some ln,fs,pa,sk,co,out⟩ c)))]:=by
 unfold um at hneed;simp only at hneed
 refine spcG zh mixed Tryz.func291 (by kernel_rfl) { cfgF with keep:=some [0,1]} [uM,uK,sF,sD,znE,znD] (by kernel_rfl) ?_
 intro I X hI hX
 refine orcL ?_;go_invoke;refine orcS (by kernel_rfl) ?_
 simp only [zq,Nat.reduceAdd];subst hI;simp only [nrmA,nrmB,nrlB,reduceCtorEq,HO.abs.injEq,Gh.fm.injEq,Fm.mk.injEq]
 (repeat' (first|refine ja ?_ ?_|intro _))<;>first|omega|exact jb|exact jc ‹False›|skip
 all_goals first
  |omega
  |rfl
  |with_reducible assumption
  |(simp only [jh,ji];omega)
  |(unfold um;simp only;omega)
  |(simp;done)
def TB (I:Alg) (args:List D) (hp:List HO):Option CT:=match args,hp with
 |[.v (.one (.ptr 0 0)),.v (.one (.p (.int .i64 c)))],[.abs (.fm f)]=>(fun(f:Fm) (c:Int)=>(some (.one ⟨I.hid (um f),(.ret (.tup [])),[.abs (.fm (I.hid ((xQ f c))))]⟩):Option CT)) f c
 |_,_=>none
theorem zic:zx Tryz.prog 291 (TB alg):=by
 intro args hp r h;unfold TB at h;split at h<;>cases h
 rename_i c f;simp only [CT.Good,zi];intro hneed;obtain⟨m,hd,bs,p,ln,fs,pa,sk,co,out⟩:=f
 cases ln with
 |none=>exact zl8 m hd bs p fs pa sk co out c hneed
 |some ln=>exact ztq m hd bs p ln fs pa sk co out c hneed
def sJ:Know Tryz.prog:=⟨291,TB,zic⟩
def sH:Know Tryz.prog:=⟨291,fun I=>zy I (TB I),zf zic⟩
theorem zeB (m:Str) (hd:Int) (bs:List Int) (p:Int) (fs:List Fld) (pa sk co:Int) (out:List Evt) (k:Int) (hneed:um ⟨m,hd,bs,p,none,fs,pa,sk,co,out⟩∧0≤k∧k≤255):Spc Tryz.prog 290 [.v (.one (.ptr 0 0)),.v (.one (.p (.int .u8 k)))] [.abs (.fm ⟨m,hd,bs,p,none,fs,pa,sk,co,out⟩)] (.ret (.tup [])) [.abs (.fm ((vg ⟨m,hd,bs,p,none,fs,pa,sk,co,out⟩ (UInt8.ofNat k.toNat))))]:=by
 obtain⟨hneed,h0,h1⟩:=hneed;have hc:=fun n=>u8k h0 h1 n
 have h45:(UInt8.ofNat k.toNat=45)=(k=45):=hc 45 (by decide)
 have h32:(UInt8.ofNat k.toNat=32)=(k=32):=hc 32 (by decide)
 have h9:(UInt8.ofNat k.toNat=9)=(k=9):=hc 9 (by decide)
 have h13:(UInt8.ofNat k.toNat=13)=(k=13):=hc 13 (by decide)
 clear hc;generalize UInt8.ofNat k.toNat=c at *;unfold um at hneed;simp only at hneed;generalize hr:vg ⟨m,hd,bs,p,none,fs,pa,sk,co,out⟩ c=r;unfold vg at hr;simp only [h45,h32,h9,h13] at hr
 refine spcG zh mixed Tryz.func290 (by kernel_rfl) { cfgF with keep:=some [0,1,4]} [uM,uK,sF,sD,sJ,sH] (by kernel_rfl) ?_
 intro I X hI hX
 refine orcL ?_;go_invoke;refine orcS (by kernel_rfl) ?_
 simp only [zq,Nat.reduceAdd];subst hI;simp only [nrmA,nrmB,nrlB,reduceCtorEq,HO.abs.injEq,Gh.fm.injEq]
 (repeat' (first|refine ja ?_ ?_|intro _))<;>first|omega|exact jb|exact jc ‹False›|skip
 all_goals first
  |omega
  |(unfold um;simp only;omega)
  |(subst hr;simp [*,xQ,evE,hd0,prt0];done)
def qZ (I:Alg) (args:List D) (hp:List HO):Option CT:=match args,hp with
 |[.v (.one (.ptr 0 0)),.v (.one (.p (.int .u8 k)))],[.abs (.fm ⟨m,hd,bs,p,none,fs,pa,sk,co,out⟩)]=>(fun(m:Str) (hd:Int) (bs:List Int) (p:Int) (fs:List Fld) (pa sk co:Int) (out:List Evt) (k:Int)=>(some (.one ⟨I.hid (um ⟨m,hd,bs,p,none,fs,pa,sk,co,out⟩∧0≤k∧k≤255),(.ret (.tup [])),[.abs (.fm (I.hid ((vg ⟨m,hd,bs,p,none,fs,pa,sk,co,out⟩ (UInt8.ofNat k.toNat)))))]⟩):Option CT)) m hd bs p fs pa sk co out k
 |_,_=>none
theorem QH:zx Tryz.prog 290 (qZ alg):=by
 intro args hp r h;unfold qZ at h
 split at h
 · cases h;exact fun hn=>zeB _ _ _ _ _ _ _ _ _ _ hn
 · cases h
def zif:Know Tryz.prog:=⟨290,qZ,QH⟩
def zie:Know Tryz.prog:=⟨290,fun I=>zy I (qZ I),zf QH⟩
theorem znF (m:Str) (hd:Int) (bs:List Int) (p:Int) (ln:Ln) (fs:List Fld) (pa sk co:Int) (out:List Evt) (k:Int) (hneed:um ⟨m,hd,bs,p,some ln,fs,pa,sk,co,out⟩∧0≤k∧k≤255):Spc Tryz.prog 290 [.v (.one (.ptr 0 0)),.v (.one (.p (.int .u8 k)))] [.abs (.fm ⟨m,hd,bs,p,some ln,fs,pa,sk,co,out⟩)] (.ret (.tup [])) [.abs (.fm ((vg ⟨m,hd,bs,p,some ln,fs,pa,sk,co,out⟩ (UInt8.ofNat k.toNat))))]:=by
 obtain⟨hneed,h0,h1⟩:=hneed;have hc:=fun n=>u8k h0 h1 n
 have h45:(UInt8.ofNat k.toNat=45)=(k=45):=hc 45 (by decide)
 have h32:(UInt8.ofNat k.toNat=32)=(k=32):=hc 32 (by decide)
 have h9:(UInt8.ofNat k.toNat=9)=(k=9):=hc 9 (by decide)
 have h13:(UInt8.ofNat k.toNat=13)=(k=13):=hc 13 (by decide)
 clear hc;generalize UInt8.ofNat k.toNat=c at *;unfold um at hneed;simp only at hneed;generalize hr:vg ⟨m,hd,bs,p,some ln,fs,pa,sk,co,out⟩ c=r;unfold vg at hr;simp only [h45,h32,h9,h13] at hr
 refine spcG zh mixed Tryz.func290 (by kernel_rfl) { cfgF with keep:=some [0,1,4]} [uM,uK,sF,sD,sJ,sH,zif,zie] (by kernel_rfl) ?_
 intro I X hI hX
 refine orcL ?_;go_invoke;refine orcS (by kernel_rfl) ?_
 simp only [zq,Nat.reduceAdd];subst hI;simp only [nrmA,nrmB,nrlB,reduceCtorEq,HO.abs.injEq,Gh.fm.injEq]
 (repeat' (first|refine ja ?_ ?_|intro _))<;>first|omega|exact jb|exact jc ‹False›|skip
 all_goals first
  |omega
  |(unfold um;simp only;omega)
  |(subst hr;simp [*,xQ,evE,hd0,prt0];done)
def Ya (I:Alg) (args:List D) (hp:List HO):Option CT:=match args,hp with
 |[.v (.one (.ptr 0 0)),.v (.one (.p (.int .u8 k)))],[.abs (.fm f)]=>(fun(f:Fm) (k:Int)=>(some (.one ⟨I.hid (um f∧0≤k∧k≤255),(.ret (.tup [])),[.abs (.fm (I.hid ((vg f (UInt8.ofNat k.toNat)))))]⟩):Option CT)) f k
 |_,_=>none
theorem zcL:zx Tryz.prog 290 (Ya alg):=by
 intro args hp r h;unfold Ya at h;split at h<;>cases h
 rename_i k f;simp only [CT.Good,zi];intro hneed;obtain⟨m,hd,bs,p,ln,fs,pa,sk,co,out⟩:=f
 cases ln with
 |none=>exact zeB m hd bs p fs pa sk co out k hneed
 |some ln=>exact znF m hd bs p ln fs pa sk co out k hneed
def zcK:Know Tryz.prog:=⟨290,Ya,zcL⟩
def zcJ:Know Tryz.prog:=⟨290,fun I=>zy I (Ya I),zf zcL⟩
structure FmS (f:Fm):Prop where
 bs:f.bs=zac f.mark
 ml:f.mark.length≤1000000
 h0:0≤f.held
 h1:f.mark=[]∨f.held<f.mark.length
 s0:0≤f.skip∧f.skip≤2
theorem zid (m:Str) (hd:Int) (bs:List Int) (p:Int) (fs:List Fld) (pa sk co:Int) (out:List Evt) (k:Int) (hneed:fm9 ⟨m,hd,bs,p,none,fs,pa,sk,co,out⟩∧FmS ⟨m,hd,bs,p,none,fs,pa,sk,co,out⟩∧0≤k∧k≤255):Spc Tryz.prog 289 [.v (.one (.ptr 0 0)),.v (.one (.p (.int .u8 k)))] [.abs (.fm ⟨m,hd,bs,p,none,fs,pa,sk,co,out⟩)] (.ret (.tup [])) [.abs (.fm ((uN ⟨m,hd,bs,p,none,fs,pa,sk,co,out⟩ (UInt8.ofNat k.toNat))))]:=by
 obtain⟨hneed,⟨hbs,hml,hh0,hh1,hs0⟩,h0,h1⟩:=hneed;unfold fm9 at hneed;simp only at hneed hbs hml hh0 hh1 hs0;generalize hr:uN ⟨m,hd,bs,p,none,fs,pa,sk,co,out⟩ (UInt8.ofNat k.toNat)=r;unfold uN sN fmSk at hr;simp only [Int.min_def] at hr
 refine spcG zh mixed Tryz.func289 (by kernel_rfl) { cfgF with fz:=[296],keep:=some [0,1,4,5,6]} [RU,RS,uM,uK,sF,sD] (by kernel_rfl) ?_
 intro I X hI hX
 refine orcL ?_;go_invoke;refine orcS (by kernel_rfl) ?_
 simp only [zq,Nat.reduceAdd];generalize qA m hd.toNat (UInt8.ofNat k.toNat)=q at *;obtain⟨o,n2,fd⟩:=q;subst hI;simp only [nrmA,nrmB,nrlB,reduceCtorEq,HO.abs.injEq,Gh.fm.injEq];simp only at hr
 have hn:0≤(if sk≤(o.length:Int) then sk else(o.length:Int))∧(if sk≤(o.length:Int) then sk else(o.length:Int))≤o.length∧(if sk≤(o.length:Int) then sk else(o.length:Int))≤sk:=by split<;>omega
 generalize(if sk≤(o.length:Int) then sk else(o.length:Int))=n at *
 rw [jq (show(o.drop n.toNat).length≤o.length - n.toNat by rw [jC];exact jL _)]
 have hne:0<(o.length:Int) - n→¬ o.drop n.toNat=[]:=fun h k=>by have:=congrArg List.length k;rw [jC,ji] at this;omega
 have hnn: ¬ 0<(o.length:Int) - n→o.drop n.toNat=[]:=fun h=>jF (by omega)
 generalize o.drop n.toNat=D at *
 (repeat' (first|refine ja ?_ ?_|intro _))<;>first|omega|exact jb|exact jc ‹False›|skip
 all_goals first
  |omega
  |with_reducible assumption
  |(unfold um;simp only [jk,jr];omega)
  |(have hne:=hne (by omega);clear hnn;subst hr;simp [*,evB,evO,hd0,prt0];done)
  |(have hnn:=hnn (by omega);clear hne;subst hr;simp [*,evB,evO,hd0,prt0];done)
  |(clear hne hnn;subst hr;simp [*,evB,evO,hd0,prt0];done)
def Z9 (I:Alg) (args:List D) (hp:List HO):Option CT:=match args,hp with
 |[.v (.one (.ptr 0 0)),.v (.one (.p (.int .u8 k)))],[.abs (.fm ⟨m,hd,bs,p,none,fs,pa,sk,co,out⟩)]=>(fun(m:Str) (hd:Int) (bs:List Int) (p:Int) (fs:List Fld) (pa sk co:Int) (out:List Evt) (k:Int)=>(some (.one ⟨I.hid (fm9 ⟨m,hd,bs,p,none,fs,pa,sk,co,out⟩∧FmS ⟨m,hd,bs,p,none,fs,pa,sk,co,out⟩∧0≤k∧k≤255),(.ret (.tup [])),[.abs (.fm (I.hid ((uN ⟨m,hd,bs,p,none,fs,pa,sk,co,out⟩ (UInt8.ofNat k.toNat)))))]⟩):Option CT)) m hd bs p fs pa sk co out k
 |_,_=>none
theorem zcI:zx Tryz.prog 289 (Z9 alg):=by
 intro args hp r h;unfold Z9 at h
 split at h
 · cases h;exact fun hn=>zid _ _ _ _ _ _ _ _ _ _ hn
 · cases h
def zjC:Know Tryz.prog:=⟨289,Z9,zcI⟩
def zjB:Know Tryz.prog:=⟨289,fun I=>zy I (Z9 I),zf zcI⟩
theorem zqE (m:Str) (hd:Int) (bs:List Int) (p:Int) (ln:Ln) (fs:List Fld) (pa sk co:Int) (out:List Evt) (k:Int) (hneed:fm9 ⟨m,hd,bs,p,some ln,fs,pa,sk,co,out⟩∧FmS ⟨m,hd,bs,p,some ln,fs,pa,sk,co,out⟩∧0≤k∧k≤255):Spc Tryz.prog 289 [.v (.one (.ptr 0 0)),.v (.one (.p (.int .u8 k)))] [.abs (.fm ⟨m,hd,bs,p,some ln,fs,pa,sk,co,out⟩)] (.ret (.tup [])) [.abs (.fm ((uN ⟨m,hd,bs,p,some ln,fs,pa,sk,co,out⟩ (UInt8.ofNat k.toNat))))]:=by
 obtain⟨hneed,⟨hbs,hml,hh0,hh1,hs0⟩,h0,h1⟩:=hneed;unfold fm9 at hneed;simp only at hneed hbs hml hh0 hh1 hs0;generalize hr:uN ⟨m,hd,bs,p,some ln,fs,pa,sk,co,out⟩ (UInt8.ofNat k.toNat)=r;unfold uN sN fmSk at hr;simp only [Int.min_def] at hr
 refine spcG zh mixed Tryz.func289 (by kernel_rfl) { cfgF with fz:=[296],keep:=some [0,1,4,5,6]} [RU,RS,uM,uK,sF,sD,zjC,zjB] (by kernel_rfl) ?_
 intro I X hI hX
 refine orcL ?_;go_invoke;refine orcS (by kernel_rfl) ?_
 simp only [zq,Nat.reduceAdd];generalize qA m hd.toNat (UInt8.ofNat k.toNat)=q at *;obtain⟨o,n2,fd⟩:=q;subst hI;simp only [nrmA,nrmB,nrlB,reduceCtorEq,HO.abs.injEq,Gh.fm.injEq];simp only at hr
 have hn:0≤(if sk≤(o.length:Int) then sk else(o.length:Int))∧(if sk≤(o.length:Int) then sk else(o.length:Int))≤o.length∧(if sk≤(o.length:Int) then sk else(o.length:Int))≤sk:=by split<;>omega
 generalize(if sk≤(o.length:Int) then sk else(o.length:Int))=n at *
 rw [jq (show(o.drop n.toNat).length≤o.length - n.toNat by rw [jC];exact jL _)]
 have hne:0<(o.length:Int) - n→¬ o.drop n.toNat=[]:=fun h k=>by have:=congrArg List.length k;rw [jC,ji] at this;omega
 have hnn: ¬ 0<(o.length:Int) - n→o.drop n.toNat=[]:=fun h=>jF (by omega)
 generalize o.drop n.toNat=D at *
 (repeat' (first|refine ja ?_ ?_|intro _))<;>first|omega|exact jb|exact jc ‹False›|skip
 all_goals first
  |omega
  |with_reducible assumption
  |(unfold um;simp only [jk,jr];omega)
  |(have hne:=hne (by omega);clear hnn;subst hr;simp [*,evB,evO,hd0,prt0];done)
  |(have hnn:=hnn (by omega);clear hne;subst hr;simp [*,evB,evO,hd0,prt0];done)
  |(clear hne hnn;subst hr;simp [*,evB,evO,hd0,prt0];done)
def X9 (I:Alg) (args:List D) (hp:List HO):Option CT:=match args,hp with
 |[.v (.one (.ptr 0 0)),.v (.one (.p (.int .u8 k)))],[.abs (.fm f)]=>(fun(f:Fm) (k:Int)=>(some (.one ⟨I.hid (fm9 f∧FmS f∧0≤k∧k≤255),(.ret (.tup [])),[.abs (.fm (I.hid ((uN f (UInt8.ofNat k.toNat)))))]⟩):Option CT)) f k
 |_,_=>none
theorem zeA:zx Tryz.prog 289 (X9 alg):=by
 intro args hp r h;unfold X9 at h;split at h<;>cases h
 rename_i k f;simp only [CT.Good,zi];intro hneed;obtain⟨m,hd,bs,p,ln,fs,pa,sk,co,out⟩:=f
 cases ln with
 |none=>exact zid m hd bs p fs pa sk co out k hneed
 |some ln=>exact zqE m hd bs p ln fs pa sk co out k hneed
def zez:Know Tryz.prog:=⟨289,X9,zeA⟩
def zey:Know Tryz.prog:=⟨289,fun I=>zy I (X9 I),zf zeA⟩
end Go.Proofs.YtkjepecoodjbmaaGreatDoor
namespace Go.Proofs.YtkjepecoodjbmaaGreatDoor
open Go Go.Sep Go.Ab
set_option maxRecDepth 100000
theorem zty (m:Str) (n:Nat) (c:UInt8):m=[]∨(qA m n c).2.1<m.length:=by
 unfold qA
 by_cases h:m=[]
 · exact .inl h
 · rw [if_neg h]
   have h0:0<m.length:=by cases m<;>simp_all
   unfold P.feed;simp only
   repeat' split
   all_goals first|exact .inr h0|(right;assumption)
theorem TF (m:Str) (n:Nat) (c:UInt8):m=[]∨(((qA m n c).2.1:Nat):Int)<m.length:=(zty m n c).imp id fun h=>by omega
theorem zjb (l:List Fld):(ZR l).1.bytes=[]:=by
 unfold ZR zsP
 repeat' split
 all_goals rfl
def FdOk (f:List Fld):Prop:=f.length≤1000∧∀ x ∈ f,x.name.length≤1000000∧x.value.length≤1000000
structure FmB (f:Fm):Prop where
 few:f.out.length≤9000000
 sk:FmS f
 fd:FdOk f.fields
 p0:0≤f.parts∧f.parts≤12
theorem zqH (m:Str) (hd:Int) (bs:List Int) (p:Int) (fs:List Fld) (pa sk co:Int) (out:List Evt) (hneed:FmB ⟨m,hd,bs,p,none,fs,pa,sk,co,out⟩):Spc Tryz.prog 297 [.v (.one (.ptr 0 0))] [.abs (.fm ⟨m,hd,bs,p,none,fs,pa,sk,co,out⟩)] (.ret (.tup [])) [.abs (.fm ((vH ⟨m,hd,bs,p,none,fs,pa,sk,co,out⟩)))]:=by
 obtain⟨h9,⟨hbs,hml,hh0,hh1,hs0⟩,⟨hfl,hff⟩,hp0⟩:=hneed;simp only at h9 hbs hml hh0 hh1 hs0 hfl hff hp0;generalize hr:vH ⟨m,hd,bs,p,none,fs,pa,sk,co,out⟩=r;have hb:=zjb fs;unfold vH at hr;simp only [xQ,fmSk,evP,evF,jJ] at hr
 refine spcG zh mixed Tryz.func297 (by kernel_rfl) { cfgF with keep:=some [0,2,3]} [RU,RS,zml,zmk,uM,uK,sF,sD,sJ,sH] (by kernel_rfl) ?_
 intro I X hI hX
 refine orcL ?_;go_invoke;refine orcS (by kernel_rfl) ?_
 simp only [zq,Nat.reduceAdd];have hl1:=TF m hd.toNat 13;generalize ZR fs=P at *;obtain⟨⟨a,b,c,d⟩,e⟩:=P;simp only at hb hr;subst hb;subst hI;simp only [nrmA,nrmB,nrlB,reduceCtorEq,HO.abs.injEq,Gh.fm.injEq]
 (repeat' (first|refine ja ?_ ?_|intro _))<;>first|omega|exact jb|exact jc ‹False›|skip
 all_goals first
  |omega
  |with_reducible assumption
  |exact(hff _ ‹_›).1
  |exact(hff _ ‹_›).2
  |(unfold um;simp only [jk,jr];omega)
  |exact hl1
  |(subst hr;simp [*,evF,hd0,prt0,xQ];done)
theorem zqG (m:Str) (hd:Int) (bs:List Int) (p:Int) (ln:Ln) (fs:List Fld) (pa sk co:Int) (out:List Evt) (hneed:FmB ⟨m,hd,bs,p,some ln,fs,pa,sk,co,out⟩):Spc Tryz.prog 297 [.v (.one (.ptr 0 0))] [.abs (.fm ⟨m,hd,bs,p,some ln,fs,pa,sk,co,out⟩)] (.ret (.tup [])) [.abs (.fm ((vH ⟨m,hd,bs,p,some ln,fs,pa,sk,co,out⟩)))]:=by
 obtain⟨h9,⟨hbs,hml,hh0,hh1,hs0⟩,⟨hfl,hff⟩,hp0⟩:=hneed;simp only at h9 hbs hml hh0 hh1 hs0 hfl hff hp0;generalize hr:vH ⟨m,hd,bs,p,some ln,fs,pa,sk,co,out⟩=r;have hb:=zjb fs;unfold vH at hr;simp only [xQ,fmSk,evP,evF,jJ] at hr
 refine spcG zh mixed Tryz.func297 (by kernel_rfl) { cfgF with keep:=some [0,2,3]} [RU,RS,zml,zmk,uM,uK,sF,sD,sJ,sH] (by kernel_rfl) ?_
 intro I X hI hX
 refine orcL ?_;go_invoke;refine orcS (by kernel_rfl) ?_
 simp only [zq,Nat.reduceAdd];have hl1:=TF m hd.toNat 13;generalize ZR fs=P at *;obtain⟨⟨a,b,c,d⟩,e⟩:=P;simp only at hb hr;subst hb;subst hI;simp only [nrmA,nrmB,nrlB,reduceCtorEq,HO.abs.injEq,Gh.fm.injEq]
 (repeat' (first|refine ja ?_ ?_|intro _))<;>first|omega|exact jb|exact jc ‹False›|skip
 all_goals first
  |omega
  |with_reducible assumption
  |exact(hff _ ‹_›).1
  |exact(hff _ ‹_›).2
  |(unfold um;simp only [jk,jr];omega)
  |exact hl1
  |(subst hr;simp [*,evF,hd0,prt0,xQ];done)
def Wh (I:Alg) (args:List D) (hp:List HO):Option CT:=match args,hp with
 |[.v (.one (.ptr 0 0))],[.abs (.fm f)]=>(fun(f:Fm)=>(some (.one ⟨I.hid (FmB f),(.ret (.tup [])),[.abs (.fm (I.hid ((vH f))))]⟩):Option CT)) f
 |_,_=>none
theorem zeE:zx Tryz.prog 297 (Wh alg):=by
 intro args hp r h;unfold Wh at h;split at h<;>cases h
 rename_i f;simp only [CT.Good,zi];intro hneed;obtain⟨m,hd,bs,p,ln,fs,pa,sk,co,out⟩:=f
 cases ln with
 |none=>exact zqH m hd bs p fs pa sk co out hneed
 |some ln=>exact zqG m hd bs p ln fs pa sk co out hneed
def zeD:Know Tryz.prog:=⟨297,Wh,zeE⟩
def zeC:Know Tryz.prog:=⟨297,fun I=>zy I (Wh I),zf zeE⟩
theorem ztl (m:Str) (hd:Int) (bs:List Int) (p:Int) (fs:List Fld) (pa sk co:Int) (out:List Evt) (s:Str) (hneed:FmB ⟨m,hd,bs,p,none,fs,pa,sk,co,out⟩∧s.length≤1000000):Spc Tryz.prog 292 [.v (.one (.ptr 0 0)),.v (.one (.p (.str s)))] [.abs (.fm ⟨m,hd,bs,p,none,fs,pa,sk,co,out⟩)] (.ret (.tup [])) [.abs (.fm ((sG ⟨m,hd,bs,p,none,fs,pa,sk,co,out⟩ s)))]:=by
 obtain⟨⟨h9,hS,⟨hfl,hff⟩,hp0⟩,hs⟩:=hneed;simp only at h9 hfl hff hp0;generalize hr:sG ⟨m,hd,bs,p,none,fs,pa,sk,co,out⟩ s=r;unfold sG at hr;simp only at hr
 refine spcG zh mixed Tryz.func292 (by kernel_rfl) { cfgF with keep:=some [0,1,4,5]} [Uj,Ui,sJ,sH,zeD,zeC] (by kernel_rfl) ?_
 intro I X hI hX
 refine orcL ?_;go_invoke;refine orcS (by kernel_rfl) ?_
 simp only [zq,Nat.reduceAdd];generalize yj s=y at *;obtain⟨⟨a,b⟩,e⟩:=y;subst hI;simp only [nrmA,nrmB,nrlB,reduceCtorEq,HO.abs.injEq,Gh.fm.injEq]
 (repeat' (first|refine ja ?_ ?_|intro _))<;>first|omega|exact jb|exact jc ‹False›|skip
 all_goals first
  |omega
  |with_reducible assumption
  |exact⟨h9,hS,⟨hfl,hff⟩,hp0⟩
  |(unfold um;simp only;omega)
  |(simp only [jr];omega)
  |(subst hr;simp [*,xQ];done)
  |(subst hr;rw [if_pos ‹s=[]›];done)
  |(subst hr;rw [if_neg ‹¬ s=[]›,if_pos (by omega)];done)
  |(subst hr;rw [if_neg ‹¬ s=[]›,if_neg (by omega),if_pos ‹¬ e=0›];done)
  |(subst hr;rw [if_neg ‹¬ s=[]›,if_neg (by omega),if_neg (fun h=>h ‹e=0›)];done)
theorem ztk (m:Str) (hd:Int) (bs:List Int) (p:Int) (ln:Ln) (fs:List Fld) (pa sk co:Int) (out:List Evt) (s:Str) (hneed:FmB ⟨m,hd,bs,p,some ln,fs,pa,sk,co,out⟩∧s.length≤1000000):Spc Tryz.prog 292 [.v (.one (.ptr 0 0)),.v (.one (.p (.str s)))] [.abs (.fm ⟨m,hd,bs,p,some ln,fs,pa,sk,co,out⟩)] (.ret (.tup [])) [.abs (.fm ((sG ⟨m,hd,bs,p,some ln,fs,pa,sk,co,out⟩ s)))]:=by
 obtain⟨⟨h9,hS,⟨hfl,hff⟩,hp0⟩,hs⟩:=hneed;simp only at h9 hfl hff hp0;generalize hr:sG ⟨m,hd,bs,p,some ln,fs,pa,sk,co,out⟩ s=r;unfold sG at hr;simp only at hr
 refine spcG zh mixed Tryz.func292 (by kernel_rfl) { cfgF with keep:=some [0,1,4,5]} [Uj,Ui,sJ,sH,zeD,zeC] (by kernel_rfl) ?_
 intro I X hI hX
 refine orcL ?_;go_invoke;refine orcS (by kernel_rfl) ?_
 simp only [zq,Nat.reduceAdd];generalize yj s=y at *;obtain⟨⟨a,b⟩,e⟩:=y;subst hI;simp only [nrmA,nrmB,nrlB,reduceCtorEq,HO.abs.injEq,Gh.fm.injEq]
 (repeat' (first|refine ja ?_ ?_|intro _))<;>first|omega|exact jb|exact jc ‹False›|skip
 all_goals first
  |omega
  |with_reducible assumption
  |exact⟨h9,hS,⟨hfl,hff⟩,hp0⟩
  |(unfold um;simp only;omega)
  |(simp only [jr];omega)
  |(subst hr;simp [*,xQ];done)
  |(subst hr;rw [if_pos ‹s=[]›];done)
  |(subst hr;rw [if_neg ‹¬ s=[]›,if_pos (by omega)];done)
  |(subst hr;rw [if_neg ‹¬ s=[]›,if_neg (by omega),if_pos ‹¬ e=0›];done)
  |(subst hr;rw [if_neg ‹¬ s=[]›,if_neg (by omega),if_neg (fun h=>h ‹e=0›)];done)
def Tv (I:Alg) (args:List D) (hp:List HO):Option CT:=match args,hp with
 |[.v (.one (.ptr 0 0)),.v (.one (.p (.str s)))],[.abs (.fm f)]=>(fun(f:Fm) (s:Str)=>(some (.one ⟨I.hid (FmB f∧s.length≤1000000),(.ret (.tup [])),[.abs (.fm (I.hid ((sG f s))))]⟩):Option CT)) f s
 |_,_=>none
theorem zh9:zx Tryz.prog 292 (Tv alg):=by
 intro args hp r h;unfold Tv at h;split at h<;>cases h
 rename_i s f;simp only [CT.Good,zi];intro hneed;obtain⟨m,hd,bs,p,ln,fs,pa,sk,co,out⟩:=f
 cases ln with
 |none=>exact ztl m hd bs p fs pa sk co out s hneed
 |some ln=>exact ztk m hd bs p ln fs pa sk co out s hneed
def zh8:Know Tryz.prog:=⟨292,Tv,zh9⟩
def zh7:Know Tryz.prog:=⟨292,fun I=>zy I (Tv I),zf zh9⟩
end Go.Proofs.YtkjepecoodjbmaaGreatDoor
namespace Go.Proofs.YtkjepecoodjbmaaGreatDoor
open Go Go.Sep Go.Ab
set_option maxRecDepth 100000
theorem zb4 (s:Str):(yj s).1.name.length≤s.length∧(yj s).1.value.length≤s.length:=by
 have h:=zbl s 58;have ht:=zkl (cutB s 58).2.1 [32,9];unfold yj
 repeat' split
 all_goals simp only [ji]
 all_goals omega
end Go.Proofs.YtkjepecoodjbmaaGreatDoor
namespace Go.Proofs.YtkjepecoodjbmaaGreatDoor
open Go Go.Sep Go.Ab
set_option maxRecDepth 100000
structure FmI (f:Fm) (i:Nat):Prop where
 bs:f.bs=zac f.mark
 ml:f.mark.length≤1000
 h0:0≤f.held
 h1:f.held<f.mark.length
 s0:0≤f.skip∧f.skip≤2
 p0:0≤f.parts∧f.parts≤12
 fl:f.fields.length≤16
 ff: ∀ x ∈ f.fields,x.name.length≤i∧x.value.length≤i
 lb: ∀ l,f.ln=some l→l.b.length≤i
 p5:f.pos=5→f.ln≠none
 on:f.out.length≤4 * i
theorem zeu {f:Fm} {i:Nat} (h:FmI f i) (c:UInt8):FmI (fmSk f c) i:=by
 have hl:=(TF f.mark f.held.toNat c).resolve_left fun e=>by have h1:=h.h1;have h0:=h.h0;rw [e,ji] at h1;omega
 exact⟨h.bs,h.ml,Int.natCast_nonneg _,hl,h.s0,h.p0,h.fl,h.ff,h.lb,h.p5,h.on⟩
theorem zl7 {f:Fm} {i j:Nat} (h:FmI f i) (k:i≤j):FmI f j:=by
 obtain⟨a,b,c,d,e,f1,g,h1,h2,h3,h4⟩:=h
 exact⟨a,b,c,d,e,f1,g,fun x m=>by have:=h1 x m;omega,fun l e=>by have:=h2 l e;omega,h3,by omega⟩
theorem Y1 {f:Fm} {i:Nat} (h:FmI f i) {p co sk pa:Int} {o:List Evt} (ho:o.length≤4 * i) (hp:p=5→f.ln≠none) (hs:0≤sk∧sk≤2) (hpa:0≤pa∧pa≤12):FmI { f with pos:=p,code:=co,out:=o,skip:=sk,parts:=pa} i:=
 ⟨h.bs,h.ml,h.h0,h.h1,hs,hpa,h.fl,h.ff,h.lb,hp,ho⟩
theorem Z8 {f:Fm} {i:Nat} (h:FmI f i) (ho:f.out.length+1≤4 * i) (c:Int):FmI (xQ f c) i:=
 Y1 h (by simp only [jk,jr];omega) (fun h=>absurd h (by decide)) h.s0 h.p0
theorem znG {f:Fm} {i:Nat} (h:FmI f i) (ho:f.out.length+1≤4 * i) (c:UInt8):FmI (vg f c) i:=by
 unfold vg
 repeat' split
 · exact Y1 h h.on (fun h=>absurd h (by decide)) h.s0 h.p0
 · exact Y1 h (by simp only [jk,jr];omega) (fun h=>absurd h (by decide)) h.s0 h.p0
 · exact Y1 h h.on (fun h=>absurd h (by decide)) h.s0 h.p0
 · exact Y1 h h.on (fun h=>absurd h (by decide)) h.s0 h.p0
 · exact Z8 h ho 5
theorem zqF {f:Fm} {i:Nat} (h:FmI f i) (ho:f.out.length+2≤4 * i) (c:UInt8):FmI (uN f c) i:=by
 have hs:=zeu h c;have h2:=h.s0;unfold uN
 split
 · refine Y1 (f:=fmSk f c) hs ?_ h.p5 ?_ h.p0
   · split
     · simp only [jk,jr];omega
     · exact h.on
   · rw [Int.min_def]
     split<;>omega
 · refine Y1 (f:=fmSk f c) hs ?_ (fun h=>absurd h (by decide)) (by decide) h.p0
   repeat' split
   all_goals first|exact h.on|(simp only [jk,jr,jh,ji];omega)
theorem zqI {f:Fm} {i:Nat} (h:FmI f i) (ho:f.out.length+1≤4 * i):FmI (vH f) i:=by
 have h2:=h.p0;unfold vH
 split
 · exact Z8 h ho _
 · split
   · exact Z8 h ho _
   · refine zeu (zeu ?_ _) _
     exact Y1 h (by simp only [jk,jr];omega) (fun h=>absurd h (by decide)) (by decide) (by omega)
theorem ztm {f:Fm} {i:Nat} (h:FmI f i) (ho:f.out.length+1≤4 * i) {s:Str} (hs:s.length≤i):FmI (sG f s) i:=by
 unfold sG
 split
 · exact zqI h ho
 · split
   · exact Z8 h ho _
   · split
     · exact Z8 h ho _
     · rename_i h16 _
       have hp:=zb4 s;refine⟨h.bs,h.ml,h.h0,h.h1,h.s0,h.p0,?_,fun x hx=> ?_,h.lb,h.p5,h.on⟩
       · have:=h.fl
         simp only [jk,jr];omega
       · rcases List.mem_append.1 hx with h5|h5
         · exact h.ff x h5
         · rw [List.mem_singleton.1 h5];omega
theorem ztr {f:Fm} {i:Nat} (h:FmI f i) (c:UInt8):FmI (fmF f c) (i+1):=by
 have hm:=zl7 h (show i≤i+1 by omega)
 have ho:f.out.length+2≤4 * (i+1):=by have:=h.on;omega
 unfold fmF
 split
 · exact zqF hm ho c
 · split
   · exact znG hm (by omega) c
   · split
     · split
       · exact Z8 hm (by omega) 2
       · exact⟨hm.bs,hm.ml,hm.h0,hm.h1,hm.s0,hm.p0,by simp,(fun x hx=>by cases hx),(fun l e=>by cases e;simp [ln0]),(fun _ e=>by cases e),hm.on⟩
     · split
       · have hb:=zsZ (lnOf f) c
         have hl:=YL (lnOf f) c
         have hn:(lnOf f).b.length≤i:=by
          unfold lnOf
          cases e:f.ln with
          |none=>simp [ln0]
          |some l=>exact h.lb l e
         have hk:FmI { f with ln:=some (lnF (lnOf f) c).1} (i+1):=⟨hm.bs,hm.ml,hm.h0,hm.h1,hm.s0,hm.p0,hm.fl,hm.ff,(fun l e=>by cases e;omega),(fun _ e=>by cases e),hm.on⟩
         split
         · exact Z8 hk (by simp only;omega) _
         · split
           · exact ztm hk (by simp only;omega) (by omega)
           · exact hk
       · exact hm
theorem zsY (k:Int) (hneed:False):Spc Tryz.prog 121 [.v (.one (.p (.val (.pointer none)))),.v (.one (.p (.int .u8 k)))] [] (.ret (.tup [(.one (.p (.str ([])))),(.one (.p (.bool false))),(.one (.p (.int .i64 0)))])) []:=hneed.elim
def XJ (I:Alg) (args:List D) (hp:List HO):Option CT:=match args,hp with
 |[.v (.one (.p (.val (.pointer none)))),.v (.one (.p (.int .u8 k)))],[]=>(fun(k:Int)=>(some (.one ⟨I.hid (False),(.ret (.tup [(.one (.p (.str (I.hid ([]))))),(.one (.p (.bool false))),(.one (.p (.int .i64 0)))])),[]⟩):Option CT)) k
 |_,_=>none
theorem zd6:zx Tryz.prog 121 (XJ alg):=by
 intro args hp r h;unfold XJ at h
 split at h
 · cases h;exact fun hn=>zsY _ hn
 · cases h
def zd5:Know Tryz.prog:=⟨121,XJ,zd6⟩
def zd4:Know Tryz.prog:=⟨121,fun I=>zy I (XJ I),zf zd6⟩
def fmN (f:Fm):Prop:=∃ i:Nat,i≤1000000∧FmI f i
theorem zvR (m:Str) (hd:Int) (bs:List Int) (p:Int) (fs:List Fld) (pa sk co:Int) (out:List Evt) (k:Int) (hneed:fmN ⟨m,hd,bs,p,none,fs,pa,sk,co,out⟩∧0≤k∧k≤255):Spc Tryz.prog 277 [.v (.one (.ptr 0 0)),.v (.one (.p (.int .u8 k)))] [.abs (.fm ⟨m,hd,bs,p,none,fs,pa,sk,co,out⟩)] (.ret (.tup [])) [.abs (.fm ((fmF ⟨m,hd,bs,p,none,fs,pa,sk,co,out⟩ (UInt8.ofNat k.toNat))))]:=by
 obtain⟨⟨i,hi,hI0⟩,hk0,hk1⟩:=hneed;obtain⟨g1,g2,g3,g4,g5,g6,g7,g8,g9,g10,g11⟩:=hI0;simp only at g1 g2 g3 g4 g5 g6 g7 g8 g9 g10 g11
 have g2:=Nat.le_trans g2 (show 1000≤1000000 by decide)
 have hfd:FdOk fs:=⟨by omega,fun x hx=>by have:=g8 x hx;omega⟩
 have h10:=u8k hk0 hk1 10 (by decide)
 have h10:(UInt8.ofNat k.toNat=10)=(k=10):=h10;generalize hr:fmF ⟨m,hd,bs,p,none,fs,pa,sk,co,out⟩ (UInt8.ofNat k.toNat)=r;unfold fmF lnOf at hr;simp only [h10] at hr;have hll:=trivial
 refine spcG zh mixed Tryz.func277 (by kernel_rfl) { cfgF with keep:=some [0,1,4,5,6,10,11,17]} [zaY,zaX,qj,qi,zd5,zd4,sJ,sH,zcK,zcJ,zez,zey,zh8,zh7] (by kernel_rfl) ?_
 intro I X hI hX
 refine orcL ?_;go_invoke;refine orcS (by kernel_rfl) ?_
 simp only [zq,Nat.reduceAdd];subst hI;simp only [nrmA,nrmB,nrlB,reduceCtorEq,HO.abs.injEq,Gh.fm.injEq]
 (repeat' (first|refine ja ?_ ?_|intro _))<;>first|omega|exact jb|exact jc ‹False›|skip
 all_goals first
  |omega
  |with_reducible assumption
  |(refine⟨by simp only;omega,⟨g1,g2,g3,.inr g4,g5⟩,?_⟩;done)
  |exact⟨g1,g2,g3,.inr g4,g5⟩
  |exact⟨by simp only;omega,⟨g1,g2,g3,.inr g4,g5⟩,hfd,g6⟩
  |exact Nat.le_trans hll (by omega)
  |(unfold um;simp only;omega)
  |(unfold fm9;simp only;omega)
  |(exact absurd rfl (g10 ‹_›))
  |(subst hr;simp [*,ln0];done)
theorem zvQ (m:Str) (hd:Int) (bs:List Int) (p:Int) (ln:Ln) (fs:List Fld) (pa sk co:Int) (out:List Evt) (k:Int) (hneed:fmN ⟨m,hd,bs,p,some ln,fs,pa,sk,co,out⟩∧0≤k∧k≤255):Spc Tryz.prog 277 [.v (.one (.ptr 0 0)),.v (.one (.p (.int .u8 k)))] [.abs (.fm ⟨m,hd,bs,p,some ln,fs,pa,sk,co,out⟩)] (.ret (.tup [])) [.abs (.fm ((fmF ⟨m,hd,bs,p,some ln,fs,pa,sk,co,out⟩ (UInt8.ofNat k.toNat))))]:=by
 obtain⟨⟨i,hi,hI0⟩,hk0,hk1⟩:=hneed;obtain⟨g1,g2,g3,g4,g5,g6,g7,g8,g9,g10,g11⟩:=hI0;simp only at g1 g2 g3 g4 g5 g6 g7 g8 g9 g10 g11
 have g2:=Nat.le_trans g2 (show 1000≤1000000 by decide)
 have hfd:FdOk fs:=⟨by omega,fun x hx=>by have:=g8 x hx;omega⟩
 have h10:=u8k hk0 hk1 10 (by decide)
 have h10:(UInt8.ofNat k.toNat=10)=(k=10):=h10;generalize hr:fmF ⟨m,hd,bs,p,some ln,fs,pa,sk,co,out⟩ (UInt8.ofNat k.toNat)=r;unfold fmF lnOf at hr;simp only [h10] at hr;have hll:=YL ln (UInt8.ofNat k.toNat);have hlb:=g9 ln rfl
 refine spcG zh mixed Tryz.func277 (by kernel_rfl) { cfgF with keep:=some [0,1,4,5,6,10,11,17]} [zaY,zaX,qj,qi,zd5,zd4,sJ,sH,zcK,zcJ,zez,zey,zh8,zh7] (by kernel_rfl) ?_
 intro I X hI hX
 refine orcL ?_;go_invoke;refine orcS (by kernel_rfl) ?_
 simp only [zq,Nat.reduceAdd];subst hI;simp only [nrmA,nrmB,nrlB,reduceCtorEq,HO.abs.injEq,Gh.fm.injEq]
 (repeat' (first|refine ja ?_ ?_|intro _))<;>first|omega|exact jb|exact jc ‹False›|skip
 all_goals first
  |omega
  |with_reducible assumption
  |(refine⟨by simp only;omega,⟨g1,g2,g3,.inr g4,g5⟩,?_⟩;done)
  |exact⟨g1,g2,g3,.inr g4,g5⟩
  |exact⟨by simp only;omega,⟨g1,g2,g3,.inr g4,g5⟩,hfd,g6⟩
  |exact Nat.le_trans hll (by omega)
  |(unfold um;simp only;omega)
  |(unfold fm9;simp only;omega)
  |(exact absurd rfl (g10 ‹_›))
  |(subst hr;simp [*,ln0];done)
def zbe (I:Alg) (args:List D) (hp:List HO):Option CT:=match args,hp with
 |[.v (.one (.ptr 0 0)),.v (.one (.p (.int .u8 k)))],[.abs (.fm f)]=>(fun(f:Fm) (k:Int)=>(some (.one ⟨I.hid (fmN f∧0≤k∧k≤255),(.ret (.tup [])),[.abs (.fm (I.hid ((fmF f (UInt8.ofNat k.toNat)))))]⟩):Option CT)) f k
 |_,_=>none
theorem zl9:zx Tryz.prog 277 (zbe alg):=by
 intro args hp r h;unfold zbe at h;split at h<;>cases h
 rename_i k f;simp only [CT.Good,zi];intro hneed;obtain⟨m,hd,bs,p,ln,fs,pa,sk,co,out⟩:=f
 cases ln with
 |none=>exact zvR m hd bs p fs pa sk co out k hneed
 |some ln=>exact zvQ m hd bs p ln fs pa sk co out k hneed
def zbd:Know Tryz.prog:=⟨277,zbe,zl9⟩
def zbc:Know Tryz.prog:=⟨277,fun I=>zy I (zbe I),zf zl9⟩
end Go.Proofs.YtkjepecoodjbmaaGreatDoor
namespace Go.Proofs.YtkjepecoodjbmaaGreatDoor
open Go Go.Sep Go.Ab
set_option maxRecDepth 100000
def zL (l:List Evt):Nat:=(l.map fun e=>e.bytes.length).sum
theorem yF (a b:List Evt):zL (a++b)=zL a+zL b:=by simp [zL]
theorem xJ (e:Evt):zL [e]=e.bytes.length:=by simp [zL]
theorem zp8 (o:List Evt) (e:Evt):zL (uP o e)≤zL o+e.bytes.length:=by
 rcases List.eq_nil_or_concat o with rfl|⟨z,x,rfl⟩
 · rw [YO,xJ];omega
 · rw [List.concat_eq_append,yO]
   split
   · rw [yF,yF,xJ,xJ];simp only [evB,jk];omega
   · rw [yF _ [e],xJ e];exact jL _
theorem XO (l:List Evt) (e:Evt):zH (l++[e])=uP (zH l) e:=by simp [zH,List.foldl_append]
theorem zcp (l:List Evt):zL (zH l)≤zL l:=by
 suffices ∀ l o:List Evt,zL (l.foldl uP o)≤zL o+zL l by have:=this l [];simpa [zH,zL] using this
 intro l
 induction l with
 |nil=>intro o;simp [zL]
 | cons e r ih=>
   intro o;have h1:=ih (uP o e);have h2:=zp8 o e
   have h3:zL (e::r)=e.bytes.length+zL r:=by simp [zL]
   rw [List.foldl_cons];omega
theorem zp9 (o:List Evt) (e:Evt):(uP o e).length≤o.length+1:=by
 rcases List.eq_nil_or_concat o with rfl|⟨z,x,rfl⟩
 · simp [YO]
 · rw [List.concat_eq_append,yO]
   split<;>simp
theorem znL (l:List Evt) (i:Nat):zL (l.take i)≤zL l:=by
 have:=yF (l.take i) (l.drop i);rw [List.take_append_drop] at this;omega
theorem TK {l:List Evt} {e:Evt} (h:e ∈ l):e.bytes.length≤zL l:=by
 obtain⟨a,b,rfl⟩:=List.append_of_mem h;have:=yF a (e::b)
 have h3:zL (e::b)=e.bytes.length+zL b:=by simp [zL]
 omega
theorem UA (l:List Evt):(zH l).length≤l.length:=by
 suffices ∀ l o:List Evt,(l.foldl uP o).length≤o.length+l.length by have:=this l [];simpa [zH] using this
 intro l
 induction l with
 |nil=>intro o;simp
 | cons e r ih=>
   intro o;have h1:=ih (uP o e);have h2:=zp9 o e;rw [List.foldl_cons,jh];omega
def VZ (I:Alg) (args:List D) (hp:List HO):Option CT:=match args,hp with
 |[.v (.one (.row 0))],[.row .evt 34 l]=>(fun(l:List Evt)=>(some (.one ⟨I.hid (zL l≤1000000∧l.length≤10000000),(.ret (.v (.one (.row 1)))),[.row .evt 34 l,.row .evt 34 (I.hid ((zH l)))]⟩):Option CT)) l
 |_,_=>none
theorem zgM:zx Tryz.prog 81 (VZ alg):=by
 intro args hp r h;unfold VZ at h;split at h<;>cases h
 rename_i l
 revert l;intro(l:List Evt)
 simp only [CT.Good,zi];intro hneed;obtain⟨hn1,hn2⟩:=hneed
 refine spcG zh mixed Tryz.func81 (by kernel_rfl) { nr:=[3],keep:=some [0,2,3,5,6,7,8,9,10]} [] (by kernel_rfl) ?_
 intro I X hI hX
 refine orcL ?_;go_invoke;refine orcS (by kernel_rfl) ?_
 simp only [zq,Nat.reduceAdd]
 refine zB hI zh mixed [] hX [0,3,8,9,10] (fun(g:Nat × List Evt)=>match g with|(i,o)=>i≤l.length∧o=zH (l.take i)) (fun(g:Nat × List Evt)=>match g with|(i,o)=>⟨[(0,.v (.one (.row 0))),(3,.v (.one (.row 1))),(8,.v (.one (.row 0))),(9,.v (.one (.p (.int .i64 ((I.len (α:=Evt) l)))))),(10,.v (.one (.p (.int .i64 i))))],[.row .evt 34 l,.row .evt 34 o],52,none⟩) (fun(g:Nat × List Evt)=>match g with|(i,o)=>l.length - i) (0,[]) (by kernel_rfl) (by kernel_rfl) ?_ ?_
 · exact⟨jM _,rfl⟩
 rintro⟨i,o⟩ ⟨h1,h2⟩ A hA;simp only at hA h1 h2
 refine orcL ?_;go_invoke;refine orcS (by kernel_rfl) ?_
 simp only [zq,Nat.reduceAdd];subst hI;simp only [nrmA,nrmB,nrlB,reduceCtorEq];have hl1:=UA (l.take i)
 have hl2:(l.take i).length≤i:=by rw [jv];omega
 have hl3:=zcp (l.take i)
 have hl4: ∀ x ∈ zH (l.take i),x.bytes.length≤1000000:=fun x h=>by
  have a:=TK h;have b:=znL l i;omega
 have hw: ¬ i<l.length→o=zH l:=fun h=>by rw [h2,jq (by omega)]
 have hy:i<l.length→zH (l.take (i+1))=uP o (l.getD i ⟨0,⟨[],[],0,[],0⟩,[],⟨[],[],[],[]⟩,0⟩):=fun h=>by rw [jB h,XO,h2];simp [h]
 have hl5:i<l.length→(l.getD i ⟨0,⟨[],[],0,[],0⟩,[],⟨[],[],[],[]⟩,0⟩).bytes.length≤1000000:=fun h=>by
  have:l.getD i ⟨0,⟨[],[],0,[],0⟩,[],⟨[],[],[],[]⟩,0⟩ ∈ l:=by simp [h]
  have:=TK this;omega
 rw [← h2] at hl1 hl4
 refine⟨fun c=> ?_,fun c=>hw (by omega)⟩
 have hlt:i<l.length:=by omega
 have hy:=hy hlt;have hl5:=hl5 hlt;generalize l.getD i ⟨0,⟨[],[],0,[],0⟩,[],⟨[],[],[],[]⟩,0⟩=e at *
 have hgo: ∀ r:List Evt,r=uP o e→(fun p:Nat × List Evt=>p.1≤l.length∧p.2=zH (l.take p.1)) (i+1,r):=fun r h=>⟨by simp only;omega,by simp only;rw [hy,h]⟩
 rcases List.eq_nil_or_concat o with he|⟨z,x,he⟩
 · subst he
   rw [YO] at hgo;simp only [jh,ji]
   (repeat' (first|refine ja ?_ ?_|intro _))<;>first|omega|exact jb|exact jc ‹False›|skip
   all_goals first
    |omega
    |exact hA (i+1,_) (hgo _ rfl) (by simp only;omega)
 · rw [List.concat_eq_append] at he
   subst he;have hx:=hl4 x (List.mem_append_right _ (List.mem_singleton.2 rfl))
   have hz:(((z++[x]).length:Int) - 1).toNat=z.length:=by rw [jk,jr];omega
   have hg: ∀ d,(z++[x]).getD z.length d=x:=fun d=>by simp
   have hs: ∀ d,(z++[x]).set z.length d=z++[d]:=fun d=>by simp
   rw [yO] at hgo;rw [jk,jr] at hl1;simp only [hz,hg,hs];simp only [jk,jh,ji];clear hz hg hs
   (repeat' (first|refine ja ?_ ?_|intro _))<;>first|omega|exact jb|exact jc ‹False›|skip
   all_goals first
    |omega
    |(rw [if_pos ⟨‹e.kind=2›,‹x.kind=2›⟩] at hgo;exact hA (i+1,_) (hgo _ rfl) (by simp only;omega))
    |(rw [if_neg (fun h=>‹¬ e.kind=2› h.1)] at hgo;exact hA (i+1,_) (hgo _ rfl) (by simp only;omega))
    |(rw [if_neg (fun h=>‹¬ x.kind=2› h.2)] at hgo;exact hA (i+1,_) (hgo _ rfl) (by simp only;omega))
def wG:Know Tryz.prog:=⟨81,VZ,zgM⟩
def wF:Know Tryz.prog:=⟨81,fun I=>zy I (VZ I),zf zgM⟩
end Go.Proofs.YtkjepecoodjbmaaGreatDoor
namespace Go.Proofs.YtkjepecoodjbmaaGreatDoor
open Go Go.Sep Go.Ab
set_option maxRecDepth 100000
theorem zil {m:Str} {n:Nat} (h:m=[]∨n<m.length) (c:UInt8):(qA m n c).1.length+(qA m n c).2.1≤n+1:=by
 unfold qA
 by_cases h0:m=[]
 · rw [if_pos h0];simp only [jr];omega
 · rw [if_neg h0]
   have hn:n<m.length:=h.resolve_left h0
   have hf:=(P.zjG m c P.take_len n n (jL _) (by omega)).le
   unfold P.feed;simp only
   repeat' split
   all_goals simp only [jk,jr,jv]
   all_goals omega
theorem zux (f:Fm) {i:Nat} (h:FmI f i) (c:UInt8):(fmSk f c).held.toNat≤f.held.toNat+1:=by
 have:=zil (m:=f.mark) (n:=f.held.toNat) (.inr (by have:=h.h0;have:=h.h1;omega)) c
 show(((qA f.mark f.held.toNat c).2.1:Nat):Int).toNat≤_
 rw [jJ];omega
theorem qB (o:List Evt) (e:Evt) (h:e.bytes=[]):zL (o++[e])=zL o:=by
 rw [yF,xJ,h];rfl
theorem zjD {f:Fm} {i:Nat} (h:FmI f i):zL (vH f).out+(vH f).held.toNat≤zL f.out+f.held.toNat+2:=by
 have h2:=h.p0;unfold vH
 split
 · show zL (f.out++[evF _])+_≤_
   rw [qB _ _ rfl];simp only [xQ];omega
 · split
   · show zL (f.out++[evF _])+_≤_
     rw [qB _ _ rfl];simp only [xQ];omega
   · have hI:FmI { f with parts:=f.parts+1,pos:=6,out:=[],skip:=2} i:=⟨h.bs,h.ml,h.h0,h.h1,(show(0:Int)≤2∧(2:Int)≤2 by decide),by simp only;omega,h.fl,h.ff,h.lb,(fun e=>absurd (show(6:Int)=5 from e) (by decide)),jM _⟩
     have a:=zux _ hI 13;have b:=zux _ (zeu hI 13) 10
     show zL (f.out++[evP _])+(fmSk (fmSk { f with parts:=f.parts+1,pos:=6,out:=[],skip:=2} 13) 10).held.toNat≤_
     rw [qB _ _ rfl];simp only at a;omega
theorem znA {f:Fm} {i:Nat} (h:FmI f i) (s:Str):zL (sG f s).out+(sG f s).held.toNat≤zL f.out+f.held.toNat+2:=by
 unfold sG
 split
 · exact zjD h
 · split
   · show zL (f.out++[evF _])+_≤_
     rw [qB _ _ rfl];simp only [xQ];omega
   · split
     · show zL (f.out++[evF _])+_≤_
       rw [qB _ _ rfl];simp only [xQ];omega
     · simp only;omega
theorem zjA {f:Fm} {i:Nat} (h:FmI f i) (c:UInt8):zL (fmF f c).out+(fmF f c).held.toNat≤zL f.out+f.held.toNat+2:=by
 have hfail: ∀ (f:Fm) (c:Int),zL (xQ f c).out=zL f.out∧(xQ f c).held=f.held:=fun f c=>⟨qB _ _ rfl,rfl⟩;unfold fmF
 split
 · have hp:=zil (m:=f.mark) (n:=f.held.toNat) (.inr (by have:=h.h0;have:=h.h1;omega)) c
   have hd:(sN f c).length≤(qA f.mark f.held.toNat c).1.length:=by unfold sN;rw [jC];omega
   have e0:(fmSk f c).held.toNat=(qA f.mark f.held.toNat c).2.1:=jJ _;unfold uN
   split
   · show zL (if f.pos=6∧sN f c≠[] then f.out++[evB (sN f c)] else f.out)+(fmSk f c).held.toNat≤_
     rw [e0]
     split
     · rw [yF,xJ];simp only [evB];omega
     · omega
   · show zL (if f.pos=6 then(if sN f c≠[] then f.out++[evB (sN f c),evO] else f.out++[evO]) else f.out)+(fmSk f c).held.toNat≤_
     rw [e0]
     have e1:zL [evB (sN f c),evO]=(sN f c).length:=by simp [zL,evB,evO]
     have e2:zL [evO]=0:=rfl
     split
     · split
       · rw [yF,e1];omega
       · rw [yF,e2];omega
     · omega
 · split
   · unfold vg
     repeat' split
     all_goals first
      |(simp only;omega)
      |(rw [(hfail _ _).1,(hfail _ _).2];omega)
      |(show zL (f.out++[evE])+_≤_;rw [qB _ _ rfl];simp only;omega)
   · split
     · split
       · rw [(hfail _ _).1,(hfail _ _).2];omega
       · simp only;omega
     · split
       · split
         · rw [(hfail _ _).1,(hfail _ _).2];simp only;omega
         · split
           · have hn:(lnOf f).b.length≤i:=by
              unfold lnOf
              cases e:f.ln with
              |none=>simp [ln0]
              |some l=>exact h.lb l e
             have hb:=zsZ (lnOf f) c
             have hm:=zl7 h (show i≤i+1 by omega)
             exact znA (i:=i+1) (f:= { f with ln:=some (lnF (lnOf f) c).1}) ⟨hm.bs,hm.ml,hm.h0,hm.h1,hm.s0,hm.p0,hm.fl,hm.ff,(fun l e=>by cases e;omega),(fun _ e=>by cases e),hm.on⟩ _
           · simp only;omega
       · omega
theorem zqz (f:Fm) (b:Str) {i:Nat} (h:i<b.length):Tj f (b.take (i+1))=fmF (Tj f (b.take i)) (b.getD i 0):=by
 rw [show b.getD i 0=b[i] by simp [h],jB h]
 unfold Tj;rw [List.foldl_append];rfl
theorem zjz: ∀ (b:Str) (f:Fm) (i:Nat),FmI f i→FmI (Tj f b) (i+b.length)
 |[],f,i,h=>h
 | c::r,f,i,h=>by
   have:=zjz r (fmF f c) (i+1) (ztr h c)
   rw [jh,show i+(r.length+1)=i+1+r.length by omega]
   exact this
def fmN0 (f:Fm) (b:Str):Prop:=∃ n,FmI { f with out:=[]} n∧n+b.length≤400000
theorem zto (m:Str) (hd:Int) (bs:List Int) (p:Int) (fs:List Fld) (pa sk co:Int) (out:List Evt) (b:Str) (hneed:fmN0 ⟨m,hd,bs,p,none,fs,pa,sk,co,out⟩ b):Spc Tryz.prog 247 [.v (.one (.ptr 0 0)),.v (.one (.p (.list .byte b)))] [.abs (.fm ⟨m,hd,bs,p,none,fs,pa,sk,co,out⟩)] (.ret (.v (.one (.row 1)))) [.abs (.fm ((xP ⟨m,hd,bs,p,none,fs,pa,sk,co,out⟩ b))),.row .evt 34 ((zH (xP ⟨m,hd,bs,p,none,fs,pa,sk,co,out⟩ b).out))]:=by
 obtain⟨n,hI0,hnb⟩:=hneed;have hml:=hI0.ml;have hh1:=hI0.h1;have hh0:=hI0.h0;simp only at hml hh1 hh0
 have hh:hd.toNat≤1000:=by
  omega
 refine spcG zh mixed Tryz.func247 (by kernel_rfl) { cfgF with keep:=some [0,1,4,6,10,11,12]} [zbd,zbc,wG,wF] (by kernel_rfl) ?_
 intro I X hI hX
 refine orcL ?_;go_invoke;refine orcS (by kernel_rfl) ?_
 simp only [zq,Nat.reduceAdd];unfold xP;simp only at hI0 ⊢
 refine zB hI zh mixed [zbd,zbc,wG,wF] hX [0,10,11,12] (fun(g:Nat × Fm)=>match g with|(i,r)=>i≤b.length∧r=Tj (⟨m,hd,bs,p,none,fs,pa,sk,co,[]⟩:Fm) (b.take i)∧FmI r (n+i)∧zL r.out+r.held.toNat≤hd.toNat+2 * i) (fun(g:Nat × Fm)=>match g with|(i,r)=>⟨[(0,.v (.one (.ptr 0 0))),(10,.v (.one (.p (.list .byte b)))),(11,.v (.one (.p (.int .i64 ((I.len (α:=UInt8) b)))))),(12,.v (.one (.p (.int .i64 i))))],[.abs (.fm r)],25,none⟩) (fun(g:Nat × Fm)=>match g with|(i,r)=>b.length - i) (0,(⟨m,hd,bs,p,none,fs,pa,sk,co,[]⟩:Fm)) (by kernel_rfl) (by kernel_rfl) ?_ ?_
 · exact⟨jM _,rfl,hI0,by simp [zL]⟩
 rintro⟨i,⟨m2,hd2,bs2,p2,ln2,fs2,pa2,sk2,co2,out2⟩⟩ ⟨h1,h2,h3,h4⟩ A hA;simp only at hA h1 h2 h3 h4
 have hrn:i<b.length→fmN _:=fun h=>⟨n+i,by omega,h3⟩
 have hgo:i<b.length→_:=fun h=>hA (i+1,fmF ⟨m2,hd2,bs2,p2,ln2,fs2,pa2,sk2,co2,out2⟩ (b.getD i 0)) ⟨by simp only;omega,by simp only;rw [zqz _ _ h,← h2],by simp only;exact ztr h3 _,by simp only;have:=zjA h3 (b.getD i 0);simp only at this;omega⟩ (by simp only;omega)
 have hend: ¬ i<b.length→_:=fun h=>h2.trans (by rw [jq (by omega)])
 rcases ln2 with _|l2
 · have h0:=h1
   refine orcL ?_;go_invoke;refine orcS (by kernel_rfl) ?_
   simp only [zq,Nat.reduceAdd];subst hI;simp only [nrmA,nrmB,nrlB,reduceCtorEq,HO.abs.injEq,Gh.fm.injEq]
   by_cases hi:i<b.length
   · have hg:=hgo hi
     have hn:=hrn hi
     (repeat' (first|refine ja ?_ ?_|intro _))<;>first|omega|exact jb|exact jc ‹False›|skip
     all_goals first|omega|exact hg|exact hn|contradiction|(have:=(b.getD i 0).toNat_lt;omega)|trace_state
   · have hg:=hend hi
     rw [← hg];have hon:=h3.on;simp only at hon
     (repeat' (first|refine ja ?_ ?_|intro _))<;>first|omega|exact jb|exact jc ‹False›|skip
     all_goals first|omega|rfl|contradiction|exact⟨by omega,by omega⟩|trace_state
 · have h0:=h1
   refine orcL ?_;go_invoke;refine orcS (by kernel_rfl) ?_
   simp only [zq,Nat.reduceAdd];subst hI;simp only [nrmA,nrmB,nrlB,reduceCtorEq,HO.abs.injEq,Gh.fm.injEq]
   by_cases hi:i<b.length
   · have hg:=hgo hi
     have hn:=hrn hi
     (repeat' (first|refine ja ?_ ?_|intro _))<;>first|omega|exact jb|exact jc ‹False›|skip
     all_goals first|omega|exact hg|exact hn|contradiction|(have:=(b.getD i 0).toNat_lt;omega)|trace_state
   · have hg:=hend hi
     rw [← hg];have hon:=h3.on;simp only at hon
     (repeat' (first|refine ja ?_ ?_|intro _))<;>first|omega|exact jb|exact jc ‹False›|skip
     all_goals first|omega|rfl|contradiction|exact⟨by omega,by omega⟩|trace_state
theorem ztn (m:Str) (hd:Int) (bs:List Int) (p:Int) (ln:Ln) (fs:List Fld) (pa sk co:Int) (out:List Evt) (b:Str) (hneed:fmN0 ⟨m,hd,bs,p,some ln,fs,pa,sk,co,out⟩ b):Spc Tryz.prog 247 [.v (.one (.ptr 0 0)),.v (.one (.p (.list .byte b)))] [.abs (.fm ⟨m,hd,bs,p,some ln,fs,pa,sk,co,out⟩)] (.ret (.v (.one (.row 1)))) [.abs (.fm ((xP ⟨m,hd,bs,p,some ln,fs,pa,sk,co,out⟩ b))),.row .evt 34 ((zH (xP ⟨m,hd,bs,p,some ln,fs,pa,sk,co,out⟩ b).out))]:=by
 obtain⟨n,hI0,hnb⟩:=hneed;have hml:=hI0.ml;have hh1:=hI0.h1;have hh0:=hI0.h0;simp only at hml hh1 hh0
 have hh:hd.toNat≤1000:=by
  omega
 refine spcG zh mixed Tryz.func247 (by kernel_rfl) { cfgF with keep:=some [0,1,4,6,10,11,12]} [zbd,zbc,wG,wF] (by kernel_rfl) ?_
 intro I X hI hX
 refine orcL ?_;go_invoke;refine orcS (by kernel_rfl) ?_
 simp only [zq,Nat.reduceAdd];unfold xP;simp only at hI0 ⊢
 refine zB hI zh mixed [zbd,zbc,wG,wF] hX [0,10,11,12] (fun(g:Nat × Fm)=>match g with|(i,r)=>i≤b.length∧r=Tj (⟨m,hd,bs,p,some ln,fs,pa,sk,co,[]⟩:Fm) (b.take i)∧FmI r (n+i)∧zL r.out+r.held.toNat≤hd.toNat+2 * i) (fun(g:Nat × Fm)=>match g with|(i,r)=>⟨[(0,.v (.one (.ptr 0 0))),(10,.v (.one (.p (.list .byte b)))),(11,.v (.one (.p (.int .i64 ((I.len (α:=UInt8) b)))))),(12,.v (.one (.p (.int .i64 i))))],[.abs (.fm r)],25,none⟩) (fun(g:Nat × Fm)=>match g with|(i,r)=>b.length - i) (0,(⟨m,hd,bs,p,some ln,fs,pa,sk,co,[]⟩:Fm)) (by kernel_rfl) (by kernel_rfl) ?_ ?_
 · exact⟨jM _,rfl,hI0,by simp [zL]⟩
 rintro⟨i,⟨m2,hd2,bs2,p2,ln2,fs2,pa2,sk2,co2,out2⟩⟩ ⟨h1,h2,h3,h4⟩ A hA;simp only at hA h1 h2 h3 h4
 have hrn:i<b.length→fmN _:=fun h=>⟨n+i,by omega,h3⟩
 have hgo:i<b.length→_:=fun h=>hA (i+1,fmF ⟨m2,hd2,bs2,p2,ln2,fs2,pa2,sk2,co2,out2⟩ (b.getD i 0)) ⟨by simp only;omega,by simp only;rw [zqz _ _ h,← h2],by simp only;exact ztr h3 _,by simp only;have:=zjA h3 (b.getD i 0);simp only at this;omega⟩ (by simp only;omega)
 have hend: ¬ i<b.length→_:=fun h=>h2.trans (by rw [jq (by omega)])
 rcases ln2 with _|l2
 · have h0:=h1
   refine orcL ?_;go_invoke;refine orcS (by kernel_rfl) ?_
   simp only [zq,Nat.reduceAdd];subst hI;simp only [nrmA,nrmB,nrlB,reduceCtorEq,HO.abs.injEq,Gh.fm.injEq]
   by_cases hi:i<b.length
   · have hg:=hgo hi
     have hn:=hrn hi
     (repeat' (first|refine ja ?_ ?_|intro _))<;>first|omega|exact jb|exact jc ‹False›|skip
     all_goals first|omega|exact hg|exact hn|contradiction|(have:=(b.getD i 0).toNat_lt;omega)|trace_state
   · have hg:=hend hi
     rw [← hg];have hon:=h3.on;simp only at hon
     (repeat' (first|refine ja ?_ ?_|intro _))<;>first|omega|exact jb|exact jc ‹False›|skip
     all_goals first|omega|rfl|contradiction|exact⟨by omega,by omega⟩|trace_state
 · have h0:=h1
   refine orcL ?_;go_invoke;refine orcS (by kernel_rfl) ?_
   simp only [zq,Nat.reduceAdd];subst hI;simp only [nrmA,nrmB,nrlB,reduceCtorEq,HO.abs.injEq,Gh.fm.injEq]
   by_cases hi:i<b.length
   · have hg:=hgo hi
     have hn:=hrn hi
     (repeat' (first|refine ja ?_ ?_|intro _))<;>first|omega|exact jb|exact jc ‹False›|skip
     all_goals first|omega|exact hg|exact hn|contradiction|(have:=(b.getD i 0).toNat_lt;omega)|trace_state
   · have hg:=hend hi
     rw [← hg];have hon:=h3.on;simp only at hon
     (repeat' (first|refine ja ?_ ?_|intro _))<;>first|omega|exact jb|exact jc ‹False›|skip
     all_goals first|omega|rfl|contradiction|exact⟨by omega,by omega⟩|trace_state
def Tz (I:Alg) (args:List D) (hp:List HO):Option CT:=match args,hp with
 |[.v (.one (.ptr 0 0)),.v (.one (.p (.list .byte b)))],[.abs (.fm f)]=>(fun(f:Fm) (b:Str)=>(some (.one ⟨I.hid (fmN0 f b),(.ret (.v (.one (.row 1)))),[.abs (.fm (I.hid ((xP f b)))),.row .evt 34 (I.hid ((zH (xP f b).out)))]⟩):Option CT)) f b
 |_,_=>none
theorem zib:zx Tryz.prog 247 (Tz alg):=by
 intro args hp r h;unfold Tz at h;split at h<;>cases h
 rename_i b f;simp only [CT.Good,zi];intro hneed;obtain⟨m,hd,bs,p,ln,fs,pa,sk,co,out⟩:=f
 cases ln with
 |none=>exact zto m hd bs p fs pa sk co out b hneed
 |some ln=>exact ztn m hd bs p ln fs pa sk co out b hneed
def zcH:Know Tryz.prog:=⟨247,Tz,zib⟩
def zcG:Know Tryz.prog:=⟨247,fun I=>zy I (Tz I),zf zib⟩
theorem zqD (m:Str) (hd:Int) (bs:List Int) (p:Int) (fs:List Fld) (pa sk co:Int) (out:List Evt):Spc Tryz.prog 248 [.v (.one (.ptr 0 0))] [.abs (.fm ⟨m,hd,bs,p,none,fs,pa,sk,co,out⟩)] (.ret (.v (.one (.p (.int .i64 ((qm ⟨m,hd,bs,p,none,fs,pa,sk,co,out⟩))))))) [.abs (.fm ⟨m,hd,bs,p,none,fs,pa,sk,co,out⟩)]:=by
 generalize hr:qm ⟨m,hd,bs,p,none,fs,pa,sk,co,out⟩=r;unfold qm at hr;simp only at hr
 refine spcG zh mixed Tryz.func248 (by kernel_rfl) { cfgF with keep:=some [0,2,6]} [] (by kernel_rfl) ?_
 intro I X hI hX
 refine orcL ?_;go_invoke;refine orcS (by kernel_rfl) ?_
 simp only [zq,Nat.reduceAdd];subst hI;simp only [nrmA,nrmB,nrlB,reduceCtorEq,HO.abs.injEq,Gh.fm.injEq]
 (repeat' (first|refine ja ?_ ?_|intro _))<;>first|omega|exact jb|exact jc ‹False›|skip
 all_goals first|omega|rfl|(subst hr;simp [*];done)|trace_state
theorem zqC (m:Str) (hd:Int) (bs:List Int) (p:Int) (ln:Ln) (fs:List Fld) (pa sk co:Int) (out:List Evt):Spc Tryz.prog 248 [.v (.one (.ptr 0 0))] [.abs (.fm ⟨m,hd,bs,p,some ln,fs,pa,sk,co,out⟩)] (.ret (.v (.one (.p (.int .i64 ((qm ⟨m,hd,bs,p,some ln,fs,pa,sk,co,out⟩))))))) [.abs (.fm ⟨m,hd,bs,p,some ln,fs,pa,sk,co,out⟩)]:=by
 generalize hr:qm ⟨m,hd,bs,p,some ln,fs,pa,sk,co,out⟩=r;unfold qm at hr;simp only at hr
 refine spcG zh mixed Tryz.func248 (by kernel_rfl) { cfgF with keep:=some [0,2,6]} [] (by kernel_rfl) ?_
 intro I X hI hX
 refine orcL ?_;go_invoke;refine orcS (by kernel_rfl) ?_
 simp only [zq,Nat.reduceAdd];subst hI;simp only [nrmA,nrmB,nrlB,reduceCtorEq,HO.abs.injEq,Gh.fm.injEq]
 (repeat' (first|refine ja ?_ ?_|intro _))<;>first|omega|exact jb|exact jc ‹False›|skip
 all_goals first|omega|rfl|(subst hr;simp [*];done)|trace_state
def X8 (I:Alg) (args:List D) (hp:List HO):Option CT:=match args,hp with
 |[.v (.one (.ptr 0 0))],[.abs (.fm f)]=>(fun(f:Fm)=>(some (.one ⟨I.hid (True),(.ret (.v (.one (.p (.int .i64 (I.hid ((qm f)))))))),[.abs (.fm f)]⟩):Option CT)) f
 |_,_=>none
theorem zex:zx Tryz.prog 248 (X8 alg):=by
 intro args hp r h;unfold X8 at h;split at h<;>cases h
 rename_i f;simp only [CT.Good,zi];intro _;obtain⟨m,hd,bs,p,ln,fs,pa,sk,co,out⟩:=f
 cases ln with
 |none=>exact zqD m hd bs p fs pa sk co out
 |some ln=>exact zqC m hd bs p ln fs pa sk co out
def RJ:Know Tryz.prog:=⟨248,X8,zex⟩
def RI:Know Tryz.prog:=⟨248,fun I=>zy I (X8 I),zf zex⟩
def Tt (I:Alg) (args:List D) (hp:List HO):Option CT:=match args,hp with
 |[.v (.one (.p (.str s)))],[]=>(fun(s:Str)=>(some (.one ⟨I.hid (s.length≤140737488355328∧Uo s=true),(.ret (.tup [(.one (.ptr 0 0)),(.one (.p (.int .i64 0)))])),[.abs (.fm (I.hid ((fm0 s))))]⟩):Option CT)) s
 |_,_=>none
theorem zh6:zx Tryz.prog 246 (Tt alg):=by
 intro args hp r h;unfold Tt at h;split at h<;>cases h
 rename_i s;simp only [CT.Good,zi];intro hneed;obtain⟨hs,hm⟩:=hneed
 have hl:s.length≤70:=by unfold Uo at hm;simp at hm;omega
 generalize hr:fm0 s=r;unfold fm0 fmSk at hr;simp only [jJ] at hr
 refine spcG zh mixed Tryz.func246 (by kernel_rfl) { cfgF with keep:=some [0,2,3,4]} [RU,RS,zuk,zuj,zmo,zmn] (by kernel_rfl) ?_
 intro I X hI hX
 refine orcL ?_;go_invoke;refine orcS (by kernel_rfl) ?_
 simp only [zq,Nat.reduceAdd];unfold zcF at hr;subst hI;simp only [nrmA,nrmB,nrlB,reduceCtorEq,HO.abs.injEq,Gh.fm.injEq]
 have hM:([13,10,45,45]++s).length=s.length+4:=by simp
 generalize([13,10,45,45]++s:Str)=M at *;have h1:=TF M 0 13
 (repeat' (first|refine ja ?_ ?_|intro _))<;>first|omega|exact jb|exact jc ‹False›|skip
 all_goals first
  |omega
  |exact .inr (by omega)
  |exact h1
  |exact Int.natCast_nonneg _
  |exact absurd (hm.symm.trans ‹Uo s=false›) (by decide)
  |(subst hr;rfl)
  |(simp only [jh,ji];omega)
def zcE:Know Tryz.prog:=⟨246,Tt,zh6⟩
def zcD:Know Tryz.prog:=⟨246,fun I=>zy I (Tt I),zf zh6⟩
theorem zvP (s:Str) (hneed:s.length≤140737488355328∧Uo s=false):Spc Tryz.prog 246 [.v (.one (.p (.str s)))] [] (.ret (.tup [(.one (.p (.val (.pointer none)))),(.one (.p (.int .i64 5)))])) []:=by
 obtain⟨hs,hm⟩:=hneed
 refine spcG zh mixed Tryz.func246 (by kernel_rfl) { cfgF with keep:=some [0,2,3,4]} [RU,RS,zuk,zuj,zmo,zmn,zcE,zcD] (by kernel_rfl) ?_
 intro I X hI hX
 refine orcL ?_;go_invoke;refine orcS (by kernel_rfl) ?_
 simp only [zq,Nat.reduceAdd];subst hI;simp only [nrmA,nrmB,nrlB,reduceCtorEq]
 exact⟨hs,fun _=>trivial,by simp [hm]⟩
end Go.Proofs.YtkjepecoodjbmaaGreatDoor
namespace Go.Proofs.YtkjepecoodjbmaaGreatDoor
open Go Go.Sep Go.Ab
inductive GR:List Evt→Prop
 |nil:GR []
 |other {l:List Evt} {e:Evt} (h:GR l) (h2:e.kind≠2) (h5:e.kind=5→e.part.bytes=[]):GR (l++[e])
 |body {l:List Evt} {x e:Evt} (h:GR (l++[x])) (hx:x.kind=5∨x.kind=2) (h2:e.kind=2) (hb:e.bytes≠[]):GR (l++[x]++[e])
inductive GJ:List Evt→Prop
 |nil:GJ []
 |other {l:List Evt} {e:Evt} (h:GJ l) (h2:e.kind≠2) (h5:e.kind=5→e.part.bytes=[]):GJ (l++[e])
 |body {l:List Evt} {x e:Evt} (h:GJ (l++[x])) (hx:x.kind=5) (h2:e.kind=2) (hb:e.bytes≠[]):GJ (l++[x]++[e])
theorem zvG {l:List Evt} {x:Evt} (h:GR (l++[x])): ∃ z y,zH (l++[x])=z++[y]∧y.kind=x.kind∧(x.kind≠2→y=x):=by
 rw [XO]
 rcases List.eq_nil_or_concat (zH l) with hn|⟨z,y,hz⟩
 · rw [hn,YO];exact⟨[],x,rfl,rfl,fun _=>rfl⟩
 · rw [hz,List.concat_eq_append,yO]
   split
   · rename_i h;exact⟨z,_,rfl,h.1.symm,fun k=>absurd h.1 k⟩
   · exact⟨z++[y],x,rfl,rfl,fun _=>rfl⟩
theorem zvI {z:List Evt} {y:Evt} (h:GJ (z++[y])) (k:y.kind=2): ∃ l x,z=l++[x]∧GJ (l++[x])∧x.kind=5∧y.bytes≠[]:=by
 generalize hw:z++[y]=w at h
 cases h with
 |nil=>simp at hw
 | other h h2 h5=>
   have:=List.append_inj' hw rfl;have e:=List.singleton_inj.1 this.2;exact absurd (e▸k) h2
 | body h hx h2 hb=>
   have:=List.append_inj' hw rfl;have e:=List.singleton_inj.1 this.2
   exact⟨_,_,this.1,h,hx,by rw [e];exact hb⟩
theorem zx3 {l:List Evt} (h:GR l):GJ (zH l):=by
 induction h with
 |nil=>exact .nil
 | @other l e h h2 h5 ih=>
   rw [XO]
   rcases List.eq_nil_or_concat (zH l) with hn|⟨z,y,hz⟩
   · rw [hn,YO];exact GJ.other (l:=[]) .nil h2 h5
   · rw [hz,List.concat_eq_append] at ih ⊢
     rw [yO,if_neg (fun k=>h2 k.1)];exact .other ih h2 h5
 | @body l x e h hx h2 hb ih=>
   obtain⟨z,y,hz,hk,hy⟩:=zvG h;rw [XO,hz,yO];rw [hz] at ih
   by_cases k:y.kind=2
   · rw [if_pos ⟨h2,k⟩]
     obtain⟨l',x',rfl,g1,g2,g3⟩:=zvI ih k;refine .body g1 g2 rfl ?_;simp only [evB];intro h;exact g3 (List.append_eq_nil_iff.1 h).1
   · rw [if_neg (fun h=>k h.2)]
     exact .body ih (by rcases hx with hx|hx;rw [hk];exact hx;exact absurd (hk.trans hx) k) h2 hb
def GI (l:List Evt) (i:Nat) (d:Evt):Prop:=((l.getD i d).kind=2→(l.getD i d).bytes≠[]∧∃ j,i=j+1∧(l.getD j d).kind=5)∧((l.getD i d).kind=5→(l.getD i d).part.bytes=[])
theorem zhw {a b:List Evt} {i:Nat} (h:i<a.length) (d:Evt):(a++b).getD i d=a.getD i d:=by
 rw [jH,jy h,← jH]
theorem zx4 {l:List Evt} (h:GJ l) (d:Evt): ∀ i,i<l.length→GI l i d:=by
 induction h with
 |nil=>intro i hi;simp at hi
 | @other l e h h2 h5 ih=>
   intro i hi;rw [jk,jr] at hi
   by_cases k:i<l.length
   · obtain⟨a,b⟩:=ih i k
     unfold GI;rw [zhw k];refine⟨fun q=> ?_,b⟩;obtain⟨a1,j,rfl,a2⟩:=a q
     exact⟨a1,j,rfl,by rw [zhw (by omega)];exact a2⟩
   · have e1:(l++[e]).getD i d=e:=by rw [show i=l.length by omega];simp
     unfold GI;rw [e1];exact⟨fun q=>absurd q h2,h5⟩
 | @body l x e h hx h2 hb ih=>
   intro i hi;rw [jk,jr] at hi
   by_cases k:i<(l++[x]).length
   · obtain⟨a,b⟩:=ih i k
     unfold GI;rw [zhw k];refine⟨fun q=> ?_,b⟩;obtain⟨a1,j,rfl,a2⟩:=a q
     exact⟨a1,j,rfl,by rw [zhw (by omega)];exact a2⟩
   · have hl:(l++[x]).length=l.length+1:=by simp
     have hi2:i=l.length+1:=by omega
     subst hi2
     have e1:(l++[x]++[e]).getD (l.length+1) d=e:=by rw [← hl];simp
     have e2:(l++[x]++[e]).getD l.length d=x:=by rw [zhw (by omega)];simp
     unfold GI;rw [e1]
     exact⟨fun _=>⟨hb,l.length,rfl,by rw [e2];exact hx⟩,fun q=>absurd (h2.symm.trans q) (by decide)⟩
def GM (f:Fm):Prop:=GR f.out∧(f.pos=6→∃ l x,f.out=l++[x]∧(x.kind=5∨x.kind=2))
theorem zql {f:Fm} (h:GR f.out) {e:Evt} (h2:e.kind≠2) (h5:e.kind=5→e.part.bytes=[]):GR (f.out++[e]):=.other h h2 h5
theorem Vj {f:Fm} (h:GM f) (c:Int):GM (xQ f c):=⟨zql h.1 (show(4:Int)≠2 by decide) (fun e=>absurd (show(4:Int)=5 from e) (by decide)),fun e=>absurd (show(8:Int)=6 from e) (by decide)⟩
theorem ztd {f:Fm} (h:GM f):GM (vH f):=by
 unfold vH
 split
 · exact Vj h _
 · split
   · exact Vj h _
   · exact⟨zql h.1 (show(5:Int)≠2 by decide) (fun _=>zjb f.fields),fun _=>⟨_,_,rfl,.inl rfl⟩⟩
theorem zvH {f:Fm} (h:GM f) (s:Str):GM (sG f s):=by
 unfold sG
 split
 · exact ztd h
 · split
   · exact Vj h _
   · split
     · exact Vj h _
     · exact h
theorem gm_f {f:Fm} (h:GM f) (c:UInt8):GM (fmF f c):=by
 have hno: ∀ {n:Int},n≠6→n=6→∃ l x,f.out=l++[x]∧(x.kind=5∨x.kind=2):=fun a b=>absurd b a;unfold fmF
 split
 · unfold uN
   split
   · show GR (if f.pos=6∧sN f c≠[] then f.out++[evB (sN f c)] else f.out)∧(f.pos=6→∃ l x,(if f.pos=6∧sN f c≠[] then f.out++[evB (sN f c)] else f.out)=l++[x]∧(x.kind=5∨x.kind=2))
     split
     · rename_i k
       obtain⟨l,x,e,hx⟩:=h.2 k.1;refine⟨?_,fun _=>⟨f.out,_,rfl,.inr rfl⟩⟩;have:=h.1;rw [e] at this ⊢;exact .body this hx rfl k.2
     · exact h
   · show GR (if f.pos=6 then(if sN f c≠[] then f.out++[evB (sN f c),evO] else f.out++[evO]) else f.out)∧((1:Int)=6→_)
     refine⟨?_,fun e=>absurd e (by decide)⟩
     split
     · rename_i k
       obtain⟨l,x,e,hx⟩:=h.2 k
       split
       · rename_i k2
         rw [show f.out++[evB (sN f c),evO]=f.out++[evB (sN f c)]++[evO] by simp]
         refine .other ?_ (by decide) (fun q=>absurd (show(6:Int)=5 from q) (by decide))
         have:=h.1;rw [e] at this ⊢;exact .body this hx rfl k2
       · exact .other h.1 (by decide) (fun q=>absurd (show(6:Int)=5 from q) (by decide))
     · exact h.1
 · split
   · unfold vg
     split
     · exact⟨h.1,fun e=>absurd (show(2:Int)=6 from e) (by decide)⟩
     · split
       · exact⟨zql h.1 (show(3:Int)≠2 by decide) (fun e=>absurd (show(3:Int)=5 from e) (by decide)),fun e=>absurd (show(7:Int)=6 from e) (by decide)⟩
       · split
         · exact⟨h.1,fun e=>absurd (show(3:Int)=6 from e) (by decide)⟩
         · split
           · exact⟨h.1,fun e=>absurd (show(4:Int)=6 from e) (by decide)⟩
           · exact Vj h 5
   · split
     · split
       · exact Vj h 2
       · exact⟨h.1,fun e=>absurd (show(5:Int)=6 from e) (by decide)⟩
     · split
       · have hk:GM { f with ln:=some (lnF (lnOf f) c).1}:=h
         split
         · exact Vj hk _
         · split
           · exact zvH hk _
           · exact hk
       · exact h
theorem zuv: ∀ (b:Str) (f:Fm),GM f→GM (Tj f b)
 |[],f,h=>h
 |c::r,f,h=>zuv r (fmF f c) (gm_f h c)
theorem zpz (s b:Str) (d:Evt): ∀ i,i<(zH (xP (fm0 s) b).out).length→GI (zH (xP (fm0 s) b).out) i d:=
 zx4 (zx3 (zuv b { fm0 s with out:=[]} ⟨.nil,fun e=>absurd (show(0:Int)=6 from e) (by decide)⟩).1) d
theorem zvS {s:Str} (h:s.length≤70):FmI { fm0 s with out:=[]} 0:=by
 have h0:FmI ⟨zcF s,0,zac (zcF s),0,none,[],0,0,0,[]⟩ 0:=
  ⟨rfl,by unfold zcF;simp;omega,Int.le_refl _,by unfold zcF;simp;omega,⟨Int.le_refl _,(show(0:Int)≤2 by decide)⟩,⟨Int.le_refl _,(show(0:Int)≤12 by decide)⟩,jM _,(fun x hx=>by cases hx),(fun l e=>by cases e),(fun e=>absurd (show(0:Int)=5 from e) (by decide)),jM _⟩
 exact zeu (zeu h0 13) 10
theorem zgX (l:List Evt) (d:Evt) {i:Nat} (h:i<l.length):(l.take (i+1)).foldl prtS []=prtS ((l.take i).foldl prtS []) (l.getD i d):=by
 rw [jB h,List.foldl_append]
 simp [h]
theorem zpE {l:List Evt} {d:Evt} {i:Nat} (h:i<l.length) (hg: ∀ j,j<l.length→GI l j d) (k:(l.getD i d).kind=2): ∃ z p,(l.take i).foldl prtS []=z++[p]∧p.bytes=[]∧(l.getD i d).bytes≠[]:=by
 obtain⟨hb,j,rfl,hj⟩:=(hg i h).1 k
 refine⟨(l.take j).foldl prtS [],(l.getD j d).part,?_,(hg j (by omega)).2 hj,hb⟩
 rw [zgX l d (show j<l.length by omega),prtS,if_pos hj]
theorem zsJ (l:List Evt): ∀ o:List Prt,(l.foldl prtS o).length≤o.length+l.length:=by
 induction l with
 |nil=>intro o;simp
 | cons e r ih=>
   intro o;have h:=ih (prtS o e)
   have h2 :(prtS o e).length≤o.length+1:=by
    unfold prtS
    split
    · simp
    · split
      · split
        · rename_i p hp
          simp only [jk,List.length_dropLast,jr];omega
        · omega
      · omega
   rw [List.foldl_cons,jh];omega
theorem zh2: ∀ (b:Str) (f:Fm) (i:Nat),FmI f i→zL (Tj f b).out+(Tj f b).held.toNat≤zL f.out+f.held.toNat+2 * b.length
 |[],f,i,h=>by simp [Tj]
 | c::r,f,i,h=>by
   have h1:=zh2 r (fmF f c) (i+1) (ztr h c);have h2:=zjA h c;rw [jh]
   show zL (Tj (fmF f c) r).out+(Tj (fmF f c) r).held.toNat≤_
   omega
theorem zia {s b:Str} (h:s.length≤70):(zH (xP (fm0 s) b).out).length≤4 * b.length∧zL (zH (xP (fm0 s) b).out)≤1000+2 * b.length:=by
 have hI:=zvS h;have h1:(xP (fm0 s) b).out.length≤4 * (0+b.length):=(zjz b _ 0 hI).on;have h2:zL (xP (fm0 s) b).out+(xP (fm0 s) b).held.toNat≤0+(fm0 s).held.toNat+2 * b.length:=zh2 b _ 0 hI;have h3:=UA (xP (fm0 s) b).out;have h4:=zcp (xP (fm0 s) b).out;have h5:(fm0 s).held<(fm0 s).mark.length:=hI.h1;have h6:(fm0 s).mark.length≤1000:=hI.ml;have h7:0≤(fm0 s).held:=hI.h0;omega
end Go.Proofs.YtkjepecoodjbmaaGreatDoor
namespace Go.Proofs.YtkjepecoodjbmaaGreatDoor
open Go Go.Sep Go.Ab
set_option maxRecDepth 100000
theorem zvW (s b:Str) (hneed:(s.length≤1000000∧b.length≤300000)∧Uo s=true):Spc Tryz.prog 216 [.v (.one (.p (.str s))),.v (.one (.p (.list .byte b)))] [] (.ret (.tup [(.one (.p (.list .prt ((YH s b).1)))),(.one (.p (.int .i64 ((YH s b).2))))])) []:=by
 obtain⟨⟨hs,hb⟩,hm⟩:=hneed
 have hl:s.length≤70:=by unfold Uo at hm;simp at hm;omega
 have hI0:=zvS hl;have hg:=zpz s b ⟨0,⟨[],[],0,[],0⟩,[],⟨[],[],[],[]⟩,0⟩;have hle:=zia (b:=b) hl
 have hN:fmN0 (fm0 s) b:=⟨0,hI0,by omega⟩
 generalize hr:YH s b=r;unfold YH at hr
 rw [hm,if_neg (by decide)] at hr
 refine spcG zh mixed Tryz.func216 (by kernel_rfl) { cfgF with rl:=[0],nr:=[8],keep:=some [0,1,4,5,6,7,8,10,11,12,23,24,25,30]} [zcH,zcG,RJ,RI,zcE,zcD] (by kernel_rfl) ?_
 intro I X hI hX
 refine orcL ?_;go_invoke;refine orcS (by kernel_rfl) ?_
 simp only [zq,Nat.reduceAdd];generalize fm0 s=F0 at *;refine⟨?_,fun c=> ?_,fun _=>⟨?_,?_⟩⟩
 · subst hI;exact⟨by omega,hm⟩
 · subst hI;exact absurd c (by decide)
 · subst hI;exact hN
 rw [show I.hid F0=F0 by subst hI;rfl]
 rw [show I.hid (xP F0 b)=xP F0 b by subst hI;rfl]
 generalize xP F0 b=F at *
 rw [show I.hid (zH F.out)=zH F.out by subst hI;rfl]
 generalize zH F.out=L at *
 refine zB hI zh mixed [zcH,zcG,RJ,RI,zcE,zcD] hX [6,8,23,24,25] (fun(g:Nat × List Prt)=>match g with|(i,o)=>i≤L.length∧o=(L.take i).foldl prtS []) (fun(g:Nat × List Prt)=>match g with|(i,o)=>⟨[(6,.v (.one (.ptr 0 0))),(8,.v (.one (.row 1))),(23,.v (.one (.row 2))),(24,.v (.one (.p (.int .i64 ((I.len (α:=Evt) L)))))),(25,.v (.one (.p (.int .i64 i))))],[.abs (.fm F),.row .prt 32 o,.row .evt 34 L],62,none⟩) (fun(g:Nat × List Prt)=>match g with|(i,o)=>L.length - i) (0,[]) (by kernel_rfl) (by kernel_rfl) ?_ ?_
 · exact⟨jM _,rfl⟩
 rintro⟨i,o⟩ ⟨h1,h2⟩ A hA;simp only at hA h1 h2
 refine orcL ?_;go_invoke;refine orcS (by kernel_rfl) ?_
 simp only [zq,Nat.reduceAdd];subst hI;simp only [nrmA,nrmB,nrlB,reduceCtorEq];have hlo:=zsJ (L.take i) [];rw [← h2,jv,ji] at hlo;have hb2:i<L.length→_→_:=fun h k=>zpE h hg k;have hs2:i<L.length→_:=fun h=>zgX L ⟨0,⟨[],[],0,[],0⟩,[],⟨[],[],[],[]⟩,0⟩ h
 have hsum:i<L.length→(L.getD i ⟨0,⟨[],[],0,[],0⟩,[],⟨[],[],[],[]⟩,0⟩).bytes.length≤zL L:=fun h=>by
  refine TK ?_
  rw [show L.getD i ⟨0,⟨[],[],0,[],0⟩,[],⟨[],[],[],[]⟩,0⟩=L[i] by simp [h]]
  exact List.getElem_mem h
 rw [← h2] at hb2 hs2
 have hgo:i<L.length→_:=fun h=>hA (i+1,prtS o (L.getD i ⟨0,⟨[],[],0,[],0⟩,[],⟨[],[],[],[]⟩,0⟩)) ⟨by simp only;omega,by simp only;rw [hs2 h]⟩ (by simp only;omega)
 have hend: ¬ i<L.length→L.foldl prtS []=o:=fun h=>by rw [h2,jq (by omega)]
 clear hg hs2 hA;generalize L.getD i ⟨0,⟨[],[],0,[],0⟩,[],⟨[],[],[],[]⟩,0⟩=x at *;simp only [Int.natCast_add,Int.natCast_one] at hgo;refine⟨fun c=> ?_,fun c=> ?_⟩
 · have hgo:=hgo (by omega)
   have hb2:=hb2 (by omega)
   have hsum:=hsum (by omega)
   by_cases k5:x.kind=5
   · rw [prtS,if_pos k5] at hgo
     (repeat' (first|refine ja ?_ ?_|intro _))<;>first|omega|exact jb|exact jc ‹False›|skip
     all_goals first
      |omega
      |(simp only [jr];omega)
      |exact hgo
      |exact absurd k5 ‹_›
   · by_cases k2:x.kind=2
     · obtain⟨z,p,hz,hp,hxb⟩:=hb2 k2
       have hxb:0<x.bytes.length:=by cases hq:x.bytes with|nil=>exact absurd hq hxb|cons _ _=>simp
       subst hz
       rw [show prtS (z++[p]) x=z++[⟨p.name,p.file,p.type,x.bytes⟩] by unfold prtS;rw [if_neg k5,if_pos k2];simp [hp]] at hgo
       have e1:(((z++[p]).length:Int) - 1).toNat=z.length:=by rw [jk,jr];omega
       have e2:(z++[p]).getD z.length ⟨[],[],[],[]⟩=p:=by simp
       have e3: ∀ q,(z++[p]).set z.length q=z++[q]:=fun q=>by simp
       simp only [e1,e2,e3,hp];simp only [jk,jr,ji];clear e1 e2 e3;rw [jk,jr] at hlo
       (repeat' (first|refine ja ?_ ?_|intro _))<;>first|omega|exact jb|exact jc ‹False›|skip
       all_goals first
        |omega
        |exact hgo
        |exact absurd k2 ‹_›
        |exact absurd ‹x.kind=5› k5
     · rw [prtS,if_neg k5,if_neg k2] at hgo
       (repeat' (first|refine ja ?_ ?_|intro _))<;>first|omega|exact jb|exact jc ‹False›|skip
       all_goals first
        |omega
        |exact hgo
        |exact absurd ‹x.kind=5› k5
        |exact absurd ‹x.kind=2› k2
 · have he:=hend (by omega)
   rw [he] at hr;subst hr
   (repeat' (first|refine ja ?_ ?_|intro _))<;>first|omega|exact jb|exact jc ‹False›|skip
   all_goals first
    |omega
    |(rw [if_pos ‹¬ qm F=0›];done)
    |(rw [if_neg (fun h=>h ‹qm F=0›)];done)
end Go.Proofs.YtkjepecoodjbmaaGreatDoor
namespace Go.Proofs.YtkjepecoodjbmaaGreatDoor
open Go Go.Sep Go.Ab
set_option maxRecDepth 100000
theorem zvO (s:Str) (hneed:s.length≤140737488355328∧Uo s=false):Spc Tryz.prog 246 [.v (.one (.p (.str s)))] [] (.ret (.tup [(.one (.p (.val (.pointer none)))),(.one (.p (.int .i64 5)))])) []:=zvP s hneed
def Tq (I:Alg) (args:List D) (hp:List HO):Option CT:=match args,hp with
 |[.v (.one (.p (.str s)))],[]=>(fun(s:Str)=>(some (.one ⟨I.hid (s.length≤140737488355328∧Uo s=false),(.ret (.tup [(.one (.p (.val (.pointer none)))),(.one (.p (.int .i64 5)))])),[]⟩):Option CT)) s
 |_,_=>none
theorem zh5:zx Tryz.prog 246 (Tq alg):=by
 intro args hp r h;unfold Tq at h
 split at h
 · cases h;exact fun hn=>zvO _ hn
 · cases h
def zqB:Know Tryz.prog:=⟨246,Tq,zh5⟩
def zqA:Know Tryz.prog:=⟨246,fun I=>zy I (Tq I),zf zh5⟩
theorem ztp (b:Str) (hneed:False):Spc Tryz.prog 247 [.v (.one (.p (.val (.pointer none)))),.v (.one (.p (.list .byte b)))] [] (.ret (.v (.one (.row 0)))) [.row .evt 34 (([]:List Evt))]:=hneed.elim
def X6 (I:Alg) (args:List D) (hp:List HO):Option CT:=match args,hp with
 |[.v (.one (.p (.val (.pointer none)))),.v (.one (.p (.list .byte b)))],[]=>(fun(b:Str)=>(some (.one ⟨I.hid (False),(.ret (.v (.one (.row 0)))),[.row .evt 34 (I.hid (([]:List Evt)))]⟩):Option CT)) b
 |_,_=>none
theorem zev:zx Tryz.prog 247 (X6 alg):=by
 intro args hp r h;unfold X6 at h
 split at h
 · cases h;exact fun hn=>ztp _ hn
 · cases h
def znC:Know Tryz.prog:=⟨247,X6,zev⟩
def znB:Know Tryz.prog:=⟨247,fun I=>zy I (X6 I),zf zev⟩
theorem zvV (s b:Str) (hneed:(s.length≤1000000∧b.length≤300000)∧Uo s=false):Spc Tryz.prog 216 [.v (.one (.p (.str s))),.v (.one (.p (.list .byte b)))] [] (.ret (.tup [(.one (.p (.list .prt ((YH s b).1)))),(.one (.p (.int .i64 ((YH s b).2))))])) []:=by
 obtain⟨⟨hs,hb⟩,hm⟩:=hneed;generalize hr:YH s b=r;unfold YH at hr;rw [if_pos hm] at hr;subst hr
 refine spcG zh mixed Tryz.func216 (by kernel_rfl) { cfgF with rl:=[0],nr:=[8],keep:=some [0,1,4,5,6,7,8,10,11,12,23,24,25,30]} [zcH,zcG,znC,znB,RJ,RI,zqB,zqA] (by kernel_rfl) ?_
 intro I X hI hX
 refine orcL ?_;go_invoke;refine orcS (by kernel_rfl) ?_
 simp only [zq,Nat.reduceAdd];subst hI;simp only [nrmA,nrmB,nrlB,reduceCtorEq]
 exact⟨⟨by omega,hm⟩,fun _=>trivial,by decide⟩
def zbh (I:Alg) (args:List D) (hp:List HO):Option CT:=match args,hp with
 |[.v (.one (.p (.str s))),.v (.one (.p (.list .byte b)))],[]=>(fun(s b:Str)=>(some (.one ⟨I.hid (s.length≤1000000∧b.length≤300000),(.ret (.tup [(.one (.p (.list .prt (I.hid ((YH s b).1))))),(.one (.p (.int .i64 (I.hid ((YH s b).2)))))])),[]⟩):Option CT)) s b
 |_,_=>none
theorem zmj:zx Tryz.prog 216 (zbh alg):=by
 intro args hp r h;unfold zbh at h;split at h<;>cases h
 rename_i s b;simp only [CT.Good,zi];intro hneed
 cases hm:Uo s with
 |true=>exact zvW s b ⟨hneed,hm⟩
 |false=>exact zvV s b ⟨hneed,hm⟩
def ztE:Know Tryz.prog:=⟨216,zbh,zmj⟩
def ztD:Know Tryz.prog:=⟨216,fun I=>zy I (zbh I),zf zmj⟩
end Go.Proofs.YtkjepecoodjbmaaGreatDoor
namespace Go.Proofs.YtkjepecoodjbmaaGreatDoor
open Go Go.Sep Go.Ab
def k5 (e:Evt):Bool:=decide (e.kind=5)
theorem zsf (s:Str):(ziZ s).length≤40:=by
 unfold ziZ
 split
 · decide
 · rw [jv];omega
theorem zng (l:List Fld):(ZR l).1.file.length≤40:=by
 unfold ZR zsP zvj
 repeat' split
 all_goals first|exact zsf _|(simp [prt0];done)|decide
def P5 (f:Fm):Prop:=((f.out.filter k5).length:Int)≤f.parts∧∀ e ∈ f.out,e.kind=5→e.part.file.length≤40
theorem Qx {f:Fm} (h:P5 f) {m:Str} {hd p co sk:Int} {bs:List Int} {ln:Option Ln} {fs:List Fld}:P5 ⟨m,hd,bs,p,ln,fs,f.parts,sk,co,f.out⟩:=h
theorem zdY {f:Fm} (h:P5 f) (e:Evt) (he:e.kind≠5) {m:Str} {hd p co sk:Int} {bs:List Int} {ln:Option Ln} {fs:List Fld}:P5 ⟨m,hd,bs,p,ln,fs,f.parts,sk,co,f.out++[e]⟩:=by
 refine⟨?_,fun x hx k=> ?_⟩
 · show(((f.out++[e]).filter k5).length:Int)≤f.parts
   rw [List.filter_append]
   have:[e].filter k5=[]:=by simp [k5,he]
   rw [this,List.append_nil];exact h.1
 · rcases List.mem_append.1 hx with hx|hx
   · exact h.2 x hx k
   · rw [List.mem_singleton.1 hx] at k;exact absurd k he
theorem WY {f:Fm} (h:P5 f) (c:Int):P5 (xQ f c):=zdY h (evF c) (show(4:Int)≠5 by decide)
theorem zsS {f:Fm} (h:P5 f):P5 (vH f):=by
 unfold vH
 split
 · exact WY h _
 · split
   · exact WY h _
   · refine⟨?_,fun x hx k=> ?_⟩
     · show(((f.out++[evP (ZR f.fields).1]).filter k5).length:Int)≤f.parts+1
       rw [List.filter_append,jk];have:[evP (ZR f.fields).1].filter k5=[evP (ZR f.fields).1]:=rfl;rw [this,jr];have:=h.1;omega
     · rcases List.mem_append.1 (show x ∈ f.out++[evP (ZR f.fields).1] from hx) with hx|hx
       · exact h.2 x hx k
       · rw [List.mem_singleton.1 hx];exact zng _
theorem zvo {f:Fm} (h:P5 f) (s:Str):P5 (sG f s):=by
 unfold sG
 split
 · exact zsS h
 · split
   · exact WY h _
   · split
     · exact WY h _
     · exact Qx h
theorem p5_f {f:Fm} (h:P5 f) (c:UInt8):P5 (fmF f c):=by
 have hB:evB (sN f c)=⟨2,hd0,sN f c,prt0,0⟩:=rfl;unfold fmF
 split
 · unfold uN fmSk
   split
   · dsimp only
     split
     · exact zdY h _ (show(2:Int)≠5 by decide)
     · exact Qx h
   · dsimp only
     split
     · split
       · have:=zdY (zdY h (evB (sN f c)) (show(2:Int)≠5 by decide) (m:=f.mark) (hd:=f.held) (p:=f.pos) (co:=f.code) (sk:=f.skip) (bs:=f.bs) (ln:=f.ln) (fs:=f.fields)) evO (show(6:Int)≠5 by decide) (m:=f.mark) (hd:=((qA f.mark f.held.toNat c).2.1:Int)) (p:=1) (co:=f.code) (sk:=0) (bs:=f.bs) (ln:=f.ln) (fs:=f.fields)
         simpa using this
       · exact zdY h _ (show(6:Int)≠5 by decide)
     · exact Qx h
 · split
   · unfold vg
     repeat' split
     all_goals first
      |exact Qx h
      |exact zdY h _ (show(3:Int)≠5 by decide)
      |exact WY h _
   · split
     · split
       · exact WY h _
       · exact Qx h
     · split
       · split
         · exact WY (Qx h) _
         · split
           · exact zvo (Qx h) _
           · exact Qx h
       · exact h
theorem zug: ∀ (b:Str) {f:Fm},P5 f→P5 (Tj f b)
 |[],_,h=>h
 |c::b,_,h=>zug b (p5_f h c)
theorem zs6 (o:List Evt) (e:Evt):(uP o e).filter k5=o.filter k5++[e].filter k5:=by
 rcases List.eq_nil_or_concat o with rfl|⟨z,x,rfl⟩
 · rfl
 · rw [List.concat_eq_append,yO]
   split
   · rename_i h
     simp [k5,h.1,h.2,evB]
   · rw [List.filter_append]
theorem zlO: ∀ (l o:List Evt),(l.foldl uP o).filter k5=o.filter k5++l.filter k5
 |[],o=>by simp
 |e::l,o=>by rw [List.foldl_cons,zlO l,zs6,jo,← List.filter_append];rfl
theorem zs8 (l:List Evt):(zH l).filter k5=l.filter k5:=zlO l []
def prtZ (l:List Prt):Nat:=(l.map fun p=>p.bytes.length).sum
theorem zlk (a b:List Prt):prtZ (a++b)=prtZ a+prtZ b:=by simp [prtZ]
theorem zsI {l:List Prt} {p:Prt} (h:p ∈ l):p.bytes.length≤prtZ l:=by
 induction l with
 |nil=>cases h
 | cons x r ih=>
   simp only [prtZ,List.map_cons,List.sum_cons]
   rcases List.mem_cons.1 h with rfl|h
   · omega
   · have:=ih h;unfold prtZ at this;omega
theorem zwC (o:List Prt) (e:Evt) (he:k5 e=true→e.part.bytes=[]):prtZ (prtS o e)≤prtZ o+e.bytes.length:=by
 unfold prtS
 split
 · rename_i h
   rw [zlk]
   have:prtZ [e.part]=0:=by simp [prtZ,he (by simp [k5,h])]
   omega
 · split
   · rcases List.eq_nil_or_concat o with rfl|⟨z,x,rfl⟩
     · simp
     · rw [List.concat_eq_append]
       simp only [List.getLast?_append,List.getLast?_singleton,Option.some_or,List.dropLast_concat,zlk]
       simp [prtZ];omega
   · omega
theorem zt9: ∀ (l:List Evt) (o:List Prt),(∀ e ∈ l,k5 e=true→e.part.bytes=[])→prtZ (l.foldl prtS o)≤prtZ o+zL l
 |[],o,_=>by simp [zL]
 | e::l,o,h=>by
   have h1:=zt9 l (prtS o e) fun x hx=>h x (List.mem_cons_of_mem _ hx);have h2:=zwC o e (h e List.mem_cons_self);rw [List.foldl_cons];simp only [zL,List.map_cons,List.sum_cons] at h1 ⊢;omega
theorem zwD (o:List Prt) (e:Evt):(prtS o e).map Prt.file=o.map Prt.file++([e].filter k5).map fun x=>x.part.file:=by
 unfold prtS
 split
 · rename_i h;simp [k5,h]
 · rename_i h
   have hk:k5 e=false:=by simp [k5,h]
   split
   · rcases List.eq_nil_or_concat o with rfl|⟨z,x,rfl⟩
     · simp [hk]
     · simp [hk]
   · simp [hk]
theorem zua: ∀ (l:List Evt) (o:List Prt),(l.foldl prtS o).map Prt.file=o.map Prt.file++(l.filter k5).map fun x=>x.part.file
 |[],o=>by simp
 | e::l,o=>by
   rw [List.foldl_cons,zua l,zwD,jo,← List.map_append,← List.filter_append];rfl
theorem zi8 (s b:Str):(YH s b).1.length≤12∧(∀ p ∈ (YH s b).1,p.file.length≤40)∧prtZ (YH s b).1≤1000+2 * b.length:=by
 have h0:([]:List Prt).length≤12∧(∀ p ∈ ([]:List Prt),p.file.length≤40)∧prtZ ([]:List Prt)≤1000+2 * b.length:=⟨by decide,(fun p h=>by cases h),by simp [prtZ]⟩
 unfold YH
 split
 · exact h0
 · rename_i hm
   split
   · exact h0
   · have hs:s.length≤70:=by
      unfold Uo at hm
      simp at hm
      omega
     have h5:P5 (xP (fm0 s) b):=zug b ⟨Int.le_refl 0,fun e h=>by cases h⟩
     have hp:=(zjz b _ 0 (zvS hs)).p0;have hle:=zia (b:=b) hs;have hf:=zua (zH (xP (fm0 s) b).out) [];rw [zs8] at hf;simp only [List.map_nil,List.nil_append] at hf;dsimp only;refine⟨?_,fun p h=> ?_,?_⟩
     · have:=congrArg List.length hf
       rw [List.length_map,List.length_map] at this;have h1:=h5.1;have h2:(xP (fm0 s) b).parts≤12:=hp.2;omega
     · have h1:p.file ∈ ((xP (fm0 s) b).out.filter k5).map fun x=>x.part.file:=by rw [← hf];exact List.mem_map_of_mem h
       obtain⟨e,he,e2⟩:=List.mem_map.1 h1;rw [← e2]
       exact h5.2 e (List.mem_filter.1 he).1 (by simpa [k5] using (List.mem_filter.1 he).2)
     · have:=zt9 (zH (xP (fm0 s) b).out) [] fun e he hk=> ?_
       · have h1:=hle.2
         have h2:prtZ []=0:=rfl;omega
       · obtain⟨i,hi,rfl⟩:=List.getElem_of_mem he
         have h1:=(zpz s b ⟨0,hd0,[],prt0,0⟩ i hi).2;rw [jH,jm hi] at h1
         exact h1 (by simpa [k5] using hk)
end Go.Proofs.YtkjepecoodjbmaaGreatDoor
namespace Go.Proofs.YtkjepecoodjbmaaGreatDoor
open Go Go.Sep Go.Ab
set_option maxRecDepth 100000
def cfgG:Cfg:= { sl:=zc0.sl++[⟨50,1000003,.byte,none⟩,⟨120,4,.fld,none⟩,⟨120,6,.byte,some 5⟩]}
def UH (I:Alg) (args:List D) (hp:List HO):Option CT:=match args,hp with
 |[.v (.one (.p (.int .i64 st))),.v (.one (.p (.str b)))],[]=>(fun(st:Int) (b:Str)=>(some (.one ⟨I.hid (b.length≤1000000),(.ret (.v (.agg [(.p (.int .i64 st)),(.p (.list .fld (I.hid (([]:List Fld))))),(.p (.list .byte b))]))),[]⟩):Option CT)) st b
 |_,_=>none
theorem zhx:zx Tryz.prog 84 (UH alg):=by
 intro args hp r h;unfold UH at h;split at h<;>cases h
 rename_i st b;simp only [CT.Good,zi];intro hneed
 refine spcG zh mixed Tryz.func84 (by kernel_rfl) { cfgG with keep:=some [0,1,4]} [] (by kernel_rfl) ?_
 intro I X hI hX
 refine orcL ?_;go_invoke;refine orcS (by kernel_rfl) ?_
 simp only [zq,Nat.reduceAdd];subst hI;simp only [nrmA,nrmB,nrlB,reduceCtorEq,V0.agg.injEq]
def uJ:Know Tryz.prog:=⟨84,UH,zhx⟩
def uI:Know Tryz.prog:=⟨84,fun I=>zy I (UH I),zf zhx⟩
def UK (I:Alg) (args:List D) (hp:List HO):Option CT:=match args,hp with
 |[.v (.agg [(.p (.str m)),(.p (.str t)),(.p (.int .i64 mi)),(.p (.list .fld f)),(.p (.int .i64 le))]),.v (.one (.p (.list .byte body)))],[]=>(fun(m t:Str) (mi:Int) (f:List Fld) (le:Int) (body:Str)=>(some (.one ⟨I.hid (FOk f∧body.length≤100000),(.ret (.tup [(.one (.p (.list .prt (I.hid ((qQ f body).1))))),(.one (.p (.int .i64 (I.hid ((qQ f body).2)))))])),[]⟩):Option CT)) m t mi f le body
 |_,_=>none
set_option maxHeartbeats 1000000 in
theorem zhy:zx Tryz.prog 175 (UK alg):=by
 intro args hp r h;unfold UK at h;split at h<;>cases h
 rename_i m t mi f le body
 revert f;intro(f:List Fld)
 simp only [CT.Good,zi];intro hneed;obtain⟨hf,hb⟩:=hneed;have hv:=zfv hf Yc;have hp:=zg1 (oneT f Yc).1;have hg:=zlY hp.2 bndT;have hpl:=hp.1;clear hp;generalize hr:qQ f body=r;unfold qQ at hr;unfold oneT at hr hv hg hpl
 refine spcG zh mixed Tryz.func175 (by kernel_rfl) { cfgG with rl:=[0],keep:=some [0,1,2,4,5,6,7,8,9,10,11]} [Rx,Rw,vT,vS,RX,RV,ztE,ztD] (by kernel_rfl) ?_
 intro I X hI hX
 refine orcL ?_;go_invoke;refine orcS (by kernel_rfl) ?_
 simp only [zq,Nat.reduceAdd];rw [show([99,111,110,116,101,110,116,45,116,121,112,101]:Str)=Yc from rfl,show([98,111,117,110,100,97,114,121]:Str)=bndT from rfl,show([109,117,108,116,105,112,97,114,116,47,102,111,114,109,45,100,97,116,97]:Str)=zwY from rfl]
 have hc:Yc.length≤1000000:=by decide
 have hh: ∀ {α:Type} (y:α),I.hid y=y:=fun y=>by subst hI;rfl
 simp only [hh];generalize oneF (valsF f Yc)=o at *;generalize wI o.1=M at *;generalize getP M.1.params bndT=g at *;generalize YH g.1 body=Y at *;subst hI;simp only [nrmA,nrmB,nrlB,reduceCtorEq,V0.agg.injEq]
 (repeat' (first|refine ja ?_ ?_|intro _))<;>first|omega|exact jb|exact jc ‹False›|skip
 all_goals first
  |omega
  |assumption
  |exact hf.1
  |(exact(hf.2 _ ‹_›).1)
  |(exact(hf.2 _ ‹_›).2)
  |(((repeat(first|rewrite [if_pos (by first|omega|assumption|(simp only [*,or_self,or_true,true_or,or_false,false_or,jf,jg,jd,je,and_self,and_true,true_and];done)|(simp only [*];omega)|(simp [*];done)|(simp [*];omega))] at hr|rewrite [if_neg (by first|omega|assumption|(simp only [*,or_self,or_true,true_or,or_false,false_or,jf,jg,jd,je,and_self,and_true,true_and];done)|(simp only [*];omega)|(simp [*];done)|(simp [*];omega))] at hr)));subst hr;rfl)
  |(simp_all;done)
def UJ:Know Tryz.prog:=⟨175,UK,zhy⟩
def UI:Know Tryz.prog:=⟨175,fun I=>zy I (UK I),zf zhy⟩
theorem zur (q:Sto) (e:Ent):q.n≤(wsS q e).n∧(wsS q e).n≤q.n+1:=znZ _ _ _ _
def za8 (I:Alg) (args:List D) (hp:List HO):Option CT:=match args,hp with
 |[.v (.one (.ptr 0 0)),.v (.agg [(.p (.str pn)),(.p (.str pf)),(.p (.str pt)),(.p (.nl pb))])],[.obj 50 [(.ptr 1 0),(.ptr 2 0),(.ptr 3 0),(.ptr 4 0),(.ptr 5 0)],.pack [.obj 54 [(.ptr 1 0),(.ptr 2 0)],.pack [.obj 124 [(.row 1),(.p (.int .i64 n))],.row .upl 81 l],.pack [.obj 156 [(.row 1),(.p (.int .i64 s))],.row .byte 5 b]],.abs (.cn c0),.abs (.cn c1),.abs (.cn c2),.abs (.cn c3)]=>(fun(l:List Upl) (n:Int) (b:Str) (s:Int) (c0 c1 c2 c3:Cn) (pn pf pt pb:Str)=>(some (.one ⟨I.hid (zQ l n∧n≤200000 - 1∧b.length≤100000∧pf.length≤100000∧pb.length≤100000),(.ret (.tup [(.one (.p (.int .i64 (I.hid ((if zfC ⟨l,n,b,s⟩ ⟨pn,pf,pt,pb⟩=0 then n+1 else 0)))))),(.one (.p (.int .i64 (I.hid ((zfC ⟨l,n,b,s⟩ ⟨pn,pf,pt,pb⟩))))))])),[.obj 50 [(.ptr 1 0),(.ptr 2 0),(.ptr 3 0),(.ptr 4 0),(.ptr 5 0)],.pack [.obj 54 [(.ptr 1 0),(.ptr 2 0)],.pack [.obj 124 [(.row 1),(.p (.int .i64 (I.hid ((Zj ⟨l,n,b,s⟩ ⟨pn,pf,pt,pb⟩).n))))],.row .upl 81 (I.hid ((Zj ⟨l,n,b,s⟩ ⟨pn,pf,pt,pb⟩).l))],.pack [.obj 156 [(.row 1),(.p (.int .i64 (I.hid ((Zj ⟨l,n,b,s⟩ ⟨pn,pf,pt,pb⟩).s))))],.row .byte 5 (I.hid ((Zj ⟨l,n,b,s⟩ ⟨pn,pf,pt,pb⟩).b))]],.abs (.cn c0),.abs (.cn c1),.abs (.cn c2),.abs (.cn c3)]⟩):Option CT)) l n b s c0 c1 c2 c3 pn pf pt pb
 |_,_=>none
set_option maxHeartbeats 1000000 in
theorem zl0:zx Tryz.prog 177 (za8 alg):=by
 intro args hp r h;unfold za8 at h;split at h<;>cases h
 rename_i pn pf pt pb n l s b c0 c1 c2 c3
 revert l;intro(l:List Upl)
 simp only [CT.Good,zi];intro hneed;obtain⟨hs,hn,hb,hf,hp⟩:=hneed
 have hl:(znz++pf).length≤1000000:=by rw [jk];simp [znz];omega
 have h1:=zdp hs b (rE ⟨l,n,b,s⟩ ⟨pn,pf,pt,pb⟩);have h2:=znZ l n b (rE ⟨l,n,b,s⟩ ⟨pn,pf,pt,pb⟩);have h3:=Y8 (l:=l) (n:=n) (rE ⟨l,n,b,s⟩ ⟨pn,pf,pt,pb⟩) hb;generalize hc:zfC ⟨l,n,b,s⟩ ⟨pn,pf,pt,pb⟩=c;generalize hq:Zj ⟨l,n,b,s⟩ ⟨pn,pf,pt,pb⟩=q';unfold zfC apCd wsC wsS rE creE apE at hc;unfold Zj apCd apQ wsC wsS rE creE apE zdl at hq;unfold rE creE at h1 h2 h3
 refine spcG zh mixed Tryz.func177 (by kernel_rfl) { cfgG with keep:=some [0,1,3,4,5,6,7,8]} [Qm,Ql,xB,xA,wM,wL] (by kernel_rfl) ?_
 intro I X hI hX
 refine orcL ?_;go_invoke;refine orcS (by kernel_rfl) ?_
 simp only [zq,Nat.reduceAdd];rw [show([102,105,108,101,110,97,109,101,32]:Str)=znz from rfl];subst hI;simp only [nrmA,nrmB,nrlB,reduceCtorEq,V0.agg.injEq,HO.pack.injEq,HO.obj.injEq];dsimp only at hc hq h1 h2 h3
 have hlf:(znz.length:Int)+pf.length≤1000000:=by rw [jk] at hl;omega
 obtain⟨nm,hnm⟩: ∃ nm,nm=znz++pf:=⟨_,rfl⟩;simp only [← hnm] at hc hq h1 h2 h3 hl ⊢;clear hnm
 by_cases hw:wrtC l n b ⟨1,n+1,(pb.length:Int),nm⟩=0
 · simp only [hw,ne_eq,jf,jg,if_true,if_false] at hc hq ⊢
   generalize wrtL l n b ⟨1,n+1,(pb.length:Int),nm⟩=l1 at *;generalize wrtN l n b ⟨1,n+1,(pb.length:Int),nm⟩=n1 at *;generalize wrtB l n b ⟨1,n+1,(pb.length:Int),nm⟩=b1 at *
   by_cases hg:apG l1 (n+1) 0=true
   · simp only [hg,if_true,je,jf,jg,if_false,show ¬ (17:Int)=0 by decide] at hc hq ⊢
     subst hc hq
     (repeat' (first|refine ja ?_ ?_|intro _))<;>first|omega|exact jb|exact jc ‹False›|skip
     all_goals first|omega|assumption|rfl|trace_state
   · simp only [hg,if_false,jd] at hc hq ⊢
     have h4:=zdp h1 b1 ⟨2,n+1,0,pb⟩
     have h5:=Zq (l:=l1) (n:=n1) (b:=b1) (e:=⟨2,n+1,0,pb⟩) (show(2:Int)≠1 by decide)
     have h6:=Y8 (l:=l1) (n:=n1) (b:=b1) ⟨2,n+1,0,pb⟩ h3
     by_cases ha:wrtC l1 n1 b1 ⟨2,n+1,0,pb⟩=0
     · simp only [ha,jf,if_false,if_true] at hc hq ⊢
       subst hc hq
       (repeat' (first|refine ja ?_ ?_|intro _))<;>first|omega|exact jb|exact jc ‹False›|skip
       all_goals first|omega|assumption|rfl|trace_state
     · simp only [ha,jg,if_false,if_true] at hc hq ⊢
       subst hc hq
       (repeat' (first|refine ja ?_ ?_|intro _))<;>first|omega|exact jb|exact jc ‹False›|skip
       all_goals first|omega|assumption|rfl|trace_state
 · simp only [hw,ne_eq,jf,jg,if_true,if_false] at hc hq ⊢
   subst hc hq
   (repeat' (first|refine ja ?_ ?_|intro _))<;>first|omega|exact jb|exact jc ‹False›|skip
   all_goals first|omega|assumption|rfl|contradiction|trace_state
def za7:Know Tryz.prog:=⟨177,za8,zl0⟩
def za6:Know Tryz.prog:=⟨177,fun I=>zy I (za8 I),zf zl0⟩
end Go.Proofs.YtkjepecoodjbmaaGreatDoor
