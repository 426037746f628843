/- Texts of this proof, one behind the other: FrmA FrmB LnA FrmC FrmD FldP FrmE EvJ FrmF FrmG FrmH FrmI GatP GatA GatB ChkA ChkI ReqB ReqA Splt ReqC ReqD ReqE. -/
import Derived.Lib.Split
import Derived.Lib.SplitLaws
import Derived.Test.YtmkcejdibmilmaaGreatDoorMd
set_option linter.all false
namespace Go.Proofs.YtmkcejdibmilmaaGreatDoor
open Go Go.Sep Go.Ab
set_option maxRecDepth 100000
def TI (s p:Str):Str × Bool:=if s.length<p.length∨lowS (s.take p.length)≠p then([],false) else(s.drop p.length,true)
theorem zxp (s p:Str) (hneed:s.length≤1000000∧p.length≤100):Spc Tryz.prog 271 [.v (.one (.p (.str s))),.v (.one (.p (.str p)))] [] (.ret (.tup [(.one (.p (.str ((TI s p).1)))),(.one (.p (.bool ((TI s p).2))))])) []:=by
  obtain⟨h1,h2⟩:=hneed
  generalize hr:TI s p=r
  obtain⟨a,k⟩:=r
  refine spcG zh mixed Tryz.func271 (by kernel_rfl) { keep:=some [0,1,4,5]} [vg,ve] (by kernel_rfl) ?_
  intro I X hI hX
  refine orcL ?_;go_invoke;refine orcS (by kernel_rfl) ?_
  simp only [zi,Nat.reduceAdd]
  subst hI
  unfold TI at hr
  simp only [nrmA,nrmB,nrlB,reduceCtorEq]
  (repeat' (first|refine And.intro ?_ ?_|intro _))<;>first|omega|exact True.intro|exact False.elim ‹False›|skip
  all_goals first
    |omega
    |(simp only [List.length_take];omega)
    |(rw [if_pos (Or.inl (by omega))] at hr;cases hr;rfl)
    |(rw [if_pos (Or.inr ‹_›)] at hr;cases hr;rfl)
    |(rw [if_neg (fun h=>h.elim (fun h=>by omega) (fun h=>h ‹_›))] at hr;cases hr;first|rfl|exact List.take_of_length_le (by simp))
def zd8 (I:Alg) (args:List D) (hp:List HO):Option CT:=match args,hp with
  |[.v (.one (.p (.str s))),.v (.one (.p (.str p)))],[]=>(fun(s p:Str)=>(some (.one ⟨I.hid (s.length≤1000000∧p.length≤100),(.ret (.tup [(.one (.p (.str (I.hid ((TI s p).1))))),(.one (.p (.bool (I.hid ((TI s p).2)))))])),[]⟩):Option CT)) s p
  |_,_=>none
theorem zoA:zx Tryz.prog 271 (zd8 alg):=by
  intro args hp r h
  unfold zd8 at h
  split at h
  · cases h;exact fun hn=>zxp _ _ hn
  · cases h
def zoz:Know Tryz.prog:=⟨271,zd8,zoA⟩
def zoy:Know Tryz.prog:=⟨271,fun I=>zy I (zd8 I),zf zoA⟩
theorem zw9 {r:Str} {i:Nat} (h:i<r.length) (k: ¬ r.getD i 0=37):pctM (r.drop i)=(pctM (r.drop (i+1))).map (r.getD i 0:: ·):=by
  have e:r.getD i 0=r[i]:=by simp [h]
  rw [e] at k
  rw [List.drop_eq_getElem_cons h,pctM.eq_def]
  simp only
  rw [if_pos k,e]
theorem zw8 {r:Str} {i:Nat} (h:i<r.length) (k:r.getD i 0=37) (h2:r.length≤i+2):pctM (r.drop i)=none:=by
  have e:r.getD i 0=r[i]:=by simp [h]
  rw [e] at k
  rw [List.drop_eq_getElem_cons h,pctM.eq_def]
  simp only [k,ne_eq,not_true_eq_false,if_false]
  have hl:(r.drop (i+1)).length≤1:=by rw [List.length_drop];omega
  match hd:r.drop (i+1),hl with
  |[],_=>rfl
  |[_],_=>rfl
  |_::_::_,h=>simp at h
theorem zxa {r:Str} {i:Nat} (h:i+2<r.length) (k:r.getD i 0=37):pctM (r.drop i)=if hexK ((r.getD (i+1) 0).toNat:Int)<0∨hexK ((r.getD (i+2) 0).toNat:Int)<0 then none else(pctM (r.drop (i+3))).map (UInt8.ofNat (16 * hexK ((r.getD (i+1) 0).toNat:Int)+hexK ((r.getD (i+2) 0).toNat:Int)).toNat:: ·):=by
  have h0:i<r.length:=by omega
  have h1:i+1<r.length:=by omega
  have e0:r.getD i 0=r[i]:=by simp [h0]
  have e1:r.getD (i+1) 0=r[i+1]:=by simp [h1]
  have e2:r.getD (i+2) 0=r[i+2]:=by simp [h]
  rw [e0] at k
  rw [List.drop_eq_getElem_cons h0,List.drop_eq_getElem_cons h1,List.drop_eq_getElem_cons h,pctM,if_neg (by simp [k]),e1,e2]
theorem zxo (s:Str) (hneed:s.length≤1000000):Spc Tryz.prog 269 [.v (.one (.p (.str s)))] [] (.ret (.tup [(.one (.p (.str ((extV s))))),(.one (.p (.bool ((extB s)))))])) []:=by
  unfold extV extB
  generalize hr:extM s=r
  refine spcG zh mixed Tryz.func269 (by kernel_rfl) { nr:=[6],keep:=some [0,2,3,4,5,6,7]} [zcy,zcx,zoz,zoy] (by kernel_rfl) ?_
  intro I X hI hX
  refine orcL ?_;go_invoke;refine orcS (by kernel_rfl) ?_
  simp only [zi,Nat.reduceAdd]
  rw [show([117,116,102,45,56,39,39]:Str)=utfS from rfl]
  have hc:extM s=if(TI s utfS).2=false then none else pctM (TI s utfS).1:=by
    unfold extM TI
    by_cases h:s.length<7∨lowS (s.take 7)≠utfS
    · rw [if_pos h,if_pos (show s.length<utfS.length∨lowS (s.take utfS.length)≠utfS from h)];rfl
    · rw [if_neg h,if_neg (show ¬ (s.length<utfS.length∨lowS (s.take utfS.length)≠utfS) from h)];rfl
  have hl:(TI s utfS).1.length≤1000000:=by
    unfold TI
    split
    · simp
    · simp only [List.length_drop];omega
  rw [hc] at hr
  generalize(TI s utfS).2=k at *
  generalize(TI s utfS).1=R at *
  have h7:utfS.length≤100:=by decide
  (repeat' (first|refine And.intro ?_ ?_|intro _))
  all_goals try(subst hI;(simp only [nrmA,nrmB,nrlB,reduceCtorEq] at *);first|done|trivial|omega|exact⟨hneed,h7⟩|(rw [if_pos ‹_›] at hr;rw [← hr];exact⟨rfl,rfl⟩))
  have hk:k=true:=by
    subst hI
    simp only [nrmA,nrmB,nrlB,reduceCtorEq] at *
    simpa using ‹_›
  rw [hk] at hr
  simp only [Bool.true_eq_false,if_false] at hr
  rw [show I.hid R=R by subst hI;rfl]
  refine zC hI zh mixed [zcy,zcx,zoz,zoy] hX [4,6,7] (fun(g:Nat × Str)=>match g with|(i,b)=>i≤R.length∧b.length≤i∧r=(pctM (R.drop i)).map (b++ ·)) (fun(g:Nat × Str)=>match g with|(i,b)=>⟨[(4,.v (.one (.p (.str R)))),(6,.v (.one (.row 0))),(7,.v (.one (.p (.int .i64 i))))],[.row .byte 5 b],72,none⟩) (fun(g:Nat × Str)=>match g with|(i,b)=>R.length - i) (0,[]) (by kernel_rfl) (by kernel_rfl) ?_ ?_
  · refine⟨Nat.zero_le _,Nat.le_refl _,?_⟩
    rw [List.drop_zero,hr]
    cases r<;>rfl
  rintro⟨i,b⟩ ⟨h1,h2,h3⟩ A hA
  simp only at hA h1 h2 h3
  refine orcL ?_;go_invoke;refine orcS (by kernel_rfl) ?_
  simp only [zi,Nat.reduceAdd]
  subst hI
  simp only [nrmA,nrmB,nrlB,reduceCtorEq]
  have e1:((i:Int)+1).toNat=i+1:=by omega
  have e2:((i:Int)+2).toNat=i+2:=by omega
  rw [e1,e2]
  have b37:(R.getD i 0).toNat=37↔R.getD i 0=37:=⟨fun h=>UInt8.toNat_inj.1 h,fun h=>by rw [h];rfl⟩
  have g0:i<R.length→¬ R.getD i 0=37→_:=fun h k=>zw9 h k
  have g1:i<R.length→R.getD i 0=37→R.length≤i+2→_:=fun h k=>zw8 h k
  have g2:i+2<R.length→R.getD i 0=37→_:=fun h k=>zxa h k
  have l0:=(R.getD i 0).toNat_lt
  have l1:=(R.getD (i+1) 0).toNat_lt
  have l2:=(R.getD (i+2) 0).toNat_lt
  have m1:=zdV (k:=((R.getD (i+1) 0).toNat:Int)) ⟨by omega,by omega⟩
  have m2:=zdV (k:=((R.getD (i+2) 0).toNat:Int)) ⟨by omega,by omega⟩
  have hend: ¬ i<R.length→r=some b:=fun h=>by rw [h3,List.drop_of_length_le (by omega)];simp [pctM]
  have hA2:=fun(c:UInt8) (j:Nat) (h:i<j) (hj:j≤R.length) (e:pctM (R.drop i)=(pctM (R.drop j)).map (c:: ·))=>hA (j,b++[c]) ⟨hj,by rw [List.length_append,List.length_singleton];omega,by rw [h3,e,Option.map_map];congr 1;funext x;simp⟩ (by simp only;omega)
  generalize R.getD i 0=x0 at *
  generalize R.getD (i+1) 0=x1 at *
  generalize R.getD (i+2) 0=x2 at *
  refine⟨fun c=>⟨by omega,fun c2=>⟨by omega,by omega,by simp only [List.length_singleton];omega,by omega,?_⟩,fun c2=> ?_⟩,fun c=> ?_⟩
  · have:=hA2 x0 (i+1) (by omega) (by omega) (g0 (by omega) (fun h=>c2 (by have:=b37.2 h;omega)))
    simp only [Int.natCast_add,Int.natCast_one] at this
    exact this
  · have hx:x0=37:=b37.1 (by omega)
    subst hx
    have gs:R.length≤i+2→r=none:=fun h=>by rw [h3,g1 (by omega) rfl h];rfl
    have gm:=fun h=>g2 h rfl
    have gn:i+2<R.length→(hexK (x1.toNat:Int)<0∨hexK (x2.toNat:Int)<0)→r=none:=fun h k=>by rw [h3,gm h,if_pos k];rfl
    have gy:i+2<R.length→¬ hexK (x1.toNat:Int)<0→¬ hexK (x2.toNat:Int)<0→_:=fun h k k2=>hA2 (UInt8.ofNat (16 * hexK (x1.toNat:Int)+hexK (x2.toNat:Int)).toNat) (i+3) (by omega) (by omega) (by rw [gm h,if_neg (fun q=>q.elim k k2)])
    have wr: ¬ hexK (x1.toNat:Int)<0→¬ hexK (x2.toNat:Int)<0→IntKind.u8.wrap (16 * hexK (x1.toNat:Int)+hexK (x2.toNat:Int))=16 * hexK (x1.toNat:Int)+hexK (x2.toNat:Int):=fun k k2=>zwN _ ⟨by omega,by omega⟩
    (repeat' (first|refine And.intro ?_ ?_|intro _))<;>first|omega|exact True.intro|exact False.elim ‹False›|skip
    all_goals first
      |omega
      |(rw [gs (by omega)];done)
      |(rw [gs (by omega)];rfl)
      |(rw [gn (by omega) (Or.inl ‹_›)];rfl)
      |(rw [gn (by omega) (Or.inr ‹_›)];rfl)
      |(rw [wr ‹_› ‹_›];omega)
      |(simp only [List.length_singleton];omega)
      |(rw [wr ‹_› ‹_›,show(i:Int)+2+1=((i+3:Nat):Int) by omega];exact gy (by omega) ‹_› ‹_›)
  · rw [hend (by omega)]
    exact⟨rfl,rfl⟩
def zd7 (I:Alg) (args:List D) (hp:List HO):Option CT:=match args,hp with
  |[.v (.one (.p (.str s)))],[]=>(fun(s:Str)=>(some (.one ⟨I.hid (s.length≤1000000),(.ret (.tup [(.one (.p (.str (I.hid ((extV s)))))),(.one (.p (.bool (I.hid ((extB s))))))])),[]⟩):Option CT)) s
  |_,_=>none
theorem zox:zx Tryz.prog 269 (zd7 alg):=by
  intro args hp r h
  unfold zd7 at h
  split at h
  · cases h;exact fun hn=>zxo _ hn
  · cases h
def zur:Know Tryz.prog:=⟨269,zd7,zox⟩
def zuq:Know Tryz.prog:=⟨269,fun I=>zy I (zd7 I),zf zox⟩
end Go.Proofs.YtmkcejdibmilmaaGreatDoor
namespace Go.Proofs.YtmkcejdibmilmaaGreatDoor
open Go Go.Sep Go.Ab
set_option maxRecDepth 100000
theorem zdz: ∀ (n:Nat) (r:Str),r.length≤n→∀ v,pctM r=some v→v.length≤r.length
  |n,[],_,v,h=>by rw [pctM] at h;cases h;exact Nat.le_refl _
  |0,c::r,h,_,_=>by simp at h
  | n + 1,c::r,hl,v,h=>by
    rw [List.length_cons] at hl
    rw [pctM.eq_def] at h
    simp only at h
    split at h
    · cases hp:pctM r with
      |none=>rw [hp] at h;cases h
      | some u=>
        rw [hp] at h;cases h
        have:=zdz n r (by omega) u hp
        simp only [List.length_cons];omega
    · split at h
      · rename_i a b r'
        split at h
        · cases h
        · cases hp:pctM r' with
          |none=>rw [hp] at h;cases h
          | some u=>
            rw [hp] at h;cases h
            have:=zdz n r' (by simp only [List.length_cons] at hl;omega) u hp
            simp only [List.length_cons];omega
      · cases h
theorem zrp (s:Str):(extV s).length≤s.length:=by
  unfold extV extM
  split
  · simp
  · cases h:pctM (s.drop 7) with
    |none=>simp
    | some v=>
      have:=zdz _ _ (Nat.le_refl _) v h
      rw [List.length_drop] at this
      simp only [Option.getD_some];omega
def PsOk (N:Nat) (l:List Fld):Prop:=l.length≤8∧∀ f ∈ l,f.value.length≤N
theorem znI (N:Nat): ∀ (n:Nat) (s:Str) (ps:List Fld),s.length≤N→PsOk N ps→PsOk N (medL n s ps).2.1
  |0,s,ps,_,h=>h
  | n + 1, s,ps,hs,h=>by
    rw [medL]
    have h1:=vO (s.drop 1)
    have h2:=zdB (skS (s.drop 1))
    have h3:=vO (parM (skS (s.drop 1))).2.2
    rw [List.length_drop] at h1
    split
    · split
      · exact h
      · split
        · exact h
        · split
          · exact h
          · rename_i h8
            refine znI N n _ _ (by omega) ⟨by rw [List.length_append,List.length_singleton];have:=h.1;omega,fun f hf=> ?_⟩
            rcases List.mem_append.1 hf with h5|h5
            · exact h.2 f h5
            · rw [List.mem_singleton.1 h5];omega
    · split<;>exact h
theorem zfd (s:Str):PsOk s.length (xN s).1.params:=by
  have h0:PsOk s.length []:=⟨by decide,fun f h=>by cases h⟩
  have hb: ∀ w t:Str,t.length≤s.length→PsOk s.length (medB w t).2.1.params:=fun w t ht=>by
    have h1:=vO t
    exact znI s.length _ _ [] (by omega) h0
  have h1:=vO s
  have h2:=vV (skS s)
  have h3:=vV ((tokE (skS s)).drop 1)
  rw [List.length_drop] at h3
  have hm:PsOk s.length (wX s).2.1.params:=by
    unfold wX medA
    split
    · exact h0
    · split
      · split
        · exact h0
        · exact hb _ _ (by omega)
      · exact hb _ _ (by omega)
  unfold xN
  split
  · exact h0
  · split
    · exact hm
    · exact h0
theorem zjI {N:Nat} {l:List Fld} (h: ∀ f ∈ l,f.value.length≤N) (n:Str):(getP l n).1.length≤N:=by
  unfold getP
  cases hf:l.find? (fun f=>f.name == n) with
  |none=>simp
  |some f=>exact h f (List.mem_of_find?_eq_some hf)
theorem zqC {N:Nat} {l:List Fld} (h: ∀ f ∈ l,f.value.length≤N) (n:Str):(oneF (valsF l n)).1.length≤N:=by
  unfold oneF
  split
  · simp
  · split
    · rename_i h1
      match hv:valsF l n,h1 with
      | [x],_=>
        have:x ∈ valsF l n:=by rw [hv];exact List.mem_singleton.2 rfl
        unfold valsF at this
        obtain⟨f,hf,rfl⟩:=List.mem_map.1 this
        exact h f (List.mem_filter.1 hf).1
    · simp
theorem zwl (l:List Fld) (hneed:l.length≤1000∧∀ f ∈ l,f.name.length≤1000000∧f.value.length≤1000000):Spc Tryz.prog 268 [.v (.one (.p (.list .fld l)))] [] (.ret (.tup [(.agg [(.p (.str ((rU l).1.name))),(.p (.str ((rU l).1.file))),(.p (.str ((rU l).1.type))),.nilS]),(.one (.p (.int .i64 ((rU l).2))))])) []:=by
  obtain⟨hl,hf⟩:=hneed
  generalize hr:rU l=r
  refine spcG zh mixed Tryz.func268 (by kernel_rfl) { raw:=true,keep:=some [0,2,3,4,5,6,7,8,9,10,11,12,13,77]} [TB,Tz,zrm,zrl,zur,zuq,U7,U6,vI,vH] (by kernel_rfl) ?_
  intro I X hI hX
  refine orcL ?_;go_invoke;refine orcS (by kernel_rfl) ?_
  simp only [zi,Nat.reduceAdd]
  try rw [show([99,111,110,116,101,110,116,45,100,105,115,112,111,115,105,116,105,111,110]:Str)=qx from rfl]
  try rw [show([99,111,110,116,101,110,116,45,116,121,112,101]:Str)=zkg from rfl]
  try rw [show([102,111,114,109,45,100,97,116,97]:Str)=zsh from rfl]
  try rw [show([102,105,108,101,110,97,109,101]:Str)=zrh from rfl]
  try rw [show([102,105,108,101,110,97,109,101,42]:Str)=zgs from rfl]
  try rw [show([110,97,109,101]:Str)=ztr from rfl]
  have hk1:qx.length≤1000000:=by decide
  have hk2:zkg.length≤1000000:=by decide
  have hv:=zqC (fun f h=>(hf f h).2) qx
  have hp:=zfd (oneF (valsF l qx)).1
  have hg:=fun n=>zjI hp.2 n
  have hg1:=hg zgs
  have hg2:=hg zrh
  have hx:=zrp (getP (xN (oneF (valsF l qx)).1).1.params zgs).1
  unfold rU at hr
  subst hI
  simp only [nrmA,nrmB,nrlB,reduceCtorEq]
  have hpl:=hp.1
  clear hp hg
  generalize oneF (valsF l zkg)=t at *
  generalize getP (xN (oneF (valsF l qx)).1).1.params zgs=x at *
  generalize getP (xN (oneF (valsF l qx)).1).1.params zrh=f at *
  generalize getP (xN (oneF (valsF l qx)).1).1.params ztr=n at *
  generalize xN (oneF (valsF l qx)).1=m at *
  generalize oneF (valsF l qx)=a at *
  unfold zqx ztf partT at hr
  (repeat' (first|refine And.intro ?_ ?_|intro _))<;>first|omega|exact True.intro|exact False.elim ‹False›|skip
  all_goals first
    |omega
    |exact hl
    |exact hk1
    |exact hk2
    |exact(hf _ ‹_›).1
    |exact(hf _ ‹_›).2
    |exact absurd (‹extB x.fst=true›.symm.trans ‹extB x.fst=false›) (by decide)
    |(subst hr;clear hf hX hv hg1 hg2 hx hpl hl hk1 hk2;simp [*,prt0];done)
def QW (I:Alg) (args:List D) (hp:List HO):Option CT:=match args,hp with
  |[.v (.one (.p (.list .fld l)))],[]=>(fun(l:List Fld)=>(some (.one ⟨I.hid (l.length≤1000∧∀ f ∈ l,f.name.length≤1000000∧f.value.length≤1000000),(.ret (.tup [(.agg [(.p (.str (I.hid ((rU l).1.name)))),(.p (.str (I.hid ((rU l).1.file)))),(.p (.str (I.hid ((rU l).1.type)))),.nilS]),(.one (.p (.int .i64 (I.hid ((rU l).2)))))])),[]⟩):Option CT)) l
  |_,_=>none
theorem zj4:zx Tryz.prog 268 (QW alg):=by
  intro args hp r h
  unfold QW at h
  split at h
  · cases h;exact fun hn=>zwl _ hn
  · cases h
def zj3:Know Tryz.prog:=⟨268,QW,zj4⟩
def zj2:Know Tryz.prog:=⟨268,fun I=>zy I (QW I),zf zj4⟩
end Go.Proofs.YtmkcejdibmilmaaGreatDoor
namespace Go.Proofs.YtmkcejdibmilmaaGreatDoor
open Go Go.Sep Go.Ab
set_option maxRecDepth 100000
def zrC:Cfg:= { sl:=[⟨165,0,.byte,some 5⟩]}
theorem zvW:Spc Tryz.prog 68 [] [] (.ret (.v (.one (.ptr 0 0)))) [.pack [.obj 165 [(.row 1),(.p (.bool false)),(.p (.int .i64 0))],.row .byte 5 ([])]]:=by
  refine spcG zh mixed Tryz.func68 (by kernel_rfl) { zrC with keep:=some [0]} [] (by kernel_rfl) ?_
  intro I X hI hX
  refine orcL ?_;go_invoke;refine orcS (by kernel_rfl) ?_
  simp only [zi,Nat.reduceAdd]
  trivial
def QC (I:Alg) (args:List D) (hp:List HO):Option CT:=match args,hp with
  |[],[]=>(fun(_:Unit)=>(some (.one ⟨I.hid (True),(.ret (.v (.one (.ptr 0 0)))),[.pack [.obj 165 [(.row 1),(.p (.bool false)),(.p (.int .i64 0))],.row .byte 5 (I.hid ([]))]]⟩):Option CT)) ()
  |_,_=>none
theorem zjy:zx Tryz.prog 68 (QC alg):=by
  intro args hp r h
  unfold QC at h
  split at h
  · cases h;exact fun hn=>zvW
  · cases h
def QB:Know Tryz.prog:=⟨68,QC,zjy⟩
def QA:Know Tryz.prog:=⟨68,fun I=>zy I (QC I),zf zjy⟩
theorem ztx (b:Str) (cr:Bool) (code c:Int):Spc Tryz.prog 114 [.v (.one (.ptr 0 0)),.v (.one (.p (.int .i64 c)))] [.pack [.obj 165 [(.row 1),(.p (.bool cr)),(.p (.int .i64 code))],.row .byte 5 b]] (.ret (.tup [(.one (.p (.str ([])))),(.one (.p (.bool false))),(.one (.p (.int .i64 c)))])) [.pack [.obj 165 [(.row 1),(.p (.bool cr)),(.p (.int .i64 c))],.row .byte 5 b]]:=by
  refine spcG zh mixed Tryz.func114 (by kernel_rfl) { zrC with keep:=some [0,1,4,5,6]} [] (by kernel_rfl) ?_
  intro I X hI hX
  refine orcL ?_;go_invoke;refine orcS (by kernel_rfl) ?_
  simp only [zi,Nat.reduceAdd]
  subst hI
  simp only [nrmA,nrmB,nrlB,reduceCtorEq,HO.pack.injEq,HO.obj.injEq]
  try trivial
def Vx (I:Alg) (args:List D) (hp:List HO):Option CT:=match args,hp with
  |[.v (.one (.ptr 0 0)),.v (.one (.p (.int .i64 c)))],[.pack [.obj 165 [(.row 1),(.p (.bool cr)),(.p (.int .i64 code))],.row .byte 5 b]]=>(fun(b:Str) (cr:Bool) (code c:Int)=>(some (.one ⟨I.hid (True),(.ret (.tup [(.one (.p (.str (I.hid ([]))))),(.one (.p (.bool false))),(.one (.p (.int .i64 c)))])),[.pack [.obj 165 [(.row 1),(.p (.bool cr)),(.p (.int .i64 c))],.row .byte 5 b]]⟩):Option CT)) b cr code c
  |_,_=>none
theorem zfo:zx Tryz.prog 114 (Vx alg):=by
  intro args hp r h
  unfold Vx at h
  split at h
  · cases h;exact fun hn=>ztx _ _ _ _
  · cases h
def znN:Know Tryz.prog:=⟨114,Vx,zfo⟩
def znM:Know Tryz.prog:=⟨114,fun I=>zy I (Vx I),zf zfo⟩
set_option maxHeartbeats 4000000 in
theorem ztw (b:Str) (cr:Bool) (code k:Int) (hneed:0≤k∧k≤255∧b.length≤1000000):Spc Tryz.prog 85 [.v (.one (.ptr 0 0)),.v (.one (.p (.int .u8 k)))] [.pack [.obj 165 [(.row 1),(.p (.bool cr)),(.p (.int .i64 code))],.row .byte 5 b]] (.ret (.tup [(.one (.p (.str ((lnF ⟨b,cr,code⟩ (UInt8.ofNat k.toNat)).2.1)))),(.one (.p (.bool ((lnF ⟨b,cr,code⟩ (UInt8.ofNat k.toNat)).2.2.1)))),(.one (.p (.int .i64 ((lnF ⟨b,cr,code⟩ (UInt8.ofNat k.toNat)).2.2.2))))])) [.pack [.obj 165 [(.row 1),(.p (.bool ((lnF ⟨b,cr,code⟩ (UInt8.ofNat k.toNat)).1.cr))),(.p (.int .i64 ((lnF ⟨b,cr,code⟩ (UInt8.ofNat k.toNat)).1.code)))],.row .byte 5 ((lnF ⟨b,cr,code⟩ (UInt8.ofNat k.toNat)).1.b)]]:=by
  obtain⟨hk0,hk1,hbl⟩:=hneed
  have hkk:((UInt8.ofNat k.toNat).toNat:Int)=k:=by rw [UInt8.toNat_ofNat',Nat.mod_eq_of_lt (by omega)];omega
  generalize hr:lnF ⟨b,cr,code⟩ (UInt8.ofNat k.toNat)=r
  have h10:UInt8.ofNat k.toNat=10↔k=10:=⟨fun h=>by rw [h] at hkk;exact hkk.symm,fun h=>by subst h;rfl⟩
  have h13:UInt8.ofNat k.toNat=13↔k=13:=⟨fun h=>by rw [h] at hkk;exact hkk.symm,fun h=>by subst h;rfl⟩
  unfold lnF zve at hr
  rw [hkk] at hr
  simp only [h10,h13] at hr
  obtain⟨⟨rb,rc,rcode⟩,rt,ro,re⟩:=r
  refine spcG zh mixed Tryz.func85 (by kernel_rfl) { zrC with nr:=[8],keep:=some [0,1,4,5,6,7]} [rF,YR,znN,znM] (by kernel_rfl) ?_
  intro I X hI hX
  refine orcL ?_;go_invoke;refine orcS (by kernel_rfl) ?_
  simp only [zi,Nat.reduceAdd]
  subst hI
  simp only [nrmA,nrmB,nrlB,reduceCtorEq,HO.pack.injEq,HO.obj.injEq]
  generalize UInt8.ofNat k.toNat=c at *
  cases cr
  all_goals simp only [Bool.false_eq_true,if_false,if_true] at hr
  all_goals(repeat' (first|refine And.intro ?_ ?_|intro _))<;>first|omega|exact True.intro|exact False.elim ‹False›|skip
  all_goals first
    |omega
    |(exfalso;simp at *;done)
    |(((repeat(first|rewrite [if_pos (by first|omega|assumption|(simp only [*,or_self,or_true,true_or,or_false,false_or,not_true_eq_false,not_false_eq_true,Bool.false_eq_true,Bool.true_eq_false,and_self,and_true,true_and];done)|(simp only [*];omega)|(simp [*];done)|(simp [*];omega))] at hr|rewrite [if_neg (by first|omega|assumption|(simp only [*,or_self,or_true,true_or,or_false,false_or,not_true_eq_false,not_false_eq_true,Bool.false_eq_true,Bool.true_eq_false,and_self,and_true,true_and];done)|(simp only [*];omega)|(simp [*];done)|(simp [*];omega))] at hr)));cases hr;first|rfl|done|with_reducible assumption|exact⟨rfl,rfl,rfl⟩|(simp;done)|(simp;omega))
def Vw (I:Alg) (args:List D) (hp:List HO):Option CT:=match args,hp with
  |[.v (.one (.ptr 0 0)),.v (.one (.p (.int .u8 k)))],[.pack [.obj 165 [(.row 1),(.p (.bool cr)),(.p (.int .i64 code))],.row .byte 5 b]]=>(fun(b:Str) (cr:Bool) (code k:Int)=>(some (.one ⟨I.hid (0≤k∧k≤255∧b.length≤1000000),(.ret (.tup [(.one (.p (.str (I.hid ((lnF ⟨b,cr,code⟩ (UInt8.ofNat k.toNat)).2.1))))),(.one (.p (.bool (I.hid ((lnF ⟨b,cr,code⟩ (UInt8.ofNat k.toNat)).2.2.1))))),(.one (.p (.int .i64 (I.hid ((lnF ⟨b,cr,code⟩ (UInt8.ofNat k.toNat)).2.2.2)))))])),[.pack [.obj 165 [(.row 1),(.p (.bool (I.hid ((lnF ⟨b,cr,code⟩ (UInt8.ofNat k.toNat)).1.cr)))),(.p (.int .i64 (I.hid ((lnF ⟨b,cr,code⟩ (UInt8.ofNat k.toNat)).1.code))))],.row .byte 5 (I.hid ((lnF ⟨b,cr,code⟩ (UInt8.ofNat k.toNat)).1.b))]]⟩):Option CT)) b cr code k
  |_,_=>none
theorem zfn:zx Tryz.prog 85 (Vw alg):=by
  intro args hp r h
  unfold Vw at h
  split at h
  · cases h;exact fun hn=>ztw _ _ _ _ hn
  · cases h
def rX:Know Tryz.prog:=⟨85,Vw,zfn⟩
def rW:Know Tryz.prog:=⟨85,fun I=>zy I (Vw I),zf zfn⟩
end Go.Proofs.YtmkcejdibmilmaaGreatDoor
namespace Go.Proofs.YtmkcejdibmilmaaGreatDoor
open Go Go.Sep Go.Ab
set_option maxRecDepth 100000
def cfgF:Cfg:= { sl:=[⟨165,0,.byte,some 5⟩,⟨273,0,.byte,some 5⟩,⟨273,1,.int,some 3⟩,⟨259,3,.fld,some 97⟩,⟨259,7,.evt,some 53⟩]}
def vz (f:Fm):Prop:=f.out.length≤10000000
def fm9 (f:Fm):Prop:=f.out.length≤9000000
theorem u8k {k:Int} (h0:0≤k) (h1:k≤255) (n:Nat) (hn:n<256):(UInt8.ofNat k.toNat=UInt8.ofNat n)=(k=n):=by
  rw [← UInt8.toNat_inj,UInt8.toNat_ofNat',UInt8.toNat_ofNat',Nat.mod_eq_of_lt hn,Nat.mod_eq_of_lt (by omega)]
  exact propext ⟨fun h=>by omega,fun h=>by omega⟩
theorem zt9 (m:Str) (hd:Int) (bs:List Int) (p:Int) (fs:List Fld) (pa sk co:Int) (out:List Evt) (k:Int) (ea eb:Str) (ei:Int) (ef:List Fld) (en:Int) (ebs ex ey ez et:Str) (ec:Int) (hneed:vz ⟨m,hd,bs,p,none,fs,pa,sk,co,out⟩):Spc Tryz.prog 265 [.v (.one (.ptr 0 0)),.v (.agg [(.p (.int .i64 k)),(.p (.str ea)),(.p (.str eb)),(.p (.int .i64 ei)),(.p (.list .fld ef)),(.p (.int .i64 en)),(.p (.list .byte ebs)),(.p (.str ex)),(.p (.str ey)),(.p (.str ez)),(.p (.nl et)),(.p (.int .i64 ec))])] [.abs (.fm ⟨m,hd,bs,p,none,fs,pa,sk,co,out⟩)] (.ret (.tup [])) [.abs (.fm ⟨m,hd,bs,p,none,fs,pa,sk,co,(out++[⟨k,⟨ea,eb,ei,ef,en⟩,ebs,⟨ex,ey,ez,et⟩,ec⟩])⟩)]:=by
  unfold vz at hneed
  simp only at hneed
  refine spcG zh mixed Tryz.func265 (by kernel_rfl) { cfgF with keep:=some [0,1,3]} [] (by kernel_rfl) ?_
  intro I X hI hX
  refine orcL ?_;go_invoke;refine orcS (by kernel_rfl) ?_
  simp only [zi,Nat.reduceAdd]
  subst hI
  simp only [nrmA,nrmB,nrlB,reduceCtorEq,HO.abs.injEq,Gh.fm.injEq,Fm.mk.injEq]
  (repeat' (first|refine And.intro ?_ ?_|intro _))<;>first|omega|exact True.intro|exact False.elim ‹False›|skip
  all_goals first
    |omega
    |rfl
    |with_reducible assumption
    |(simp only [List.length_cons,List.length_nil];omega)
    |(unfold vz;simp only;omega)
    |(simp;done)
def Ua (I:Alg) (args:List D) (hp:List HO):Option CT:=match args,hp with
  |[.v (.one (.ptr 0 0)),.v (.agg [(.p (.int .i64 k)),(.p (.str ea)),(.p (.str eb)),(.p (.int .i64 ei)),(.p (.list .fld ef)),(.p (.int .i64 en)),(.p (.list .byte ebs)),(.p (.str ex)),(.p (.str ey)),(.p (.str ez)),(.p (.nl et)),(.p (.int .i64 ec))])],[.abs (.fm ⟨m,hd,bs,p,none,fs,pa,sk,co,out⟩)]=>(fun(m:Str) (hd:Int) (bs:List Int) (p:Int) (fs:List Fld) (pa sk co:Int) (out:List Evt) (k:Int) (ea eb:Str) (ei:Int) (ef:List Fld) (en:Int) (ebs ex ey ez et:Str) (ec:Int)=>(some (.one ⟨I.hid (vz ⟨m,hd,bs,p,none,fs,pa,sk,co,out⟩),(.ret (.tup [])),[.abs (.fm ⟨m,hd,bs,p,none,fs,pa,sk,co,(I.hid (out++[⟨k,⟨ea,eb,ei,ef,en⟩,ebs,⟨ex,ey,ez,et⟩,ec⟩]))⟩)]⟩):Option CT)) m hd bs p fs pa sk co out k ea eb ei ef en ebs ex ey ez et ec
  |_,_=>none
theorem zgd:zx Tryz.prog 265 (Ua alg):=by
  intro args hp r h
  unfold Ua at h
  split at h
  · cases h;exact fun hn=>zt9 _ _ _ _ _ _ _ _ _ _ _ _ _ _ _ _ _ _ _ _ _ hn
  · cases h
def uy:Know Tryz.prog:=⟨265,Ua,zgd⟩
def uw:Know Tryz.prog:=⟨265,fun I=>zy I (Ua I),zf zgd⟩
theorem zt8 (m:Str) (hd:Int) (bs:List Int) (p:Int) (ln:Ln) (fs:List Fld) (pa sk co:Int) (out:List Evt) (k:Int) (ea eb:Str) (ei:Int) (ef:List Fld) (en:Int) (ebs ex ey ez et:Str) (ec:Int) (hneed:vz ⟨m,hd,bs,p,some ln,fs,pa,sk,co,out⟩):Spc Tryz.prog 265 [.v (.one (.ptr 0 0)),.v (.agg [(.p (.int .i64 k)),(.p (.str ea)),(.p (.str eb)),(.p (.int .i64 ei)),(.p (.list .fld ef)),(.p (.int .i64 en)),(.p (.list .byte ebs)),(.p (.str ex)),(.p (.str ey)),(.p (.str ez)),(.p (.nl et)),(.p (.int .i64 ec))])] [.abs (.fm ⟨m,hd,bs,p,some ln,fs,pa,sk,co,out⟩)] (.ret (.tup [])) [.abs (.fm ⟨m,hd,bs,p,some ln,fs,pa,sk,co,(out++[⟨k,⟨ea,eb,ei,ef,en⟩,ebs,⟨ex,ey,ez,et⟩,ec⟩])⟩)]:=by
  unfold vz at hneed
  simp only at hneed
  refine spcG zh mixed Tryz.func265 (by kernel_rfl) { cfgF with keep:=some [0,1,3]} [uy,uw] (by kernel_rfl) ?_
  intro I X hI hX
  refine orcL ?_;go_invoke;refine orcS (by kernel_rfl) ?_
  simp only [zi,Nat.reduceAdd]
  subst hI
  simp only [nrmA,nrmB,nrlB,reduceCtorEq,HO.abs.injEq,Gh.fm.injEq,Fm.mk.injEq]
  (repeat' (first|refine And.intro ?_ ?_|intro _))<;>first|omega|exact True.intro|exact False.elim ‹False›|skip
  all_goals first
    |omega
    |rfl
    |with_reducible assumption
    |(simp only [List.length_cons,List.length_nil];omega)
    |(unfold vz;simp only;omega)
    |(simp;done)
def V9 (I:Alg) (args:List D) (hp:List HO):Option CT:=match args,hp with
  |[.v (.one (.ptr 0 0)),.v (.agg [(.p (.int .i64 k)),(.p (.str ea)),(.p (.str eb)),(.p (.int .i64 ei)),(.p (.list .fld ef)),(.p (.int .i64 en)),(.p (.list .byte ebs)),(.p (.str ex)),(.p (.str ey)),(.p (.str ez)),(.p (.nl et)),(.p (.int .i64 ec))])],[.abs (.fm ⟨m,hd,bs,p,some ln,fs,pa,sk,co,out⟩)]=>(fun(m:Str) (hd:Int) (bs:List Int) (p:Int) (ln:Ln) (fs:List Fld) (pa sk co:Int) (out:List Evt) (k:Int) (ea eb:Str) (ei:Int) (ef:List Fld) (en:Int) (ebs ex ey ez et:Str) (ec:Int)=>(some (.one ⟨I.hid (vz ⟨m,hd,bs,p,some ln,fs,pa,sk,co,out⟩),(.ret (.tup [])),[.abs (.fm ⟨m,hd,bs,p,some ln,fs,pa,sk,co,(I.hid (out++[⟨k,⟨ea,eb,ei,ef,en⟩,ebs,⟨ex,ey,ez,et⟩,ec⟩]))⟩)]⟩):Option CT)) m hd bs p ln fs pa sk co out k ea eb ei ef en ebs ex ey ez et ec
  |_,_=>none
theorem zgc:zx Tryz.prog 265 (V9 alg):=by
  intro args hp r h
  unfold V9 at h
  split at h
  · cases h;exact fun hn=>zt8 _ _ _ _ _ _ _ _ _ _ _ _ _ _ _ _ _ _ _ _ _ _ hn
  · cases h
def tN:Know Tryz.prog:=⟨265,V9,zgc⟩
def tK:Know Tryz.prog:=⟨265,fun I=>zy I (V9 I),zf zgc⟩
theorem zjS (m:Str) (hd:Int) (bs:List Int) (p:Int) (fs:List Fld) (pa sk co:Int) (out:List Evt) (c:Int) (hneed:vz ⟨m,hd,bs,p,none,fs,pa,sk,co,out⟩):Spc Tryz.prog 255 [.v (.one (.ptr 0 0)),.v (.one (.p (.int .i64 c)))] [.abs (.fm ⟨m,hd,bs,p,none,fs,pa,sk,co,out⟩)] (.ret (.tup [])) [.abs (.fm ((xH ⟨m,hd,bs,p,none,fs,pa,sk,co,out⟩ c)))]:=by
  unfold vz at hneed
  simp only at hneed
  refine spcG zh mixed Tryz.func255 (by kernel_rfl) { cfgF with keep:=some [0,1]} [uy,uw,tN,tK] (by kernel_rfl) ?_
  intro I X hI hX
  refine orcL ?_;go_invoke;refine orcS (by kernel_rfl) ?_
  simp only [zi,Nat.reduceAdd]
  subst hI
  simp only [nrmA,nrmB,nrlB,reduceCtorEq,HO.abs.injEq,Gh.fm.injEq,Fm.mk.injEq]
  (repeat' (first|refine And.intro ?_ ?_|intro _))<;>first|omega|exact True.intro|exact False.elim ‹False›|skip
  all_goals first
    |omega
    |rfl
    |with_reducible assumption
    |(simp only [List.length_cons,List.length_nil];omega)
    |(unfold vz;simp only;omega)
    |(simp;done)
def XD (I:Alg) (args:List D) (hp:List HO):Option CT:=match args,hp with
  |[.v (.one (.ptr 0 0)),.v (.one (.p (.int .i64 c)))],[.abs (.fm ⟨m,hd,bs,p,none,fs,pa,sk,co,out⟩)]=>(fun(m:Str) (hd:Int) (bs:List Int) (p:Int) (fs:List Fld) (pa sk co:Int) (out:List Evt) (c:Int)=>(some (.one ⟨I.hid (vz ⟨m,hd,bs,p,none,fs,pa,sk,co,out⟩),(.ret (.tup [])),[.abs (.fm (I.hid ((xH ⟨m,hd,bs,p,none,fs,pa,sk,co,out⟩ c))))]⟩):Option CT)) m hd bs p fs pa sk co out c
  |_,_=>none
theorem zcR:zx Tryz.prog 255 (XD alg):=by
  intro args hp r h
  unfold XD at h
  split at h
  · cases h;exact fun hn=>zjS _ _ _ _ _ _ _ _ _ _ hn
  · cases h
def zlr:Know Tryz.prog:=⟨255,XD,zcR⟩
def zlq:Know Tryz.prog:=⟨255,fun I=>zy I (XD I),zf zcR⟩
theorem zq9 (m:Str) (hd:Int) (bs:List Int) (p:Int) (ln:Ln) (fs:List Fld) (pa sk co:Int) (out:List Evt) (c:Int) (hneed:vz ⟨m,hd,bs,p,some ln,fs,pa,sk,co,out⟩):Spc Tryz.prog 255 [.v (.one (.ptr 0 0)),.v (.one (.p (.int .i64 c)))] [.abs (.fm ⟨m,hd,bs,p,some ln,fs,pa,sk,co,out⟩)] (.ret (.tup [])) [.abs (.fm ((xH ⟨m,hd,bs,p,some ln,fs,pa,sk,co,out⟩ c)))]:=by
  unfold vz at hneed
  simp only at hneed
  refine spcG zh mixed Tryz.func255 (by kernel_rfl) { cfgF with keep:=some [0,1]} [uy,uw,tN,tK,zlr,zlq] (by kernel_rfl) ?_
  intro I X hI hX
  refine orcL ?_;go_invoke;refine orcS (by kernel_rfl) ?_
  simp only [zi,Nat.reduceAdd]
  subst hI
  simp only [nrmA,nrmB,nrlB,reduceCtorEq,HO.abs.injEq,Gh.fm.injEq,Fm.mk.injEq]
  (repeat' (first|refine And.intro ?_ ?_|intro _))<;>first|omega|exact True.intro|exact False.elim ‹False›|skip
  all_goals first
    |omega
    |rfl
    |with_reducible assumption
    |(simp only [List.length_cons,List.length_nil];omega)
    |(unfold vz;simp only;omega)
    |(simp;done)
theorem zui (f:Fm) (c:Int) (hneed:vz f):Spc Tryz.prog 255 [.v (.one (.ptr 0 0)),.v (.one (.p (.int .i64 c)))] [.abs (.fm f)] (.ret (.tup [])) [.abs (.fm ((xH f c)))]:=by
  obtain⟨m,hd,bs,p,ln,fs,pa,sk,co,out⟩:=f
  cases ln with
  |none=>exact zjS m hd bs p fs pa sk co out c hneed
  |some ln=>exact zq9 m hd bs p ln fs pa sk co out c hneed
def Uf (I:Alg) (args:List D) (hp:List HO):Option CT:=match args,hp with
  |[.v (.one (.ptr 0 0)),.v (.one (.p (.int .i64 c)))],[.abs (.fm f)]=>(fun(f:Fm) (c:Int)=>(some (.one ⟨I.hid (vz f),(.ret (.tup [])),[.abs (.fm (I.hid ((xH f c))))]⟩):Option CT)) f c
  |_,_=>none
theorem zgl:zx Tryz.prog 255 (Uf alg):=by
  intro args hp r h
  unfold Uf at h
  split at h
  · cases h;exact fun hn=>zui _ _ hn
  · cases h
def tX:Know Tryz.prog:=⟨255,Uf,zgl⟩
def tV:Know Tryz.prog:=⟨255,fun I=>zy I (Uf I),zf zgl⟩
theorem zcW (m:Str) (hd:Int) (bs:List Int) (p:Int) (fs:List Fld) (pa sk co:Int) (out:List Evt) (k:Int) (hneed:vz ⟨m,hd,bs,p,none,fs,pa,sk,co,out⟩∧0≤k∧k≤255):Spc Tryz.prog 254 [.v (.one (.ptr 0 0)),.v (.one (.p (.int .u8 k)))] [.abs (.fm ⟨m,hd,bs,p,none,fs,pa,sk,co,out⟩)] (.ret (.tup [])) [.abs (.fm ((wz ⟨m,hd,bs,p,none,fs,pa,sk,co,out⟩ (UInt8.ofNat k.toNat))))]:=by
  obtain⟨hneed,h0,h1⟩:=hneed
  have hc:=fun n=>u8k h0 h1 n
  have h45:(UInt8.ofNat k.toNat=45)=(k=45):=hc 45 (by decide)
  have h32:(UInt8.ofNat k.toNat=32)=(k=32):=hc 32 (by decide)
  have h9:(UInt8.ofNat k.toNat=9)=(k=9):=hc 9 (by decide)
  have h13:(UInt8.ofNat k.toNat=13)=(k=13):=hc 13 (by decide)
  clear hc
  generalize UInt8.ofNat k.toNat=c at *
  unfold vz at hneed
  simp only at hneed
  generalize hr:wz ⟨m,hd,bs,p,none,fs,pa,sk,co,out⟩ c=r
  unfold wz at hr
  simp only [h45,h32,h9,h13] at hr
  refine spcG zh mixed Tryz.func254 (by kernel_rfl) { cfgF with keep:=some [0,1,4]} [uy,uw,tN,tK,tX,tV] (by kernel_rfl) ?_
  intro I X hI hX
  refine orcL ?_;go_invoke;refine orcS (by kernel_rfl) ?_
  simp only [zi,Nat.reduceAdd]
  subst hI
  simp only [nrmA,nrmB,nrlB,reduceCtorEq,HO.abs.injEq,Gh.fm.injEq]
  (repeat' (first|refine And.intro ?_ ?_|intro _))<;>first|omega|exact True.intro|exact False.elim ‹False›|skip
  all_goals first
    |omega
    |(unfold vz;simp only;omega)
    |(subst hr;simp [*,xH,evE,hd0,prt0];done)
def qO (I:Alg) (args:List D) (hp:List HO):Option CT:=match args,hp with
  |[.v (.one (.ptr 0 0)),.v (.one (.p (.int .u8 k)))],[.abs (.fm ⟨m,hd,bs,p,none,fs,pa,sk,co,out⟩)]=>(fun(m:Str) (hd:Int) (bs:List Int) (p:Int) (fs:List Fld) (pa sk co:Int) (out:List Evt) (k:Int)=>(some (.one ⟨I.hid (vz ⟨m,hd,bs,p,none,fs,pa,sk,co,out⟩∧0≤k∧k≤255),(.ret (.tup [])),[.abs (.fm (I.hid ((wz ⟨m,hd,bs,p,none,fs,pa,sk,co,out⟩ (UInt8.ofNat k.toNat)))))]⟩):Option CT)) m hd bs p fs pa sk co out k
  |_,_=>none
theorem SK:zx Tryz.prog 254 (qO alg):=by
  intro args hp r h
  unfold qO at h
  split at h
  · cases h;exact fun hn=>zcW _ _ _ _ _ _ _ _ _ _ hn
  · cases h
def zgo:Know Tryz.prog:=⟨254,qO,SK⟩
def zgn:Know Tryz.prog:=⟨254,fun I=>zy I (qO I),zf SK⟩
theorem zls (m:Str) (hd:Int) (bs:List Int) (p:Int) (ln:Ln) (fs:List Fld) (pa sk co:Int) (out:List Evt) (k:Int) (hneed:vz ⟨m,hd,bs,p,some ln,fs,pa,sk,co,out⟩∧0≤k∧k≤255):Spc Tryz.prog 254 [.v (.one (.ptr 0 0)),.v (.one (.p (.int .u8 k)))] [.abs (.fm ⟨m,hd,bs,p,some ln,fs,pa,sk,co,out⟩)] (.ret (.tup [])) [.abs (.fm ((wz ⟨m,hd,bs,p,some ln,fs,pa,sk,co,out⟩ (UInt8.ofNat k.toNat))))]:=by
  obtain⟨hneed,h0,h1⟩:=hneed
  have hc:=fun n=>u8k h0 h1 n
  have h45:(UInt8.ofNat k.toNat=45)=(k=45):=hc 45 (by decide)
  have h32:(UInt8.ofNat k.toNat=32)=(k=32):=hc 32 (by decide)
  have h9:(UInt8.ofNat k.toNat=9)=(k=9):=hc 9 (by decide)
  have h13:(UInt8.ofNat k.toNat=13)=(k=13):=hc 13 (by decide)
  clear hc
  generalize UInt8.ofNat k.toNat=c at *
  unfold vz at hneed
  simp only at hneed
  generalize hr:wz ⟨m,hd,bs,p,some ln,fs,pa,sk,co,out⟩ c=r
  unfold wz at hr
  simp only [h45,h32,h9,h13] at hr
  refine spcG zh mixed Tryz.func254 (by kernel_rfl) { cfgF with keep:=some [0,1,4]} [uy,uw,tN,tK,tX,tV,zgo,zgn] (by kernel_rfl) ?_
  intro I X hI hX
  refine orcL ?_;go_invoke;refine orcS (by kernel_rfl) ?_
  simp only [zi,Nat.reduceAdd]
  subst hI
  simp only [nrmA,nrmB,nrlB,reduceCtorEq,HO.abs.injEq,Gh.fm.injEq]
  (repeat' (first|refine And.intro ?_ ?_|intro _))<;>first|omega|exact True.intro|exact False.elim ‹False›|skip
  all_goals first
    |omega
    |(unfold vz;simp only;omega)
    |(subst hr;simp [*,xH,evE,hd0,prt0];done)
theorem zoj (f:Fm) (k:Int) (hneed:vz f∧0≤k∧k≤255):Spc Tryz.prog 254 [.v (.one (.ptr 0 0)),.v (.one (.p (.int .u8 k)))] [.abs (.fm f)] (.ret (.tup [])) [.abs (.fm ((wz f (UInt8.ofNat k.toNat))))]:=by
  obtain⟨m,hd,bs,p,ln,fs,pa,sk,co,out⟩:=f
  cases ln with
  |none=>exact zcW m hd bs p fs pa sk co out k hneed
  |some ln=>exact zls m hd bs p ln fs pa sk co out k hneed
def ZU (I:Alg) (args:List D) (hp:List HO):Option CT:=match args,hp with
  |[.v (.one (.ptr 0 0)),.v (.one (.p (.int .u8 k)))],[.abs (.fm f)]=>(fun(f:Fm) (k:Int)=>(some (.one ⟨I.hid (vz f∧0≤k∧k≤255),(.ret (.tup [])),[.abs (.fm (I.hid ((wz f (UInt8.ofNat k.toNat)))))]⟩):Option CT)) f k
  |_,_=>none
theorem zbh:zx Tryz.prog 254 (ZU alg):=by
  intro args hp r h
  unfold ZU at h
  split at h
  · cases h;exact fun hn=>zoj _ _ hn
  · cases h
def zbg:Know Tryz.prog:=⟨254,ZU,zbh⟩
def zbf:Know Tryz.prog:=⟨254,fun I=>zy I (ZU I),zf zbh⟩
structure FmS (f:Fm):Prop where
  bs:f.bs=UG f.mark
  ml:f.mark.length≤1000000
  h0:0≤f.held
  h1:f.mark=[]∨f.held<f.mark.length
  s0:0≤f.skip∧f.skip≤2
theorem zgm (m:Str) (hd:Int) (bs:List Int) (p:Int) (fs:List Fld) (pa sk co:Int) (out:List Evt) (k:Int) (hneed:fm9 ⟨m,hd,bs,p,none,fs,pa,sk,co,out⟩∧FmS ⟨m,hd,bs,p,none,fs,pa,sk,co,out⟩∧0≤k∧k≤255):Spc Tryz.prog 253 [.v (.one (.ptr 0 0)),.v (.one (.p (.int .u8 k)))] [.abs (.fm ⟨m,hd,bs,p,none,fs,pa,sk,co,out⟩)] (.ret (.tup [])) [.abs (.fm ((vP ⟨m,hd,bs,p,none,fs,pa,sk,co,out⟩ (UInt8.ofNat k.toNat))))]:=by
  obtain⟨hneed,⟨hbs,hml,hh0,hh1,hs0⟩,h0,h1⟩:=hneed
  unfold fm9 at hneed
  simp only at hneed hbs hml hh0 hh1 hs0
  generalize hr:vP ⟨m,hd,bs,p,none,fs,pa,sk,co,out⟩ (UInt8.ofNat k.toNat)=r
  unfold vP sG fmSk at hr
  simp only [Int.min_def] at hr
  refine spcG zh mixed Tryz.func253 (by kernel_rfl) { cfgF with fz:=[265],keep:=some [0,1,4,5,6]} [Tv,Tt,uy,uw,tN,tK] (by kernel_rfl) ?_
  intro I X hI hX
  refine orcL ?_;go_invoke;refine orcS (by kernel_rfl) ?_
  simp only [zi,Nat.reduceAdd]
  generalize tY m hd.toNat (UInt8.ofNat k.toNat)=q at *
  obtain⟨o,n2,fd⟩:=q
  subst hI
  simp only [nrmA,nrmB,nrlB,reduceCtorEq,HO.abs.injEq,Gh.fm.injEq]
  simp only at hr
  have hn:0≤(if sk≤(o.length:Int) then sk else(o.length:Int))∧(if sk≤(o.length:Int) then sk else(o.length:Int))≤o.length∧(if sk≤(o.length:Int) then sk else(o.length:Int))≤sk:=by split<;>omega
  generalize(if sk≤(o.length:Int) then sk else(o.length:Int))=n at *
  rw [List.take_of_length_le (show(o.drop n.toNat).length≤o.length - n.toNat by rw [List.length_drop];exact Nat.le_refl _)]
  have hne:0<(o.length:Int) - n→¬ o.drop n.toNat=[]:=fun h k=>by have:=congrArg List.length k;rw [List.length_drop,List.length_nil] at this;omega
  have hnn: ¬ 0<(o.length:Int) - n→o.drop n.toNat=[]:=fun h=>List.drop_of_length_le (by omega)
  generalize o.drop n.toNat=D at *
  (repeat' (first|refine And.intro ?_ ?_|intro _))<;>first|omega|exact True.intro|exact False.elim ‹False›|skip
  all_goals first
    |omega
    |with_reducible assumption
    |(unfold vz;simp only [List.length_append,List.length_singleton];omega)
    |(have hne:=hne (by omega);clear hnn;subst hr;simp [*,evB,evO,hd0,prt0];done)
    |(have hnn:=hnn (by omega);clear hne;subst hr;simp [*,evB,evO,hd0,prt0];done)
    |(clear hne hnn;subst hr;simp [*,evB,evO,hd0,prt0];done)
def ZT (I:Alg) (args:List D) (hp:List HO):Option CT:=match args,hp with
  |[.v (.one (.ptr 0 0)),.v (.one (.p (.int .u8 k)))],[.abs (.fm ⟨m,hd,bs,p,none,fs,pa,sk,co,out⟩)]=>(fun(m:Str) (hd:Int) (bs:List Int) (p:Int) (fs:List Fld) (pa sk co:Int) (out:List Evt) (k:Int)=>(some (.one ⟨I.hid (fm9 ⟨m,hd,bs,p,none,fs,pa,sk,co,out⟩∧FmS ⟨m,hd,bs,p,none,fs,pa,sk,co,out⟩∧0≤k∧k≤255),(.ret (.tup [])),[.abs (.fm (I.hid ((vP ⟨m,hd,bs,p,none,fs,pa,sk,co,out⟩ (UInt8.ofNat k.toNat)))))]⟩):Option CT)) m hd bs p fs pa sk co out k
  |_,_=>none
theorem zbe:zx Tryz.prog 253 (ZT alg):=by
  intro args hp r h
  unfold ZT at h
  split at h
  · cases h;exact fun hn=>zgm _ _ _ _ _ _ _ _ _ _ hn
  · cases h
def zhC:Know Tryz.prog:=⟨253,ZT,zbe⟩
def zhB:Know Tryz.prog:=⟨253,fun I=>zy I (ZT I),zf zbe⟩
theorem zoh (m:Str) (hd:Int) (bs:List Int) (p:Int) (ln:Ln) (fs:List Fld) (pa sk co:Int) (out:List Evt) (k:Int) (hneed:fm9 ⟨m,hd,bs,p,some ln,fs,pa,sk,co,out⟩∧FmS ⟨m,hd,bs,p,some ln,fs,pa,sk,co,out⟩∧0≤k∧k≤255):Spc Tryz.prog 253 [.v (.one (.ptr 0 0)),.v (.one (.p (.int .u8 k)))] [.abs (.fm ⟨m,hd,bs,p,some ln,fs,pa,sk,co,out⟩)] (.ret (.tup [])) [.abs (.fm ((vP ⟨m,hd,bs,p,some ln,fs,pa,sk,co,out⟩ (UInt8.ofNat k.toNat))))]:=by
  obtain⟨hneed,⟨hbs,hml,hh0,hh1,hs0⟩,h0,h1⟩:=hneed
  unfold fm9 at hneed
  simp only at hneed hbs hml hh0 hh1 hs0
  generalize hr:vP ⟨m,hd,bs,p,some ln,fs,pa,sk,co,out⟩ (UInt8.ofNat k.toNat)=r
  unfold vP sG fmSk at hr
  simp only [Int.min_def] at hr
  refine spcG zh mixed Tryz.func253 (by kernel_rfl) { cfgF with fz:=[265],keep:=some [0,1,4,5,6]} [Tv,Tt,uy,uw,tN,tK,zhC,zhB] (by kernel_rfl) ?_
  intro I X hI hX
  refine orcL ?_;go_invoke;refine orcS (by kernel_rfl) ?_
  simp only [zi,Nat.reduceAdd]
  generalize tY m hd.toNat (UInt8.ofNat k.toNat)=q at *
  obtain⟨o,n2,fd⟩:=q
  subst hI
  simp only [nrmA,nrmB,nrlB,reduceCtorEq,HO.abs.injEq,Gh.fm.injEq]
  simp only at hr
  have hn:0≤(if sk≤(o.length:Int) then sk else(o.length:Int))∧(if sk≤(o.length:Int) then sk else(o.length:Int))≤o.length∧(if sk≤(o.length:Int) then sk else(o.length:Int))≤sk:=by split<;>omega
  generalize(if sk≤(o.length:Int) then sk else(o.length:Int))=n at *
  rw [List.take_of_length_le (show(o.drop n.toNat).length≤o.length - n.toNat by rw [List.length_drop];exact Nat.le_refl _)]
  have hne:0<(o.length:Int) - n→¬ o.drop n.toNat=[]:=fun h k=>by have:=congrArg List.length k;rw [List.length_drop,List.length_nil] at this;omega
  have hnn: ¬ 0<(o.length:Int) - n→o.drop n.toNat=[]:=fun h=>List.drop_of_length_le (by omega)
  generalize o.drop n.toNat=D at *
  (repeat' (first|refine And.intro ?_ ?_|intro _))<;>first|omega|exact True.intro|exact False.elim ‹False›|skip
  all_goals first
    |omega
    |with_reducible assumption
    |(unfold vz;simp only [List.length_append,List.length_singleton];omega)
    |(have hne:=hne (by omega);clear hnn;subst hr;simp [*,evB,evO,hd0,prt0];done)
    |(have hnn:=hnn (by omega);clear hne;subst hr;simp [*,evB,evO,hd0,prt0];done)
    |(clear hne hnn;subst hr;simp [*,evB,evO,hd0,prt0];done)
theorem zrd (f:Fm) (k:Int) (hneed:fm9 f∧FmS f∧0≤k∧k≤255):Spc Tryz.prog 253 [.v (.one (.ptr 0 0)),.v (.one (.p (.int .u8 k)))] [.abs (.fm f)] (.ret (.tup [])) [.abs (.fm ((vP f (UInt8.ofNat k.toNat))))]:=by
  obtain⟨m,hd,bs,p,ln,fs,pa,sk,co,out⟩:=f
  cases ln with
  |none=>exact zgm m hd bs p fs pa sk co out k hneed
  |some ln=>exact zoh m hd bs p ln fs pa sk co out k hneed
def XF (I:Alg) (args:List D) (hp:List HO):Option CT:=match args,hp with
  |[.v (.one (.ptr 0 0)),.v (.one (.p (.int .u8 k)))],[.abs (.fm f)]=>(fun(f:Fm) (k:Int)=>(some (.one ⟨I.hid (fm9 f∧FmS f∧0≤k∧k≤255),(.ret (.tup [])),[.abs (.fm (I.hid ((vP f (UInt8.ofNat k.toNat)))))]⟩):Option CT)) f k
  |_,_=>none
theorem zcV:zx Tryz.prog 253 (XF alg):=by
  intro args hp r h
  unfold XF at h
  split at h
  · cases h;exact fun hn=>zrd _ _ hn
  · cases h
def zcU:Know Tryz.prog:=⟨253,XF,zcV⟩
def zcT:Know Tryz.prog:=⟨253,fun I=>zy I (XF I),zf zcV⟩
end Go.Proofs.YtmkcejdibmilmaaGreatDoor
namespace Go.Proofs.YtmkcejdibmilmaaGreatDoor
open Go Go.Sep Go.Ab
set_option maxRecDepth 100000
theorem zrj (m:Str) (n:Nat) (c:UInt8):m=[]∨(tY m n c).2.1<m.length:=by
  unfold tY
  by_cases h:m=[]
  · exact .inl h
  · rw [if_neg h]
    have h0:0<m.length:=by cases m<;>simp_all
    unfold P.feed
    simp only
    repeat' split
    all_goals first|exact .inr h0|(right;assumption)
theorem Uh (m:Str) (n:Nat) (c:UInt8):m=[]∨(((tY m n c).2.1:Nat):Int)<m.length:=(zrj m n c).imp id fun h=>by omega
theorem zhb (l:List Fld):(rU l).1.bytes=[]:=by
  unfold rU zqx
  repeat' split
  all_goals rfl
def FdOk (f:List Fld):Prop:=f.length≤1000∧∀ x ∈ f,x.name.length≤1000000∧x.value.length≤1000000
structure FmB (f:Fm):Prop where
  few:f.out.length≤9000000
  sk:FmS f
  fd:FdOk f.fields
  p0:0≤f.parts∧f.parts≤12
theorem zol (m:Str) (hd:Int) (bs:List Int) (p:Int) (fs:List Fld) (pa sk co:Int) (out:List Evt) (hneed:FmB ⟨m,hd,bs,p,none,fs,pa,sk,co,out⟩):Spc Tryz.prog 266 [.v (.one (.ptr 0 0))] [.abs (.fm ⟨m,hd,bs,p,none,fs,pa,sk,co,out⟩)] (.ret (.tup [])) [.abs (.fm ((wQ ⟨m,hd,bs,p,none,fs,pa,sk,co,out⟩)))]:=by
  obtain⟨h9,⟨hbs,hml,hh0,hh1,hs0⟩,⟨hfl,hff⟩,hp0⟩:=hneed
  simp only at h9 hbs hml hh0 hh1 hs0 hfl hff hp0
  generalize hr:wQ ⟨m,hd,bs,p,none,fs,pa,sk,co,out⟩=r
  have hb:=zhb fs
  unfold wQ at hr
  simp only [xH,fmSk,evP,evF,Int.toNat_natCast] at hr
  refine spcG zh mixed Tryz.func266 (by kernel_rfl) { cfgF with keep:=some [0,2,3]} [Tv,Tt,zj3,zj2,uy,uw,tN,tK,tX,tV] (by kernel_rfl) ?_
  intro I X hI hX
  refine orcL ?_;go_invoke;refine orcS (by kernel_rfl) ?_
  simp only [zi,Nat.reduceAdd]
  have hl1:=Uh m hd.toNat 13
  generalize rU fs=P at *
  obtain⟨⟨a,b,c,d⟩,e⟩:=P
  simp only at hb hr
  subst hb
  subst hI
  simp only [nrmA,nrmB,nrlB,reduceCtorEq,HO.abs.injEq,Gh.fm.injEq]
  (repeat' (first|refine And.intro ?_ ?_|intro _))<;>first|omega|exact True.intro|exact False.elim ‹False›|skip
  all_goals first
    |omega
    |with_reducible assumption
    |exact(hff _ ‹_›).1
    |exact(hff _ ‹_›).2
    |(unfold vz;simp only [List.length_append,List.length_singleton];omega)
    |exact hl1
    |(subst hr;simp [*,evF,hd0,prt0,xH];done)
theorem zok (m:Str) (hd:Int) (bs:List Int) (p:Int) (ln:Ln) (fs:List Fld) (pa sk co:Int) (out:List Evt) (hneed:FmB ⟨m,hd,bs,p,some ln,fs,pa,sk,co,out⟩):Spc Tryz.prog 266 [.v (.one (.ptr 0 0))] [.abs (.fm ⟨m,hd,bs,p,some ln,fs,pa,sk,co,out⟩)] (.ret (.tup [])) [.abs (.fm ((wQ ⟨m,hd,bs,p,some ln,fs,pa,sk,co,out⟩)))]:=by
  obtain⟨h9,⟨hbs,hml,hh0,hh1,hs0⟩,⟨hfl,hff⟩,hp0⟩:=hneed
  simp only at h9 hbs hml hh0 hh1 hs0 hfl hff hp0
  generalize hr:wQ ⟨m,hd,bs,p,some ln,fs,pa,sk,co,out⟩=r
  have hb:=zhb fs
  unfold wQ at hr
  simp only [xH,fmSk,evP,evF,Int.toNat_natCast] at hr
  refine spcG zh mixed Tryz.func266 (by kernel_rfl) { cfgF with keep:=some [0,2,3]} [Tv,Tt,zj3,zj2,uy,uw,tN,tK,tX,tV] (by kernel_rfl) ?_
  intro I X hI hX
  refine orcL ?_;go_invoke;refine orcS (by kernel_rfl) ?_
  simp only [zi,Nat.reduceAdd]
  have hl1:=Uh m hd.toNat 13
  generalize rU fs=P at *
  obtain⟨⟨a,b,c,d⟩,e⟩:=P
  simp only at hb hr
  subst hb
  subst hI
  simp only [nrmA,nrmB,nrlB,reduceCtorEq,HO.abs.injEq,Gh.fm.injEq]
  (repeat' (first|refine And.intro ?_ ?_|intro _))<;>first|omega|exact True.intro|exact False.elim ‹False›|skip
  all_goals first
    |omega
    |with_reducible assumption
    |exact(hff _ ‹_›).1
    |exact(hff _ ‹_›).2
    |(unfold vz;simp only [List.length_append,List.length_singleton];omega)
    |exact hl1
    |(subst hr;simp [*,evF,hd0,prt0,xH];done)
theorem zre (f:Fm) (hneed:FmB f):Spc Tryz.prog 266 [.v (.one (.ptr 0 0))] [.abs (.fm f)] (.ret (.tup [])) [.abs (.fm ((wQ f)))]:=by
  obtain⟨m,hd,bs,p,ln,fs,pa,sk,co,out⟩:=f
  cases ln with
  |none=>exact zol m hd bs p fs pa sk co out hneed
  |some ln=>exact zok m hd bs p ln fs pa sk co out hneed
def XG (I:Alg) (args:List D) (hp:List HO):Option CT:=match args,hp with
  |[.v (.one (.ptr 0 0))],[.abs (.fm f)]=>(fun(f:Fm)=>(some (.one ⟨I.hid (FmB f),(.ret (.tup [])),[.abs (.fm (I.hid ((wQ f))))]⟩):Option CT)) f
  |_,_=>none
theorem zcZ:zx Tryz.prog 266 (XG alg):=by
  intro args hp r h
  unfold XG at h
  split at h
  · cases h;exact fun hn=>zre _ hn
  · cases h
def zcY:Know Tryz.prog:=⟨266,XG,zcZ⟩
def zcX:Know Tryz.prog:=⟨266,fun I=>zy I (XG I),zf zcZ⟩
theorem zq4 (m:Str) (hd:Int) (bs:List Int) (p:Int) (fs:List Fld) (pa sk co:Int) (out:List Evt) (s:Str) (hneed:FmB ⟨m,hd,bs,p,none,fs,pa,sk,co,out⟩∧s.length≤1000000):Spc Tryz.prog 256 [.v (.one (.ptr 0 0)),.v (.one (.p (.str s)))] [.abs (.fm ⟨m,hd,bs,p,none,fs,pa,sk,co,out⟩)] (.ret (.tup [])) [.abs (.fm ((uH ⟨m,hd,bs,p,none,fs,pa,sk,co,out⟩ s)))]:=by
  obtain⟨⟨h9,hS,⟨hfl,hff⟩,hp0⟩,hs⟩:=hneed
  simp only at h9 hfl hff hp0
  generalize hr:uH ⟨m,hd,bs,p,none,fs,pa,sk,co,out⟩ s=r
  unfold uH at hr
  simp only at hr
  refine spcG zh mixed Tryz.func256 (by kernel_rfl) { cfgF with keep:=some [0,1,4,5]} [Vp,Vo,tX,tV,zcY,zcX] (by kernel_rfl) ?_
  intro I X hI hX
  refine orcL ?_;go_invoke;refine orcS (by kernel_rfl) ?_
  simp only [zi,Nat.reduceAdd]
  generalize vS s=y at *
  obtain⟨⟨a,b⟩,e⟩:=y
  subst hI
  simp only [nrmA,nrmB,nrlB,reduceCtorEq,HO.abs.injEq,Gh.fm.injEq]
  (repeat' (first|refine And.intro ?_ ?_|intro _))<;>first|omega|exact True.intro|exact False.elim ‹False›|skip
  all_goals first
    |omega
    |with_reducible assumption
    |exact⟨h9,hS,⟨hfl,hff⟩,hp0⟩
    |(unfold vz;simp only;omega)
    |(simp only [List.length_singleton];omega)
    |(subst hr;simp [*,xH];done)
    |(subst hr;rw [if_pos ‹s=[]›];done)
    |(subst hr;rw [if_neg ‹¬ s=[]›,if_pos (by omega)];done)
    |(subst hr;rw [if_neg ‹¬ s=[]›,if_neg (by omega),if_pos ‹¬ e=0›];done)
    |(subst hr;rw [if_neg ‹¬ s=[]›,if_neg (by omega),if_neg (fun h=>h ‹e=0›)];done)
theorem zq3 (m:Str) (hd:Int) (bs:List Int) (p:Int) (ln:Ln) (fs:List Fld) (pa sk co:Int) (out:List Evt) (s:Str) (hneed:FmB ⟨m,hd,bs,p,some ln,fs,pa,sk,co,out⟩∧s.length≤1000000):Spc Tryz.prog 256 [.v (.one (.ptr 0 0)),.v (.one (.p (.str s)))] [.abs (.fm ⟨m,hd,bs,p,some ln,fs,pa,sk,co,out⟩)] (.ret (.tup [])) [.abs (.fm ((uH ⟨m,hd,bs,p,some ln,fs,pa,sk,co,out⟩ s)))]:=by
  obtain⟨⟨h9,hS,⟨hfl,hff⟩,hp0⟩,hs⟩:=hneed
  simp only at h9 hfl hff hp0
  generalize hr:uH ⟨m,hd,bs,p,some ln,fs,pa,sk,co,out⟩ s=r
  unfold uH at hr
  simp only at hr
  refine spcG zh mixed Tryz.func256 (by kernel_rfl) { cfgF with keep:=some [0,1,4,5]} [Vp,Vo,tX,tV,zcY,zcX] (by kernel_rfl) ?_
  intro I X hI hX
  refine orcL ?_;go_invoke;refine orcS (by kernel_rfl) ?_
  simp only [zi,Nat.reduceAdd]
  generalize vS s=y at *
  obtain⟨⟨a,b⟩,e⟩:=y
  subst hI
  simp only [nrmA,nrmB,nrlB,reduceCtorEq,HO.abs.injEq,Gh.fm.injEq]
  (repeat' (first|refine And.intro ?_ ?_|intro _))<;>first|omega|exact True.intro|exact False.elim ‹False›|skip
  all_goals first
    |omega
    |with_reducible assumption
    |exact⟨h9,hS,⟨hfl,hff⟩,hp0⟩
    |(unfold vz;simp only;omega)
    |(simp only [List.length_singleton];omega)
    |(subst hr;simp [*,xH];done)
    |(subst hr;rw [if_pos ‹s=[]›];done)
    |(subst hr;rw [if_neg ‹¬ s=[]›,if_pos (by omega)];done)
    |(subst hr;rw [if_neg ‹¬ s=[]›,if_neg (by omega),if_pos ‹¬ e=0›];done)
    |(subst hr;rw [if_neg ‹¬ s=[]›,if_neg (by omega),if_neg (fun h=>h ‹e=0›)];done)
theorem zug (f:Fm) (s:Str) (hneed:FmB f∧s.length≤1000000):Spc Tryz.prog 256 [.v (.one (.ptr 0 0)),.v (.one (.p (.str s)))] [.abs (.fm f)] (.ret (.tup [])) [.abs (.fm ((uH f s)))]:=by
  obtain⟨m,hd,bs,p,ln,fs,pa,sk,co,out⟩:=f
  cases ln with
  |none=>exact zq4 m hd bs p fs pa sk co out s hneed
  |some ln=>exact zq3 m hd bs p ln fs pa sk co out s hneed
def Ud (I:Alg) (args:List D) (hp:List HO):Option CT:=match args,hp with
  |[.v (.one (.ptr 0 0)),.v (.one (.p (.str s)))],[.abs (.fm f)]=>(fun(f:Fm) (s:Str)=>(some (.one ⟨I.hid (FmB f∧s.length≤1000000),(.ret (.tup [])),[.abs (.fm (I.hid ((uH f s))))]⟩):Option CT)) f s
  |_,_=>none
theorem zgi:zx Tryz.prog 256 (Ud alg):=by
  intro args hp r h
  unfold Ud at h
  split at h
  · cases h;exact fun hn=>zug _ _ hn
  · cases h
def zgh:Know Tryz.prog:=⟨256,Ud,zgi⟩
def zgg:Know Tryz.prog:=⟨256,fun I=>zy I (Ud I),zf zgi⟩
end Go.Proofs.YtmkcejdibmilmaaGreatDoor
namespace Go.Proofs.YtmkcejdibmilmaaGreatDoor
open Go Go.Sep Go.Ab
set_option maxRecDepth 100000
theorem zfc (s:Str):(vS s).1.name.length≤s.length∧(vS s).1.value.length≤s.length:=by
  have h:=zee s 58
  have ht:=zil (cutB s 58).2.1 [32,9]
  unfold vS
  repeat' split
  all_goals simp only [List.length_nil]
  all_goals omega
end Go.Proofs.YtmkcejdibmilmaaGreatDoor
namespace Go.Proofs.YtmkcejdibmilmaaGreatDoor
open Go Go.Sep Go.Ab
set_option maxRecDepth 100000
structure FmI (f:Fm) (i:Nat):Prop where
  bs:f.bs=UG f.mark
  ml:f.mark.length≤1000
  h0:0≤f.held
  h1:f.held<f.mark.length
  s0:0≤f.skip∧f.skip≤2
  p0:0≤f.parts∧f.parts≤12
  fl:f.fields.length≤16
  ff: ∀ x ∈ f.fields,x.name.length≤i∧x.value.length≤i
  lb: ∀ l,f.ln=some l→l.b.length≤i
  p5:f.pos=5→f.ln≠none
  on:f.out.length≤4 * i
theorem zcP {f:Fm} {i:Nat} (h:FmI f i) (c:UInt8):FmI (fmSk f c) i:=by
  have hl:=(Uh f.mark f.held.toNat c).resolve_left fun e=>by have h1:=h.h1;have h0:=h.h0;rw [e,List.length_nil] at h1;omega
  exact⟨h.bs,h.ml,Int.natCast_nonneg _,hl,h.s0,h.p0,h.fl,h.ff,h.lb,h.p5,h.on⟩
theorem zjR {f:Fm} {i j:Nat} (h:FmI f i) (k:i≤j):FmI f j:=by
  obtain⟨a,b,c,d,e,f1,g,h1,h2,h3,h4⟩:=h
  exact⟨a,b,c,d,e,f1,g,fun x m=>by have:=h1 x m;omega,fun l e=>by have:=h2 l e;omega,h3,by omega⟩
theorem YL {f:Fm} {i:Nat} (h:FmI f i) {p co sk pa:Int} {o:List Evt} (ho:o.length≤4 * i) (hp:p=5→f.ln≠none) (hs:0≤sk∧sk≤2) (hpa:0≤pa∧pa≤12):FmI { f with pos:=p,code:=co,out:=o,skip:=sk,parts:=pa} i:=
  ⟨h.bs,h.ml,h.h0,h.h1,hs,hpa,h.fl,h.ff,h.lb,hp,ho⟩
theorem ZR {f:Fm} {i:Nat} (h:FmI f i) (ho:f.out.length+1≤4 * i) (c:Int):FmI (xH f c) i:=
  YL h (by simp only [List.length_append,List.length_singleton];omega) (fun h=>absurd h (by decide)) h.s0 h.p0
theorem zlt {f:Fm} {i:Nat} (h:FmI f i) (ho:f.out.length+1≤4 * i) (c:UInt8):FmI (wz f c) i:=by
  unfold wz
  repeat' split
  · exact YL h h.on (fun h=>absurd h (by decide)) h.s0 h.p0
  · exact YL h (by simp only [List.length_append,List.length_singleton];omega) (fun h=>absurd h (by decide)) h.s0 h.p0
  · exact YL h h.on (fun h=>absurd h (by decide)) h.s0 h.p0
  · exact YL h h.on (fun h=>absurd h (by decide)) h.s0 h.p0
  · exact ZR h ho 5
theorem zoi {f:Fm} {i:Nat} (h:FmI f i) (ho:f.out.length+2≤4 * i) (c:UInt8):FmI (vP f c) i:=by
  have hs:=zcP h c
  have h2:=h.s0
  unfold vP
  split
  · refine YL (f:=fmSk f c) hs ?_ h.p5 ?_ h.p0
    · split
      · simp only [List.length_append,List.length_singleton];omega
      · exact h.on
    · rw [Int.min_def]
      split<;>omega
  · refine YL (f:=fmSk f c) hs ?_ (fun h=>absurd h (by decide)) (by decide) h.p0
    repeat' split
    all_goals first|exact h.on|(simp only [List.length_append,List.length_singleton,List.length_cons,List.length_nil];omega)
theorem zom {f:Fm} {i:Nat} (h:FmI f i) (ho:f.out.length+1≤4 * i):FmI (wQ f) i:=by
  have h2:=h.p0
  unfold wQ
  split
  · exact ZR h ho _
  · split
    · exact ZR h ho _
    · refine zcP (zcP ?_ _) _
      exact YL h (by simp only [List.length_append,List.length_singleton];omega) (fun h=>absurd h (by decide)) (by decide) (by omega)
theorem zq5 {f:Fm} {i:Nat} (h:FmI f i) (ho:f.out.length+1≤4 * i) {s:Str} (hs:s.length≤i):FmI (uH f s) i:=by
  unfold uH
  split
  · exact zom h ho
  · split
    · exact ZR h ho _
    · split
      · exact ZR h ho _
      · rename_i h16 _
        have hp:=zfc s
        refine⟨h.bs,h.ml,h.h0,h.h1,h.s0,h.p0,?_,fun x hx=> ?_,h.lb,h.p5,h.on⟩
        · have:=h.fl
          simp only [List.length_append,List.length_singleton];omega
        · rcases List.mem_append.1 hx with h5|h5
          · exact h.ff x h5
          · rw [List.mem_singleton.1 h5];omega
theorem zra {f:Fm} {i:Nat} (h:FmI f i) (c:UInt8):FmI (fmF f c) (i+1):=by
  have hm:=zjR h (show i≤i+1 by omega)
  have ho:f.out.length+2≤4 * (i+1):=by have:=h.on;omega
  unfold fmF
  split
  · exact zoi hm ho c
  · split
    · exact zlt hm (by omega) c
    · split
      · split
        · exact ZR hm (by omega) 2
        · exact⟨hm.bs,hm.ml,hm.h0,hm.h1,hm.s0,hm.p0,by simp,(fun x hx=>by cases hx),(fun l e=>by cases e;simp [ln0]),(fun _ e=>by cases e),hm.on⟩
      · split
        · have hb:=zqG (lnOf f) c
          have hl:=YC (lnOf f) c
          have hn:(lnOf f).b.length≤i:=by
            unfold lnOf
            cases e:f.ln with
            |none=>simp [ln0]
            |some l=>exact h.lb l e
          have hk:FmI { f with ln:=some (lnF (lnOf f) c).1} (i+1):=⟨hm.bs,hm.ml,hm.h0,hm.h1,hm.s0,hm.p0,hm.fl,hm.ff,(fun l e=>by cases e;omega),(fun _ e=>by cases e),hm.on⟩
          split
          · exact ZR hk (by simp only;omega) _
          · split
            · exact zq5 hk (by simp only;omega) (by omega)
            · exact hk
        · exact hm
theorem zqF (k:Int) (hneed:False):Spc Tryz.prog 85 [.v (.one (.p (.val (.pointer none)))),.v (.one (.p (.int .u8 k)))] [] (.ret (.tup [(.one (.p (.str ([])))),(.one (.p (.bool false))),(.one (.p (.int .i64 0)))])) []:=hneed.elim
def Xj (I:Alg) (args:List D) (hp:List HO):Option CT:=match args,hp with
  |[.v (.one (.p (.val (.pointer none)))),.v (.one (.p (.int .u8 k)))],[]=>(fun(k:Int)=>(some (.one ⟨I.hid (False),(.ret (.tup [(.one (.p (.str (I.hid ([]))))),(.one (.p (.bool false))),(.one (.p (.int .i64 0)))])),[]⟩):Option CT)) k
  |_,_=>none
theorem zcs:zx Tryz.prog 85 (Xj alg):=by
  intro args hp r h
  unfold Xj at h
  split at h
  · cases h;exact fun hn=>zqF _ hn
  · cases h
def zcr:Know Tryz.prog:=⟨85,Xj,zcs⟩
def zcq:Know Tryz.prog:=⟨85,fun I=>zy I (Xj I),zf zcs⟩
def fmN (f:Fm):Prop:=∃ i:Nat,i≤1000000∧FmI f i
theorem zuk (m:Str) (hd:Int) (bs:List Int) (p:Int) (fs:List Fld) (pa sk co:Int) (out:List Evt) (k:Int) (hneed:fmN ⟨m,hd,bs,p,none,fs,pa,sk,co,out⟩∧0≤k∧k≤255):Spc Tryz.prog 229 [.v (.one (.ptr 0 0)),.v (.one (.p (.int .u8 k)))] [.abs (.fm ⟨m,hd,bs,p,none,fs,pa,sk,co,out⟩)] (.ret (.tup [])) [.abs (.fm ((fmF ⟨m,hd,bs,p,none,fs,pa,sk,co,out⟩ (UInt8.ofNat k.toNat))))]:=by
  obtain⟨⟨i,hi,hI0⟩,hk0,hk1⟩:=hneed
  obtain⟨g1,g2,g3,g4,g5,g6,g7,g8,g9,g10,g11⟩:=hI0
  simp only at g1 g2 g3 g4 g5 g6 g7 g8 g9 g10 g11
  have g2:=Nat.le_trans g2 (show 1000≤1000000 by decide)
  have hfd:FdOk fs:=⟨by omega,fun x hx=>by have:=g8 x hx;omega⟩
  have h10:=u8k hk0 hk1 10 (by decide)
  have h10:(UInt8.ofNat k.toNat=10)=(k=10):=h10
  generalize hr:fmF ⟨m,hd,bs,p,none,fs,pa,sk,co,out⟩ (UInt8.ofNat k.toNat)=r
  unfold fmF lnOf at hr
  simp only [h10] at hr
  have hll:=trivial
  refine spcG zh mixed Tryz.func229 (by kernel_rfl) { cfgF with keep:=some [0,1,4,5,6,10,11,17]} [QB,QA,rX,rW,zcr,zcq,tX,tV,zbg,zbf,zcU,zcT,zgh,zgg] (by kernel_rfl) ?_
  intro I X hI hX
  refine orcL ?_;go_invoke;refine orcS (by kernel_rfl) ?_
  simp only [zi,Nat.reduceAdd]
  subst hI
  simp only [nrmA,nrmB,nrlB,reduceCtorEq,HO.abs.injEq,Gh.fm.injEq]
  (repeat' (first|refine And.intro ?_ ?_|intro _))<;>first|omega|exact True.intro|exact False.elim ‹False›|skip
  all_goals first
    |omega
    |with_reducible assumption
    |(refine⟨by simp only;omega,⟨g1,g2,g3,.inr g4,g5⟩,?_⟩;done)
    |exact⟨g1,g2,g3,.inr g4,g5⟩
    |exact⟨by simp only;omega,⟨g1,g2,g3,.inr g4,g5⟩,hfd,g6⟩
    |exact Nat.le_trans hll (by omega)
    |(unfold vz;simp only;omega)
    |(unfold fm9;simp only;omega)
    |(exact absurd rfl (g10 ‹_›))
    |(subst hr;simp [*,ln0];done)
theorem zuj (m:Str) (hd:Int) (bs:List Int) (p:Int) (ln:Ln) (fs:List Fld) (pa sk co:Int) (out:List Evt) (k:Int) (hneed:fmN ⟨m,hd,bs,p,some ln,fs,pa,sk,co,out⟩∧0≤k∧k≤255):Spc Tryz.prog 229 [.v (.one (.ptr 0 0)),.v (.one (.p (.int .u8 k)))] [.abs (.fm ⟨m,hd,bs,p,some ln,fs,pa,sk,co,out⟩)] (.ret (.tup [])) [.abs (.fm ((fmF ⟨m,hd,bs,p,some ln,fs,pa,sk,co,out⟩ (UInt8.ofNat k.toNat))))]:=by
  obtain⟨⟨i,hi,hI0⟩,hk0,hk1⟩:=hneed
  obtain⟨g1,g2,g3,g4,g5,g6,g7,g8,g9,g10,g11⟩:=hI0
  simp only at g1 g2 g3 g4 g5 g6 g7 g8 g9 g10 g11
  have g2:=Nat.le_trans g2 (show 1000≤1000000 by decide)
  have hfd:FdOk fs:=⟨by omega,fun x hx=>by have:=g8 x hx;omega⟩
  have h10:=u8k hk0 hk1 10 (by decide)
  have h10:(UInt8.ofNat k.toNat=10)=(k=10):=h10
  generalize hr:fmF ⟨m,hd,bs,p,some ln,fs,pa,sk,co,out⟩ (UInt8.ofNat k.toNat)=r
  unfold fmF lnOf at hr
  simp only [h10] at hr
  have hll:=YC ln (UInt8.ofNat k.toNat)
  have hlb:=g9 ln rfl
  refine spcG zh mixed Tryz.func229 (by kernel_rfl) { cfgF with keep:=some [0,1,4,5,6,10,11,17]} [QB,QA,rX,rW,zcr,zcq,tX,tV,zbg,zbf,zcU,zcT,zgh,zgg] (by kernel_rfl) ?_
  intro I X hI hX
  refine orcL ?_;go_invoke;refine orcS (by kernel_rfl) ?_
  simp only [zi,Nat.reduceAdd]
  subst hI
  simp only [nrmA,nrmB,nrlB,reduceCtorEq,HO.abs.injEq,Gh.fm.injEq]
  (repeat' (first|refine And.intro ?_ ?_|intro _))<;>first|omega|exact True.intro|exact False.elim ‹False›|skip
  all_goals first
    |omega
    |with_reducible assumption
    |(refine⟨by simp only;omega,⟨g1,g2,g3,.inr g4,g5⟩,?_⟩;done)
    |exact⟨g1,g2,g3,.inr g4,g5⟩
    |exact⟨by simp only;omega,⟨g1,g2,g3,.inr g4,g5⟩,hfd,g6⟩
    |exact Nat.le_trans hll (by omega)
    |(unfold vz;simp only;omega)
    |(unfold fm9;simp only;omega)
    |(exact absurd rfl (g10 ‹_›))
    |(subst hr;simp [*,ln0];done)
theorem zwa (f:Fm) (k:Int) (hneed:fmN f∧0≤k∧k≤255):Spc Tryz.prog 229 [.v (.one (.ptr 0 0)),.v (.one (.p (.int .u8 k)))] [.abs (.fm f)] (.ret (.tup [])) [.abs (.fm ((fmF f (UInt8.ofNat k.toNat))))]:=by
  obtain⟨m,hd,bs,p,ln,fs,pa,sk,co,out⟩:=f
  cases ln with
  |none=>exact zuk m hd bs p fs pa sk co out k hneed
  |some ln=>exact zuj m hd bs p ln fs pa sk co out k hneed
def QO (I:Alg) (args:List D) (hp:List HO):Option CT:=match args,hp with
  |[.v (.one (.ptr 0 0)),.v (.one (.p (.int .u8 k)))],[.abs (.fm f)]=>(fun(f:Fm) (k:Int)=>(some (.one ⟨I.hid (fmN f∧0≤k∧k≤255),(.ret (.tup [])),[.abs (.fm (I.hid ((fmF f (UInt8.ofNat k.toNat)))))]⟩):Option CT)) f k
  |_,_=>none
theorem zjT:zx Tryz.prog 229 (QO alg):=by
  intro args hp r h
  unfold QO at h
  split at h
  · cases h;exact fun hn=>zwa _ _ hn
  · cases h
def QN:Know Tryz.prog:=⟨229,QO,zjT⟩
def QM:Know Tryz.prog:=⟨229,fun I=>zy I (QO I),zf zjT⟩
end Go.Proofs.YtmkcejdibmilmaaGreatDoor
namespace Go.Proofs.YtmkcejdibmilmaaGreatDoor
open Go Go.Sep Go.Ab
set_option maxRecDepth 100000
def zI (l:List Evt):Nat:=(l.map fun e=>e.bytes.length).sum
theorem yB (a b:List Evt):zI (a++b)=zI a+zI b:=by simp [zI]
theorem xI (e:Evt):zI [e]=e.bytes.length:=by simp [zI]
theorem znO (o:List Evt) (e:Evt):zI (uV o e)≤zI o+e.bytes.length:=by
  rcases List.eq_nil_or_concat o with rfl|⟨z,x,rfl⟩
  · rw [YF,xI];omega
  · rw [List.concat_eq_append,xW]
    split
    · rw [yB,yB,xI,xI];simp only [evB,List.length_append];omega
    · rw [yB _ [e],xI e];exact Nat.le_refl _
theorem Xn (l:List Evt) (e:Evt):zZ (l++[e])=uV (zZ l) e:=by simp [zZ,List.foldl_append]
theorem zaV (l:List Evt):zI (zZ l)≤zI l:=by
  suffices ∀ l o:List Evt,zI (l.foldl uV o)≤zI o+zI l by have:=this l [];simpa [zZ,zI] using this
  intro l
  induction l with
  |nil=>intro o;simp [zI]
  | cons e r ih=>
    intro o
    have h1:=ih (uV o e)
    have h2:=znO o e
    have h3:zI (e::r)=e.bytes.length+zI r:=by simp [zI]
    rw [List.foldl_cons];omega
theorem znP (o:List Evt) (e:Evt):(uV o e).length≤o.length+1:=by
  rcases List.eq_nil_or_concat o with rfl|⟨z,x,rfl⟩
  · simp [YF]
  · rw [List.concat_eq_append,xW]
    split<;>simp
theorem zly (l:List Evt) (i:Nat):zI (l.take i)≤zI l:=by
  have:=yB (l.take i) (l.drop i)
  rw [List.take_append_drop] at this
  omega
theorem Ul {l:List Evt} {e:Evt} (h:e ∈ l):e.bytes.length≤zI l:=by
  obtain⟨a,b,rfl⟩:=List.append_of_mem h
  have:=yB a (e::b)
  have h3:zI (e::b)=e.bytes.length+zI b:=by simp [zI]
  omega
theorem zaW (l:List Evt):(zZ l).length≤l.length:=by
  suffices ∀ l o:List Evt,(l.foldl uV o).length≤o.length+l.length by have:=this l [];simpa [zZ] using this
  intro l
  induction l with
  |nil=>intro o;simp
  | cons e r ih=>
    intro o
    have h1:=ih (uV o e)
    have h2:=znP o e
    rw [List.foldl_cons,List.length_cons];omega
theorem zsY (l:List Evt) (hneed:zI l≤1000000∧l.length≤10000000):Spc Tryz.prog 47 [.v (.one (.row 0))] [.row .evt 53 l] (.ret (.v (.one (.row 1)))) [.row .evt 53 l,.row .evt 53 ((zZ l))]:=by
  obtain⟨hn1,hn2⟩:=hneed
  refine spcG zh mixed Tryz.func47 (by kernel_rfl) { nr:=[3],keep:=some [0,2,3,5,6,7,8,9,10]} [] (by kernel_rfl) ?_
  intro I X hI hX
  refine orcL ?_;go_invoke;refine orcS (by kernel_rfl) ?_
  simp only [zi,Nat.reduceAdd]
  refine zC hI zh mixed [] hX [0,3,8,9,10] (fun(g:Nat × List Evt)=>match g with|(i,o)=>i≤l.length∧o=zZ (l.take i)) (fun(g:Nat × List Evt)=>match g with|(i,o)=>⟨[(0,.v (.one (.row 0))),(3,.v (.one (.row 1))),(8,.v (.one (.row 0))),(9,.v (.one (.p (.int .i64 ((I.len (α:=Evt) l)))))),(10,.v (.one (.p (.int .i64 i))))],[.row .evt 53 l,.row .evt 53 o],52,none⟩) (fun(g:Nat × List Evt)=>match g with|(i,o)=>l.length - i) (0,[]) (by kernel_rfl) (by kernel_rfl) ?_ ?_
  · exact⟨Nat.zero_le _,rfl⟩
  rintro⟨i,o⟩ ⟨h1,h2⟩ A hA
  simp only at hA h1 h2
  refine orcL ?_;go_invoke;refine orcS (by kernel_rfl) ?_
  simp only [zi,Nat.reduceAdd]
  subst hI
  simp only [nrmA,nrmB,nrlB,reduceCtorEq]
  have hl1:=zaW (l.take i)
  have hl2:(l.take i).length≤i:=by rw [List.length_take];omega
  have hl3:=zaV (l.take i)
  have hl4: ∀ x ∈ zZ (l.take i),x.bytes.length≤1000000:=fun x h=>by
    have a:=Ul h
    have b:=zly l i
    omega
  have hw: ¬ i<l.length→o=zZ l:=fun h=>by rw [h2,List.take_of_length_le (by omega)]
  have hy:i<l.length→zZ (l.take (i+1))=uV o (l.getD i ⟨0,⟨[],[],0,[],0⟩,[],⟨[],[],[],[]⟩,0⟩):=fun h=>by rw [List.take_succ_eq_append_getElem h,Xn,h2];simp [h]
  have hl5:i<l.length→(l.getD i ⟨0,⟨[],[],0,[],0⟩,[],⟨[],[],[],[]⟩,0⟩).bytes.length≤1000000:=fun h=>by
    have:l.getD i ⟨0,⟨[],[],0,[],0⟩,[],⟨[],[],[],[]⟩,0⟩ ∈ l:=by simp [h]
    have:=Ul this
    omega
  rw [← h2] at hl1 hl4
  refine⟨fun c=> ?_,fun c=>hw (by omega)⟩
  have hlt:i<l.length:=by omega
  have hy:=hy hlt
  have hl5:=hl5 hlt
  generalize l.getD i ⟨0,⟨[],[],0,[],0⟩,[],⟨[],[],[],[]⟩,0⟩=e at *
  have hgo: ∀ r:List Evt,r=uV o e→(fun p:Nat × List Evt=>p.1≤l.length∧p.2=zZ (l.take p.1)) (i+1,r):=fun r h=>⟨by simp only;omega,by simp only;rw [hy,h]⟩
  rcases List.eq_nil_or_concat o with he|⟨z,x,he⟩
  · subst he
    rw [YF] at hgo
    simp only [List.length_cons,List.length_nil]
    (repeat' (first|refine And.intro ?_ ?_|intro _))<;>first|omega|exact True.intro|exact False.elim ‹False›|skip
    all_goals first
      |omega
      |exact hA (i+1,_) (hgo _ rfl) (by simp only;omega)
  · rw [List.concat_eq_append] at he
    subst he
    have hx:=hl4 x (List.mem_append_right _ (List.mem_singleton.2 rfl))
    have hz:(((z++[x]).length:Int) - 1).toNat=z.length:=by rw [List.length_append,List.length_singleton];omega
    have hg: ∀ d,(z++[x]).getD z.length d=x:=fun d=>by simp
    have hs: ∀ d,(z++[x]).set z.length d=z++[d]:=fun d=>by simp
    rw [xW] at hgo
    rw [List.length_append,List.length_singleton] at hl1
    simp only [hz,hg,hs]
    simp only [List.length_append,List.length_cons,List.length_nil]
    clear hz hg hs
    (repeat' (first|refine And.intro ?_ ?_|intro _))<;>first|omega|exact True.intro|exact False.elim ‹False›|skip
    all_goals first
      |omega
      |(rw [if_pos ⟨‹e.kind=2›,‹x.kind=2›⟩] at hgo;exact hA (i+1,_) (hgo _ rfl) (by simp only;omega))
      |(rw [if_neg (fun h=>‹¬ e.kind=2› h.1)] at hgo;exact hA (i+1,_) (hgo _ rfl) (by simp only;omega))
      |(rw [if_neg (fun h=>‹¬ x.kind=2› h.2)] at hgo;exact hA (i+1,_) (hgo _ rfl) (by simp only;omega))
def WX (I:Alg) (args:List D) (hp:List HO):Option CT:=match args,hp with
  |[.v (.one (.row 0))],[.row .evt 53 l]=>(fun(l:List Evt)=>(some (.one ⟨I.hid (zI l≤1000000∧l.length≤10000000),(.ret (.v (.one (.row 1)))),[.row .evt 53 l,.row .evt 53 (I.hid ((zZ l)))]⟩):Option CT)) l
  |_,_=>none
theorem zeY:zx Tryz.prog 47 (WX alg):=by
  intro args hp r h
  unfold WX at h
  split at h
  · cases h;exact fun hn=>zsY _ hn
  · cases h
def wE:Know Tryz.prog:=⟨47,WX,zeY⟩
def wC:Know Tryz.prog:=⟨47,fun I=>zy I (WX I),zf zeY⟩
end Go.Proofs.YtmkcejdibmilmaaGreatDoor
namespace Go.Proofs.YtmkcejdibmilmaaGreatDoor
open Go Go.Sep Go.Ab
set_option maxRecDepth 100000
theorem zgt {m:Str} {n:Nat} (h:m=[]∨n<m.length) (c:UInt8):(tY m n c).1.length+(tY m n c).2.1≤n+1:=by
  unfold tY
  by_cases h0:m=[]
  · rw [if_pos h0];simp only [List.length_singleton];omega
  · rw [if_neg h0]
    have hn:n<m.length:=h.resolve_left h0
    have hf:=(P.zhG m c P.take_len n n (Nat.le_refl _) (by omega)).le
    unfold P.feed
    simp only
    repeat' split
    all_goals simp only [List.length_append,List.length_singleton,List.length_take]
    all_goals omega
theorem zsd (f:Fm) {i:Nat} (h:FmI f i) (c:UInt8):(fmSk f c).held.toNat≤f.held.toNat+1:=by
  have:=zgt (m:=f.mark) (n:=f.held.toNat) (.inr (by have:=h.h0;have:=h.h1;omega)) c
  show(((tY f.mark f.held.toNat c).2.1:Nat):Int).toNat≤_
  rw [Int.toNat_natCast];omega
theorem qp (o:List Evt) (e:Evt) (h:e.bytes=[]):zI (o++[e])=zI o:=by
  rw [yB,xI,h];rfl
theorem zhD {f:Fm} {i:Nat} (h:FmI f i):zI (wQ f).out+(wQ f).held.toNat≤zI f.out+f.held.toNat+2:=by
  have h2:=h.p0
  unfold wQ
  split
  · show zI (f.out++[evF _])+_≤_
    rw [qp _ _ rfl];simp only [xH];omega
  · split
    · show zI (f.out++[evF _])+_≤_
      rw [qp _ _ rfl];simp only [xH];omega
    · have hI:FmI { f with parts:=f.parts+1,pos:=6,out:=[],skip:=2} i:=⟨h.bs,h.ml,h.h0,h.h1,(show(0:Int)≤2∧(2:Int)≤2 by decide),by simp only;omega,h.fl,h.ff,h.lb,(fun e=>absurd (show(6:Int)=5 from e) (by decide)),Nat.zero_le _⟩
      have a:=zsd _ hI 13
      have b:=zsd _ (zcP hI 13) 10
      show zI (f.out++[evP _])+(fmSk (fmSk { f with parts:=f.parts+1,pos:=6,out:=[],skip:=2} 13) 10).held.toNat≤_
      rw [qp _ _ rfl]
      simp only at a
      omega
theorem zln {f:Fm} {i:Nat} (h:FmI f i) (s:Str):zI (uH f s).out+(uH f s).held.toNat≤zI f.out+f.held.toNat+2:=by
  unfold uH
  split
  · exact zhD h
  · split
    · show zI (f.out++[evF _])+_≤_
      rw [qp _ _ rfl];simp only [xH];omega
    · split
      · show zI (f.out++[evF _])+_≤_
        rw [qp _ _ rfl];simp only [xH];omega
      · simp only;omega
theorem zhA {f:Fm} {i:Nat} (h:FmI f i) (c:UInt8):zI (fmF f c).out+(fmF f c).held.toNat≤zI f.out+f.held.toNat+2:=by
  have hfail: ∀ (f:Fm) (c:Int),zI (xH f c).out=zI f.out∧(xH f c).held=f.held:=fun f c=>⟨qp _ _ rfl,rfl⟩
  unfold fmF
  split
  · have hp:=zgt (m:=f.mark) (n:=f.held.toNat) (.inr (by have:=h.h0;have:=h.h1;omega)) c
    have hd:(sG f c).length≤(tY f.mark f.held.toNat c).1.length:=by unfold sG;rw [List.length_drop];omega
    have e0:(fmSk f c).held.toNat=(tY f.mark f.held.toNat c).2.1:=Int.toNat_natCast _
    unfold vP
    split
    · show zI (if f.pos=6∧sG f c≠[] then f.out++[evB (sG f c)] else f.out)+(fmSk f c).held.toNat≤_
      rw [e0]
      split
      · rw [yB,xI];simp only [evB];omega
      · omega
    · show zI (if f.pos=6 then(if sG f c≠[] then f.out++[evB (sG f c),evO] else f.out++[evO]) else f.out)+(fmSk f c).held.toNat≤_
      rw [e0]
      have e1:zI [evB (sG f c),evO]=(sG f c).length:=by simp [zI,evB,evO]
      have e2:zI [evO]=0:=rfl
      split
      · split
        · rw [yB,e1];omega
        · rw [yB,e2];omega
      · omega
  · split
    · unfold wz
      repeat' split
      all_goals first
        |(simp only;omega)
        |(rw [(hfail _ _).1,(hfail _ _).2];omega)
        |(show zI (f.out++[evE])+_≤_;rw [qp _ _ rfl];simp only;omega)
    · split
      · split
        · rw [(hfail _ _).1,(hfail _ _).2];omega
        · simp only;omega
      · split
        · split
          · rw [(hfail _ _).1,(hfail _ _).2];simp only;omega
          · split
            · have hn:(lnOf f).b.length≤i:=by
                unfold lnOf
                cases e:f.ln with
                |none=>simp [ln0]
                |some l=>exact h.lb l e
              have hb:=zqG (lnOf f) c
              have hm:=zjR h (show i≤i+1 by omega)
              exact zln (i:=i+1) (f:= { f with ln:=some (lnF (lnOf f) c).1}) ⟨hm.bs,hm.ml,hm.h0,hm.h1,hm.s0,hm.p0,hm.fl,hm.ff,(fun l e=>by cases e;omega),(fun _ e=>by cases e),hm.on⟩ _
            · simp only;omega
        · omega
theorem zoc (f:Fm) (b:Str) {i:Nat} (h:i<b.length):V8 f (b.take (i+1))=fmF (V8 f (b.take i)) (b.getD i 0):=by
  rw [show b.getD i 0=b[i] by simp [h],List.take_succ_eq_append_getElem h]
  unfold V8
  rw [List.foldl_append]
  rfl
theorem zhz: ∀ (b:Str) (f:Fm) (i:Nat),FmI f i→FmI (V8 f b) (i+b.length)
  |[],f,i,h=>h
  | c::r,f,i,h=>by
    have:=zhz r (fmF f c) (i+1) (zra h c)
    rw [List.length_cons,show i+(r.length+1)=i+1+r.length by omega]
    exact this
def fmN0 (f:Fm) (b:Str):Prop:=∃ n,FmI { f with out:=[]} n∧n+b.length≤400000
theorem zq7 (m:Str) (hd:Int) (bs:List Int) (p:Int) (fs:List Fld) (pa sk co:Int) (out:List Evt) (b:Str) (hneed:fmN0 ⟨m,hd,bs,p,none,fs,pa,sk,co,out⟩ b):Spc Tryz.prog 192 [.v (.one (.ptr 0 0)),.v (.one (.p (.list .byte b)))] [.abs (.fm ⟨m,hd,bs,p,none,fs,pa,sk,co,out⟩)] (.ret (.v (.one (.row 1)))) [.abs (.fm ((yY ⟨m,hd,bs,p,none,fs,pa,sk,co,out⟩ b))),.row .evt 53 ((zZ (yY ⟨m,hd,bs,p,none,fs,pa,sk,co,out⟩ b).out))]:=by
  obtain⟨n,hI0,hnb⟩:=hneed
  have hml:=hI0.ml
  have hh1:=hI0.h1
  have hh0:=hI0.h0
  simp only at hml hh1 hh0
  have hh:hd.toNat≤1000:=by
    omega
  refine spcG zh mixed Tryz.func192 (by kernel_rfl) { cfgF with keep:=some [0,1,4,6,10,11,12]} [QN,QM,wE,wC] (by kernel_rfl) ?_
  intro I X hI hX
  refine orcL ?_;go_invoke;refine orcS (by kernel_rfl) ?_
  simp only [zi,Nat.reduceAdd]
  unfold yY
  simp only at hI0 ⊢
  refine zC hI zh mixed [QN,QM,wE,wC] hX [0,10,11,12] (fun(g:Nat × Fm)=>match g with|(i,r)=>i≤b.length∧r=V8 (⟨m,hd,bs,p,none,fs,pa,sk,co,[]⟩:Fm) (b.take i)∧FmI r (n+i)∧zI r.out+r.held.toNat≤hd.toNat+2 * i) (fun(g:Nat × Fm)=>match g with|(i,r)=>⟨[(0,.v (.one (.ptr 0 0))),(10,.v (.one (.p (.list .byte b)))),(11,.v (.one (.p (.int .i64 ((I.len (α:=UInt8) b)))))),(12,.v (.one (.p (.int .i64 i))))],[.abs (.fm r)],25,none⟩) (fun(g:Nat × Fm)=>match g with|(i,r)=>b.length - i) (0,(⟨m,hd,bs,p,none,fs,pa,sk,co,[]⟩:Fm)) (by kernel_rfl) (by kernel_rfl) ?_ ?_
  · exact⟨Nat.zero_le _,rfl,hI0,by simp [zI]⟩
  rintro⟨i,⟨m2,hd2,bs2,p2,ln2,fs2,pa2,sk2,co2,out2⟩⟩ ⟨h1,h2,h3,h4⟩ A hA
  simp only at hA h1 h2 h3 h4
  have hrn:i<b.length→fmN _:=fun h=>⟨n+i,by omega,h3⟩
  have hgo:i<b.length→_:=fun h=>hA (i+1,fmF ⟨m2,hd2,bs2,p2,ln2,fs2,pa2,sk2,co2,out2⟩ (b.getD i 0)) ⟨by simp only;omega,by simp only;rw [zoc _ _ h,← h2],by simp only;exact zra h3 _,by simp only;have:=zhA h3 (b.getD i 0);simp only at this;omega⟩ (by simp only;omega)
  have hend: ¬ i<b.length→_:=fun h=>h2.trans (by rw [List.take_of_length_le (by omega)])
  rcases ln2 with _|l2
  · have h0:=h1
    refine orcL ?_;go_invoke;refine orcS (by kernel_rfl) ?_
    simp only [zi,Nat.reduceAdd]
    subst hI
    simp only [nrmA,nrmB,nrlB,reduceCtorEq,HO.abs.injEq,Gh.fm.injEq]
    by_cases hi:i<b.length
    · have hg:=hgo hi
      have hn:=hrn hi
      (repeat' (first|refine And.intro ?_ ?_|intro _))<;>first|omega|exact True.intro|exact False.elim ‹False›|skip
      all_goals first|omega|exact hg|exact hn|contradiction|(have:=(b.getD i 0).toNat_lt;omega)|trace_state
    · have hg:=hend hi
      rw [← hg]
      have hon:=h3.on
      simp only at hon
      (repeat' (first|refine And.intro ?_ ?_|intro _))<;>first|omega|exact True.intro|exact False.elim ‹False›|skip
      all_goals first|omega|rfl|contradiction|exact⟨by omega,by omega⟩|trace_state
  · have h0:=h1
    refine orcL ?_;go_invoke;refine orcS (by kernel_rfl) ?_
    simp only [zi,Nat.reduceAdd]
    subst hI
    simp only [nrmA,nrmB,nrlB,reduceCtorEq,HO.abs.injEq,Gh.fm.injEq]
    by_cases hi:i<b.length
    · have hg:=hgo hi
      have hn:=hrn hi
      (repeat' (first|refine And.intro ?_ ?_|intro _))<;>first|omega|exact True.intro|exact False.elim ‹False›|skip
      all_goals first|omega|exact hg|exact hn|contradiction|(have:=(b.getD i 0).toNat_lt;omega)|trace_state
    · have hg:=hend hi
      rw [← hg]
      have hon:=h3.on
      simp only at hon
      (repeat' (first|refine And.intro ?_ ?_|intro _))<;>first|omega|exact True.intro|exact False.elim ‹False›|skip
      all_goals first|omega|rfl|contradiction|exact⟨by omega,by omega⟩|trace_state
theorem zq6 (m:Str) (hd:Int) (bs:List Int) (p:Int) (ln:Ln) (fs:List Fld) (pa sk co:Int) (out:List Evt) (b:Str) (hneed:fmN0 ⟨m,hd,bs,p,some ln,fs,pa,sk,co,out⟩ b):Spc Tryz.prog 192 [.v (.one (.ptr 0 0)),.v (.one (.p (.list .byte b)))] [.abs (.fm ⟨m,hd,bs,p,some ln,fs,pa,sk,co,out⟩)] (.ret (.v (.one (.row 1)))) [.abs (.fm ((yY ⟨m,hd,bs,p,some ln,fs,pa,sk,co,out⟩ b))),.row .evt 53 ((zZ (yY ⟨m,hd,bs,p,some ln,fs,pa,sk,co,out⟩ b).out))]:=by
  obtain⟨n,hI0,hnb⟩:=hneed
  have hml:=hI0.ml
  have hh1:=hI0.h1
  have hh0:=hI0.h0
  simp only at hml hh1 hh0
  have hh:hd.toNat≤1000:=by
    omega
  refine spcG zh mixed Tryz.func192 (by kernel_rfl) { cfgF with keep:=some [0,1,4,6,10,11,12]} [QN,QM,wE,wC] (by kernel_rfl) ?_
  intro I X hI hX
  refine orcL ?_;go_invoke;refine orcS (by kernel_rfl) ?_
  simp only [zi,Nat.reduceAdd]
  unfold yY
  simp only at hI0 ⊢
  refine zC hI zh mixed [QN,QM,wE,wC] hX [0,10,11,12] (fun(g:Nat × Fm)=>match g with|(i,r)=>i≤b.length∧r=V8 (⟨m,hd,bs,p,some ln,fs,pa,sk,co,[]⟩:Fm) (b.take i)∧FmI r (n+i)∧zI r.out+r.held.toNat≤hd.toNat+2 * i) (fun(g:Nat × Fm)=>match g with|(i,r)=>⟨[(0,.v (.one (.ptr 0 0))),(10,.v (.one (.p (.list .byte b)))),(11,.v (.one (.p (.int .i64 ((I.len (α:=UInt8) b)))))),(12,.v (.one (.p (.int .i64 i))))],[.abs (.fm r)],25,none⟩) (fun(g:Nat × Fm)=>match g with|(i,r)=>b.length - i) (0,(⟨m,hd,bs,p,some ln,fs,pa,sk,co,[]⟩:Fm)) (by kernel_rfl) (by kernel_rfl) ?_ ?_
  · exact⟨Nat.zero_le _,rfl,hI0,by simp [zI]⟩
  rintro⟨i,⟨m2,hd2,bs2,p2,ln2,fs2,pa2,sk2,co2,out2⟩⟩ ⟨h1,h2,h3,h4⟩ A hA
  simp only at hA h1 h2 h3 h4
  have hrn:i<b.length→fmN _:=fun h=>⟨n+i,by omega,h3⟩
  have hgo:i<b.length→_:=fun h=>hA (i+1,fmF ⟨m2,hd2,bs2,p2,ln2,fs2,pa2,sk2,co2,out2⟩ (b.getD i 0)) ⟨by simp only;omega,by simp only;rw [zoc _ _ h,← h2],by simp only;exact zra h3 _,by simp only;have:=zhA h3 (b.getD i 0);simp only at this;omega⟩ (by simp only;omega)
  have hend: ¬ i<b.length→_:=fun h=>h2.trans (by rw [List.take_of_length_le (by omega)])
  rcases ln2 with _|l2
  · have h0:=h1
    refine orcL ?_;go_invoke;refine orcS (by kernel_rfl) ?_
    simp only [zi,Nat.reduceAdd]
    subst hI
    simp only [nrmA,nrmB,nrlB,reduceCtorEq,HO.abs.injEq,Gh.fm.injEq]
    by_cases hi:i<b.length
    · have hg:=hgo hi
      have hn:=hrn hi
      (repeat' (first|refine And.intro ?_ ?_|intro _))<;>first|omega|exact True.intro|exact False.elim ‹False›|skip
      all_goals first|omega|exact hg|exact hn|contradiction|(have:=(b.getD i 0).toNat_lt;omega)|trace_state
    · have hg:=hend hi
      rw [← hg]
      have hon:=h3.on
      simp only at hon
      (repeat' (first|refine And.intro ?_ ?_|intro _))<;>first|omega|exact True.intro|exact False.elim ‹False›|skip
      all_goals first|omega|rfl|contradiction|exact⟨by omega,by omega⟩|trace_state
  · have h0:=h1
    refine orcL ?_;go_invoke;refine orcS (by kernel_rfl) ?_
    simp only [zi,Nat.reduceAdd]
    subst hI
    simp only [nrmA,nrmB,nrlB,reduceCtorEq,HO.abs.injEq,Gh.fm.injEq]
    by_cases hi:i<b.length
    · have hg:=hgo hi
      have hn:=hrn hi
      (repeat' (first|refine And.intro ?_ ?_|intro _))<;>first|omega|exact True.intro|exact False.elim ‹False›|skip
      all_goals first|omega|exact hg|exact hn|contradiction|(have:=(b.getD i 0).toNat_lt;omega)|trace_state
    · have hg:=hend hi
      rw [← hg]
      have hon:=h3.on
      simp only at hon
      (repeat' (first|refine And.intro ?_ ?_|intro _))<;>first|omega|exact True.intro|exact False.elim ‹False›|skip
      all_goals first|omega|rfl|contradiction|exact⟨by omega,by omega⟩|trace_state
theorem zuh (f:Fm) (b:Str) (hneed:fmN0 f b):Spc Tryz.prog 192 [.v (.one (.ptr 0 0)),.v (.one (.p (.list .byte b)))] [.abs (.fm f)] (.ret (.v (.one (.row 1)))) [.abs (.fm ((yY f b))),.row .evt 53 ((zZ (yY f b).out))]:=by
  obtain⟨m,hd,bs,p,ln,fs,pa,sk,co,out⟩:=f
  cases ln with
  |none=>exact zq7 m hd bs p fs pa sk co out b hneed
  |some ln=>exact zq6 m hd bs p ln fs pa sk co out b hneed
def Ue (I:Alg) (args:List D) (hp:List HO):Option CT:=match args,hp with
  |[.v (.one (.ptr 0 0)),.v (.one (.p (.list .byte b)))],[.abs (.fm f)]=>(fun(f:Fm) (b:Str)=>(some (.one ⟨I.hid (fmN0 f b),(.ret (.v (.one (.row 1)))),[.abs (.fm (I.hid ((yY f b)))),.row .evt 53 (I.hid ((zZ (yY f b).out)))]⟩):Option CT)) f b
  |_,_=>none
theorem zgk:zx Tryz.prog 192 (Ue alg):=by
  intro args hp r h
  unfold Ue at h
  split at h
  · cases h;exact fun hn=>zuh _ _ hn
  · cases h
def zbd:Know Tryz.prog:=⟨192,Ue,zgk⟩
def zbc:Know Tryz.prog:=⟨192,fun I=>zy I (Ue I),zf zgk⟩
theorem zog (m:Str) (hd:Int) (bs:List Int) (p:Int) (fs:List Fld) (pa sk co:Int) (out:List Evt):Spc Tryz.prog 193 [.v (.one (.ptr 0 0))] [.abs (.fm ⟨m,hd,bs,p,none,fs,pa,sk,co,out⟩)] (.ret (.v (.one (.p (.int .i64 ((sH ⟨m,hd,bs,p,none,fs,pa,sk,co,out⟩))))))) [.abs (.fm ⟨m,hd,bs,p,none,fs,pa,sk,co,out⟩)]:=by
  generalize hr:sH ⟨m,hd,bs,p,none,fs,pa,sk,co,out⟩=r
  unfold sH at hr
  simp only at hr
  refine spcG zh mixed Tryz.func193 (by kernel_rfl) { cfgF with keep:=some [0,2,6]} [] (by kernel_rfl) ?_
  intro I X hI hX
  refine orcL ?_;go_invoke;refine orcS (by kernel_rfl) ?_
  simp only [zi,Nat.reduceAdd]
  subst hI
  simp only [nrmA,nrmB,nrlB,reduceCtorEq,HO.abs.injEq,Gh.fm.injEq]
  (repeat' (first|refine And.intro ?_ ?_|intro _))<;>first|omega|exact True.intro|exact False.elim ‹False›|skip
  all_goals first|omega|rfl|(subst hr;simp [*];done)|trace_state
theorem zof (m:Str) (hd:Int) (bs:List Int) (p:Int) (ln:Ln) (fs:List Fld) (pa sk co:Int) (out:List Evt):Spc Tryz.prog 193 [.v (.one (.ptr 0 0))] [.abs (.fm ⟨m,hd,bs,p,some ln,fs,pa,sk,co,out⟩)] (.ret (.v (.one (.p (.int .i64 ((sH ⟨m,hd,bs,p,some ln,fs,pa,sk,co,out⟩))))))) [.abs (.fm ⟨m,hd,bs,p,some ln,fs,pa,sk,co,out⟩)]:=by
  generalize hr:sH ⟨m,hd,bs,p,some ln,fs,pa,sk,co,out⟩=r
  unfold sH at hr
  simp only at hr
  refine spcG zh mixed Tryz.func193 (by kernel_rfl) { cfgF with keep:=some [0,2,6]} [] (by kernel_rfl) ?_
  intro I X hI hX
  refine orcL ?_;go_invoke;refine orcS (by kernel_rfl) ?_
  simp only [zi,Nat.reduceAdd]
  subst hI
  simp only [nrmA,nrmB,nrlB,reduceCtorEq,HO.abs.injEq,Gh.fm.injEq]
  (repeat' (first|refine And.intro ?_ ?_|intro _))<;>first|omega|exact True.intro|exact False.elim ‹False›|skip
  all_goals first|omega|rfl|(subst hr;simp [*];done)|trace_state
theorem zrb (f:Fm):Spc Tryz.prog 193 [.v (.one (.ptr 0 0))] [.abs (.fm f)] (.ret (.v (.one (.p (.int .i64 ((sH f))))))) [.abs (.fm f)]:=by
  obtain⟨m,hd,bs,p,ln,fs,pa,sk,co,out⟩:=f
  cases ln with
  |none=>exact zog m hd bs p fs pa sk co out
  |some ln=>exact zof m hd bs p ln fs pa sk co out
def XE (I:Alg) (args:List D) (hp:List HO):Option CT:=match args,hp with
  |[.v (.one (.ptr 0 0))],[.abs (.fm f)]=>(fun(f:Fm)=>(some (.one ⟨I.hid (True),(.ret (.v (.one (.p (.int .i64 (I.hid ((sH f)))))))),[.abs (.fm f)]⟩):Option CT)) f
  |_,_=>none
theorem zcS:zx Tryz.prog 193 (XE alg):=by
  intro args hp r h
  unfold XE at h
  split at h
  · cases h;exact fun hn=>zrb _
  · cases h
def Tm:Know Tryz.prog:=⟨193,XE,zcS⟩
def Tj:Know Tryz.prog:=⟨193,fun I=>zy I (XE I),zf zcS⟩
theorem zuf (s:Str) (hneed:s.length≤140737488355328∧XR s=true):Spc Tryz.prog 191 [.v (.one (.p (.str s)))] [] (.ret (.tup [(.one (.ptr 0 0)),(.one (.p (.int .i64 0)))])) [.abs (.fm ((fm0 s)))]:=by
  obtain⟨hs,hm⟩:=hneed
  have hl:s.length≤70:=by unfold XR at hm;simp at hm;omega
  generalize hr:fm0 s=r
  unfold fm0 fmSk at hr
  simp only [Int.toNat_natCast] at hr
  refine spcG zh mixed Tryz.func191 (by kernel_rfl) { cfgF with keep:=some [0,2,3,4]} [Tv,Tt,zr0,zrZ,zj6,zj5] (by kernel_rfl) ?_
  intro I X hI hX
  refine orcL ?_;go_invoke;refine orcS (by kernel_rfl) ?_
  simp only [zi,Nat.reduceAdd]
  unfold zbb at hr
  subst hI
  simp only [nrmA,nrmB,nrlB,reduceCtorEq,HO.abs.injEq,Gh.fm.injEq]
  have hM:([13,10,45,45]++s).length=s.length+4:=by simp
  generalize([13,10,45,45]++s:Str)=M at *
  have h1:=Uh M 0 13
  (repeat' (first|refine And.intro ?_ ?_|intro _))<;>first|omega|exact True.intro|exact False.elim ‹False›|skip
  all_goals first
    |omega
    |exact .inr (by omega)
    |exact h1
    |exact Int.natCast_nonneg _
    |exact absurd (hm.symm.trans ‹XR s=false›) (by decide)
    |(subst hr;rfl)
    |(simp only [List.length_cons,List.length_nil];omega)
def Uc (I:Alg) (args:List D) (hp:List HO):Option CT:=match args,hp with
  |[.v (.one (.p (.str s)))],[]=>(fun(s:Str)=>(some (.one ⟨I.hid (s.length≤140737488355328∧XR s=true),(.ret (.tup [(.one (.ptr 0 0)),(.one (.p (.int .i64 0)))])),[.abs (.fm (I.hid ((fm0 s))))]⟩):Option CT)) s
  |_,_=>none
theorem zgf:zx Tryz.prog 191 (Uc alg):=by
  intro args hp r h
  unfold Uc at h
  split at h
  · cases h;exact fun hn=>zuf _ hn
  · cases h
def zba:Know Tryz.prog:=⟨191,Uc,zgf⟩
def za9:Know Tryz.prog:=⟨191,fun I=>zy I (Uc I),zf zgf⟩
theorem zue (s:Str) (hneed:s.length≤140737488355328∧XR s=false):Spc Tryz.prog 191 [.v (.one (.p (.str s)))] [] (.ret (.tup [(.one (.p (.val (.pointer none)))),(.one (.p (.int .i64 5)))])) []:=by
  obtain⟨hs,hm⟩:=hneed
  refine spcG zh mixed Tryz.func191 (by kernel_rfl) { cfgF with keep:=some [0,2,3,4]} [Tv,Tt,zr0,zrZ,zj6,zj5,zba,za9] (by kernel_rfl) ?_
  intro I X hI hX
  refine orcL ?_;go_invoke;refine orcS (by kernel_rfl) ?_
  simp only [zi,Nat.reduceAdd]
  subst hI
  simp only [nrmA,nrmB,nrlB,reduceCtorEq]
  exact⟨hs,fun _=>trivial,by simp [hm]⟩
end Go.Proofs.YtmkcejdibmilmaaGreatDoor
namespace Go.Proofs.YtmkcejdibmilmaaGreatDoor
open Go Go.Sep Go.Ab
inductive GR:List Evt→Prop
  |nil:GR []
  |other {l:List Evt} {e:Evt} (h:GR l) (h2:e.kind≠2) (h5:e.kind=5→e.part.bytes=[]):GR (l++[e])
  |body {l:List Evt} {x e:Evt} (h:GR (l++[x])) (hx:x.kind=5∨x.kind=2) (h2:e.kind=2) (hb:e.bytes≠[]):GR (l++[x]++[e])
inductive GJ:List Evt→Prop
  |nil:GJ []
  |other {l:List Evt} {e:Evt} (h:GJ l) (h2:e.kind≠2) (h5:e.kind=5→e.part.bytes=[]):GJ (l++[e])
  |body {l:List Evt} {x e:Evt} (h:GJ (l++[x])) (hx:x.kind=5) (h2:e.kind=2) (hb:e.bytes≠[]):GJ (l++[x]++[e])
theorem ztI {l:List Evt} {x:Evt} (h:GR (l++[x])): ∃ z y,zZ (l++[x])=z++[y]∧y.kind=x.kind∧(x.kind≠2→y=x):=by
  rw [Xn]
  rcases List.eq_nil_or_concat (zZ l) with hn|⟨z,y,hz⟩
  · rw [hn,YF];exact⟨[],x,rfl,rfl,fun _=>rfl⟩
  · rw [hz,List.concat_eq_append,xW]
    split
    · rename_i h;exact⟨z,_,rfl,h.1.symm,fun k=>absurd h.1 k⟩
    · exact⟨z++[y],x,rfl,rfl,fun _=>rfl⟩
theorem ztK {z:List Evt} {y:Evt} (h:GJ (z++[y])) (k:y.kind=2): ∃ l x,z=l++[x]∧GJ (l++[x])∧x.kind=5∧y.bytes≠[]:=by
  generalize hw:z++[y]=w at h
  cases h with
  |nil=>simp at hw
  | other h h2 h5=>
    have:=List.append_inj' hw rfl
    have e:=List.singleton_inj.1 this.2
    exact absurd (e▸k) h2
  | body h hx h2 hb=>
    have:=List.append_inj' hw rfl
    have e:=List.singleton_inj.1 this.2
    exact⟨_,_,this.1,h,hx,by rw [e];exact hb⟩
theorem zxj {l:List Evt} (h:GR l):GJ (zZ l):=by
  induction h with
  |nil=>exact .nil
  | @other l e h h2 h5 ih=>
    rw [Xn]
    rcases List.eq_nil_or_concat (zZ l) with hn|⟨z,y,hz⟩
    · rw [hn,YF];exact GJ.other (l:=[]) .nil h2 h5
    · rw [hz,List.concat_eq_append] at ih ⊢
      rw [xW,if_neg (fun k=>h2 k.1)]
      exact .other ih h2 h5
  | @body l x e h hx h2 hb ih=>
    obtain⟨z,y,hz,hk,hy⟩:=ztI h
    rw [Xn,hz,xW]
    rw [hz] at ih
    by_cases k:y.kind=2
    · rw [if_pos ⟨h2,k⟩]
      obtain⟨l',x',rfl,g1,g2,g3⟩:=ztK ih k
      refine .body g1 g2 rfl ?_
      simp only [evB]
      intro h;exact g3 (List.append_eq_nil_iff.1 h).1
    · rw [if_neg (fun h=>k h.2)]
      exact .body ih (by rcases hx with hx|hx;rw [hk];exact hx;exact absurd (hk.trans hx) k) h2 hb
def GI (l:List Evt) (i:Nat) (d:Evt):Prop:=((l.getD i d).kind=2→(l.getD i d).bytes≠[]∧∃ j,i=j+1∧(l.getD j d).kind=5)∧((l.getD i d).kind=5→(l.getD i d).part.bytes=[])
theorem zfH {a b:List Evt} {i:Nat} (h:i<a.length) (d:Evt):(a++b).getD i d=a.getD i d:=by
  rw [List.getD_eq_getElem?_getD,List.getElem?_append_left h,← List.getD_eq_getElem?_getD]
theorem zxk {l:List Evt} (h:GJ l) (d:Evt): ∀ i,i<l.length→GI l i d:=by
  induction h with
  |nil=>intro i hi;simp at hi
  | @other l e h h2 h5 ih=>
    intro i hi
    rw [List.length_append,List.length_singleton] at hi
    by_cases k:i<l.length
    · obtain⟨a,b⟩:=ih i k
      unfold GI
      rw [zfH k]
      refine⟨fun q=> ?_,b⟩
      obtain⟨a1,j,rfl,a2⟩:=a q
      exact⟨a1,j,rfl,by rw [zfH (by omega)];exact a2⟩
    · have e1:(l++[e]).getD i d=e:=by rw [show i=l.length by omega];simp
      unfold GI
      rw [e1]
      exact⟨fun q=>absurd q h2,h5⟩
  | @body l x e h hx h2 hb ih=>
    intro i hi
    rw [List.length_append,List.length_singleton] at hi
    by_cases k:i<(l++[x]).length
    · obtain⟨a,b⟩:=ih i k
      unfold GI
      rw [zfH k]
      refine⟨fun q=> ?_,b⟩
      obtain⟨a1,j,rfl,a2⟩:=a q
      exact⟨a1,j,rfl,by rw [zfH (by omega)];exact a2⟩
    · have hl:(l++[x]).length=l.length+1:=by simp
      have hi2:i=l.length+1:=by omega
      subst hi2
      have e1:(l++[x]++[e]).getD (l.length+1) d=e:=by rw [← hl];simp
      have e2:(l++[x]++[e]).getD l.length d=x:=by rw [zfH (by omega)];simp
      unfold GI
      rw [e1]
      exact⟨fun _=>⟨hb,l.length,rfl,by rw [e2];exact hx⟩,fun q=>absurd (h2.symm.trans q) (by decide)⟩
def GM (f:Fm):Prop:=GR f.out∧(f.pos=6→∃ l x,f.out=l++[x]∧(x.kind=5∨x.kind=2))
theorem zn1 {f:Fm} (h:GR f.out) {e:Evt} (h2:e.kind≠2) (h5:e.kind=5→e.part.bytes=[]):GR (f.out++[e]):=.other h h2 h5
theorem Wl {f:Fm} (h:GM f) (c:Int):GM (xH f c):=⟨zn1 h.1 (show(4:Int)≠2 by decide) (fun e=>absurd (show(4:Int)=5 from e) (by decide)),fun e=>absurd (show(8:Int)=6 from e) (by decide)⟩
theorem zqQ {f:Fm} (h:GM f):GM (wQ f):=by
  unfold wQ
  split
  · exact Wl h _
  · split
    · exact Wl h _
    · exact⟨zn1 h.1 (show(5:Int)≠2 by decide) (fun _=>zhb f.fields),fun _=>⟨_,_,rfl,.inl rfl⟩⟩
theorem ztJ {f:Fm} (h:GM f) (s:Str):GM (uH f s):=by
  unfold uH
  split
  · exact zqQ h
  · split
    · exact Wl h _
    · split
      · exact Wl h _
      · exact h
theorem gm_f {f:Fm} (h:GM f) (c:UInt8):GM (fmF f c):=by
  have hno: ∀ {n:Int},n≠6→n=6→∃ l x,f.out=l++[x]∧(x.kind=5∨x.kind=2):=fun a b=>absurd b a
  unfold fmF
  split
  · unfold vP
    split
    · show GR (if f.pos=6∧sG f c≠[] then f.out++[evB (sG f c)] else f.out)∧(f.pos=6→∃ l x,(if f.pos=6∧sG f c≠[] then f.out++[evB (sG f c)] else f.out)=l++[x]∧(x.kind=5∨x.kind=2))
      split
      · rename_i k
        obtain⟨l,x,e,hx⟩:=h.2 k.1
        refine⟨?_,fun _=>⟨f.out,_,rfl,.inr rfl⟩⟩
        have:=h.1
        rw [e] at this ⊢
        exact .body this hx rfl k.2
      · exact h
    · show GR (if f.pos=6 then(if sG f c≠[] then f.out++[evB (sG f c),evO] else f.out++[evO]) else f.out)∧((1:Int)=6→_)
      refine⟨?_,fun e=>absurd e (by decide)⟩
      split
      · rename_i k
        obtain⟨l,x,e,hx⟩:=h.2 k
        split
        · rename_i k2
          rw [show f.out++[evB (sG f c),evO]=f.out++[evB (sG f c)]++[evO] by simp]
          refine .other ?_ (by decide) (fun q=>absurd (show(6:Int)=5 from q) (by decide))
          have:=h.1
          rw [e] at this ⊢
          exact .body this hx rfl k2
        · exact .other h.1 (by decide) (fun q=>absurd (show(6:Int)=5 from q) (by decide))
      · exact h.1
  · split
    · unfold wz
      split
      · exact⟨h.1,fun e=>absurd (show(2:Int)=6 from e) (by decide)⟩
      · split
        · exact⟨zn1 h.1 (show(3:Int)≠2 by decide) (fun e=>absurd (show(3:Int)=5 from e) (by decide)),fun e=>absurd (show(7:Int)=6 from e) (by decide)⟩
        · split
          · exact⟨h.1,fun e=>absurd (show(3:Int)=6 from e) (by decide)⟩
          · split
            · exact⟨h.1,fun e=>absurd (show(4:Int)=6 from e) (by decide)⟩
            · exact Wl h 5
    · split
      · split
        · exact Wl h 2
        · exact⟨h.1,fun e=>absurd (show(5:Int)=6 from e) (by decide)⟩
      · split
        · have hk:GM { f with ln:=some (lnF (lnOf f) c).1}:=h
          split
          · exact Wl hk _
          · split
            · exact ztJ hk _
            · exact hk
        · exact h
theorem zsb: ∀ (b:Str) (f:Fm),GM f→GM (V8 f b)
  |[],f,h=>h
  |c::r,f,h=>zsb r (fmF f c) (gm_f h c)
theorem zni (s b:Str) (d:Evt): ∀ i,i<(zZ (yY (fm0 s) b).out).length→GI (zZ (yY (fm0 s) b).out) i d:=
  zxk (zxj (zsb b { fm0 s with out:=[]} ⟨.nil,fun e=>absurd (show(0:Int)=6 from e) (by decide)⟩).1) d
theorem zul {s:Str} (h:s.length≤70):FmI { fm0 s with out:=[]} 0:=by
  have h0:FmI ⟨zbb s,0,UG (zbb s),0,none,[],0,0,0,[]⟩ 0:=
    ⟨rfl,by unfold zbb;simp;omega,Int.le_refl _,by unfold zbb;simp;omega,⟨Int.le_refl _,(show(0:Int)≤2 by decide)⟩,⟨Int.le_refl _,(show(0:Int)≤12 by decide)⟩,Nat.zero_le _,(fun x hx=>by cases hx),(fun l e=>by cases e),(fun e=>absurd (show(0:Int)=5 from e) (by decide)),Nat.zero_le _⟩
  exact zcP (zcP h0 13) 10
theorem ze8 (l:List Evt) (d:Evt) {i:Nat} (h:i<l.length):(l.take (i+1)).foldl prtS []=prtS ((l.take i).foldl prtS []) (l.getD i d):=by
  rw [List.take_succ_eq_append_getElem h,List.foldl_append]
  simp [h]
theorem znn {l:List Evt} {d:Evt} {i:Nat} (h:i<l.length) (hg: ∀ j,j<l.length→GI l j d) (k:(l.getD i d).kind=2): ∃ z p,(l.take i).foldl prtS []=z++[p]∧p.bytes=[]∧(l.getD i d).bytes≠[]:=by
  obtain⟨hb,j,rfl,hj⟩:=(hg i h).1 k
  refine⟨(l.take j).foldl prtS [],(l.getD j d).part,?_,(hg j (by omega)).2 hj,hb⟩
  rw [ze8 l d (show j<l.length by omega),prtS,if_pos hj]
theorem zqr (l:List Evt): ∀ o:List Prt,(l.foldl prtS o).length≤o.length+l.length:=by
  induction l with
  |nil=>intro o;simp
  | cons e r ih=>
    intro o
    have h:=ih (prtS o e)
    have h2 :(prtS o e).length≤o.length+1:=by
      unfold prtS
      split
      · simp
      · split
        · split
          · rename_i p hp
            simp only [List.length_append,List.length_dropLast,List.length_singleton];omega
          · omega
        · omega
    rw [List.foldl_cons,List.length_cons];omega
theorem zgb: ∀ (b:Str) (f:Fm) (i:Nat),FmI f i→zI (V8 f b).out+(V8 f b).held.toNat≤zI f.out+f.held.toNat+2 * b.length
  |[],f,i,h=>by simp [V8]
  | c::r,f,i,h=>by
    have h1:=zgb r (fmF f c) (i+1) (zra h c)
    have h2:=zhA h c
    rw [List.length_cons]
    show zI (V8 (fmF f c) r).out+(V8 (fmF f c) r).held.toNat≤_
    omega
theorem zgj {s b:Str} (h:s.length≤70):(zZ (yY (fm0 s) b).out).length≤4 * b.length∧zI (zZ (yY (fm0 s) b).out)≤1000+2 * b.length:=by
  have hI:=zul h
  have h1:(yY (fm0 s) b).out.length≤4 * (0+b.length):=(zhz b _ 0 hI).on
  have h2:zI (yY (fm0 s) b).out+(yY (fm0 s) b).held.toNat≤0+(fm0 s).held.toNat+2 * b.length:=zgb b _ 0 hI
  have h3:=zaW (yY (fm0 s) b).out
  have h4:=zaV (yY (fm0 s) b).out
  have h5:(fm0 s).held<(fm0 s).mark.length:=hI.h1
  have h6:(fm0 s).mark.length≤1000:=hI.ml
  have h7:0≤(fm0 s).held:=hI.h0
  omega
end Go.Proofs.YtmkcejdibmilmaaGreatDoor
namespace Go.Proofs.YtmkcejdibmilmaaGreatDoor
open Go Go.Sep Go.Ab
set_option maxRecDepth 100000
theorem zup (s b:Str) (hneed:(s.length≤1000000∧b.length≤300000)∧XR s=true):Spc Tryz.prog 158 [.v (.one (.p (.str s))),.v (.one (.p (.list .byte b)))] [] (.ret (.tup [(.one (.p (.list .prt ((ZI s b).1)))),(.one (.p (.int .i64 ((ZI s b).2))))])) []:=by
  obtain⟨⟨hs,hb⟩,hm⟩:=hneed
  have hl:s.length≤70:=by unfold XR at hm;simp at hm;omega
  have hI0:=zul hl
  have hg:=zni s b ⟨0,⟨[],[],0,[],0⟩,[],⟨[],[],[],[]⟩,0⟩
  have hle:=zgj (b:=b) hl
  have hN:fmN0 (fm0 s) b:=⟨0,hI0,by omega⟩
  generalize hr:ZI s b=r
  unfold ZI at hr
  rw [hm,if_neg (by decide)] at hr
  refine spcG zh mixed Tryz.func158 (by kernel_rfl) { cfgF with rl:=[0],nr:=[8],keep:=some [0,1,4,5,6,7,8,10,11,12,23,24,25,30]} [zbd,zbc,Tm,Tj,zba,za9] (by kernel_rfl) ?_
  intro I X hI hX
  refine orcL ?_;go_invoke;refine orcS (by kernel_rfl) ?_
  simp only [zi,Nat.reduceAdd]
  generalize fm0 s=F0 at *
  refine⟨?_,fun c=> ?_,fun _=>⟨?_,?_⟩⟩
  · subst hI;exact⟨by omega,hm⟩
  · subst hI;exact absurd c (by decide)
  · subst hI;exact hN
  rw [show I.hid F0=F0 by subst hI;rfl]
  rw [show I.hid (yY F0 b)=yY F0 b by subst hI;rfl]
  generalize yY F0 b=F at *
  rw [show I.hid (zZ F.out)=zZ F.out by subst hI;rfl]
  generalize zZ F.out=L at *
  refine zC hI zh mixed [zbd,zbc,Tm,Tj,zba,za9] hX [6,8,23,24,25] (fun(g:Nat × List Prt)=>match g with|(i,o)=>i≤L.length∧o=(L.take i).foldl prtS []) (fun(g:Nat × List Prt)=>match g with|(i,o)=>⟨[(6,.v (.one (.ptr 0 0))),(8,.v (.one (.row 1))),(23,.v (.one (.row 2))),(24,.v (.one (.p (.int .i64 ((I.len (α:=Evt) L)))))),(25,.v (.one (.p (.int .i64 i))))],[.abs (.fm F),.row .prt 51 o,.row .evt 53 L],62,none⟩) (fun(g:Nat × List Prt)=>match g with|(i,o)=>L.length - i) (0,[]) (by kernel_rfl) (by kernel_rfl) ?_ ?_
  · exact⟨Nat.zero_le _,rfl⟩
  rintro⟨i,o⟩ ⟨h1,h2⟩ A hA
  simp only at hA h1 h2
  refine orcL ?_;go_invoke;refine orcS (by kernel_rfl) ?_
  simp only [zi,Nat.reduceAdd]
  subst hI
  simp only [nrmA,nrmB,nrlB,reduceCtorEq]
  have hlo:=zqr (L.take i) []
  rw [← h2,List.length_take,List.length_nil] at hlo
  have hb2:i<L.length→_→_:=fun h k=>znn h hg k
  have hs2:i<L.length→_:=fun h=>ze8 L ⟨0,⟨[],[],0,[],0⟩,[],⟨[],[],[],[]⟩,0⟩ h
  have hsum:i<L.length→(L.getD i ⟨0,⟨[],[],0,[],0⟩,[],⟨[],[],[],[]⟩,0⟩).bytes.length≤zI L:=fun h=>by
    refine Ul ?_
    rw [show L.getD i ⟨0,⟨[],[],0,[],0⟩,[],⟨[],[],[],[]⟩,0⟩=L[i] by simp [h]]
    exact List.getElem_mem h
  rw [← h2] at hb2 hs2
  have hgo:i<L.length→_:=fun h=>hA (i+1,prtS o (L.getD i ⟨0,⟨[],[],0,[],0⟩,[],⟨[],[],[],[]⟩,0⟩)) ⟨by simp only;omega,by simp only;rw [hs2 h]⟩ (by simp only;omega)
  have hend: ¬ i<L.length→L.foldl prtS []=o:=fun h=>by rw [h2,List.take_of_length_le (by omega)]
  clear hg hs2 hA
  generalize L.getD i ⟨0,⟨[],[],0,[],0⟩,[],⟨[],[],[],[]⟩,0⟩=x at *
  simp only [Int.natCast_add,Int.natCast_one] at hgo
  refine⟨fun c=> ?_,fun c=> ?_⟩
  · have hgo:=hgo (by omega)
    have hb2:=hb2 (by omega)
    have hsum:=hsum (by omega)
    by_cases k5:x.kind=5
    · rw [prtS,if_pos k5] at hgo
      (repeat' (first|refine And.intro ?_ ?_|intro _))<;>first|omega|exact True.intro|exact False.elim ‹False›|skip
      all_goals first
        |omega
        |(simp only [List.length_singleton];omega)
        |exact hgo
        |exact absurd k5 ‹_›
    · by_cases k2:x.kind=2
      · obtain⟨z,p,hz,hp,hxb⟩:=hb2 k2
        have hxb:0<x.bytes.length:=by cases hq:x.bytes with|nil=>exact absurd hq hxb|cons _ _=>simp
        subst hz
        rw [show prtS (z++[p]) x=z++[⟨p.name,p.file,p.type,x.bytes⟩] by unfold prtS;rw [if_neg k5,if_pos k2];simp [hp]] at hgo
        have e1:(((z++[p]).length:Int) - 1).toNat=z.length:=by rw [List.length_append,List.length_singleton];omega
        have e2:(z++[p]).getD z.length ⟨[],[],[],[]⟩=p:=by simp
        have e3: ∀ q,(z++[p]).set z.length q=z++[q]:=fun q=>by simp
        simp only [e1,e2,e3,hp]
        simp only [List.length_append,List.length_singleton,List.length_nil]
        clear e1 e2 e3
        rw [List.length_append,List.length_singleton] at hlo
        (repeat' (first|refine And.intro ?_ ?_|intro _))<;>first|omega|exact True.intro|exact False.elim ‹False›|skip
        all_goals first
          |omega
          |exact hgo
          |exact absurd k2 ‹_›
          |exact absurd ‹x.kind=5› k5
      · rw [prtS,if_neg k5,if_neg k2] at hgo
        (repeat' (first|refine And.intro ?_ ?_|intro _))<;>first|omega|exact True.intro|exact False.elim ‹False›|skip
        all_goals first
          |omega
          |exact hgo
          |exact absurd ‹x.kind=5› k5
          |exact absurd ‹x.kind=2› k2
  · have he:=hend (by omega)
    rw [he] at hr
    subst hr
    (repeat' (first|refine And.intro ?_ ?_|intro _))<;>first|omega|exact True.intro|exact False.elim ‹False›|skip
    all_goals first
      |omega
      |(rw [if_pos ‹¬ sH F=0›];done)
      |(rw [if_neg (fun h=>h ‹sH F=0›)];done)
end Go.Proofs.YtmkcejdibmilmaaGreatDoor
namespace Go.Proofs.YtmkcejdibmilmaaGreatDoor
open Go Go.Sep Go.Ab
set_option maxRecDepth 100000
theorem zua (s:Str) (hneed:s.length≤140737488355328∧XR s=false):Spc Tryz.prog 191 [.v (.one (.p (.str s)))] [] (.ret (.tup [(.one (.p (.val (.pointer none)))),(.one (.p (.int .i64 5)))])) []:=zue s hneed
def Ub (I:Alg) (args:List D) (hp:List HO):Option CT:=match args,hp with
  |[.v (.one (.p (.str s)))],[]=>(fun(s:Str)=>(some (.one ⟨I.hid (s.length≤140737488355328∧XR s=false),(.ret (.tup [(.one (.p (.val (.pointer none)))),(.one (.p (.int .i64 5)))])),[]⟩):Option CT)) s
  |_,_=>none
theorem zge:zx Tryz.prog 191 (Ub alg):=by
  intro args hp r h
  unfold Ub at h
  split at h
  · cases h;exact fun hn=>zua _ hn
  · cases h
def zoe:Know Tryz.prog:=⟨191,Ub,zge⟩
def zod:Know Tryz.prog:=⟨191,fun I=>zy I (Ub I),zf zge⟩
theorem zq8 (b:Str) (hneed:False):Spc Tryz.prog 192 [.v (.one (.p (.val (.pointer none)))),.v (.one (.p (.list .byte b)))] [] (.ret (.v (.one (.row 0)))) [.row .evt 53 (([]:List Evt))]:=hneed.elim
def XC (I:Alg) (args:List D) (hp:List HO):Option CT:=match args,hp with
  |[.v (.one (.p (.val (.pointer none)))),.v (.one (.p (.list .byte b)))],[]=>(fun(b:Str)=>(some (.one ⟨I.hid (False),(.ret (.v (.one (.row 0)))),[.row .evt 53 (I.hid (([]:List Evt)))]⟩):Option CT)) b
  |_,_=>none
theorem zcQ:zx Tryz.prog 192 (XC alg):=by
  intro args hp r h
  unfold XC at h
  split at h
  · cases h;exact fun hn=>zq8 _ hn
  · cases h
def zlp:Know Tryz.prog:=⟨192,XC,zcQ⟩
def zlo:Know Tryz.prog:=⟨192,fun I=>zy I (XC I),zf zcQ⟩
theorem zuo (s b:Str) (hneed:(s.length≤1000000∧b.length≤300000)∧XR s=false):Spc Tryz.prog 158 [.v (.one (.p (.str s))),.v (.one (.p (.list .byte b)))] [] (.ret (.tup [(.one (.p (.list .prt ((ZI s b).1)))),(.one (.p (.int .i64 ((ZI s b).2))))])) []:=by
  obtain⟨⟨hs,hb⟩,hm⟩:=hneed
  generalize hr:ZI s b=r
  unfold ZI at hr
  rw [if_pos hm] at hr
  subst hr
  refine spcG zh mixed Tryz.func158 (by kernel_rfl) { cfgF with rl:=[0],nr:=[8],keep:=some [0,1,4,5,6,7,8,10,11,12,23,24,25,30]} [zbd,zbc,zlp,zlo,Tm,Tj,zoe,zod] (by kernel_rfl) ?_
  intro I X hI hX
  refine orcL ?_;go_invoke;refine orcS (by kernel_rfl) ?_
  simp only [zi,Nat.reduceAdd]
  subst hI
  simp only [nrmA,nrmB,nrlB,reduceCtorEq]
  exact⟨⟨by omega,hm⟩,fun _=>trivial,by decide⟩
theorem zwk (s b:Str) (hneed:s.length≤1000000∧b.length≤300000):Spc Tryz.prog 158 [.v (.one (.p (.str s))),.v (.one (.p (.list .byte b)))] [] (.ret (.tup [(.one (.p (.list .prt ((ZI s b).1)))),(.one (.p (.int .i64 ((ZI s b).2))))])) []:=by
  cases hm:XR s with
  |true=>exact zup s b ⟨hneed,hm⟩
  |false=>exact zuo s b ⟨hneed,hm⟩
def QV (I:Alg) (args:List D) (hp:List HO):Option CT:=match args,hp with
  |[.v (.one (.p (.str s))),.v (.one (.p (.list .byte b)))],[]=>(fun(s b:Str)=>(some (.one ⟨I.hid (s.length≤1000000∧b.length≤300000),(.ret (.tup [(.one (.p (.list .prt (I.hid ((ZI s b).1))))),(.one (.p (.int .i64 (I.hid ((ZI s b).2)))))])),[]⟩):Option CT)) s b
  |_,_=>none
theorem zj1:zx Tryz.prog 158 (QV alg):=by
  intro args hp r h
  unfold QV at h
  split at h
  · cases h;exact fun hn=>zwk _ _ hn
  · cases h
def zro:Know Tryz.prog:=⟨158,QV,zj1⟩
def zrn:Know Tryz.prog:=⟨158,fun I=>zy I (QV I),zf zj1⟩
end Go.Proofs.YtmkcejdibmilmaaGreatDoor
namespace Go.Proofs.YtmkcejdibmilmaaGreatDoor
open Go Go.Sep Go.Ab
def k5 (e:Evt):Bool:=decide (e.kind=5)
theorem zpX (s:Str):(zeR s).length≤40:=by
  unfold zeR
  split
  · decide
  · rw [List.length_take];omega
theorem zk0 (l:List Fld):(rU l).1.file.length≤40:=by
  unfold rU zqx ztf
  repeat' split
  all_goals first|exact zpX _|(simp [prt0];done)|decide
def P5 (f:Fm):Prop:=((f.out.filter k5).length:Int)≤f.parts∧∀ e ∈ f.out,e.kind=5→e.part.file.length≤40
theorem Sr {f:Fm} (h:P5 f) {m:Str} {hd p co sk:Int} {bs:List Int} {ln:Option Ln} {fs:List Fld}:P5 ⟨m,hd,bs,p,ln,fs,f.parts,sk,co,f.out⟩:=h
theorem zck {f:Fm} (h:P5 f) (e:Evt) (he:e.kind≠5) {m:Str} {hd p co sk:Int} {bs:List Int} {ln:Option Ln} {fs:List Fld}:P5 ⟨m,hd,bs,p,ln,fs,f.parts,sk,co,f.out++[e]⟩:=by
  refine⟨?_,fun x hx k=> ?_⟩
  · show(((f.out++[e]).filter k5).length:Int)≤f.parts
    rw [List.filter_append]
    have:[e].filter k5=[]:=by simp [k5,he]
    rw [this,List.append_nil];exact h.1
  · rcases List.mem_append.1 hx with hx|hx
    · exact h.2 x hx k
    · rw [List.mem_singleton.1 hx] at k;exact absurd k he
theorem X6 {f:Fm} (h:P5 f) (c:Int):P5 (xH f c):=zck h (evF c) (show(4:Int)≠5 by decide)
theorem zqB {f:Fm} (h:P5 f):P5 (wQ f):=by
  unfold wQ
  split
  · exact X6 h _
  · split
    · exact X6 h _
    · refine⟨?_,fun x hx k=> ?_⟩
      · show(((f.out++[evP (rU f.fields).1]).filter k5).length:Int)≤f.parts+1
        rw [List.filter_append,List.length_append]
        have:[evP (rU f.fields).1].filter k5=[evP (rU f.fields).1]:=rfl
        rw [this,List.length_singleton]
        have:=h.1
        omega
      · rcases List.mem_append.1 (show x ∈ f.out++[evP (rU f.fields).1] from hx) with hx|hx
        · exact h.2 x hx k
        · rw [List.mem_singleton.1 hx];exact zk0 _
theorem ztl {f:Fm} (h:P5 f) (s:Str):P5 (uH f s):=by
  unfold uH
  split
  · exact zqB h
  · split
    · exact X6 h _
    · split
      · exact X6 h _
      · exact Sr h
theorem p5_f {f:Fm} (h:P5 f) (c:UInt8):P5 (fmF f c):=by
  have hB:evB (sG f c)=⟨2,hd0,sG f c,prt0,0⟩:=rfl
  unfold fmF
  split
  · unfold vP fmSk
    split
    · dsimp only
      split
      · exact zck h _ (show(2:Int)≠5 by decide)
      · exact Sr h
    · dsimp only
      split
      · split
        · have:=zck (zck h (evB (sG f c)) (show(2:Int)≠5 by decide) (m:=f.mark) (hd:=f.held) (p:=f.pos) (co:=f.code) (sk:=f.skip) (bs:=f.bs) (ln:=f.ln) (fs:=f.fields)) evO (show(6:Int)≠5 by decide) (m:=f.mark) (hd:=((tY f.mark f.held.toNat c).2.1:Int)) (p:=1) (co:=f.code) (sk:=0) (bs:=f.bs) (ln:=f.ln) (fs:=f.fields)
          simpa using this
        · exact zck h _ (show(6:Int)≠5 by decide)
      · exact Sr h
  · split
    · unfold wz
      repeat' split
      all_goals first
        |exact Sr h
        |exact zck h _ (show(3:Int)≠5 by decide)
        |exact X6 h _
    · split
      · split
        · exact X6 h _
        · exact Sr h
      · split
        · split
          · exact X6 (Sr h) _
          · split
            · exact ztl (Sr h) _
            · exact Sr h
        · exact h
theorem zrX: ∀ (b:Str) {f:Fm},P5 f→P5 (V8 f b)
  |[],_,h=>h
  |c::b,_,h=>zrX b (p5_f h c)
theorem zqJ (o:List Evt) (e:Evt):(uV o e).filter k5=o.filter k5++[e].filter k5:=by
  rcases List.eq_nil_or_concat o with rfl|⟨z,x,rfl⟩
  · rfl
  · rw [List.concat_eq_append,xW]
    split
    · rename_i h
      simp [k5,h.1,h.2,evB]
    · rw [List.filter_append]
theorem zjA: ∀ (l o:List Evt),(l.foldl uV o).filter k5=o.filter k5++l.filter k5
  |[],o=>by simp
  |e::l,o=>by rw [List.foldl_cons,zjA l,zqJ,List.append_assoc,← List.filter_append];rfl
theorem zqL (l:List Evt):(zZ l).filter k5=l.filter k5:=zjA l []
def prtZ (l:List Prt):Nat:=(l.map fun p=>p.bytes.length).sum
theorem zjc (a b:List Prt):prtZ (a++b)=prtZ a+prtZ b:=by simp [prtZ]
theorem zqq {l:List Prt} {p:Prt} (h:p ∈ l):p.bytes.length≤prtZ l:=by
  induction l with
  |nil=>cases h
  | cons x r ih=>
    simp only [prtZ,List.map_cons,List.sum_cons]
    rcases List.mem_cons.1 h with rfl|h
    · omega
    · have:=ih h;unfold prtZ at this;omega
theorem zvv (o:List Prt) (e:Evt) (he:k5 e=true→e.part.bytes=[]):prtZ (prtS o e)≤prtZ o+e.bytes.length:=by
  unfold prtS
  split
  · rename_i h
    rw [zjc]
    have:prtZ [e.part]=0:=by simp [prtZ,he (by simp [k5,h])]
    omega
  · split
    · rcases List.eq_nil_or_concat o with rfl|⟨z,x,rfl⟩
      · simp
      · rw [List.concat_eq_append]
        simp only [List.getLast?_append,List.getLast?_singleton,Option.some_or,List.dropLast_concat,zjc]
        simp [prtZ];omega
    · omega
theorem zrU: ∀ (l:List Evt) (o:List Prt),(∀ e ∈ l,k5 e=true→e.part.bytes=[])→prtZ (l.foldl prtS o)≤prtZ o+zI l
  |[],o,_=>by simp [zI]
  | e::l,o,h=>by
    have h1:=zrU l (prtS o e) fun x hx=>h x (List.mem_cons_of_mem _ hx)
    have h2:=zvv o e (h e List.mem_cons_self)
    rw [List.foldl_cons]
    simp only [zI,List.map_cons,List.sum_cons] at h1 ⊢
    omega
theorem zvw (o:List Prt) (e:Evt):(prtS o e).map Prt.file=o.map Prt.file++([e].filter k5).map fun x=>x.part.file:=by
  unfold prtS
  split
  · rename_i h;simp [k5,h]
  · rename_i h
    have hk:k5 e=false:=by simp [k5,h]
    split
    · rcases List.eq_nil_or_concat o with rfl|⟨z,x,rfl⟩
      · simp [hk]
      · simp [hk]
    · simp [hk]
theorem zrV: ∀ (l:List Evt) (o:List Prt),(l.foldl prtS o).map Prt.file=o.map Prt.file++(l.filter k5).map fun x=>x.part.file
  |[],o=>by simp
  | e::l,o=>by
    rw [List.foldl_cons,zrV l,zvw,List.append_assoc,← List.map_append,← List.filter_append];rfl
theorem zg7 (s b:Str):(ZI s b).1.length≤12∧(∀ p ∈ (ZI s b).1,p.file.length≤40)∧prtZ (ZI s b).1≤1000+2 * b.length:=by
  have h0:([]:List Prt).length≤12∧(∀ p ∈ ([]:List Prt),p.file.length≤40)∧prtZ ([]:List Prt)≤1000+2 * b.length:=⟨by decide,(fun p h=>by cases h),by simp [prtZ]⟩
  unfold ZI
  split
  · exact h0
  · rename_i hm
    split
    · exact h0
    · have hs:s.length≤70:=by
        unfold XR at hm
        simp at hm
        omega
      have h5:P5 (yY (fm0 s) b):=zrX b ⟨Int.le_refl 0,fun e h=>by cases h⟩
      have hp:=(zhz b _ 0 (zul hs)).p0
      have hle:=zgj (b:=b) hs
      have hf:=zrV (zZ (yY (fm0 s) b).out) []
      rw [zqL] at hf
      simp only [List.map_nil,List.nil_append] at hf
      dsimp only
      refine⟨?_,fun p h=> ?_,?_⟩
      · have:=congrArg List.length hf
        rw [List.length_map,List.length_map] at this
        have h1:=h5.1
        have h2:(yY (fm0 s) b).parts≤12:=hp.2
        omega
      · have h1:p.file ∈ ((yY (fm0 s) b).out.filter k5).map fun x=>x.part.file:=by rw [← hf];exact List.mem_map_of_mem h
        obtain⟨e,he,e2⟩:=List.mem_map.1 h1
        rw [← e2]
        exact h5.2 e (List.mem_filter.1 he).1 (by simpa [k5] using (List.mem_filter.1 he).2)
      · have:=zrU (zZ (yY (fm0 s) b).out) [] fun e he hk=> ?_
        · have h1:=hle.2
          have h2:prtZ []=0:=rfl
          omega
        · obtain⟨i,hi,rfl⟩:=List.getElem_of_mem he
          have h1:=(zni s b ⟨0,hd0,[],prt0,0⟩ i hi).2
          rw [List.getD_eq_getElem?_getD,List.getElem?_eq_getElem hi] at h1
          exact h1 (by simpa [k5] using hk)
end Go.Proofs.YtmkcejdibmilmaaGreatDoor
namespace Go.Proofs.YtmkcejdibmilmaaGreatDoor
open Go Go.Sep Go.Ab
set_option maxRecDepth 100000
def cfgG:Cfg:= { sl:=zbr.sl++[⟨57,1000003,.byte,none⟩,⟨82,4,.fld,none⟩,⟨82,6,.byte,some 5⟩]}
theorem ztO (st:Int) (b:Str) (hneed:b.length≤1000000):Spc Tryz.prog 50 [.v (.one (.p (.int .i64 st))),.v (.one (.p (.str b)))] [] (.ret (.v (.agg [(.p (.int .i64 st)),(.p (.list .fld (([]:List Fld)))),(.p (.list .byte b))]))) []:=by
  refine spcG zh mixed Tryz.func50 (by kernel_rfl) { cfgG with keep:=some [0,1,4]} [] (by kernel_rfl) ?_
  intro I X hI hX
  refine orcL ?_;go_invoke;refine orcS (by kernel_rfl) ?_
  simp only [zi,Nat.reduceAdd]
  subst hI
  simp only [nrmA,nrmB,nrlB,reduceCtorEq,V0.agg.injEq]
def VF (I:Alg) (args:List D) (hp:List HO):Option CT:=match args,hp with
  |[.v (.one (.p (.int .i64 st))),.v (.one (.p (.str b)))],[]=>(fun(st:Int) (b:Str)=>(some (.one ⟨I.hid (b.length≤1000000),(.ret (.v (.agg [(.p (.int .i64 st)),(.p (.list .fld (I.hid (([]:List Fld))))),(.p (.list .byte b))]))),[]⟩):Option CT)) st b
  |_,_=>none
theorem zfI:zx Tryz.prog 50 (VF alg):=by
  intro args hp r h
  unfold VF at h
  split at h
  · cases h;exact fun hn=>ztO _ _ hn
  · cases h
def ul:Know Tryz.prog:=⟨50,VF,zfI⟩
def uj:Know Tryz.prog:=⟨50,fun I=>zy I (VF I),zf zfI⟩
set_option maxHeartbeats 1000000 in
theorem ztP (m t:Str) (mi:Int) (f:List Fld) (le:Int) (body:Str) (hneed:FOk f∧body.length≤100000):Spc Tryz.prog 123 [.v (.agg [(.p (.str m)),(.p (.str t)),(.p (.int .i64 mi)),(.p (.list .fld f)),(.p (.int .i64 le))]),.v (.one (.p (.list .byte body)))] [] (.ret (.tup [(.one (.p (.list .prt ((sO f body).1)))),(.one (.p (.int .i64 ((sO f body).2))))])) []:=by
  obtain⟨hf,hb⟩:=hneed
  have hv:=zdL hf ZW
  have hp:=zfd (oneT f ZW).1
  have hg:=zjI hp.2 bndT
  have hpl:=hp.1
  clear hp
  generalize hr:sO f body=r
  unfold sO at hr
  unfold oneT at hr hv hg hpl
  refine spcG zh mixed Tryz.func123 (by kernel_rfl) { cfgG with rl:=[0],keep:=some [0,1,2,4,5,6,7,8,9,10,11]} [U7,U6,vI,vH,TB,Tz,zro,zrn] (by kernel_rfl) ?_
  intro I X hI hX
  refine orcL ?_;go_invoke;refine orcS (by kernel_rfl) ?_
  simp only [zi,Nat.reduceAdd]
  rw [show([99,111,110,116,101,110,116,45,116,121,112,101]:Str)=ZW from rfl,show([98,111,117,110,100,97,114,121]:Str)=bndT from rfl,show([109,117,108,116,105,112,97,114,116,47,102,111,114,109,45,100,97,116,97]:Str)=zvS from rfl]
  have hc:ZW.length≤1000000:=by decide
  have hh: ∀ {α:Type} (y:α),I.hid y=y:=fun y=>by subst hI;rfl
  simp only [hh]
  generalize oneF (valsF f ZW)=o at *
  generalize xN o.1=M at *
  generalize getP M.1.params bndT=g at *
  generalize ZI g.1 body=Y at *
  subst hI
  simp only [nrmA,nrmB,nrlB,reduceCtorEq,V0.agg.injEq]
  (repeat' (first|refine And.intro ?_ ?_|intro _))<;>first|omega|exact True.intro|exact False.elim ‹False›|skip
  all_goals first
    |omega
    |assumption
    |exact hf.1
    |(exact(hf.2 _ ‹_›).1)
    |(exact(hf.2 _ ‹_›).2)
    |(((repeat(first|rewrite [if_pos (by first|omega|assumption|(simp only [*,or_self,or_true,true_or,or_false,false_or,not_true_eq_false,not_false_eq_true,Bool.false_eq_true,Bool.true_eq_false,and_self,and_true,true_and];done)|(simp only [*];omega)|(simp [*];done)|(simp [*];omega))] at hr|rewrite [if_neg (by first|omega|assumption|(simp only [*,or_self,or_true,true_or,or_false,false_or,not_true_eq_false,not_false_eq_true,Bool.false_eq_true,Bool.true_eq_false,and_self,and_true,true_and];done)|(simp only [*];omega)|(simp [*];done)|(simp [*];omega))] at hr)));subst hr;rfl)
    |(simp_all;done)
def VI (I:Alg) (args:List D) (hp:List HO):Option CT:=match args,hp with
  |[.v (.agg [(.p (.str m)),(.p (.str t)),(.p (.int .i64 mi)),(.p (.list .fld f)),(.p (.int .i64 le))]),.v (.one (.p (.list .byte body)))],[]=>(fun(m t:Str) (mi:Int) (f:List Fld) (le:Int) (body:Str)=>(some (.one ⟨I.hid (FOk f∧body.length≤100000),(.ret (.tup [(.one (.p (.list .prt (I.hid ((sO f body).1))))),(.one (.p (.int .i64 (I.hid ((sO f body).2)))))])),[]⟩):Option CT)) m t mi f le body
  |_,_=>none
theorem zfJ:zx Tryz.prog 123 (VI alg):=by
  intro args hp r h
  unfold VI at h
  split at h
  · cases h;exact fun hn=>ztP _ _ _ _ _ _ hn
  · cases h
def VH:Know Tryz.prog:=⟨123,VI,zfJ⟩
def VG:Know Tryz.prog:=⟨123,fun I=>zy I (VI I),zf zfJ⟩
theorem zr7 (q:Sto) (e:Ent):q.n≤(wsS q e).n∧(wsS q e).n≤q.n+1:=zlL _ _ _ _
set_option maxHeartbeats 1000000 in
theorem zv6 (l:List Upl) (n:Int) (b:Str) (s:Int) (c0 c1 c2 c3:Cn) (pn pf pt pb:Str) (hneed:zF l n∧n≤200000 - 1∧b.length≤100000∧pf.length≤100000∧pb.length≤100000):Spc Tryz.prog 125 [.v (.one (.ptr 0 0)),.v (.agg [(.p (.str pn)),(.p (.str pf)),(.p (.str pt)),(.p (.nl pb))])] [.obj 57 [(.ptr 1 0),(.ptr 2 0),(.ptr 3 0),(.ptr 4 0),(.ptr 5 0)],.pack [.obj 41 [(.ptr 1 0),(.ptr 2 0)],.pack [.obj 88 [(.row 1),(.p (.int .i64 n))],.row .upl 86 l],.pack [.obj 118 [(.row 1),(.p (.int .i64 s))],.row .byte 5 b]],.abs (.cn c0),.abs (.cn c1),.abs (.cn c2),.abs (.cn c3)] (.ret (.tup [(.one (.p (.int .i64 ((if zaU ⟨l,n,b,s⟩ ⟨pn,pf,pt,pb⟩=0 then n+1 else 0))))),(.one (.p (.int .i64 ((zaU ⟨l,n,b,s⟩ ⟨pn,pf,pt,pb⟩)))))])) [.obj 57 [(.ptr 1 0),(.ptr 2 0),(.ptr 3 0),(.ptr 4 0),(.ptr 5 0)],.pack [.obj 41 [(.ptr 1 0),(.ptr 2 0)],.pack [.obj 88 [(.row 1),(.p (.int .i64 ((sF ⟨l,n,b,s⟩ ⟨pn,pf,pt,pb⟩).n)))],.row .upl 86 ((sF ⟨l,n,b,s⟩ ⟨pn,pf,pt,pb⟩).l)],.pack [.obj 118 [(.row 1),(.p (.int .i64 ((sF ⟨l,n,b,s⟩ ⟨pn,pf,pt,pb⟩).s)))],.row .byte 5 ((sF ⟨l,n,b,s⟩ ⟨pn,pf,pt,pb⟩).b)]],.abs (.cn c0),.abs (.cn c1),.abs (.cn c2),.abs (.cn c3)]:=by
  obtain⟨hs,hn,hb,hf,hp⟩:=hneed
  have hl:(zlm++pf).length≤1000000:=by rw [List.length_append];simp [zlm];omega
  have h1:=zbO hs b (ru ⟨l,n,b,s⟩ ⟨pn,pf,pt,pb⟩)
  have h2:=zlL l n b (ru ⟨l,n,b,s⟩ ⟨pn,pf,pt,pb⟩)
  have h3:=YQ (l:=l) (n:=n) (ru ⟨l,n,b,s⟩ ⟨pn,pf,pt,pb⟩) hb
  generalize hc:zaU ⟨l,n,b,s⟩ ⟨pn,pf,pt,pb⟩=c
  generalize hq:sF ⟨l,n,b,s⟩ ⟨pn,pf,pt,pb⟩=q'
  unfold zaU apCd wsC wsS ru creE apE at hc
  unfold sF apCd apQ wsC wsS ru creE apE zbL at hq
  unfold ru creE at h1 h2 h3
  refine spcG zh mixed Tryz.func125 (by kernel_rfl) { cfgG with keep:=some [0,1,3,4,5,6,7,8]} [TS,TR,xw,xu,wJ,wI] (by kernel_rfl) ?_
  intro I X hI hX
  refine orcL ?_;go_invoke;refine orcS (by kernel_rfl) ?_
  simp only [zi,Nat.reduceAdd]
  rw [show([102,105,108,101,110,97,109,101,32]:Str)=zlm from rfl]
  subst hI
  simp only [nrmA,nrmB,nrlB,reduceCtorEq,V0.agg.injEq,HO.pack.injEq,HO.obj.injEq]
  dsimp only at hc hq h1 h2 h3
  have hlf:(zlm.length:Int)+pf.length≤1000000:=by rw [List.length_append] at hl;omega
  obtain⟨nm,hnm⟩: ∃ nm,nm=zlm++pf:=⟨_,rfl⟩
  simp only [← hnm] at hc hq h1 h2 h3 hl ⊢
  clear hnm
  by_cases hw:wrtC l n b ⟨1,n+1,(pb.length:Int),nm⟩=0
  · simp only [hw,ne_eq,not_true_eq_false,not_false_eq_true,if_true,if_false] at hc hq ⊢
    generalize wrtL l n b ⟨1,n+1,(pb.length:Int),nm⟩=l1 at *
    generalize wrtN l n b ⟨1,n+1,(pb.length:Int),nm⟩=n1 at *
    generalize wrtB l n b ⟨1,n+1,(pb.length:Int),nm⟩=b1 at *
    by_cases hg:apG l1 (n+1) 0=true
    · simp only [hg,if_true,Bool.true_eq_false,not_true_eq_false,not_false_eq_true,if_false,show ¬ (17:Int)=0 by decide] at hc hq ⊢
      subst hc hq
      (repeat' (first|refine And.intro ?_ ?_|intro _))<;>first|omega|exact True.intro|exact False.elim ‹False›|skip
      all_goals first|omega|assumption|rfl|trace_state
    · simp only [hg,if_false,Bool.false_eq_true] at hc hq ⊢
      have h4:=zbO h1 b1 ⟨2,n+1,0,pb⟩
      have h5:=Zc (l:=l1) (n:=n1) (b:=b1) (e:=⟨2,n+1,0,pb⟩) (show(2:Int)≠1 by decide)
      have h6:=YQ (l:=l1) (n:=n1) (b:=b1) ⟨2,n+1,0,pb⟩ h3
      by_cases ha:wrtC l1 n1 b1 ⟨2,n+1,0,pb⟩=0
      · simp only [ha,not_true_eq_false,if_false,if_true] at hc hq ⊢
        subst hc hq
        (repeat' (first|refine And.intro ?_ ?_|intro _))<;>first|omega|exact True.intro|exact False.elim ‹False›|skip
        all_goals first|omega|assumption|rfl|trace_state
      · simp only [ha,not_false_eq_true,if_false,if_true] at hc hq ⊢
        subst hc hq
        (repeat' (first|refine And.intro ?_ ?_|intro _))<;>first|omega|exact True.intro|exact False.elim ‹False›|skip
        all_goals first|omega|assumption|rfl|trace_state
  · simp only [hw,ne_eq,not_true_eq_false,not_false_eq_true,if_true,if_false] at hc hq ⊢
    subst hc hq
    (repeat' (first|refine And.intro ?_ ?_|intro _))<;>first|omega|exact True.intro|exact False.elim ‹False›|skip
    all_goals first|omega|assumption|rfl|contradiction|trace_state
def QH (I:Alg) (args:List D) (hp:List HO):Option CT:=match args,hp with
  |[.v (.one (.ptr 0 0)),.v (.agg [(.p (.str pn)),(.p (.str pf)),(.p (.str pt)),(.p (.nl pb))])],[.obj 57 [(.ptr 1 0),(.ptr 2 0),(.ptr 3 0),(.ptr 4 0),(.ptr 5 0)],.pack [.obj 41 [(.ptr 1 0),(.ptr 2 0)],.pack [.obj 88 [(.row 1),(.p (.int .i64 n))],.row .upl 86 l],.pack [.obj 118 [(.row 1),(.p (.int .i64 s))],.row .byte 5 b]],.abs (.cn c0),.abs (.cn c1),.abs (.cn c2),.abs (.cn c3)]=>(fun(l:List Upl) (n:Int) (b:Str) (s:Int) (c0 c1 c2 c3:Cn) (pn pf pt pb:Str)=>(some (.one ⟨I.hid (zF l n∧n≤200000 - 1∧b.length≤100000∧pf.length≤100000∧pb.length≤100000),(.ret (.tup [(.one (.p (.int .i64 (I.hid ((if zaU ⟨l,n,b,s⟩ ⟨pn,pf,pt,pb⟩=0 then n+1 else 0)))))),(.one (.p (.int .i64 (I.hid ((zaU ⟨l,n,b,s⟩ ⟨pn,pf,pt,pb⟩))))))])),[.obj 57 [(.ptr 1 0),(.ptr 2 0),(.ptr 3 0),(.ptr 4 0),(.ptr 5 0)],.pack [.obj 41 [(.ptr 1 0),(.ptr 2 0)],.pack [.obj 88 [(.row 1),(.p (.int .i64 (I.hid ((sF ⟨l,n,b,s⟩ ⟨pn,pf,pt,pb⟩).n))))],.row .upl 86 (I.hid ((sF ⟨l,n,b,s⟩ ⟨pn,pf,pt,pb⟩).l))],.pack [.obj 118 [(.row 1),(.p (.int .i64 (I.hid ((sF ⟨l,n,b,s⟩ ⟨pn,pf,pt,pb⟩).s))))],.row .byte 5 (I.hid ((sF ⟨l,n,b,s⟩ ⟨pn,pf,pt,pb⟩).b))]],.abs (.cn c0),.abs (.cn c1),.abs (.cn c2),.abs (.cn c3)]⟩):Option CT)) l n b s c0 c1 c2 c3 pn pf pt pb
  |_,_=>none
theorem zjK:zx Tryz.prog 125 (QH alg):=by
  intro args hp r h
  unfold QH at h
  split at h
  · cases h;exact fun hn=>zv6 _ _ _ _ _ _ _ _ _ _ _ _ hn
  · cases h
def QG:Know Tryz.prog:=⟨125,QH,zjK⟩
def QF:Know Tryz.prog:=⟨125,fun I=>zy I (QH I),zf zjK⟩
end Go.Proofs.YtmkcejdibmilmaaGreatDoor
namespace Go.Proofs.YtmkcejdibmilmaaGreatDoor
open Go Go.Sep Go.Ab
set_option maxRecDepth 100000
theorem Yz (f:List Fld) (body:Str):(sO f body).1.length≤12∧(∀ p ∈ (sO f body).1,p.file.length≤40)∧prtZ (sO f body).1≤1000+2 * body.length:=by
  have h0:([]:List Prt).length≤12∧(∀ p ∈ ([]:List Prt),p.file.length≤40)∧prtZ ([]:List Prt)≤1000+2 * body.length:=⟨by decide,(fun p h=>by cases h),by simp [prtZ]⟩
  unfold sO
  split
  · exact h0
  · split
    · exact h0
    · split
      · exact h0
      · exact zg7 _ _
theorem zkW {ps:List Prt} {i:Nat} (h:i<ps.length):X3 (ps.drop i)=(((ps.getD i ⟨[],[],[],[]⟩).bytes.length:Int)+200)+X3 (ps.drop (i+1)):=by
  rw [List.drop_eq_getElem_cons h,X3];simp [h]
theorem zhE {q:Sto} {ids:List Int} {t:Str} {ps:List Prt} {i:Nat} (h:i<ps.length):qm q ids t (ps.drop i)=(if(ps.getD i ⟨[],[],[],[]⟩).file=[] then qm q ids t (ps.drop (i+1)) else if zaU q (ps.getD i ⟨[],[],[],[]⟩)≠0 then⟨YP (if zaU q (ps.getD i ⟨[],[],[],[]⟩)=4 then 413 else 507),syS (Un (sF q (ps.getD i ⟨[],[],[],[]⟩)) ids)⟩ else qm (sF q (ps.getD i ⟨[],[],[],[]⟩)) (ids++[q.n+1]) (zlZ t (q.n+1) (ps.getD i ⟨[],[],[],[]⟩)) (ps.drop (i+1))):=by
  have e:ps.getD i ⟨[],[],[],[]⟩=ps[i]:=by simp [h]
  rw [e,List.drop_eq_getElem_cons h,qm]
theorem zhL {q:Sto} {ids:List Int} {j:Nat} (h:j<ids.length):Un q (ids.drop j)=Un (wsS q (zbL (ids.getD j 0))) (ids.drop (j+1)):=by
  have e:ids.getD j 0=ids[j]:=by simp [h]
  rw [e,List.drop_eq_getElem_cons h,Un]
theorem zqI {q:Sto} (hs:zF q.l q.n) (hb:q.b.length≤100000) (p:Prt):zF (sF q p).l (sF q p).n∧(sF q p).b.length≤100000∧q.n≤(sF q p).n∧(sF q p).n≤q.n+1∧(sF q p).s=q.s:=by
  have hw: ∀ {x:Sto} (e:Ent),zF x.l x.n→x.b.length≤100000→zF (wsS x e).l (wsS x e).n∧(wsS x e).b.length≤100000:=fun e h1 h2=>⟨zbO h1 _ _,YQ _ h2⟩
  have h1:=hw (ru q p) hs hb
  have n1:=zr7 q (ru q p)
  have h2:zF (apQ (wsS q (ru q p)) (q.n+1) 0 p.bytes).l (apQ (wsS q (ru q p)) (q.n+1) 0 p.bytes).n∧(apQ (wsS q (ru q p)) (q.n+1) 0 p.bytes).b.length≤100000:=by
    unfold apQ
    split
    · exact h1
    · exact hw _ h1.1 h1.2
  have n2:(apQ (wsS q (ru q p)) (q.n+1) 0 p.bytes).n=(wsS q (ru q p)).n:=by
    unfold apQ
    split
    · rfl
    · exact Zc (show(2:Int)≠1 by decide)
  have s2:(apQ (wsS q (ru q p)) (q.n+1) 0 p.bytes).s=q.s:=by unfold apQ;split<;>rfl
  unfold sF
  split
  · exact⟨h1.1,h1.2,n1.1,n1.2,rfl⟩
  · split
    · have n3:(wsS (apQ (wsS q (ru q p)) (q.n+1) 0 p.bytes) (zbL (q.n+1))).n=(apQ (wsS q (ru q p)) (q.n+1) 0 p.bytes).n:=Zc (show(4:Int)≠1 by decide)
      have h3:=hw (zbL (q.n+1)) h2.1 h2.2
      exact⟨h3.1,h3.2,by rw [n3,n2];exact n1.1,by rw [n3,n2];exact n1.2,s2⟩
    · exact⟨h2.1,h2.2,by rw [n2];exact n1.1,by rw [n2];exact n1.2,s2⟩
theorem zi8: ∀ P:List Prt,0≤X3 P
  |[]=>Int.le_refl 0
  |p::r=>by have:=zi8 r;simp only [X3];omega
theorem zi9: ∀ P:List Prt,X3 P≤prtZ P+200 * P.length
  |[]=>by simp [X3]
  | p::r=>by
    have:=zi9 r
    simp only [X3,prtZ,List.map_cons,List.sum_cons,List.length_cons] at this ⊢
    omega
theorem Ug: ∀ (P:List Prt) (q:Sto) (ids:List Int) (t:Str),(qm q ids t P).r.fields=[]
  |[],_,_,_=>rfl
  | p ::r,q,ids,t=>by
    unfold qm
    split
    · exact Ug r _ _ _
    · split
      · rfl
      · exact Ug r _ _ _
set_option maxHeartbeats 1000000 in
theorem zv7 (l:List Upl) (n:Int) (b:Str) (s:Int) (c0 c1 c2 c3:Cn) (m t:Str) (mi:Int) (f:List Fld) (le:Int) (body:Str) (hneed:FOk f∧zF l n∧n≤200000 - 20∧b.length≤100000∧body.length≤30000):Spc Tryz.prog 89 [.v (.one (.ptr 0 0)),.v (.agg [(.p (.str m)),(.p (.str t)),(.p (.int .i64 mi)),(.p (.list .fld f)),(.p (.int .i64 le))]),.v (.one (.p (.list .byte body)))] [.obj 57 [(.ptr 1 0),(.ptr 2 0),(.ptr 3 0),(.ptr 4 0),(.ptr 5 0)],.pack [.obj 41 [(.ptr 1 0),(.ptr 2 0)],.pack [.obj 88 [(.row 1),(.p (.int .i64 n))],.row .upl 86 l],.pack [.obj 118 [(.row 1),(.p (.int .i64 s))],.row .byte 5 b]],.abs (.cn c0),.abs (.cn c1),.abs (.cn c2),.abs (.cn c3)] (.ret (.v (.agg [(.p (.int .i64 ((Zv ⟨l,n,b,s⟩ f body).r.status))),(.p (.list .fld (([]:List Fld)))),(.p (.list .byte ((Zv ⟨l,n,b,s⟩ f body).r.body)))]))) [.obj 57 [(.ptr 1 0),(.ptr 2 0),(.ptr 3 0),(.ptr 4 0),(.ptr 5 0)],.pack [.obj 41 [(.ptr 1 0),(.ptr 2 0)],.pack [.obj 88 [(.row 1),(.p (.int .i64 ((Zv ⟨l,n,b,s⟩ f body).q.n)))],.row .upl 86 ((Zv ⟨l,n,b,s⟩ f body).q.l)],.pack [.obj 118 [(.row 1),(.p (.int .i64 ((Zv ⟨l,n,b,s⟩ f body).q.s)))],.row .byte 5 ((Zv ⟨l,n,b,s⟩ f body).q.b)]],.abs (.cn c0),.abs (.cn c1),.abs (.cn c2),.abs (.cn c3)]:=by
  obtain⟨hf,hs,hn,hb,hbo⟩:=hneed
  have hsm:=Yz f body
  generalize hr:Zv ⟨l,n,b,s⟩ f body=r
  obtain⟨⟨st,fs,bd⟩,⟨l',n',b',s'⟩⟩:=r
  unfold Zv at hr
  refine spcG zh mixed Tryz.func89 (by kernel_rfl) { cfgG with nr:=[12],keep:=some [0,1,2,4,6,7,8,9,11,12,13,15,16,17,19,30,31,32,51,52,53,68,69,70]} [wJ,wI,zO,zN,xg,y9,Wi,Wh,ul,uj,VH,VG,QG,QF] (by kernel_rfl) ?_
  intro I X hI hX
  refine orcL ?_;go_invoke;refine orcS (by kernel_rfl) ?_
  simp only [zi,Nat.reduceAdd]
  have hh: ∀ {α:Type} (y:α),I.hid y=y:=fun y=>by subst hI;rfl
  simp only [hh]
  generalize sO f body=Z at *
  obtain⟨ps,code⟩:=Z
  (repeat' (first|refine And.intro ?_ ?_|intro _))
  all_goals try(subst hI;(simp only [nrmA,nrmB,nrlB,reduceCtorEq,V0.agg.injEq,HO.pack.injEq,HO.obj.injEq] at *);first|done|exact hf.1|(exact(hf.2 _ ‹_›).1)|(exact(hf.2 _ ‹_›).2)|omega|(exact Nat.zero_le _)|(((repeat(first|rewrite [if_pos (by first|omega|assumption|(simp only [*,or_self,or_true,true_or,or_false,false_or,not_true_eq_false,not_false_eq_true,Bool.false_eq_true,Bool.true_eq_false,and_self,and_true,true_and];done)|(simp only [*];omega)|(simp [*];done)|(simp [*];omega))] at hr|rewrite [if_neg (by first|omega|assumption|(simp only [*,or_self,or_true,true_or,or_false,false_or,not_true_eq_false,not_false_eq_true,Bool.false_eq_true,Bool.true_eq_false,and_self,and_true,true_and];done)|(simp only [*];omega)|(simp [*];done)|(simp [*];omega))] at hr)));cases hr;simp [YP];done))
  have hco:code=0:=by
    subst hI
    simp only [nrmA,nrmB,nrlB,reduceCtorEq] at *
    omega
  rw [if_neg (by simp [hco])] at hr
  dsimp only at hr hsm
  have hrl:=zi9 ps
  refine zC hI zh mixed [wJ,wI,zO,zN,xg,y9,Wi,Wh,ul,uj,VH,VG,QG,QF] hX [0,6,7,9,30,31,32] (fun(g:Nat × Int)=>match g with|(i,r)=>i≤ps.length∧0≤r∧r+X3 (ps.drop i)=X3 ps) (fun(g:Nat × Int)=>match g with|(i,r)=>⟨[(0,.v (.one (.ptr 0 0))),(6,.v (.one (.ptr 6 0))),(7,.v (.one (.p (.list .prt ps)))),(9,.v (.one (.p (.int .i64 r)))),(30,.v (.one (.p (.list .prt ps)))),(31,.v (.one (.p (.int .i64 ((I.len (α:=Prt) ps)))))),(32,.v (.one (.p (.int .i64 i))))],[.obj 57 [(.ptr 1 0),(.ptr 2 0),(.ptr 3 0),(.ptr 4 0),(.ptr 5 0)],.pack [.obj 41 [(.ptr 1 0),(.ptr 2 0)],.pack [.obj 88 [(.row 1),(.p (.int .i64 n))],.row .upl 86 l],.pack [.obj 118 [(.row 1),(.p (.int .i64 s))],.row .byte 5 b]],.abs (.cn c0),.abs (.cn c1),.abs (.cn c2),.abs (.cn c3),.pack [.obj 107 [(.p (.int .i64 0)),.nilS,.nilS]]],111,none⟩) (fun(g:Nat × Int)=>match g with|(i,r)=>ps.length - i) (0,0) (by kernel_rfl) (by kernel_rfl) ?_ ?_
  · exact⟨Nat.zero_le _,Int.le_refl 0,by simp⟩
  rintro⟨i,r⟩ ⟨h1,h2,h3⟩ A hA
  simp only at hA h1 h2 h3
  have hd:=fun h=>zkW (ps:=ps) (i:=i) h
  have hnn:=zi8 (ps.drop (i+1))
  have hbl:=Int.natCast_nonneg (ps.getD i ⟨[],[],[],[]⟩).bytes.length
  have hend: ¬ i<ps.length→r=X3 ps:=fun h=>by rw [List.drop_of_length_le (by omega)] at h3;simp only [X3] at h3;omega
  refine orcL ?_;go_invoke;refine orcS (by kernel_rfl) ?_
  simp only [zi,Nat.reduceAdd]
  (repeat' (first|refine And.intro ?_ ?_|intro _))
  all_goals try(subst hI;(simp only [nrmA,nrmB,nrlB,reduceCtorEq,V0.agg.injEq,HO.pack.injEq,HO.obj.injEq] at *);first|done|omega|(exact Nat.zero_le _)|(have hd:=hd (by omega);omega)|(exact hA (i+1,_) ⟨by dsimp only;omega,by dsimp only;omega,by dsimp only;rw [hd (by omega)] at h3;omega⟩ (by dsimp only;omega))|(rw [hend (by omega)] at *;((repeat(first|rewrite [if_pos (by first|omega|assumption|(simp only [*,or_self,or_true,true_or,or_false,false_or,not_true_eq_false,not_false_eq_true,Bool.false_eq_true,Bool.true_eq_false,and_self,and_true,true_and];done)|(simp only [*];omega)|(simp [*];done)|(simp [*];omega))] at hr|rewrite [if_neg (by first|omega|assumption|(simp only [*,or_self,or_true,true_or,or_false,false_or,not_true_eq_false,not_false_eq_true,Bool.false_eq_true,Bool.true_eq_false,and_self,and_true,true_and];done)|(simp only [*];omega)|(simp [*];done)|(simp [*];omega))] at hr)));cases hr;simp [YP];done))
  have hil: ¬ i<ps.length:=by
    subst hI
    simp only [nrmA,nrmB,nrlB,reduceCtorEq] at *
    omega
  have hro:U0 b (X3 ps)=true:=by
    subst hI
    simp only [nrmA,nrmB,nrlB,reduceCtorEq] at *
    rw [hend hil] at *
    assumption
  rw [if_neg (by simp [hro])] at hr
  clear hA hd hnn hbl hend h3 h2 h1
  refine zC hI zh mixed [wJ,wI,zO,zN,xg,y9,Wi,Wh,ul,uj,VH,VG,QG,QF] hX [0,6,12,13,51,52,53] (fun(g:Nat × List Upl × Int × Str × List Int × Str)=>match g with|(i,l1,n1,b1,ids,t1)=>i≤ps.length∧qm ⟨l1,n1,b1,s⟩ ids t1 (ps.drop i)=⟨⟨st,fs,bd⟩,⟨l',n',b',s'⟩⟩∧zF l1 n1∧n1≤n+i∧b1.length≤100000∧ids.length≤i∧t1.length≤60 * i) (fun(g:Nat × List Upl × Int × Str × List Int × Str)=>match g with|(i,l1,n1,b1,ids,t1)=>⟨[(0,.v (.one (.ptr 0 0))),(6,.v (.one (.ptr 6 0))),(12,.v (.one (.row 7))),(13,.v (.one (.p (.str t1)))),(51,.v (.one (.p (.list .prt ps)))),(52,.v (.one (.p (.int .i64 ((I.len (α:=Prt) ps)))))),(53,.v (.one (.p (.int .i64 i))))],[.obj 57 [(.ptr 1 0),(.ptr 2 0),(.ptr 3 0),(.ptr 4 0),(.ptr 5 0)],.pack [.obj 41 [(.ptr 1 0),(.ptr 2 0)],.pack [.obj 88 [(.row 1),(.p (.int .i64 n1))],.row .upl 86 l1],.pack [.obj 118 [(.row 1),(.p (.int .i64 s))],.row .byte 5 b1]],.abs (.cn c0),.abs (.cn c1),.abs (.cn c2),.abs (.cn c3),.pack [.obj 107 [(.p (.int .i64 0)),.nilS,.nilS]],.row .int 3 ids],111,none⟩) (fun(g:Nat × List Upl × Int × Str × List Int × Str)=>match g with|(i,l1,n1,b1,ids,t1)=>ps.length - i) (0,l,n,b,[],[]) (by kernel_rfl) (by kernel_rfl) ?_ ?_
  · exact⟨Nat.zero_le _,hr,hs,by simp,hb,Nat.zero_le _,Nat.zero_le _⟩
  rintro⟨i,l1,n1,b1,ids,t1⟩ ⟨h1,h2,h3,h4,h5,h6,h7⟩ A hA
  simp only at hA h1 h2 h3 h4 h5 h6 h7
  have hx:i<ps.length→(ps.getD i ⟨[],[],[],[]⟩) ∈ ps:=fun h=>by rw [show ps.getD i ⟨[],[],[],[]⟩=ps[i] by simp [h]];exact List.getElem_mem h
  have hfd:=fun h=>zhE (q:=⟨l1,n1,b1,s⟩) (ids:=ids) (t:=t1) (ps:=ps) (i:=i) h
  have hend: ¬ i<ps.length→qm ⟨l1,n1,b1,s⟩ ids t1 (ps.drop i)=⟨⟨201,[],t1⟩,syS ⟨l1,n1,b1,s⟩⟩:=fun h=>by rw [List.drop_of_length_le (by omega)];rfl
  have hxf:i<ps.length→_:=fun h=>hsm.2.1 _ (hx h)
  have hxb:i<ps.length→_:=fun h=>zqq (hx h)
  have hql:=fun p=>zqI (q:=⟨l1,n1,b1,s⟩) h3 h5 p
  have hn0:=h3.n0
  have hdl:=uD (n1+1)
  refine orcL ?_;go_invoke;refine orcS (by kernel_rfl) ?_
  simp only [zi,Nat.reduceAdd]
  have e1:I.get ps ⟨[],[],[],[]⟩ (i:Int)=ps.getD i ⟨[],[],[],[]⟩:=by subst hI;first|rfl|simp
  simp only [e1]
  generalize ps.getD i ⟨[],[],[],[]⟩=x at *
  have e0:(⟨x.name,x.file,x.type,x.bytes⟩:Prt)=x:=rfl
  have hql:=hql x
  simp only [e0,hh]
  generalize zaU ⟨l1,n1,b1,s⟩ x=c at *
  generalize sF ⟨l1,n1,b1,s⟩ x=Y at *
  obtain⟨l2,n2,b2,s2⟩:=Y
  obtain⟨g1,g2,g3,g4,g5⟩:=hql
  dsimp only at g1 g2 g3 g4 g5 hfd
  obtain rfl:s=s2:=g5.symm
  (repeat' (first|refine And.intro ?_ ?_|intro _))
  all_goals try(subst hI;(simp only [nrmA,nrmB,nrlB,reduceCtorEq,V0.agg.injEq,HO.pack.injEq,HO.obj.injEq] at *);first|done|omega|(with_reducible assumption)|(have hxf:=hxf (by omega);have hxb:=hxb (by omega);first|omega|with_reducible assumption)|(rw [if_pos (by with_reducible assumption)];first|omega|(have hxf:=hxf (by omega);rw [List.length_append];simp only [List.length_cons,List.length_nil];omega))|(have hfd:=hfd (by omega);rw [h2] at hfd;((repeat(first|rewrite [if_pos (by first|omega|assumption|(simp only [*,or_self,or_true,true_or,or_false,false_or,not_true_eq_false,not_false_eq_true,Bool.false_eq_true,Bool.true_eq_false,and_self,and_true,true_and];done)|(simp only [*];omega)|(simp [*];done)|(simp [*];omega))] at hfd|rewrite [if_neg (by first|omega|assumption|(simp only [*,or_self,or_true,true_or,or_false,false_or,not_true_eq_false,not_false_eq_true,Bool.false_eq_true,Bool.true_eq_false,and_self,and_true,true_and];done)|(simp only [*];omega)|(simp [*];done)|(simp [*];omega))] at hfd)));exact hA (i+1,l1,n1,b1,ids,t1) ⟨by dsimp only;omega,hfd.symm,h3,by dsimp only;omega,h5,by dsimp only;omega,by dsimp only;omega⟩ (by dsimp only;omega))|(rw [if_pos (show c=0 by omega)];have hxf:=hxf (by omega);simp only [List.length_append,List.length_cons,List.length_nil];omega)|(rw [if_pos (show c=0 by omega)];have hxf:=hxf (by omega);have hfd:=hfd (by omega);rw [h2] at hfd;((repeat(first|rewrite [if_pos (by first|omega|assumption|(simp only [*,or_self,or_true,true_or,or_false,false_or,not_true_eq_false,not_false_eq_true,Bool.false_eq_true,Bool.true_eq_false,and_self,and_true,true_and];done)|(simp only [*];omega)|(simp [*];done)|(simp [*];omega))] at hfd|rewrite [if_neg (by first|omega|assumption|(simp only [*,or_self,or_true,true_or,or_false,false_or,not_true_eq_false,not_false_eq_true,Bool.false_eq_true,Bool.true_eq_false,and_self,and_true,true_and];done)|(simp only [*];omega)|(simp [*];done)|(simp [*];omega))] at hfd)));exact hA (i+1,l2,n2,b2,ids++[n1+1],t1++(decS (n1+1)++[32]++x.file++[10])) ⟨by dsimp only;omega,hfd.symm,g1,by dsimp only;omega,g2,by simp only [List.length_append,List.length_cons,List.length_nil];omega,by simp only [List.length_append,List.length_cons,List.length_nil];omega⟩ (by dsimp only;omega))|(rw [hend (by omega)] at h2;simp only [GA.mk.injEq,Rpl.mk.injEq,syS,Sto.mk.injEq] at h2;obtain⟨⟨rfl,rfl,rfl⟩,rfl,rfl,rfl,rfl⟩:=h2;simp))
  have hil:i<ps.length:=by
    subst hI
    simp only [nrmA,nrmB,nrlB,reduceCtorEq] at *
    omega
  have hc: ¬ c=0:=by
    subst hI
    simp only [nrmA,nrmB,nrlB,reduceCtorEq] at *
    first|omega|with_reducible assumption
  have hfi: ¬ x.file=[]:=by
    subst hI
    simp only [nrmA,nrmB,nrlB,reduceCtorEq] at *
    first|omega|with_reducible assumption
  have hfd:=hfd hil
  rw [h2,if_neg hfi,if_pos hc] at hfd
  generalize hD:Un ⟨l2,n2,b2,s⟩ ids=W at hfd
  clear hA hend hxf hxb hdl h2
  refine zC hI zh mixed [wJ,wI,zO,zN,xg,y9,Wi,Wh,ul,uj,VH,VG,QG,QF] hX [0,6,17,68,69,70] (fun(g:Nat × List Upl × Int × Str)=>match g with|(j,l3,n3,b3)=>j≤ids.length∧Un ⟨l3,n3,b3,s⟩ (ids.drop j)=W∧zF l3 n3∧n3≤200000∧b3.length≤100000) (fun(g:Nat × List Upl × Int × Str)=>match g with|(j,l3,n3,b3)=>⟨[(0,.v (.one (.ptr 0 0))),(6,.v (.one (.ptr 6 0))),(17,.v (.one (.p (.int .i64 c)))),(68,.v (.one (.row 7))),(69,.v (.one (.p (.int .i64 ((I.len (α:=Int) ids)))))),(70,.v (.one (.p (.int .i64 j))))],[.obj 57 [(.ptr 1 0),(.ptr 2 0),(.ptr 3 0),(.ptr 4 0),(.ptr 5 0)],.pack [.obj 41 [(.ptr 1 0),(.ptr 2 0)],.pack [.obj 88 [(.row 1),(.p (.int .i64 n3))],.row .upl 86 l3],.pack [.obj 118 [(.row 1),(.p (.int .i64 s))],.row .byte 5 b3]],.abs (.cn c0),.abs (.cn c1),.abs (.cn c2),.abs (.cn c3),.pack [.obj 107 [(.p (.int .i64 0)),.nilS,.nilS]],.row .int 3 ids],111,none⟩) (fun(g:Nat × List Upl × Int × Str)=>match g with|(j,l3,n3,b3)=>ids.length - j) (0,l2,n2,b2) (by kernel_rfl) (by kernel_rfl) ?_ ?_
  · exact⟨Nat.zero_le _,hD,g1,by omega,g2⟩
  rintro⟨j,l3,n3,b3⟩ ⟨k1,k2,k3,k4,k5⟩ B hB
  simp only at hB k1 k2 k3 k4 k5
  have hdd:=fun h=>zhL (q:=⟨l3,n3,b3,s⟩) (ids:=ids) (j:=j) h
  have hend: ¬ j<ids.length→(⟨l3,n3,b3,s⟩:Sto)=W:=fun h=>by rw [← k2,List.drop_of_length_le (by omega)];rfl
  have hfin: ¬ j<ids.length→st=(if c=4 then 413 else 507)∧[]=bd∧n3=n'∧l3=l'∧(b3.length:Int)=s'∧b3=b':=fun h=>by
    rw [← hend h] at hfd
    simp only [GA.mk.injEq,Rpl.mk.injEq,syS,Sto.mk.injEq,YP] at hfd
    obtain⟨⟨q1,q2,q3⟩,q4,q5,q6,q7⟩:=hfd
    exact⟨q1,q3.symm,q5.symm,q4.symm,q7.symm,q6.symm⟩
  refine orcL ?_;go_invoke;refine orcS (by kernel_rfl) ?_
  simp only [zi,Nat.reduceAdd]
  have e2:I.get ids 0 (j:Int)=ids.getD j 0:=by subst hI;first|rfl|simp
  simp only [e2]
  generalize ids.getD j 0=y at *
  have w1:=zbO k3 b3 (zbL y)
  have w2:wrtN l3 n3 b3 (zbL y)=n3:=Zc (show(4:Int)≠1 by decide)
  have w3:=YQ (l:=l3) (n:=n3) (b:=b3) (zbL y) k5
  unfold zbL at w1 w2 w3 hdd
  (repeat' (first|refine And.intro ?_ ?_|intro _))
  all_goals subst hI
  all_goals try simp only [nrmA,nrmB,nrlB,reduceCtorEq,V0.agg.injEq,HO.pack.injEq,HO.obj.injEq] at *
  all_goals first|omega|(with_reducible assumption)|(exact⟨k3,k4,k5⟩)|(exact Nat.zero_le _)|(have hdd:=hdd (by omega);rw [k2] at hdd;exact hB (j+1,wrtL l3 n3 b3 ⟨4,y,0,[]⟩,wrtN l3 n3 b3 ⟨4,y,0,[]⟩,wrtB l3 n3 b3 ⟨4,y,0,[]⟩) ⟨by dsimp only;omega,hdd.symm,w1,by dsimp only;omega,w3⟩ (by dsimp only;omega))|(obtain⟨q1,q2,q3,q4,q5,q6⟩:=hfin (by omega);first|(rw [if_pos (by with_reducible assumption)] at q1;exact⟨q1.symm,q2⟩)|(rw [if_neg (by with_reducible assumption)] at q1;exact⟨q1.symm,q2⟩)|exact⟨⟨q3,q4⟩,q5,q6⟩)|trace_state
def QI (I:Alg) (args:List D) (hp:List HO):Option CT:=match args,hp with
  |[.v (.one (.ptr 0 0)),.v (.agg [(.p (.str m)),(.p (.str t)),(.p (.int .i64 mi)),(.p (.list .fld f)),(.p (.int .i64 le))]),.v (.one (.p (.list .byte body)))],[.obj 57 [(.ptr 1 0),(.ptr 2 0),(.ptr 3 0),(.ptr 4 0),(.ptr 5 0)],.pack [.obj 41 [(.ptr 1 0),(.ptr 2 0)],.pack [.obj 88 [(.row 1),(.p (.int .i64 n))],.row .upl 86 l],.pack [.obj 118 [(.row 1),(.p (.int .i64 s))],.row .byte 5 b]],.abs (.cn c0),.abs (.cn c1),.abs (.cn c2),.abs (.cn c3)]=>(fun(l:List Upl) (n:Int) (b:Str) (s:Int) (c0 c1 c2 c3:Cn) (m t:Str) (mi:Int) (f:List Fld) (le:Int) (body:Str)=>(some (.one ⟨I.hid (FOk f∧zF l n∧n≤200000 - 20∧b.length≤100000∧body.length≤30000),(.ret (.v (.agg [(.p (.int .i64 (I.hid ((Zv ⟨l,n,b,s⟩ f body).r.status)))),(.p (.list .fld (I.hid (([]:List Fld))))),(.p (.list .byte (I.hid ((Zv ⟨l,n,b,s⟩ f body).r.body))))]))),[.obj 57 [(.ptr 1 0),(.ptr 2 0),(.ptr 3 0),(.ptr 4 0),(.ptr 5 0)],.pack [.obj 41 [(.ptr 1 0),(.ptr 2 0)],.pack [.obj 88 [(.row 1),(.p (.int .i64 (I.hid ((Zv ⟨l,n,b,s⟩ f body).q.n))))],.row .upl 86 (I.hid ((Zv ⟨l,n,b,s⟩ f body).q.l))],.pack [.obj 118 [(.row 1),(.p (.int .i64 (I.hid ((Zv ⟨l,n,b,s⟩ f body).q.s))))],.row .byte 5 (I.hid ((Zv ⟨l,n,b,s⟩ f body).q.b))]],.abs (.cn c0),.abs (.cn c1),.abs (.cn c2),.abs (.cn c3)]⟩):Option CT)) l n b s c0 c1 c2 c3 m t mi f le body
  |_,_=>none
theorem zjL:zx Tryz.prog 89 (QI alg):=by
  intro args hp r h
  unfold QI at h
  split at h
  · cases h;exact fun hn=>zv7 _ _ _ _ _ _ _ _ _ _ _ _ _ _ hn
  · cases h
def zqV:Know Tryz.prog:=⟨89,QI,zjL⟩
def zqU:Know Tryz.prog:=⟨89,fun I=>zy I (QI I),zf zjL⟩
end Go.Proofs.YtmkcejdibmilmaaGreatDoor
namespace Go.Proofs.YtmkcejdibmilmaaGreatDoor
open Go Go.Sep Go.Ab
set_option maxRecDepth 100000
def zrD:Cfg:= { sl:=[⟨165,0,.byte,some 5⟩]}
theorem zwB:Spc Tryz.prog 151 [] [] (.ret (.v (.one (.ptr 0 0)))) [.pack [.obj 189 [(.ptr 1 0),(.p (.int .i64 0)),(.p (.int .i64 0)),(.p (.int .i64 0)),(.p (.int .i64 0)),(.p (.int .i64 0))],.pack [.obj 165 [(.row 1),(.p (.bool false)),(.p (.int .i64 0))],.row .byte 5 ([])]]]:=by
  refine spcG zh mixed Tryz.func151 (by kernel_rfl) { zrD with keep:=some [0]} [QB,QA] (by kernel_rfl) ?_
  intro I X hI hX
  refine orcL ?_;go_invoke;refine orcS (by kernel_rfl) ?_
  simp only [zi,Nat.reduceAdd]
  subst hI
  exact⟨trivial,trivial,rfl⟩
def zaa (I:Alg) (args:List D) (hp:List HO):Option CT:=match args,hp with
  |[],[]=>(fun(_:Unit)=>(some (.one ⟨I.hid (True),(.ret (.v (.one (.ptr 0 0)))),[.pack [.obj 189 [(.ptr 1 0),(.p (.int .i64 0)),(.p (.int .i64 0)),(.p (.int .i64 0)),(.p (.int .i64 0)),(.p (.int .i64 0))],.pack [.obj 165 [(.row 1),(.p (.bool false)),(.p (.int .i64 0))],.row .byte 5 (I.hid ([]))]]]⟩):Option CT)) ()
  |_,_=>none
theorem zkl:zx Tryz.prog 151 (zaa alg):=by
  intro args hp r h
  unfold zaa at h
  split at h
  · cases h;exact fun hn=>zwB
  · cases h
def zkk:Know Tryz.prog:=⟨151,zaa,zkl⟩
def zkj:Know Tryz.prog:=⟨151,fun I=>zy I (zaa I),zf zkl⟩
theorem zuz (lb:Str) (lc:Bool) (lo p l a t c k:Int):Spc Tryz.prog 112 [.v (.one (.ptr 0 0)),.v (.one (.p (.int .i64 k)))] [.pack [.obj 189 [(.ptr 1 0),(.p (.int .i64 p)),(.p (.int .i64 l)),(.p (.int .i64 a)),(.p (.int .i64 t)),(.p (.int .i64 c))],.pack [.obj 165 [(.row 1),(.p (.bool lc)),(.p (.int .i64 lo))],.row .byte 5 lb]]] (.ret (.tup [(.one (.row 1)),(.one (.p (.bool false))),(.one (.p (.int .i64 k)))])) [.pack [.obj 189 [(.ptr 1 0),(.p (.int .i64 p)),(.p (.int .i64 l)),(.p (.int .i64 a)),(.p (.int .i64 t)),(.p (.int .i64 k))],.pack [.obj 165 [(.row 1),(.p (.bool lc)),(.p (.int .i64 lo))],.row .byte 5 lb]],.row .byte 5 ([])]:=by
  refine spcG zh mixed Tryz.func112 (by kernel_rfl) { zrD with nr:=[4],keep:=some [0,1,4,5,6]} [] (by kernel_rfl) ?_
  intro I X hI hX
  refine orcL ?_;go_invoke;refine orcS (by kernel_rfl) ?_
  simp only [zi,Nat.reduceAdd]
  subst hI
  simp only [nrmA,nrmB,nrlB,reduceCtorEq,HO.pack.injEq,HO.obj.injEq]
  try trivial
def UA (I:Alg) (args:List D) (hp:List HO):Option CT:=match args,hp with
  |[.v (.one (.ptr 0 0)),.v (.one (.p (.int .i64 k)))],[.pack [.obj 189 [(.ptr 1 0),(.p (.int .i64 p)),(.p (.int .i64 l)),(.p (.int .i64 a)),(.p (.int .i64 t)),(.p (.int .i64 c))],.pack [.obj 165 [(.row 1),(.p (.bool lc)),(.p (.int .i64 lo))],.row .byte 5 lb]]]=>(fun(lb:Str) (lc:Bool) (lo p l a t c k:Int)=>(some (.one ⟨I.hid (True),(.ret (.tup [(.one (.row 1)),(.one (.p (.bool false))),(.one (.p (.int .i64 k)))])),[.pack [.obj 189 [(.ptr 1 0),(.p (.int .i64 p)),(.p (.int .i64 l)),(.p (.int .i64 a)),(.p (.int .i64 t)),(.p (.int .i64 k))],.pack [.obj 165 [(.row 1),(.p (.bool lc)),(.p (.int .i64 lo))],.row .byte 5 lb]],.row .byte 5 (I.hid ([]))]⟩):Option CT)) lb lc lo p l a t c k
  |_,_=>none
theorem zgF:zx Tryz.prog 112 (UA alg):=by
  intro args hp r h
  unfold UA at h
  split at h
  · cases h;exact fun hn=>zuz _ _ _ _ _ _ _ _ _
  · cases h
def zo0:Know Tryz.prog:=⟨112,UA,zgF⟩
def zoZ:Know Tryz.prog:=⟨112,fun I=>zy I (UA I),zf zgF⟩
theorem zoY (s:Str) (hneed:s.length≤1000000):Spc Tryz.prog 146 [.v (.one (.p (.str s)))] [] (.ret (.tup [(.one (.p (.int .i64 ((if(Zi s).2 then(Zi s).1 else 0))))),(.one (.p (.int .i64 ((if(Zi s).2 then 0 else 7)))))])) []:=by
  generalize hr:Zi s=r
  obtain⟨n,ok⟩:=r
  unfold Zi at hr
  have hl:=(zee s 59).1
  refine spcG zh mixed Tryz.func146 (by kernel_rfl) { keep:=some [0,2,3,4,7,8]} [UD,UC,zmC,zmB,zek,zej] (by kernel_rfl) ?_
  intro I X hI hX
  refine orcL ?_;go_invoke;refine orcS (by kernel_rfl) ?_
  simp only [zi,Nat.reduceAdd]
  subst hI
  simp only [nrmA,nrmB,nrlB,reduceCtorEq]
  rw [hr]
  cases ok
  all_goals(repeat' (first|refine And.intro ?_ ?_|intro _))<;>first|omega|exact True.intro|exact False.elim ‹False›|skip
  all_goals first
    |exact hneed
    |trivial
    |omega
    |(simp at *;done)
def ZX (I:Alg) (args:List D) (hp:List HO):Option CT:=match args,hp with
  |[.v (.one (.p (.str s)))],[]=>(fun(s:Str)=>(some (.one ⟨I.hid (s.length≤1000000),(.ret (.tup [(.one (.p (.int .i64 (I.hid ((if(Zi s).2 then(Zi s).1 else 0)))))),(.one (.p (.int .i64 (I.hid ((if(Zi s).2 then 0 else 7))))))])),[]⟩):Option CT)) s
  |_,_=>none
theorem zbq:zx Tryz.prog 146 (ZX alg):=by
  intro args hp r h
  unfold ZX at h
  split at h
  · cases h;exact fun hn=>zoY _ hn
  · cases h
def zhP:Know Tryz.prog:=⟨146,ZX,zbq⟩
def zhO:Know Tryz.prog:=⟨146,fun I=>zy I (ZX I),zf zbq⟩
set_option maxHeartbeats 4000000 in
theorem zux (lb:Str) (lc:Bool) (lo p l a t c:Int) (s:Str) (hneed:s.length≤1000000∧(0≤a∧a≤1000000)∧0≤t∧t≤1000000):Spc Tryz.prog 113 [.v (.one (.ptr 0 0)),.v (.one (.p (.str s)))] [.pack [.obj 189 [(.ptr 1 0),(.p (.int .i64 p)),(.p (.int .i64 l)),(.p (.int .i64 a)),(.p (.int .i64 t)),(.p (.int .i64 c))],.pack [.obj 165 [(.row 1),(.p (.bool lc)),(.p (.int .i64 lo))],.row .byte 5 lb]]] (.ret (.v (.one (.p (.int .i64 ((chL ⟨⟨lb,lc,lo⟩,p,l,a,t,c⟩ s).2)))))) [.pack [.obj 189 [(.ptr 1 0),(.p (.int .i64 ((chL ⟨⟨lb,lc,lo⟩,p,l,a,t,c⟩ s).1.pos))),(.p (.int .i64 ((chL ⟨⟨lb,lc,lo⟩,p,l,a,t,c⟩ s).1.left))),(.p (.int .i64 ((chL ⟨⟨lb,lc,lo⟩,p,l,a,t,c⟩ s).1.all))),(.p (.int .i64 ((chL ⟨⟨lb,lc,lo⟩,p,l,a,t,c⟩ s).1.tails))),(.p (.int .i64 c))],.pack [.obj 165 [(.row 1),(.p (.bool lc)),(.p (.int .i64 lo))],.row .byte 5 lb]]]:=by
  obtain⟨hs,⟨ha0,ha1⟩,ht0,ht1⟩:=hneed
  generalize hr:chL ⟨⟨lb,lc,lo⟩,p,l,a,t,c⟩ s=r
  unfold chL at hr
  simp only at hr
  have hsz:=TW s
  have hsz2:(Zi s).2=false∨(Zi s).2=true:=by cases(Zi s).2<;>simp
  obtain⟨⟨⟨rb,rc,ro⟩,rp,rl,ra,rt,rc2⟩,re⟩:=r
  refine spcG zh mixed Tryz.func113 (by kernel_rfl) { zrD with keep:=some [0,1,4,5,6,8,12]} [Vp,Vo,zhP,zhO] (by kernel_rfl) ?_
  intro I X hI hX
  refine orcL ?_;go_invoke;refine orcS (by kernel_rfl) ?_
  simp only [zi,Nat.reduceAdd]
  subst hI
  simp only [nrmA,nrmB,nrlB,reduceCtorEq,HO.pack.injEq,HO.obj.injEq]
  generalize Zi s=z at *
  obtain⟨n,ok⟩:=z
  simp only at *
  cases ok
  all_goals simp only [Bool.false_eq_true,if_false,if_true] at *
  all_goals(repeat' (first|refine And.intro ?_ ?_|intro _))<;>first|omega|exact True.intro|exact False.elim ‹False›|skip
  all_goals first
    |exact hs
    |omega
    |(exfalso;simp at *;done)
    |(((repeat(first|rewrite [if_pos (by first|omega|assumption|(simp only [*,or_self,or_true,true_or,or_false,false_or,not_true_eq_false,not_false_eq_true,Bool.false_eq_true,Bool.true_eq_false,and_self,and_true,true_and];done)|(simp only [*];omega)|(simp [*];done)|(simp [*];omega))] at hr|rewrite [if_neg (by first|omega|assumption|(simp only [*,or_self,or_true,true_or,or_false,false_or,not_true_eq_false,not_false_eq_true,Bool.false_eq_true,Bool.true_eq_false,and_self,and_true,true_and];done)|(simp only [*];omega)|(simp [*];done)|(simp [*];omega))] at hr)));cases hr;first|rfl|done|with_reducible assumption|exact⟨rfl,rfl,rfl⟩|(simp;done)|(simp;omega))
def Uw (I:Alg) (args:List D) (hp:List HO):Option CT:=match args,hp with
  |[.v (.one (.ptr 0 0)),.v (.one (.p (.str s)))],[.pack [.obj 189 [(.ptr 1 0),(.p (.int .i64 p)),(.p (.int .i64 l)),(.p (.int .i64 a)),(.p (.int .i64 t)),(.p (.int .i64 c))],.pack [.obj 165 [(.row 1),(.p (.bool lc)),(.p (.int .i64 lo))],.row .byte 5 lb]]]=>(fun(lb:Str) (lc:Bool) (lo p l a t c:Int) (s:Str)=>(some (.one ⟨I.hid (s.length≤1000000∧(0≤a∧a≤1000000)∧0≤t∧t≤1000000),(.ret (.v (.one (.p (.int .i64 (I.hid ((chL ⟨⟨lb,lc,lo⟩,p,l,a,t,c⟩ s).2))))))),[.pack [.obj 189 [(.ptr 1 0),(.p (.int .i64 (I.hid ((chL ⟨⟨lb,lc,lo⟩,p,l,a,t,c⟩ s).1.pos)))),(.p (.int .i64 (I.hid ((chL ⟨⟨lb,lc,lo⟩,p,l,a,t,c⟩ s).1.left)))),(.p (.int .i64 (I.hid ((chL ⟨⟨lb,lc,lo⟩,p,l,a,t,c⟩ s).1.all)))),(.p (.int .i64 (I.hid ((chL ⟨⟨lb,lc,lo⟩,p,l,a,t,c⟩ s).1.tails)))),(.p (.int .i64 c))],.pack [.obj 165 [(.row 1),(.p (.bool lc)),(.p (.int .i64 lo))],.row .byte 5 lb]]]⟩):Option CT)) lb lc lo p l a t c s
  |_,_=>none
theorem zgD:zx Tryz.prog 113 (Uw alg):=by
  intro args hp r h
  unfold Uw at h
  split at h
  · cases h;exact fun hn=>zux _ _ _ _ _ _ _ _ _ hn
  · cases h
def zoX:Know Tryz.prog:=⟨113,Uw,zgD⟩
def zoW:Know Tryz.prog:=⟨113,fun I=>zy I (Uw I),zf zgD⟩
theorem zkm (s:Ch) (t:Str):(chL s t).1.ln=s.ln∧(chL s t).1.code=s.code:=by
  unfold chL
  split
  · split<;>exact⟨rfl,rfl⟩
  split
  · split
    · exact⟨rfl,rfl⟩
    split
    · exact⟨rfl,rfl⟩
    split<;>exact⟨rfl,rfl⟩
  split
  · split
    · exact⟨rfl,rfl⟩
    split<;>exact⟨rfl,rfl⟩
  · exact⟨rfl,rfl⟩
set_option maxHeartbeats 8000000 in
theorem zuy (lb:Str) (lc:Bool) (lo p l a t c k:Int) (hneed:(0≤k∧k≤255)∧lb.length≤1000000∧(-1000000≤l∧l≤100000000)∧(0≤a∧a≤1000000)∧0≤t∧t≤1000000):Spc Tryz.prog 83 [.v (.one (.ptr 0 0)),.v (.one (.p (.int .u8 k)))] [.pack [.obj 189 [(.ptr 1 0),(.p (.int .i64 p)),(.p (.int .i64 l)),(.p (.int .i64 a)),(.p (.int .i64 t)),(.p (.int .i64 c))],.pack [.obj 165 [(.row 1),(.p (.bool lc)),(.p (.int .i64 lo))],.row .byte 5 lb]]] (.ret (.tup [(.one (.row 1)),(.one (.p (.bool ((chF ⟨⟨lb,lc,lo⟩,p,l,a,t,c⟩ (UInt8.ofNat k.toNat)).2.2.1)))),(.one (.p (.int .i64 ((chF ⟨⟨lb,lc,lo⟩,p,l,a,t,c⟩ (UInt8.ofNat k.toNat)).2.2.2))))])) [.pack [.obj 189 [(.ptr 1 0),(.p (.int .i64 ((chF ⟨⟨lb,lc,lo⟩,p,l,a,t,c⟩ (UInt8.ofNat k.toNat)).1.pos))),(.p (.int .i64 ((chF ⟨⟨lb,lc,lo⟩,p,l,a,t,c⟩ (UInt8.ofNat k.toNat)).1.left))),(.p (.int .i64 ((chF ⟨⟨lb,lc,lo⟩,p,l,a,t,c⟩ (UInt8.ofNat k.toNat)).1.all))),(.p (.int .i64 ((chF ⟨⟨lb,lc,lo⟩,p,l,a,t,c⟩ (UInt8.ofNat k.toNat)).1.tails))),(.p (.int .i64 ((chF ⟨⟨lb,lc,lo⟩,p,l,a,t,c⟩ (UInt8.ofNat k.toNat)).1.code)))],.pack [.obj 165 [(.row 1),(.p (.bool ((chF ⟨⟨lb,lc,lo⟩,p,l,a,t,c⟩ (UInt8.ofNat k.toNat)).1.ln.cr))),(.p (.int .i64 ((chF ⟨⟨lb,lc,lo⟩,p,l,a,t,c⟩ (UInt8.ofNat k.toNat)).1.ln.code)))],.row .byte 5 ((chF ⟨⟨lb,lc,lo⟩,p,l,a,t,c⟩ (UInt8.ofNat k.toNat)).1.ln.b)]],.row .byte 5 ((chF ⟨⟨lb,lc,lo⟩,p,l,a,t,c⟩ (UInt8.ofNat k.toNat)).2.1)]:=by
  obtain⟨⟨hk0,hk1⟩,hlb,⟨hl0,hl1⟩,⟨ha0,ha1⟩,ht0,ht1⟩:=hneed
  generalize hr:chF ⟨⟨lb,lc,lo⟩,p,l,a,t,c⟩ (UInt8.ofNat k.toNat)=r
  unfold chF at hr
  simp only at hr
  have hkeep:=zkm ⟨(lnF ⟨lb,lc,lo⟩ (UInt8.ofNat k.toNat)).1,p,l,a,t,c⟩ (lnF ⟨lb,lc,lo⟩ (UInt8.ofNat k.toNat)).2.1
  have hlen:=YC ⟨lb,lc,lo⟩ (UInt8.ofNat k.toNat)
  obtain⟨⟨⟨rb,rc,ro⟩,rp,rl,ra,rt,rc2⟩,rd,ris,re⟩:=r
  refine spcG zh mixed Tryz.func83 (by kernel_rfl) { zrD with nr:=[4],keep:=some [0,1,4,5,6,7,8,9]} [rX,rW,zo0,zoZ,zoX,zoW] (by kernel_rfl) ?_
  intro I X hI hX
  refine orcL ?_;go_invoke;refine orcS (by kernel_rfl) ?_
  simp only [zi,Nat.reduceAdd]
  subst hI
  simp only [nrmA,nrmB,nrlB,reduceCtorEq,HO.pack.injEq,HO.obj.injEq]
  generalize lnF ⟨lb,lc,lo⟩ (UInt8.ofNat k.toNat)=q at *
  obtain⟨⟨qb,qc,qo⟩,qs,qis,qe⟩:=q
  simp only at *
  generalize chL ⟨⟨qb,qc,qo⟩,p,l,a,t,c⟩ qs=z at *
  obtain⟨⟨⟨zb,zc,zo⟩,zp,zl,za,zt,zk⟩,ze⟩:=z
  simp only [Ln.mk.injEq] at *
  obtain⟨⟨rfl,rfl,rfl⟩,rfl⟩:=hkeep
  cases qis
  all_goals simp only [Bool.false_eq_true,if_false,if_true] at *
  all_goals(repeat' (first|refine And.intro ?_ ?_|intro _))<;>first|omega|exact True.intro|exact False.elim ‹False›|skip
  all_goals first
    |omega
    |(exfalso;simp at *;done)
    |(((repeat(first|rewrite [if_pos (by first|omega|assumption|(simp only [*,or_self,or_true,true_or,or_false,false_or,not_true_eq_false,not_false_eq_true,Bool.false_eq_true,Bool.true_eq_false,and_self,and_true,true_and];done)|(simp only [*];omega)|(simp [*];done)|(simp [*];omega))] at hr|rewrite [if_neg (by first|omega|assumption|(simp only [*,or_self,or_true,true_or,or_false,false_or,not_true_eq_false,not_false_eq_true,Bool.false_eq_true,Bool.true_eq_false,and_self,and_true,true_and];done)|(simp only [*];omega)|(simp [*];done)|(simp [*];omega))] at hr)));cases hr;first|rfl|done|with_reducible assumption|exact⟨rfl,rfl,rfl⟩|(simp;done)|(simp;omega))
def Uz (I:Alg) (args:List D) (hp:List HO):Option CT:=match args,hp with
  |[.v (.one (.ptr 0 0)),.v (.one (.p (.int .u8 k)))],[.pack [.obj 189 [(.ptr 1 0),(.p (.int .i64 p)),(.p (.int .i64 l)),(.p (.int .i64 a)),(.p (.int .i64 t)),(.p (.int .i64 c))],.pack [.obj 165 [(.row 1),(.p (.bool lc)),(.p (.int .i64 lo))],.row .byte 5 lb]]]=>(fun(lb:Str) (lc:Bool) (lo p l a t c k:Int)=>(some (.one ⟨I.hid ((0≤k∧k≤255)∧lb.length≤1000000∧(-1000000≤l∧l≤100000000)∧(0≤a∧a≤1000000)∧0≤t∧t≤1000000),(.ret (.tup [(.one (.row 1)),(.one (.p (.bool (I.hid ((chF ⟨⟨lb,lc,lo⟩,p,l,a,t,c⟩ (UInt8.ofNat k.toNat)).2.2.1))))),(.one (.p (.int .i64 (I.hid ((chF ⟨⟨lb,lc,lo⟩,p,l,a,t,c⟩ (UInt8.ofNat k.toNat)).2.2.2)))))])),[.pack [.obj 189 [(.ptr 1 0),(.p (.int .i64 (I.hid ((chF ⟨⟨lb,lc,lo⟩,p,l,a,t,c⟩ (UInt8.ofNat k.toNat)).1.pos)))),(.p (.int .i64 (I.hid ((chF ⟨⟨lb,lc,lo⟩,p,l,a,t,c⟩ (UInt8.ofNat k.toNat)).1.left)))),(.p (.int .i64 (I.hid ((chF ⟨⟨lb,lc,lo⟩,p,l,a,t,c⟩ (UInt8.ofNat k.toNat)).1.all)))),(.p (.int .i64 (I.hid ((chF ⟨⟨lb,lc,lo⟩,p,l,a,t,c⟩ (UInt8.ofNat k.toNat)).1.tails)))),(.p (.int .i64 (I.hid ((chF ⟨⟨lb,lc,lo⟩,p,l,a,t,c⟩ (UInt8.ofNat k.toNat)).1.code))))],.pack [.obj 165 [(.row 1),(.p (.bool (I.hid ((chF ⟨⟨lb,lc,lo⟩,p,l,a,t,c⟩ (UInt8.ofNat k.toNat)).1.ln.cr)))),(.p (.int .i64 (I.hid ((chF ⟨⟨lb,lc,lo⟩,p,l,a,t,c⟩ (UInt8.ofNat k.toNat)).1.ln.code))))],.row .byte 5 (I.hid ((chF ⟨⟨lb,lc,lo⟩,p,l,a,t,c⟩ (UInt8.ofNat k.toNat)).1.ln.b))]],.row .byte 5 (I.hid ((chF ⟨⟨lb,lc,lo⟩,p,l,a,t,c⟩ (UInt8.ofNat k.toNat)).2.1))]⟩):Option CT)) lb lc lo p l a t c k
  |_,_=>none
theorem zgE:zx Tryz.prog 83 (Uz alg):=by
  intro args hp r h
  unfold Uz at h
  split at h
  · cases h;exact fun hn=>zuy _ _ _ _ _ _ _ _ _ hn
  · cases h
def Uy:Know Tryz.prog:=⟨83,Uz,zgE⟩
def Ux:Know Tryz.prog:=⟨83,fun I=>zy I (Uz I),zf zgE⟩
end Go.Proofs.YtmkcejdibmilmaaGreatDoor
namespace Go.Proofs.YtmkcejdibmilmaaGreatDoor
open Go Go.Sep Go.Ab
set_option maxRecDepth 100000
theorem znC: ∀ (s:Str) (n:Int),0≤n→(numG 16 n s).1+1≤(n+1) * 16 ^ s.length
  |[],n,h=>by simp [numG]
  | c ::l,n,h=>by
    have h16:(0:Int)<16 ^ l.length:=Int.pow_pos (by decide)
    have e:((n+1) * 16 ^ (c::l).length:Int)=((n+1) * 16) * 16 ^ l.length:=by rw [List.length_cons,Int.pow_succ,Int.mul_assoc,Int.mul_comm (16 ^ l.length) 16]
    rw [e,numG]
    split
    · have h1:(1:Int) * 1≤((n+1) * 16) * 16 ^ l.length:=Int.mul_le_mul (by omega) (by omega) (by decide) (by omega)
      simpa using h1
    · rename_i hc
      have h2:=znC l (n * 16+hexK c.toNat) (by omega)
      exact Int.le_trans h2 (Int.mul_le_mul_of_nonneg_right (by omega) (by omega))
theorem zpT (t:Str):(Zi t).1≤16777215:=by
  unfold Zi numA
  split
  · exact by decide
  · rename_i h
    have h1:=znC (Lib.trimS (cutB t 59).1 [32,9]) 0 (Int.le_refl _)
    have h2:(Lib.trimS (cutB t 59).1 [32,9]).length≤6:=by omega
    have h3:(16:Int) ^ (Lib.trimS (cutB t 59).1 [32,9]).length≤16 ^ 6:=by
      have:=Nat.pow_le_pow_right (show 0<16 by decide) h2
      exact_mod_cast this
    have h4:(16:Int) ^ 6=16777216:=by decide
    omega
structure ChI (s:Ch) (i:Nat):Prop where
  b:s.ln.b.length≤i
  a0:0≤s.all
  a1:s.all≤i
  t0:0≤s.tails
  t1:s.tails≤i
  l0: -(i:Int)≤s.left
  l1:s.left≤16777215
theorem zwC:ChI ch0 0:=⟨by decide,by decide,by decide,by decide,by decide,by decide,by decide⟩
theorem zxs {s:Ch} {i:Nat} (h:ChI s i) (c:UInt8):ChI (chF s c).1 (i+1):=by
  have hb:=zqG s.ln c
  have h0:=h
  obtain⟨h1,h2,h3,h4,h5,h6,h7⟩:=h
  unfold chF
  split
  · exact⟨by show s.ln.b.length≤i+1;omega,h2,by show s.all≤_;omega,h4,by show s.tails≤_;omega,by show _≤s.left;omega,h7⟩
  split
  · constructor<;>simp only<;>omega
  split
  · constructor<;>simp only<;>omega
  split
  · constructor<;>simp only<;>omega
  split
  · have hl: ∀ t,(chL { s with ln:=(lnF s.ln c).1} t).1.ln=(lnF s.ln c).1:=fun t=>(zkm _ _).1
    have key: ∀ t,ChI (chL { s with ln:=(lnF s.ln c).1} t).1 (i+1):=fun t=>by
      have hz:=TW t
      have hz2:=zpT t
      unfold chL
      repeat' split
      all_goals constructor
      all_goals simp only
      all_goals omega
    split
    · obtain⟨k1,k2,k3,k4,k5,k6,k7⟩:=key (lnF s.ln c).2.1
      exact⟨k1,k2,k3,k4,k5,k6,k7⟩
    · exact key _
  · constructor<;>simp only<;>omega
theorem zkn {s:Ch} {i:Nat} (h:ChI s i) (hi:i≤1000000):s.ln.b.length≤1000000∧(-1000000≤s.left∧s.left≤100000000)∧(0≤s.all∧s.all≤1000000)∧0≤s.tails∧s.tails≤1000000:=by
  obtain⟨h1,h2,h3,h4,h5,h6,h7⟩:=h
  omega
theorem zeh {s:Ch} {i j:Nat} (h:ChI s i) (k:i≤j):ChI s j:=by
  obtain⟨h1,h2,h3,h4,h5,h6,h7⟩:=h
  exact⟨by omega,h2,by omega,h4,by omega,by omega,h7⟩
end Go.Proofs.YtmkcejdibmilmaaGreatDoor
namespace Go.Proofs.YtmkcejdibmilmaaGreatDoor
open Go Go.Sep Go.Ab
set_option maxRecDepth 100000
structure RqI (q:Rq) (i:Nat):Prop where
  lb:q.ln.b.length≤i
  ck: ∀ c,q.ck=some c→ChI c i
  p3:q.pos=3→q.ck≠none
  ow:q.pos=0∨q.pos=1→q.own=true
  fl:q.h.fields.length≤16
  ff: ∀ f ∈ q.h.fields,f.name.length≤i∧f.value.length≤i
  l0:0≤q.left
  l1:q.left≤4000
  l2:q.pos=2→1≤q.left
  on:q.out.length≤4 * i
theorem zw4:RqI rq0 0:=⟨by decide,(fun c h=>by cases h),(fun h=>by cases h),fun _=>rfl,by decide,(fun f h=>by cases h),by decide,by decide,(fun h=>by cases h),by decide⟩
theorem zqb {q:Rq} {i j:Nat} (h:RqI q i) (k:i≤j):RqI q j:=by
  obtain⟨h1,h2,h3,h4,h5,h6,h7,h8,h9,h10⟩:=h
  exact⟨by omega,fun c e=>zeh (h2 c e) k,h3,h4,h5,fun f m=>by have:=h6 f m;omega,h7,h8,h9,by omega⟩
theorem zmP {q:Rq} {i:Nat} (h:RqI q i) {o:List Evt} (k:o.length≤4 * i):RqI { q with out:=o} i:=⟨h.lb,h.ck,h.p3,h.ow,h.fl,h.ff,h.l0,h.l1,h.l2,k⟩
theorem zhj (mi:Int) (f:List Fld): -1≤(lenM mi f).1∧(lenM mi f).1≤4000:=by
  have hs: ∀ (l:List Str) (a:Str) (n:Int),0≤n→0≤(sizM a n l).1:=by
    intro l
    induction l with
    |nil=>intro a n h;exact h
    | cons s r ih=>
      intro a n h
      unfold sizM
      split
      · exact Int.le_refl _
      · split
        · exact Int.le_refl _
        · exact ih _ _ (uK s).1
  unfold lenM
  repeat' split
  all_goals simp only
  all_goals first
    |decide
    |(have:=hs (valsF f Ro) ((valsF f Ro).getD 0 []) 0 (by decide);omega)
theorem zwH (s:Str):(begM s).2.fields=[]:=by
  unfold begM
  split
  · repeat' split
    all_goals rfl
  · rfl
theorem zqh {q:Rq} {i:Nat} (h:RqI q i) (k:Nat) (ho:q.out.length≤k):RqI { (yc q).1 with out:=[],pos:=4} i∧((yc q).2=0→RqI { (yc q).1 with out:=[]} i)∧(yc q).1.out.length≤k+2:=by
  have hl:=zhj q.h.minor q.h.fields
  obtain⟨h1,h2,h3,h4,h5,h6,h7,h8,h9,h10⟩:=h
  unfold yc tZ
  split
  · exact⟨⟨h1,h2,(fun h=>by cases h),(fun h=>by simp at h),h5,h6,h7,h8,(fun h=>by cases h),by simp⟩,(fun h=>by cases h),by simp only;omega⟩
  split
  · rename_i hz
    exact⟨⟨h1,h2,(fun h=>by cases h),(fun h=>by simp at h),h5,h6,h7,h8,(fun h=>by cases h),by simp⟩,fun h=>absurd h hz,by simp only;omega⟩
  split
  · exact⟨⟨h1,h2,(fun h=>by cases h),(fun h=>by simp at h),by simp [hd0],(fun f m=>by cases m),h7,h8,(fun h=>by cases h),by simp⟩,fun _=>⟨h1,h2,(fun h=>by cases h),fun _=>rfl,by simp [hd0],(fun f m=>by cases m),h7,h8,(fun h=>by cases h),by simp⟩,by simp;omega⟩
  split
  · exact⟨⟨h1,h2,(fun h=>by cases h),(fun h=>by simp at h),h5,h6,by simp only;omega,by simp only;omega,(fun h=>by cases h),by simp⟩,fun _=>⟨h1,h2,(fun h=>by cases h),(fun h=>by simp at h),h5,h6,by simp only;omega,by simp only;omega,fun _=>by simp only;omega,by simp⟩,by simp;omega⟩
  · exact⟨⟨h1,(fun c e=>by cases e;exact zeh zwC (Nat.zero_le _)),(fun h=>by cases h),(fun h=>by simp at h),h5,h6,h7,h8,(fun h=>by cases h),by simp⟩,fun _=>⟨h1,(fun c e=>by cases e;exact zeh zwC (Nat.zero_le _)),(fun _ h=>by cases h),(fun h=>by simp at h),h5,h6,h7,h8,(fun h=>by simp at h),by simp⟩,by simp;omega⟩
theorem Ql {q:Rq} {i:Nat} (h:RqI q i):RqI { q with out:=[],pos:=4} i:=⟨h.lb,h.ck,(fun h=>by cases h),(fun h=>by simp at h),h.fl,h.ff,h.l0,h.l1,(fun h=>by cases h),by simp⟩
theorem zqa {q:Rq} {i:Nat} (h:RqI q i) (hp:q.pos=0∨q.pos=1) {s:Str} (hs:s.length≤i) (k:Nat) (ho:q.out.length≤k):RqI { (zL q s).1 with out:=[],pos:=4} i∧((zL q s).2=0→RqI { (zL q s).1 with out:=[]} i)∧(zL q s).1.out.length≤k+2:=by
  have h0:RqI { q with out:=[]} i:=zmP h (by simp)
  have hx:=Ql h
  have hd:=zqh h k ho
  have hpl:=zfc s
  have hb:=zwH s
  have how:=h.ow hp
  unfold zL
  split
  · split
    · exact⟨hx,fun _=>h0,by simp only;omega⟩
    split
    · have h1:RqI { q with h:=(begM s).2,pos:=1,out:=[]} i:=⟨h.lb,h.ck,(fun h=>by cases h),fun _=>how,by simp [hb],(by simp [hb]),h.l0,h.l1,(fun h=>by cases h),by simp⟩
      have hd1:=Ql h1
      exact⟨hd1,fun _=>h1,by simp only;omega⟩
    split
    · have h1:RqI { q with h:=(begM s).2,out:=[]} i:=⟨h.lb,h.ck,h.p3,fun _=>how,by simp [hb],(by simp [hb]),h.l0,h.l1,h.l2,by simp⟩
      have hd1:=Ql h1
      exact⟨hd1,fun _=>h1,by simp only;omega⟩
    · exact⟨hx,fun _=>h0,by simp only;omega⟩
  · split
    · exact hd
    split
    · exact⟨hx,fun _=>h0,by simp only;omega⟩
    · rename_i h16
      have h1:RqI { q with h:= { q.h with fields:=q.h.fields++[(vS s).1]},out:=[]} i:=by
        refine⟨h.lb,h.ck,h.p3,h.ow,?_,?_,h.l0,h.l1,h.l2,by simp⟩
        · have:=h.fl;simp;omega
        · intro f hf
          rcases List.mem_append.1 hf with hf|hf
          · exact h.ff f hf
          · simp only [List.mem_singleton] at hf
            subst hf;omega
      have hd1:=Ql h1
      exact⟨hd1,fun _=>h1,by simp only;omega⟩
theorem zkS {q:Rq} {i:Nat} (h:RqI q i) (c:UInt8):RqI (rqF q c) (i+1):=by
  have hm:=zqb h (Nat.le_succ i)
  have hon:=h.on
  unfold rqF
  split
  · rename_i hp
    have h2:=h.l2 hp
    split
    · exact⟨hm.lb,hm.ck,(fun h=>by cases h),fun _=>rfl,by simp [tZ,hd0],(fun f m=>by cases m),(Int.le_refl _),(show(0:Int)≤4000 by decide),(fun h=>by cases h),by simp [tZ];omega⟩
    · exact⟨hm.lb,hm.ck,hm.p3,hm.ow,hm.fl,hm.ff,by have:=h.l0;simp only;omega,by have:=h.l1;simp only;omega,fun _=>by simp only;omega,by simp;omega⟩
  split
  · rename_i hp
    have hc:ChI (chF (ckOf q) c).1 (i+1):=by
      unfold ckOf
      cases hq:q.ck with
      |none=>exact absurd hq (h.p3 hp)
      |some x=>exact zxs (h.ck x hq) c
    split
    · exact⟨hm.lb,(fun x e=>by cases e;exact hc),(fun h=>by cases h),(fun h=>by simp [vG] at h),hm.fl,hm.ff,hm.l0,hm.l1,(fun h=>by cases h),by simp [vG];omega⟩
    split
    · refine⟨hm.lb,(fun x e=>by cases e;exact hc),(fun h=>by cases h),fun _=>rfl,by simp [tZ,hd0],(fun f m=>by cases m),hm.l0,hm.l1,(fun h=>by cases h),?_⟩
      simp only [tZ]
      split<;>((try simp);omega)
    · refine⟨hm.lb,(fun x e=>by cases e;exact hc),(fun _ h=>by cases h),hm.ow,hm.fl,hm.ff,hm.l0,hm.l1,hm.l2,?_⟩
      show(if(chF (ckOf q) c).2.1≠[] then q.out++[evB (chF (ckOf q) c).2.1] else q.out).length≤4 * (i+1)
      split<;>((try simp);omega)
  split
  · rename_i hp
    have hlb:(lnF q.ln c).1.b.length≤i+1:=by have:=zqG q.ln c;have:=h.lb;omega
    have hll:(lnF q.ln c).2.1.length≤i+1:=by have:=YC q.ln c;have:=h.lb;omega
    have h1:RqI { q with ln:=(lnF q.ln c).1} (i+1):=⟨hlb,hm.ck,hm.p3,hm.ow,hm.fl,hm.ff,hm.l0,hm.l1,hm.l2,hm.on⟩
    split
    · exact⟨hlb,hm.ck,(fun h=>by cases h),(fun h=>by simp [vG] at h),hm.fl,hm.ff,hm.l0,hm.l1,(fun h=>by cases h),by simp [vG];omega⟩
    split
    · have hk:=zqa h1 hp hll (4 * i) hon
      generalize zL { q with ln:=(lnF q.ln c).1} (lnF q.ln c).2.1=z at *
      obtain⟨⟨k1,k2,-,-,k5,k6,k7,k8,-,-⟩,kz,ko⟩:=hk
      split
      · exact⟨k1,k2,(fun h=>by cases h),(fun h=>by simp [vG] at h),k5,k6,k7,k8,(fun h=>by cases h),by simp [vG];omega⟩
      · rename_i hz
        obtain⟨k1,k2,k3,k4,k5,k6,k7,k8,k9,k10⟩:=kz (by simpa using hz)
        exact⟨k1,k2,k3,k4,k5,k6,k7,k8,k9,by omega⟩
    · exact h1
  · exact hm
end Go.Proofs.YtmkcejdibmilmaaGreatDoor
namespace Go.Proofs.YtmkcejdibmilmaaGreatDoor
open Go Go.Sep Go.Ab
set_option maxRecDepth 100000
def cfgQ:Cfg:= { sl:=[⟨165,0,.byte,some 5⟩,⟨122,5,.fld,some 97⟩,⟨122,9,.evt,some 53⟩]}
def zG (q:Rq):Prop:=q.out.length≤10000000
theorem zvo:Spc Tryz.prog 39 [] [] (.ret (.v (.one (.ptr 0 0)))) [.abs (.rq rq0)]:=by
  refine spcG zh mixed Tryz.func39 (by kernel_rfl) { cfgQ with keep:=some [0]} [QB,QA] (by kernel_rfl) ?_
  intro I X hI hX
  refine orcL ?_;go_invoke;refine orcS (by kernel_rfl) ?_
  simp only [zi,Nat.reduceAdd]
  subst hI
  simp only [nrmA,nrmB,nrlB,reduceCtorEq,HO.abs.injEq,Gh.rq.injEq,Rq.mk.injEq]
  rfl
def Qj (I:Alg) (args:List D) (hp:List HO):Option CT:=match args,hp with
  |[],[]=>(fun(_:Unit)=>(some (.one ⟨I.hid (True),(.ret (.v (.one (.ptr 0 0)))),[.abs (.rq rq0)]⟩):Option CT)) ()
  |_,_=>none
theorem ziZ:zx Tryz.prog 39 (Qj alg):=by
  intro args hp r h
  unfold Qj at h
  split at h
  · cases h;exact fun hn=>zvo
  · cases h
def ZH:Know Tryz.prog:=⟨39,Qj,ziZ⟩
def ZG:Know Tryz.prog:=⟨39,fun I=>zy I (Qj I),zf ziZ⟩
theorem ziW (ln:Ln) (p:Int) (m tg:Str) (hm:Int) (hf:List Fld) (hl le:Int) (out:List Evt) (k:Int) (ea eb:Str) (ei:Int) (ef:List Fld) (en:Int) (ebs ex ey ez et:Str) (ec:Int) (hneed:zG ⟨ln,p,⟨m,tg,hm,hf,hl⟩,le,none,true,out⟩):Spc Tryz.prog 81 [.v (.one (.ptr 0 0)),.v (.agg [(.p (.int .i64 k)),(.p (.str ea)),(.p (.str eb)),(.p (.int .i64 ei)),(.p (.list .fld ef)),(.p (.int .i64 en)),(.p (.list .byte ebs)),(.p (.str ex)),(.p (.str ey)),(.p (.str ez)),(.p (.nl et)),(.p (.int .i64 ec))])] [.abs (.rq ⟨ln,p,⟨m,tg,hm,hf,hl⟩,le,none,true,out⟩)] (.ret (.tup [])) [.abs (.rq ⟨ln,p,⟨m,tg,hm,hf,hl⟩,le,none,true,(out++[⟨k,⟨ea,eb,ei,ef,en⟩,ebs,⟨ex,ey,ez,et⟩,ec⟩])⟩)]:=by
  unfold zG at hneed
  simp only at hneed
  refine spcG zh mixed Tryz.func81 (by kernel_rfl) { cfgQ with keep:=some [0,1,3]} [] (by kernel_rfl) ?_
  intro I X hI hX
  refine orcL ?_;go_invoke;refine orcS (by kernel_rfl) ?_
  simp only [zi,Nat.reduceAdd]
  subst hI
  simp only [nrmA,nrmB,nrlB,reduceCtorEq,HO.abs.injEq,Gh.rq.injEq,Rq.mk.injEq]
  (repeat' (first|refine And.intro ?_ ?_|intro _))<;>first|omega|exact True.intro|exact False.elim ‹False›|skip
  all_goals first
    |omega
    |rfl
    |with_reducible assumption
    |(simp only [List.length_cons,List.length_nil];omega)
    |(simp;done)
def Y7 (I:Alg) (args:List D) (hp:List HO):Option CT:=match args,hp with
  |[.v (.one (.ptr 0 0)),.v (.agg [(.p (.int .i64 k)),(.p (.str ea)),(.p (.str eb)),(.p (.int .i64 ei)),(.p (.list .fld ef)),(.p (.int .i64 en)),(.p (.list .byte ebs)),(.p (.str ex)),(.p (.str ey)),(.p (.str ez)),(.p (.nl et)),(.p (.int .i64 ec))])],[.abs (.rq ⟨ln,p,⟨m,tg,hm,hf,hl⟩,le,none,true,out⟩)]=>(fun(ln:Ln) (p:Int) (m tg:Str) (hm:Int) (hf:List Fld) (hl le:Int) (out:List Evt) (k:Int) (ea eb:Str) (ei:Int) (ef:List Fld) (en:Int) (ebs ex ey ez et:Str) (ec:Int)=>(some (.one ⟨I.hid (zG ⟨ln,p,⟨m,tg,hm,hf,hl⟩,le,none,true,out⟩),(.ret (.tup [])),[.abs (.rq ⟨ln,p,⟨m,tg,hm,hf,hl⟩,le,none,true,(I.hid (out++[⟨k,⟨ea,eb,ei,ef,en⟩,ebs,⟨ex,ey,ez,et⟩,ec⟩]))⟩)]⟩):Option CT)) ln p m tg hm hf hl le out k ea eb ei ef en ebs ex ey ez et ec
  |_,_=>none
theorem zb9:zx Tryz.prog 81 (Y7 alg):=by
  intro args hp r h
  unfold Y7 at h
  split at h
  · cases h;exact fun hn=>ziW _ _ _ _ _ _ _ _ _ _ _ _ _ _ _ _ _ _ _ _ _ hn
  · cases h
def zW:Know Tryz.prog:=⟨81,Y7,zb9⟩
def zV:Know Tryz.prog:=⟨81,fun I=>zy I (Y7 I),zf zb9⟩
theorem ziX (ln:Ln) (p:Int) (m tg:Str) (hm:Int) (hf:List Fld) (hl le:Int) (out:List Evt) (k:Int) (ea eb:Str) (ei:Int) (ef:List Fld) (en:Int) (ebs ex ey ez et:Str) (ec:Int) (hneed:zG ⟨ln,p,⟨m,tg,hm,hf,hl⟩,le,none,false,out⟩):Spc Tryz.prog 81 [.v (.one (.ptr 0 0)),.v (.agg [(.p (.int .i64 k)),(.p (.str ea)),(.p (.str eb)),(.p (.int .i64 ei)),(.p (.list .fld ef)),(.p (.int .i64 en)),(.p (.list .byte ebs)),(.p (.str ex)),(.p (.str ey)),(.p (.str ez)),(.p (.nl et)),(.p (.int .i64 ec))])] [.abs (.rq ⟨ln,p,⟨m,tg,hm,hf,hl⟩,le,none,false,out⟩)] (.ret (.tup [])) [.abs (.rq ⟨ln,p,⟨m,tg,hm,hf,hl⟩,le,none,false,(out++[⟨k,⟨ea,eb,ei,ef,en⟩,ebs,⟨ex,ey,ez,et⟩,ec⟩])⟩)]:=by
  unfold zG at hneed
  simp only at hneed
  refine spcG zh mixed Tryz.func81 (by kernel_rfl) { cfgQ with keep:=some [0,1,3]} [zW,zV] (by kernel_rfl) ?_
  intro I X hI hX
  refine orcL ?_;go_invoke;refine orcS (by kernel_rfl) ?_
  simp only [zi,Nat.reduceAdd]
  subst hI
  simp only [nrmA,nrmB,nrlB,reduceCtorEq,HO.abs.injEq,Gh.rq.injEq,Rq.mk.injEq]
  (repeat' (first|refine And.intro ?_ ?_|intro _))<;>first|omega|exact True.intro|exact False.elim ‹False›|skip
  all_goals first
    |omega
    |rfl
    |with_reducible assumption
    |(simp only [List.length_cons,List.length_nil];omega)
    |(simp;done)
def Y8 (I:Alg) (args:List D) (hp:List HO):Option CT:=match args,hp with
  |[.v (.one (.ptr 0 0)),.v (.agg [(.p (.int .i64 k)),(.p (.str ea)),(.p (.str eb)),(.p (.int .i64 ei)),(.p (.list .fld ef)),(.p (.int .i64 en)),(.p (.list .byte ebs)),(.p (.str ex)),(.p (.str ey)),(.p (.str ez)),(.p (.nl et)),(.p (.int .i64 ec))])],[.abs (.rq ⟨ln,p,⟨m,tg,hm,hf,hl⟩,le,none,false,out⟩)]=>(fun(ln:Ln) (p:Int) (m tg:Str) (hm:Int) (hf:List Fld) (hl le:Int) (out:List Evt) (k:Int) (ea eb:Str) (ei:Int) (ef:List Fld) (en:Int) (ebs ex ey ez et:Str) (ec:Int)=>(some (.one ⟨I.hid (zG ⟨ln,p,⟨m,tg,hm,hf,hl⟩,le,none,false,out⟩),(.ret (.tup [])),[.abs (.rq ⟨ln,p,⟨m,tg,hm,hf,hl⟩,le,none,false,(I.hid (out++[⟨k,⟨ea,eb,ei,ef,en⟩,ebs,⟨ex,ey,ez,et⟩,ec⟩]))⟩)]⟩):Option CT)) ln p m tg hm hf hl le out k ea eb ei ef en ebs ex ey ez et ec
  |_,_=>none
theorem zca:zx Tryz.prog 81 (Y8 alg):=by
  intro args hp r h
  unfold Y8 at h
  split at h
  · cases h;exact fun hn=>ziX _ _ _ _ _ _ _ _ _ _ _ _ _ _ _ _ _ _ _ _ _ hn
  · cases h
def yh:Know Tryz.prog:=⟨81,Y8,zca⟩
def yg:Know Tryz.prog:=⟨81,fun I=>zy I (Y8 I),zf zca⟩
theorem ziU (ln:Ln) (p:Int) (m tg:Str) (hm:Int) (hf:List Fld) (hl le:Int) (ch:Ch) (out:List Evt) (k:Int) (ea eb:Str) (ei:Int) (ef:List Fld) (en:Int) (ebs ex ey ez et:Str) (ec:Int) (hneed:zG ⟨ln,p,⟨m,tg,hm,hf,hl⟩,le,some ch,true,out⟩):Spc Tryz.prog 81 [.v (.one (.ptr 0 0)),.v (.agg [(.p (.int .i64 k)),(.p (.str ea)),(.p (.str eb)),(.p (.int .i64 ei)),(.p (.list .fld ef)),(.p (.int .i64 en)),(.p (.list .byte ebs)),(.p (.str ex)),(.p (.str ey)),(.p (.str ez)),(.p (.nl et)),(.p (.int .i64 ec))])] [.abs (.rq ⟨ln,p,⟨m,tg,hm,hf,hl⟩,le,some ch,true,out⟩)] (.ret (.tup [])) [.abs (.rq ⟨ln,p,⟨m,tg,hm,hf,hl⟩,le,some ch,true,(out++[⟨k,⟨ea,eb,ei,ef,en⟩,ebs,⟨ex,ey,ez,et⟩,ec⟩])⟩)]:=by
  unfold zG at hneed
  simp only at hneed
  refine spcG zh mixed Tryz.func81 (by kernel_rfl) { cfgQ with keep:=some [0,1,3]} [zW,zV,yh,yg] (by kernel_rfl) ?_
  intro I X hI hX
  refine orcL ?_;go_invoke;refine orcS (by kernel_rfl) ?_
  simp only [zi,Nat.reduceAdd]
  subst hI
  simp only [nrmA,nrmB,nrlB,reduceCtorEq,HO.abs.injEq,Gh.rq.injEq,Rq.mk.injEq]
  (repeat' (first|refine And.intro ?_ ?_|intro _))<;>first|omega|exact True.intro|exact False.elim ‹False›|skip
  all_goals first
    |omega
    |rfl
    |with_reducible assumption
    |(simp only [List.length_cons,List.length_nil];omega)
    |(simp;done)
def Y5 (I:Alg) (args:List D) (hp:List HO):Option CT:=match args,hp with
  |[.v (.one (.ptr 0 0)),.v (.agg [(.p (.int .i64 k)),(.p (.str ea)),(.p (.str eb)),(.p (.int .i64 ei)),(.p (.list .fld ef)),(.p (.int .i64 en)),(.p (.list .byte ebs)),(.p (.str ex)),(.p (.str ey)),(.p (.str ez)),(.p (.nl et)),(.p (.int .i64 ec))])],[.abs (.rq ⟨ln,p,⟨m,tg,hm,hf,hl⟩,le,some ch,true,out⟩)]=>(fun(ln:Ln) (p:Int) (m tg:Str) (hm:Int) (hf:List Fld) (hl le:Int) (ch:Ch) (out:List Evt) (k:Int) (ea eb:Str) (ei:Int) (ef:List Fld) (en:Int) (ebs ex ey ez et:Str) (ec:Int)=>(some (.one ⟨I.hid (zG ⟨ln,p,⟨m,tg,hm,hf,hl⟩,le,some ch,true,out⟩),(.ret (.tup [])),[.abs (.rq ⟨ln,p,⟨m,tg,hm,hf,hl⟩,le,some ch,true,(I.hid (out++[⟨k,⟨ea,eb,ei,ef,en⟩,ebs,⟨ex,ey,ez,et⟩,ec⟩]))⟩)]⟩):Option CT)) ln p m tg hm hf hl le ch out k ea eb ei ef en ebs ex ey ez et ec
  |_,_=>none
theorem zb7:zx Tryz.prog 81 (Y5 alg):=by
  intro args hp r h
  unfold Y5 at h
  split at h
  · cases h;exact fun hn=>ziU _ _ _ _ _ _ _ _ _ _ _ _ _ _ _ _ _ _ _ _ _ _ hn
  · cases h
def yD:Know Tryz.prog:=⟨81,Y5,zb7⟩
def yC:Know Tryz.prog:=⟨81,fun I=>zy I (Y5 I),zf zb7⟩
theorem ziV (ln:Ln) (p:Int) (m tg:Str) (hm:Int) (hf:List Fld) (hl le:Int) (ch:Ch) (out:List Evt) (k:Int) (ea eb:Str) (ei:Int) (ef:List Fld) (en:Int) (ebs ex ey ez et:Str) (ec:Int) (hneed:zG ⟨ln,p,⟨m,tg,hm,hf,hl⟩,le,some ch,false,out⟩):Spc Tryz.prog 81 [.v (.one (.ptr 0 0)),.v (.agg [(.p (.int .i64 k)),(.p (.str ea)),(.p (.str eb)),(.p (.int .i64 ei)),(.p (.list .fld ef)),(.p (.int .i64 en)),(.p (.list .byte ebs)),(.p (.str ex)),(.p (.str ey)),(.p (.str ez)),(.p (.nl et)),(.p (.int .i64 ec))])] [.abs (.rq ⟨ln,p,⟨m,tg,hm,hf,hl⟩,le,some ch,false,out⟩)] (.ret (.tup [])) [.abs (.rq ⟨ln,p,⟨m,tg,hm,hf,hl⟩,le,some ch,false,(out++[⟨k,⟨ea,eb,ei,ef,en⟩,ebs,⟨ex,ey,ez,et⟩,ec⟩])⟩)]:=by
  unfold zG at hneed
  simp only at hneed
  refine spcG zh mixed Tryz.func81 (by kernel_rfl) { cfgQ with keep:=some [0,1,3]} [zW,zV,yh,yg,yD,yC] (by kernel_rfl) ?_
  intro I X hI hX
  refine orcL ?_;go_invoke;refine orcS (by kernel_rfl) ?_
  simp only [zi,Nat.reduceAdd]
  subst hI
  simp only [nrmA,nrmB,nrlB,reduceCtorEq,HO.abs.injEq,Gh.rq.injEq,Rq.mk.injEq]
  (repeat' (first|refine And.intro ?_ ?_|intro _))<;>first|omega|exact True.intro|exact False.elim ‹False›|skip
  all_goals first
    |omega
    |rfl
    |with_reducible assumption
    |(simp only [List.length_cons,List.length_nil];omega)
    |(simp;done)
def Y6 (I:Alg) (args:List D) (hp:List HO):Option CT:=match args,hp with
  |[.v (.one (.ptr 0 0)),.v (.agg [(.p (.int .i64 k)),(.p (.str ea)),(.p (.str eb)),(.p (.int .i64 ei)),(.p (.list .fld ef)),(.p (.int .i64 en)),(.p (.list .byte ebs)),(.p (.str ex)),(.p (.str ey)),(.p (.str ez)),(.p (.nl et)),(.p (.int .i64 ec))])],[.abs (.rq ⟨ln,p,⟨m,tg,hm,hf,hl⟩,le,some ch,false,out⟩)]=>(fun(ln:Ln) (p:Int) (m tg:Str) (hm:Int) (hf:List Fld) (hl le:Int) (ch:Ch) (out:List Evt) (k:Int) (ea eb:Str) (ei:Int) (ef:List Fld) (en:Int) (ebs ex ey ez et:Str) (ec:Int)=>(some (.one ⟨I.hid (zG ⟨ln,p,⟨m,tg,hm,hf,hl⟩,le,some ch,false,out⟩),(.ret (.tup [])),[.abs (.rq ⟨ln,p,⟨m,tg,hm,hf,hl⟩,le,some ch,false,(I.hid (out++[⟨k,⟨ea,eb,ei,ef,en⟩,ebs,⟨ex,ey,ez,et⟩,ec⟩]))⟩)]⟩):Option CT)) ln p m tg hm hf hl le ch out k ea eb ei ef en ebs ex ey ez et ec
  |_,_=>none
theorem zb8:zx Tryz.prog 81 (Y6 alg):=by
  intro args hp r h
  unfold Y6 at h
  split at h
  · cases h;exact fun hn=>ziV _ _ _ _ _ _ _ _ _ _ _ _ _ _ _ _ _ _ _ _ _ _ hn
  · cases h
def yK:Know Tryz.prog:=⟨81,Y6,zb8⟩
def yJ:Know Tryz.prog:=⟨81,fun I=>zy I (Y6 I),zf zb8⟩
theorem zvm (q:Rq) (k:Int) (ea eb:Str) (ei:Int) (ef:List Fld) (en:Int) (ebs ex ey ez et:Str) (ec:Int) (hneed:zG q):Spc Tryz.prog 81 [.v (.one (.ptr 0 0)),.v (.agg [(.p (.int .i64 k)),(.p (.str ea)),(.p (.str eb)),(.p (.int .i64 ei)),(.p (.list .fld ef)),(.p (.int .i64 en)),(.p (.list .byte ebs)),(.p (.str ex)),(.p (.str ey)),(.p (.str ez)),(.p (.nl et)),(.p (.int .i64 ec))])] [.abs (.rq q)] (.ret (.tup [])) [.abs (.rq ((zvn q ⟨k,⟨ea,eb,ei,ef,en⟩,ebs,⟨ex,ey,ez,et⟩,ec⟩)))]:=by
  obtain⟨ln,p,⟨m,tg,hm,hf,hl⟩,le,ck,own,out⟩:=q
  cases ck with
  | none=>cases own with
    |true=>exact ziW ln p m tg hm hf hl le out k ea eb ei ef en ebs ex ey ez et ec hneed
    |false=>exact ziX ln p m tg hm hf hl le out k ea eb ei ef en ebs ex ey ez et ec hneed
  | some ch=>cases own with
    |true=>exact ziU ln p m tg hm hf hl le ch out k ea eb ei ef en ebs ex ey ez et ec hneed
    |false=>exact ziV ln p m tg hm hf hl le ch out k ea eb ei ef en ebs ex ey ez et ec hneed
def Qi (I:Alg) (args:List D) (hp:List HO):Option CT:=match args,hp with
  |[.v (.one (.ptr 0 0)),.v (.agg [(.p (.int .i64 k)),(.p (.str ea)),(.p (.str eb)),(.p (.int .i64 ei)),(.p (.list .fld ef)),(.p (.int .i64 en)),(.p (.list .byte ebs)),(.p (.str ex)),(.p (.str ey)),(.p (.str ez)),(.p (.nl et)),(.p (.int .i64 ec))])],[.abs (.rq q)]=>(fun(q:Rq) (k:Int) (ea eb:Str) (ei:Int) (ef:List Fld) (en:Int) (ebs ex ey ez et:Str) (ec:Int)=>(some (.one ⟨I.hid (zG q),(.ret (.tup [])),[.abs (.rq (I.hid ((zvn q ⟨k,⟨ea,eb,ei,ef,en⟩,ebs,⟨ex,ey,ez,et⟩,ec⟩))))]⟩):Option CT)) q k ea eb ei ef en ebs ex ey ez et ec
  |_,_=>none
theorem ziY:zx Tryz.prog 81 (Qi alg):=by
  intro args hp r h
  unfold Qi at h
  split at h
  · cases h;exact fun hn=>zvm _ _ _ _ _ _ _ _ _ _ _ _ _ hn
  · cases h
def wU:Know Tryz.prog:=⟨81,Qi,ziY⟩
def wS:Know Tryz.prog:=⟨81,fun I=>zy I (Qi I),zf ziY⟩
theorem zmW (ln:Ln) (p:Int) (m tg:Str) (hm:Int) (hf:List Fld) (hl le:Int) (out:List Evt) (c:Int) (hneed:zG ⟨ln,p,⟨m,tg,hm,hf,hl⟩,le,none,true,out⟩):Spc Tryz.prog 84 [.v (.one (.ptr 0 0)),.v (.one (.p (.int .i64 c)))] [.abs (.rq ⟨ln,p,⟨m,tg,hm,hf,hl⟩,le,none,true,out⟩)] (.ret (.tup [])) [.abs (.rq ((vG ⟨ln,p,⟨m,tg,hm,hf,hl⟩,le,none,true,out⟩ c)))]:=by
  unfold zG at hneed
  simp only at hneed
  refine spcG zh mixed Tryz.func84 (by kernel_rfl) { cfgQ with keep:=some [0,1]} [zW,zV,yh,yg,yD,yC,yK,yJ,wU,wS] (by kernel_rfl) ?_
  intro I X hI hX
  refine orcL ?_;go_invoke;refine orcS (by kernel_rfl) ?_
  simp only [zi,Nat.reduceAdd]
  subst hI
  simp only [nrmA,nrmB,nrlB,reduceCtorEq,HO.abs.injEq,Gh.rq.injEq,Rq.mk.injEq]
  (repeat' (first|refine And.intro ?_ ?_|intro _))<;>first|omega|exact True.intro|exact False.elim ‹False›|skip
  all_goals first
    |omega
    |rfl
    |with_reducible assumption
    |(simp only [List.length_cons,List.length_nil];omega)
    |(unfold zG;simp only;omega)
    |(simp;done)
theorem zmX (ln:Ln) (p:Int) (m tg:Str) (hm:Int) (hf:List Fld) (hl le:Int) (out:List Evt) (c:Int) (hneed:zG ⟨ln,p,⟨m,tg,hm,hf,hl⟩,le,none,false,out⟩):Spc Tryz.prog 84 [.v (.one (.ptr 0 0)),.v (.one (.p (.int .i64 c)))] [.abs (.rq ⟨ln,p,⟨m,tg,hm,hf,hl⟩,le,none,false,out⟩)] (.ret (.tup [])) [.abs (.rq ((vG ⟨ln,p,⟨m,tg,hm,hf,hl⟩,le,none,false,out⟩ c)))]:=by
  unfold zG at hneed
  simp only at hneed
  refine spcG zh mixed Tryz.func84 (by kernel_rfl) { cfgQ with keep:=some [0,1]} [zW,zV,yh,yg,yD,yC,yK,yJ,wU,wS] (by kernel_rfl) ?_
  intro I X hI hX
  refine orcL ?_;go_invoke;refine orcS (by kernel_rfl) ?_
  simp only [zi,Nat.reduceAdd]
  subst hI
  simp only [nrmA,nrmB,nrlB,reduceCtorEq,HO.abs.injEq,Gh.rq.injEq,Rq.mk.injEq]
  (repeat' (first|refine And.intro ?_ ?_|intro _))<;>first|omega|exact True.intro|exact False.elim ‹False›|skip
  all_goals first
    |omega
    |rfl
    |with_reducible assumption
    |(simp only [List.length_cons,List.length_nil];omega)
    |(unfold zG;simp only;omega)
    |(simp;done)
theorem zmU (ln:Ln) (p:Int) (m tg:Str) (hm:Int) (hf:List Fld) (hl le:Int) (ch:Ch) (out:List Evt) (c:Int) (hneed:zG ⟨ln,p,⟨m,tg,hm,hf,hl⟩,le,some ch,true,out⟩):Spc Tryz.prog 84 [.v (.one (.ptr 0 0)),.v (.one (.p (.int .i64 c)))] [.abs (.rq ⟨ln,p,⟨m,tg,hm,hf,hl⟩,le,some ch,true,out⟩)] (.ret (.tup [])) [.abs (.rq ((vG ⟨ln,p,⟨m,tg,hm,hf,hl⟩,le,some ch,true,out⟩ c)))]:=by
  unfold zG at hneed
  simp only at hneed
  refine spcG zh mixed Tryz.func84 (by kernel_rfl) { cfgQ with keep:=some [0,1]} [zW,zV,yh,yg,yD,yC,yK,yJ,wU,wS] (by kernel_rfl) ?_
  intro I X hI hX
  refine orcL ?_;go_invoke;refine orcS (by kernel_rfl) ?_
  simp only [zi,Nat.reduceAdd]
  subst hI
  simp only [nrmA,nrmB,nrlB,reduceCtorEq,HO.abs.injEq,Gh.rq.injEq,Rq.mk.injEq]
  (repeat' (first|refine And.intro ?_ ?_|intro _))<;>first|omega|exact True.intro|exact False.elim ‹False›|skip
  all_goals first
    |omega
    |rfl
    |with_reducible assumption
    |(simp only [List.length_cons,List.length_nil];omega)
    |(unfold zG;simp only;omega)
    |(simp;done)
theorem zmV (ln:Ln) (p:Int) (m tg:Str) (hm:Int) (hf:List Fld) (hl le:Int) (ch:Ch) (out:List Evt) (c:Int) (hneed:zG ⟨ln,p,⟨m,tg,hm,hf,hl⟩,le,some ch,false,out⟩):Spc Tryz.prog 84 [.v (.one (.ptr 0 0)),.v (.one (.p (.int .i64 c)))] [.abs (.rq ⟨ln,p,⟨m,tg,hm,hf,hl⟩,le,some ch,false,out⟩)] (.ret (.tup [])) [.abs (.rq ((vG ⟨ln,p,⟨m,tg,hm,hf,hl⟩,le,some ch,false,out⟩ c)))]:=by
  unfold zG at hneed
  simp only at hneed
  refine spcG zh mixed Tryz.func84 (by kernel_rfl) { cfgQ with keep:=some [0,1]} [zW,zV,yh,yg,yD,yC,yK,yJ,wU,wS] (by kernel_rfl) ?_
  intro I X hI hX
  refine orcL ?_;go_invoke;refine orcS (by kernel_rfl) ?_
  simp only [zi,Nat.reduceAdd]
  subst hI
  simp only [nrmA,nrmB,nrlB,reduceCtorEq,HO.abs.injEq,Gh.rq.injEq,Rq.mk.injEq]
  (repeat' (first|refine And.intro ?_ ?_|intro _))<;>first|omega|exact True.intro|exact False.elim ‹False›|skip
  all_goals first
    |omega
    |rfl
    |with_reducible assumption
    |(simp only [List.length_cons,List.length_nil];omega)
    |(unfold zG;simp only;omega)
    |(simp;done)
theorem zs3 (q:Rq) (c:Int) (hneed:zG q):Spc Tryz.prog 84 [.v (.one (.ptr 0 0)),.v (.one (.p (.int .i64 c)))] [.abs (.rq q)] (.ret (.tup [])) [.abs (.rq ((vG q c)))]:=by
  obtain⟨ln,p,⟨m,tg,hm,hf,hl⟩,le,ck,own,out⟩:=q
  cases ck with
  | none=>cases own with
    |true=>exact zmW ln p m tg hm hf hl le out c hneed
    |false=>exact zmX ln p m tg hm hf hl le out c hneed
  | some ch=>cases own with
    |true=>exact zmU ln p m tg hm hf hl le ch out c hneed
    |false=>exact zmV ln p m tg hm hf hl le ch out c hneed
def Va (I:Alg) (args:List D) (hp:List HO):Option CT:=match args,hp with
  |[.v (.one (.ptr 0 0)),.v (.one (.p (.int .i64 c)))],[.abs (.rq q)]=>(fun(q:Rq) (c:Int)=>(some (.one ⟨I.hid (zG q),(.ret (.tup [])),[.abs (.rq (I.hid ((vG q c))))]⟩):Option CT)) q c
  |_,_=>none
theorem ze0:zx Tryz.prog 84 (Va alg):=by
  intro args hp r h
  unfold Va at h
  split at h
  · cases h;exact fun hn=>zs3 _ _ hn
  · cases h
def W9:Know Tryz.prog:=⟨84,Va,ze0⟩
def WZ:Know Tryz.prog:=⟨84,fun I=>zy I (Va I),zf ze0⟩
theorem zqe (ln:Ln) (p:Int) (m tg:Str) (hm:Int) (hf:List Fld) (hl le:Int) (out:List Evt) (hneed:zG ⟨ln,p,⟨m,tg,hm,hf,hl⟩,le,none,true,out⟩):Spc Tryz.prog 82 [.v (.one (.ptr 0 0))] [.abs (.rq ⟨ln,p,⟨m,tg,hm,hf,hl⟩,le,none,true,out⟩)] (.ret (.tup [])) [.abs (.rq ((tZ ⟨ln,p,⟨m,tg,hm,hf,hl⟩,le,none,true,out⟩)))]:=by
  unfold zG at hneed
  simp only at hneed
  refine spcG zh mixed Tryz.func82 (by kernel_rfl) { cfgQ with keep:=some [0]} [zW,zV,yh,yg,yD,yC,yK,yJ,wU,wS] (by kernel_rfl) ?_
  intro I X hI hX
  refine orcL ?_;go_invoke;refine orcS (by kernel_rfl) ?_
  simp only [zi,Nat.reduceAdd]
  subst hI
  simp only [nrmA,nrmB,nrlB,reduceCtorEq,HO.abs.injEq,Gh.rq.injEq,Rq.mk.injEq]
  (repeat' (first|refine And.intro ?_ ?_|intro _))<;>first|omega|exact True.intro|exact False.elim ‹False›|skip
  all_goals first
    |omega
    |rfl
    |with_reducible assumption
    |(simp only [List.length_cons,List.length_nil];omega)
    |(unfold zG;simp only;omega)
    |(simp;done)
theorem zqf (ln:Ln) (p:Int) (m tg:Str) (hm:Int) (hf:List Fld) (hl le:Int) (out:List Evt) (hneed:zG ⟨ln,p,⟨m,tg,hm,hf,hl⟩,le,none,false,out⟩):Spc Tryz.prog 82 [.v (.one (.ptr 0 0))] [.abs (.rq ⟨ln,p,⟨m,tg,hm,hf,hl⟩,le,none,false,out⟩)] (.ret (.tup [])) [.abs (.rq ((tZ ⟨ln,p,⟨m,tg,hm,hf,hl⟩,le,none,false,out⟩)))]:=by
  unfold zG at hneed
  simp only at hneed
  refine spcG zh mixed Tryz.func82 (by kernel_rfl) { cfgQ with keep:=some [0]} [zW,zV,yh,yg,yD,yC,yK,yJ,wU,wS] (by kernel_rfl) ?_
  intro I X hI hX
  refine orcL ?_;go_invoke;refine orcS (by kernel_rfl) ?_
  simp only [zi,Nat.reduceAdd]
  subst hI
  simp only [nrmA,nrmB,nrlB,reduceCtorEq,HO.abs.injEq,Gh.rq.injEq,Rq.mk.injEq]
  (repeat' (first|refine And.intro ?_ ?_|intro _))<;>first|omega|exact True.intro|exact False.elim ‹False›|skip
  all_goals first
    |omega
    |rfl
    |with_reducible assumption
    |(simp only [List.length_cons,List.length_nil];omega)
    |(unfold zG;simp only;omega)
    |(simp;done)
theorem zqc (ln:Ln) (p:Int) (m tg:Str) (hm:Int) (hf:List Fld) (hl le:Int) (ch:Ch) (out:List Evt) (hneed:zG ⟨ln,p,⟨m,tg,hm,hf,hl⟩,le,some ch,true,out⟩):Spc Tryz.prog 82 [.v (.one (.ptr 0 0))] [.abs (.rq ⟨ln,p,⟨m,tg,hm,hf,hl⟩,le,some ch,true,out⟩)] (.ret (.tup [])) [.abs (.rq ((tZ ⟨ln,p,⟨m,tg,hm,hf,hl⟩,le,some ch,true,out⟩)))]:=by
  unfold zG at hneed
  simp only at hneed
  refine spcG zh mixed Tryz.func82 (by kernel_rfl) { cfgQ with keep:=some [0]} [zW,zV,yh,yg,yD,yC,yK,yJ,wU,wS] (by kernel_rfl) ?_
  intro I X hI hX
  refine orcL ?_;go_invoke;refine orcS (by kernel_rfl) ?_
  simp only [zi,Nat.reduceAdd]
  subst hI
  simp only [nrmA,nrmB,nrlB,reduceCtorEq,HO.abs.injEq,Gh.rq.injEq,Rq.mk.injEq]
  (repeat' (first|refine And.intro ?_ ?_|intro _))<;>first|omega|exact True.intro|exact False.elim ‹False›|skip
  all_goals first
    |omega
    |rfl
    |with_reducible assumption
    |(simp only [List.length_cons,List.length_nil];omega)
    |(unfold zG;simp only;omega)
    |(simp;done)
theorem zqd (ln:Ln) (p:Int) (m tg:Str) (hm:Int) (hf:List Fld) (hl le:Int) (ch:Ch) (out:List Evt) (hneed:zG ⟨ln,p,⟨m,tg,hm,hf,hl⟩,le,some ch,false,out⟩):Spc Tryz.prog 82 [.v (.one (.ptr 0 0))] [.abs (.rq ⟨ln,p,⟨m,tg,hm,hf,hl⟩,le,some ch,false,out⟩)] (.ret (.tup [])) [.abs (.rq ((tZ ⟨ln,p,⟨m,tg,hm,hf,hl⟩,le,some ch,false,out⟩)))]:=by
  unfold zG at hneed
  simp only at hneed
  refine spcG zh mixed Tryz.func82 (by kernel_rfl) { cfgQ with keep:=some [0]} [zW,zV,yh,yg,yD,yC,yK,yJ,wU,wS] (by kernel_rfl) ?_
  intro I X hI hX
  refine orcL ?_;go_invoke;refine orcS (by kernel_rfl) ?_
  simp only [zi,Nat.reduceAdd]
  subst hI
  simp only [nrmA,nrmB,nrlB,reduceCtorEq,HO.abs.injEq,Gh.rq.injEq,Rq.mk.injEq]
  (repeat' (first|refine And.intro ?_ ?_|intro _))<;>first|omega|exact True.intro|exact False.elim ‹False›|skip
  all_goals first
    |omega
    |rfl
    |with_reducible assumption
    |(simp only [List.length_cons,List.length_nil];omega)
    |(unfold zG;simp only;omega)
    |(simp;done)
theorem zvq (q:Rq) (hneed:zG q):Spc Tryz.prog 82 [.v (.one (.ptr 0 0))] [.abs (.rq q)] (.ret (.tup [])) [.abs (.rq ((tZ q)))]:=by
  obtain⟨ln,p,⟨m,tg,hm,hf,hl⟩,le,ck,own,out⟩:=q
  cases ck with
  | none=>cases own with
    |true=>exact zqe ln p m tg hm hf hl le out hneed
    |false=>exact zqf ln p m tg hm hf hl le out hneed
  | some ch=>cases own with
    |true=>exact zqc ln p m tg hm hf hl le ch out hneed
    |false=>exact zqd ln p m tg hm hf hl le ch out hneed
def Qm (I:Alg) (args:List D) (hp:List HO):Option CT:=match args,hp with
  |[.v (.one (.ptr 0 0))],[.abs (.rq q)]=>(fun(q:Rq)=>(some (.one ⟨I.hid (zG q),(.ret (.tup [])),[.abs (.rq (I.hid ((tZ q))))]⟩):Option CT)) q
  |_,_=>none
theorem zi3:zx Tryz.prog 82 (Qm alg):=by
  intro args hp r h
  unfold Qm at h
  split at h
  · cases h;exact fun hn=>zvq _ hn
  · cases h
def Xa:Know Tryz.prog:=⟨82,Qm,zi3⟩
def Y9:Know Tryz.prog:=⟨82,fun I=>zy I (Qm I),zf zi3⟩
theorem zqH (b:Str) (cr:Bool) (code:Int):Spc Tryz.prog 53 [.v (.one (.ptr 0 0))] [.pack [.obj 165 [(.row 1),(.p (.bool cr)),(.p (.int .i64 code))],.row .byte 5 b]] (.ret (.v (.one (.p (.bool ((lnB ⟨b,cr,code⟩))))))) [.pack [.obj 165 [(.row 1),(.p (.bool cr)),(.p (.int .i64 code))],.row .byte 5 b]]:=by
  refine spcG zh mixed Tryz.func53 (by kernel_rfl) { zrC with keep:=some [0,2]} [] (by kernel_rfl) ?_
  intro I X hI hX
  refine orcL ?_;go_invoke;refine orcS (by kernel_rfl) ?_
  simp only [zi,Nat.reduceAdd]
  subst hI
  unfold lnB
  simp only [nrmA,nrmB,nrlB,reduceCtorEq,HO.pack.injEq,HO.obj.injEq]
  (repeat' (first|refine And.intro ?_ ?_|intro _))<;>first|omega|exact True.intro|exact False.elim ‹False›|skip
  all_goals first|omega|rfl|(simp_all;done)|trace_state
def Xm (I:Alg) (args:List D) (hp:List HO):Option CT:=match args,hp with
  |[.v (.one (.ptr 0 0))],[.pack [.obj 165 [(.row 1),(.p (.bool cr)),(.p (.int .i64 code))],.row .byte 5 b]]=>(fun(b:Str) (cr:Bool) (code:Int)=>(some (.one ⟨I.hid (True),(.ret (.v (.one (.p (.bool (I.hid ((lnB ⟨b,cr,code⟩)))))))),[.pack [.obj 165 [(.row 1),(.p (.bool cr)),(.p (.int .i64 code))],.row .byte 5 b]]⟩):Option CT)) b cr code
  |_,_=>none
theorem zct:zx Tryz.prog 53 (Xm alg):=by
  intro args hp r h
  unfold Xm at h
  split at h
  · cases h;exact fun hn=>zqH _ _ _
  · cases h
def Xl:Know Tryz.prog:=⟨53,Xm,zct⟩
def Xk:Know Tryz.prog:=⟨53,fun I=>zy I (Xm I),zf zct⟩
theorem zm4 (ln:Ln) (p:Int) (m tg:Str) (hm:Int) (hf:List Fld) (hl le:Int) (out:List Evt):Spc Tryz.prog 25 [.v (.one (.ptr 0 0))] [.abs (.rq ⟨ln,p,⟨m,tg,hm,hf,hl⟩,le,none,true,out⟩)] (.ret (.v (.one (.p (.bool ((decide (Rq.pos ⟨ln,p,⟨m,tg,hm,hf,hl⟩,le,none,true,out⟩=4)))))))) [.abs (.rq ⟨ln,p,⟨m,tg,hm,hf,hl⟩,le,none,true,out⟩)]:=by
  refine spcG zh mixed Tryz.func25 (by kernel_rfl) { cfgQ with keep:=some [0,2]} [] (by kernel_rfl) ?_
  intro I X hI hX
  refine orcL ?_;go_invoke;refine orcS (by kernel_rfl) ?_
  simp only [zi,Nat.reduceAdd]
  subst hI
  simp only [nrmA,nrmB,nrlB,reduceCtorEq,HO.abs.injEq,Gh.rq.injEq,Rq.mk.injEq]
  (repeat' (first|refine And.intro ?_ ?_|intro _))<;>first|omega|exact True.intro|exact False.elim ‹False›|skip
  all_goals first
    |omega
    |rfl
    |with_reducible assumption
    |(simp only [List.length_cons,List.length_nil];omega)
    |(simp;done)
theorem zm5 (ln:Ln) (p:Int) (m tg:Str) (hm:Int) (hf:List Fld) (hl le:Int) (out:List Evt):Spc Tryz.prog 25 [.v (.one (.ptr 0 0))] [.abs (.rq ⟨ln,p,⟨m,tg,hm,hf,hl⟩,le,none,false,out⟩)] (.ret (.v (.one (.p (.bool ((decide (Rq.pos ⟨ln,p,⟨m,tg,hm,hf,hl⟩,le,none,false,out⟩=4)))))))) [.abs (.rq ⟨ln,p,⟨m,tg,hm,hf,hl⟩,le,none,false,out⟩)]:=by
  refine spcG zh mixed Tryz.func25 (by kernel_rfl) { cfgQ with keep:=some [0,2]} [] (by kernel_rfl) ?_
  intro I X hI hX
  refine orcL ?_;go_invoke;refine orcS (by kernel_rfl) ?_
  simp only [zi,Nat.reduceAdd]
  subst hI
  simp only [nrmA,nrmB,nrlB,reduceCtorEq,HO.abs.injEq,Gh.rq.injEq,Rq.mk.injEq]
  (repeat' (first|refine And.intro ?_ ?_|intro _))<;>first|omega|exact True.intro|exact False.elim ‹False›|skip
  all_goals first
    |omega
    |rfl
    |with_reducible assumption
    |(simp only [List.length_cons,List.length_nil];omega)
    |(simp;done)
theorem zm2 (ln:Ln) (p:Int) (m tg:Str) (hm:Int) (hf:List Fld) (hl le:Int) (ch:Ch) (out:List Evt):Spc Tryz.prog 25 [.v (.one (.ptr 0 0))] [.abs (.rq ⟨ln,p,⟨m,tg,hm,hf,hl⟩,le,some ch,true,out⟩)] (.ret (.v (.one (.p (.bool ((decide (Rq.pos ⟨ln,p,⟨m,tg,hm,hf,hl⟩,le,some ch,true,out⟩=4)))))))) [.abs (.rq ⟨ln,p,⟨m,tg,hm,hf,hl⟩,le,some ch,true,out⟩)]:=by
  refine spcG zh mixed Tryz.func25 (by kernel_rfl) { cfgQ with keep:=some [0,2]} [] (by kernel_rfl) ?_
  intro I X hI hX
  refine orcL ?_;go_invoke;refine orcS (by kernel_rfl) ?_
  simp only [zi,Nat.reduceAdd]
  subst hI
  simp only [nrmA,nrmB,nrlB,reduceCtorEq,HO.abs.injEq,Gh.rq.injEq,Rq.mk.injEq]
  (repeat' (first|refine And.intro ?_ ?_|intro _))<;>first|omega|exact True.intro|exact False.elim ‹False›|skip
  all_goals first
    |omega
    |rfl
    |with_reducible assumption
    |(simp only [List.length_cons,List.length_nil];omega)
    |(simp;done)
theorem zm3 (ln:Ln) (p:Int) (m tg:Str) (hm:Int) (hf:List Fld) (hl le:Int) (ch:Ch) (out:List Evt):Spc Tryz.prog 25 [.v (.one (.ptr 0 0))] [.abs (.rq ⟨ln,p,⟨m,tg,hm,hf,hl⟩,le,some ch,false,out⟩)] (.ret (.v (.one (.p (.bool ((decide (Rq.pos ⟨ln,p,⟨m,tg,hm,hf,hl⟩,le,some ch,false,out⟩=4)))))))) [.abs (.rq ⟨ln,p,⟨m,tg,hm,hf,hl⟩,le,some ch,false,out⟩)]:=by
  refine spcG zh mixed Tryz.func25 (by kernel_rfl) { cfgQ with keep:=some [0,2]} [] (by kernel_rfl) ?_
  intro I X hI hX
  refine orcL ?_;go_invoke;refine orcS (by kernel_rfl) ?_
  simp only [zi,Nat.reduceAdd]
  subst hI
  simp only [nrmA,nrmB,nrlB,reduceCtorEq,HO.abs.injEq,Gh.rq.injEq,Rq.mk.injEq]
  (repeat' (first|refine And.intro ?_ ?_|intro _))<;>first|omega|exact True.intro|exact False.elim ‹False›|skip
  all_goals first
    |omega
    |rfl
    |with_reducible assumption
    |(simp only [List.length_cons,List.length_nil];omega)
    |(simp;done)
theorem zs6 (q:Rq):Spc Tryz.prog 25 [.v (.one (.ptr 0 0))] [.abs (.rq q)] (.ret (.v (.one (.p (.bool ((decide (Rq.pos q=4)))))))) [.abs (.rq ((q)))]:=by
  obtain⟨ln,p,⟨m,tg,hm,hf,hl⟩,le,ck,own,out⟩:=q
  cases ck with
  | none=>cases own with
    |true=>exact zm4 ln p m tg hm hf hl le out
    |false=>exact zm5 ln p m tg hm hf hl le out
  | some ch=>cases own with
    |true=>exact zm2 ln p m tg hm hf hl le ch out
    |false=>exact zm3 ln p m tg hm hf hl le ch out
def Vd (I:Alg) (args:List D) (hp:List HO):Option CT:=match args,hp with
  |[.v (.one (.ptr 0 0))],[.abs (.rq q)]=>(fun(q:Rq)=>(some (.one ⟨I.hid (True),(.ret (.v (.one (.p (.bool (I.hid ((decide (Rq.pos q=4))))))))),[.abs (.rq (I.hid ((q))))]⟩):Option CT)) q
  |_,_=>none
theorem ze4:zx Tryz.prog 25 (Vd alg):=by
  intro args hp r h
  unfold Vd at h
  split at h
  · cases h;exact fun hn=>zs6 _
  · cases h
def xU:Know Tryz.prog:=⟨25,Vd,ze4⟩
def xR:Know Tryz.prog:=⟨25,fun I=>zy I (Vd I),zf ze4⟩
theorem znc (ln:Ln) (p:Int) (m tg:Str) (hm:Int) (hf:List Fld) (hl le:Int) (out:List Evt):Spc Tryz.prog 29 [.v (.one (.ptr 0 0))] [.abs (.rq ⟨ln,p,⟨m,tg,hm,hf,hl⟩,le,none,true,out⟩)] (.ret (.v (.one (.p (.bool ((wF ⟨ln,p,⟨m,tg,hm,hf,hl⟩,le,none,true,out⟩))))))) [.abs (.rq ⟨ln,p,⟨m,tg,hm,hf,hl⟩,le,none,true,out⟩)]:=by
  refine spcG zh mixed Tryz.func29 (by kernel_rfl) { cfgQ with keep:=some [0,2]} [Xl,Xk] (by kernel_rfl) ?_
  intro I X hI hX
  refine orcL ?_;go_invoke;refine orcS (by kernel_rfl) ?_
  simp only [zi,Nat.reduceAdd]
  subst hI
  simp only [nrmA,nrmB,nrlB,reduceCtorEq,HO.abs.injEq,Gh.rq.injEq,Rq.mk.injEq]
  (repeat' (first|refine And.intro ?_ ?_|intro _))<;>first|omega|exact True.intro|exact False.elim ‹False›|skip
  all_goals first
    |omega
    |rfl
    |with_reducible assumption
    |(simp only [List.length_cons,List.length_nil];omega)
    |(simp_all [wF];done)
    |(simp;done)
theorem znd (ln:Ln) (p:Int) (m tg:Str) (hm:Int) (hf:List Fld) (hl le:Int) (out:List Evt):Spc Tryz.prog 29 [.v (.one (.ptr 0 0))] [.abs (.rq ⟨ln,p,⟨m,tg,hm,hf,hl⟩,le,none,false,out⟩)] (.ret (.v (.one (.p (.bool ((wF ⟨ln,p,⟨m,tg,hm,hf,hl⟩,le,none,false,out⟩))))))) [.abs (.rq ⟨ln,p,⟨m,tg,hm,hf,hl⟩,le,none,false,out⟩)]:=by
  refine spcG zh mixed Tryz.func29 (by kernel_rfl) { cfgQ with keep:=some [0,2]} [Xl,Xk] (by kernel_rfl) ?_
  intro I X hI hX
  refine orcL ?_;go_invoke;refine orcS (by kernel_rfl) ?_
  simp only [zi,Nat.reduceAdd]
  subst hI
  simp only [nrmA,nrmB,nrlB,reduceCtorEq,HO.abs.injEq,Gh.rq.injEq,Rq.mk.injEq]
  (repeat' (first|refine And.intro ?_ ?_|intro _))<;>first|omega|exact True.intro|exact False.elim ‹False›|skip
  all_goals first
    |omega
    |rfl
    |with_reducible assumption
    |(simp only [List.length_cons,List.length_nil];omega)
    |(simp_all [wF];done)
    |(simp;done)
theorem zna (ln:Ln) (p:Int) (m tg:Str) (hm:Int) (hf:List Fld) (hl le:Int) (ch:Ch) (out:List Evt):Spc Tryz.prog 29 [.v (.one (.ptr 0 0))] [.abs (.rq ⟨ln,p,⟨m,tg,hm,hf,hl⟩,le,some ch,true,out⟩)] (.ret (.v (.one (.p (.bool ((wF ⟨ln,p,⟨m,tg,hm,hf,hl⟩,le,some ch,true,out⟩))))))) [.abs (.rq ⟨ln,p,⟨m,tg,hm,hf,hl⟩,le,some ch,true,out⟩)]:=by
  refine spcG zh mixed Tryz.func29 (by kernel_rfl) { cfgQ with keep:=some [0,2]} [Xl,Xk] (by kernel_rfl) ?_
  intro I X hI hX
  refine orcL ?_;go_invoke;refine orcS (by kernel_rfl) ?_
  simp only [zi,Nat.reduceAdd]
  subst hI
  simp only [nrmA,nrmB,nrlB,reduceCtorEq,HO.abs.injEq,Gh.rq.injEq,Rq.mk.injEq]
  (repeat' (first|refine And.intro ?_ ?_|intro _))<;>first|omega|exact True.intro|exact False.elim ‹False›|skip
  all_goals first
    |omega
    |rfl
    |with_reducible assumption
    |(simp only [List.length_cons,List.length_nil];omega)
    |(simp_all [wF];done)
    |(simp;done)
theorem znb (ln:Ln) (p:Int) (m tg:Str) (hm:Int) (hf:List Fld) (hl le:Int) (ch:Ch) (out:List Evt):Spc Tryz.prog 29 [.v (.one (.ptr 0 0))] [.abs (.rq ⟨ln,p,⟨m,tg,hm,hf,hl⟩,le,some ch,false,out⟩)] (.ret (.v (.one (.p (.bool ((wF ⟨ln,p,⟨m,tg,hm,hf,hl⟩,le,some ch,false,out⟩))))))) [.abs (.rq ⟨ln,p,⟨m,tg,hm,hf,hl⟩,le,some ch,false,out⟩)]:=by
  refine spcG zh mixed Tryz.func29 (by kernel_rfl) { cfgQ with keep:=some [0,2]} [Xl,Xk] (by kernel_rfl) ?_
  intro I X hI hX
  refine orcL ?_;go_invoke;refine orcS (by kernel_rfl) ?_
  simp only [zi,Nat.reduceAdd]
  subst hI
  simp only [nrmA,nrmB,nrlB,reduceCtorEq,HO.abs.injEq,Gh.rq.injEq,Rq.mk.injEq]
  (repeat' (first|refine And.intro ?_ ?_|intro _))<;>first|omega|exact True.intro|exact False.elim ‹False›|skip
  all_goals first
    |omega
    |rfl
    |with_reducible assumption
    |(simp only [List.length_cons,List.length_nil];omega)
    |(simp_all [wF];done)
    |(simp;done)
theorem zs8 (q:Rq):Spc Tryz.prog 29 [.v (.one (.ptr 0 0))] [.abs (.rq q)] (.ret (.v (.one (.p (.bool ((wF q))))))) [.abs (.rq ((q)))]:=by
  obtain⟨ln,p,⟨m,tg,hm,hf,hl⟩,le,ck,own,out⟩:=q
  cases ck with
  | none=>cases own with
    |true=>exact znc ln p m tg hm hf hl le out
    |false=>exact znd ln p m tg hm hf hl le out
  | some ch=>cases own with
    |true=>exact zna ln p m tg hm hf hl le ch out
    |false=>exact znb ln p m tg hm hf hl le ch out
def Vf (I:Alg) (args:List D) (hp:List HO):Option CT:=match args,hp with
  |[.v (.one (.ptr 0 0))],[.abs (.rq q)]=>(fun(q:Rq)=>(some (.one ⟨I.hid (True),(.ret (.v (.one (.p (.bool (I.hid ((wF q)))))))),[.abs (.rq (I.hid ((q))))]⟩):Option CT)) q
  |_,_=>none
theorem ze6:zx Tryz.prog 29 (Vf alg):=by
  intro args hp r h
  unfold Vf at h
  split at h
  · cases h;exact fun hn=>zs8 _
  · cases h
def Yv:Know Tryz.prog:=⟨29,Vf,ze6⟩
def Yu:Know Tryz.prog:=⟨29,fun I=>zy I (Vf I),zf ze6⟩
end Go.Proofs.YtmkcejdibmilmaaGreatDoor
namespace Go.Ab
open Go Go.Sep
variable [Facts]
theorem Spc.zvQ {Pr:Program} {f:Nat} {args:List D} {hp:List HO} {u:U} {E:Nat} {l:List u.den} (hl:l.length≤maxLen) (hf: ∃ fn,Pr.funcs[f]? =some fn∧(fn.name == "runtime.NumGoroutine")=false∧fn.body.isNone=false)
    (h: ∀ (S:Frz) (bs:List Value) (w:World) (vs:List Value),Facts.p w→MDs S bs args vs→∃ cs:Array Value,cs.size=l.length * u.size∧(∀ (i:Nat) (x:u.den) (j:Nat) (p:P) (v:Value),l[i]? =some x→(enc alg u x)[j]? =some p→cs.toList[i * u.size+j]? =some v→MP S p v)∧Calls Pr f vs.toArray w fun e w'=>e=.returned (.slice (some ⟨w.heap.size,0,none⟩) l.length l.length)∧w'=w.alloc (.cells cs E)):Spc Pr f args hp (.ret (.v (.one (.row hp.length)))) (hp++[.row u E l]):=by
  refine⟨hf,fun S K fr w vs hH hM hA=> ?_⟩
  obtain⟨cs,hcs,hx,hc⟩:=h S _ w vs (At.frz hA).facts hM
  refine hc.mono fun e w' he=> ?_
  obtain⟨rfl,rfl⟩:=he
  have he:Ext (K.map CO.base) ((K++[CO.row E u.size (some ⟨w.heap.size,0,none⟩) l.length l.length cs.toList]).map CO.base):=by rw [List.map_append];exact Ext.append _ _
  refine⟨S,K++[CO.row E u.size (some ⟨w.heap.size,0,none⟩) l.length l.length cs.toList],Frz.le.refl S,he,(hH.mono (Frz.le.refl S) he).push (.row (by rw [Array.length_toList];exact hcs) hx),?_,?_⟩
  · have h1:=hA.zad E u.size l.length cs (0,0) hcs hl (tJ _)
    exact At.more h1
  · refine⟨?_,some ⟨w.heap.size,0,none⟩,l.length,l.length,rfl⟩
    rw [hH.1];exact xK _ _
end Go.Ab
namespace Go.Proofs.YtmkcejdibmilmaaGreatDoor
open Go Go.Sep Go.Ab
set_option maxRecDepth 100000
theorem index_one: ∀ (s:Str) (c:UInt8),c ∉ s→Lib.index s [c]= -1
  |[],c,_=>rfl
  | b::l,c,h=>by
    have h1: ¬ b=c:=fun e=>h (by rw [e];exact List.mem_cons_self)
    have h2:c ∉ l:=fun e=>h (List.mem_cons_of_mem _ e)
    have h0:(c == b)=false:=by simpa using fun e:c=b=>h1 e.symm
    have h3:([c]:Str).isPrefixOf (b::l)=false:=by simp [List.isPrefixOf,h0]
    unfold Lib.index
    rw [h3,index_one l c h2];rfl
theorem zjG: ∀ (p r:Str) (c:UInt8),c ∉ p→Lib.index (p++c::r) [c]=p.length
  |[],r,c,_=>by simp [Lib.index,List.isPrefixOf]
  | b::l,r,c,h=>by
    have h1: ¬ b=c:=fun e=>h (by rw [e];exact List.mem_cons_self)
    have h2:c ∉ l:=fun e=>h (List.mem_cons_of_mem _ e)
    have h0:(c == b)=false:=by simpa using fun e:c=b=>h1 e.symm
    have h3:([c]:Str).isPrefixOf (b::(l++c::r))=false:=by simp [List.isPrefixOf,h0]
    rw [List.cons_append]
    unfold Lib.index
    rw [h3,zjG l r c h2]
    have: ¬ ((l.length:Int) == -1)=true:=fun e=>by have:=beq_iff_eq.1 e;omega
    rw [if_neg (by simp),if_neg this]
    simp
theorem zat: ∀ (s:Str),(32:UInt8) ∉ s→yI s=[s]
  |[],_=>rfl
  | b::l,h=>by
    have h1: ¬ b=32:=fun e=>h (by rw [e];exact List.mem_cons_self)
    have h2:(32:UInt8) ∉ l:=fun e=>h (List.mem_cons_of_mem _ e)
    rw [yI,if_neg h1,zat l h2]
theorem zbY: ∀ (p r:Str),(32:UInt8) ∉ p→yI (p++32::r)=p::yI r
  |[],r,_=>by simp [yI]
  | b::l,r,h=>by
    have h1: ¬ b=32:=fun e=>h (by rw [e];exact List.mem_cons_self)
    have h2:(32:UInt8) ∉ l:=fun e=>h (List.mem_cons_of_mem _ e)
    rw [List.cons_append,yI,if_neg h1,zbY l r h2]
theorem zso: ∀ (s:Str) (c:UInt8),c ∈ s→∃ p r,s=p++c::r∧c ∉ p
  | b ::l,c,h=>by
    by_cases e:b=c
    · exact⟨[],l,by rw [e];rfl,by simp⟩
    · have h2:c ∈ l:=by
        rcases List.mem_cons.1 h with h|h
        · exact absurd h.symm e
        · exact h
      obtain⟨p,r,rfl,h3⟩:=zso l c h2
      refine⟨b::p,r,rfl,fun h4=> ?_⟩
      rcases List.mem_cons.1 h4 with h4|h4
      · exact e h4.symm
      · exact h3 h4
theorem zeJ: ∀ (n:Nat) (s:Str),s.length≤n→∀ k,s.count 32≤k→Lib.splitK [32] 0 k s=yI s
  | 0,s,hs,k,_=>by
    have:s=[]:=List.length_eq_zero_iff.1 (by omega)
    subst this
    cases k<;>rfl
  | n + 1,s,hs,k,hk=>by
    by_cases hm:(32:UInt8) ∈ s
    · obtain⟨p,r,rfl,hp⟩:=zso s 32 hm
      have hc:(p++32::r).count 32=r.count 32+1:=by
        rw [List.count_append,List.count_eq_zero.2 hp,List.count_cons_self];omega
      rw [hc] at hk
      cases k with
      |zero=>omega
      | succ k=>
        rw [zbY p r hp]
        unfold Lib.splitK
        rw [zjG p r 32 hp]
        have: ¬ ((p.length:Int) == -1)=true:=fun e=>by have:=beq_iff_eq.1 e;omega
        rw [if_neg this]
        simp only [Int.toNat_natCast,Nat.add_zero,List.length_cons,List.length_nil,Nat.zero_add]
        rw [List.take_left,show p.length+1=(p++[(32:UInt8)]).length by simp,show p++32::r=(p++[32])++r by simp,List.drop_left]
        congr 1
        refine zeJ n r ?_ k (by omega)
        simp only [List.length_append,List.length_cons] at hs
        omega
    · rw [zat s hm]
      cases k with
      |zero=>rfl
      | succ k=>
        unfold Lib.splitK
        rw [index_one s 32 hm];rfl
theorem count_one (s:Str):Lib.count s [32]=s.count 32:=Lib.count_one 32 s
theorem zau: ∀ (s:Str),(yI s).length=s.count 32+1
  |[]=>rfl
  | c ::r=>by
    have ih:=zau r
    rw [yI]
    split
    · rename_i h;subst h;rw [List.length_cons,ih,List.count_cons_self]
    · rename_i h
      rw [List.count_cons_of_ne (by simpa using h)]
      cases hq:yI r with
      |nil=>exact absurd hq (zbX r)
      |cons w ws=>rw [hq] at ih;simpa using ih
theorem zmf {S:Frz} {l:List Str} (hl: ∀ x ∈ l,x.length≤maxLen) {vs:List Value} (hv:vs=l.map fun x=>Value.string (Sep.S x)): ∀ (i:Nat) (x:Str) (j:Nat) (p:P) (v:Value),l[i]? =some x→(enc alg .str x)[j]? =some p→vs[i * U.str.size+j]? =some v→MP S p v:=by
  intro i x j p v hi hj hv2
  cases j with
  | zero=>
    simp only [enc,List.getElem?_cons_zero,Option.some.injEq] at hj
    subst hj
    rw [hv,show i * U.str.size+0=i by simp [U.size],List.getElem?_map,hi] at hv2
    cases hv2
    exact .str _ (hl x (List.mem_of_getElem? hi))
  |succ j=>simp [enc] at hj
theorem sW: ∀ (s:Str),∀ x ∈ yI s,x.length≤s.length
  |[],x,h=>by simp [yI] at h;subst h;simp
  | c ::r,x,h=>by
    have ih:=sW r
    rw [yI] at h
    split at h
    · rcases List.mem_cons.1 h with rfl|h
      · simp
      · have:=ih x h;simp;omega
    · cases hq:yI r with
      |nil=>exact absurd hq (zbX r)
      | cons w ws=>
        rw [hq] at h ih
        rcases List.mem_cons.1 h with rfl|h
        · have:=ih w List.mem_cons_self;simp;omega
        · have:=ih x (List.mem_cons_of_mem _ h);simp;omega
theorem zu7 (s:Str) (hneed:s.length≤1000000):Spc Tryz.prog 147 [.v (.one (.p (.str s))),.v (.one (.p (.str ([32]))))] [] (.ret (.v (.one (.row 0)))) [.row .str 9 ((yI s))]:=by
  have hlen:=zau s
  have hcl:s.count 32≤s.length:=List.count_le_length
  refine Spc.zvQ (hp:=[]) (u:=.str) (by rw [hlen];unfold maxLen;omega) ⟨_,Tryz.func147,by kernel_rfl,by kernel_rfl⟩ fun S bs w vs hW hM=> ?_
  obtain⟨v,r,rfl⟩: ∃ v r,vs=v::r:=by cases vs with|nil=>exact hM.elim|cons v r=>exact⟨v,r,rfl⟩
  obtain⟨h1,hM⟩:=hM
  obtain⟨v2,r2,rfl⟩: ∃ v r2,r=v::r2:=by cases r with|nil=>exact hM.elim|cons v r=>exact⟨v,r,rfl⟩
  obtain⟨h2,hM⟩:=hM
  obtain rfl:r2=[]:=by cases r2 with|nil=>rfl|cons v r=>exact hM.elim
  obtain⟨mx,hmx⟩:=hW.2
  cases h1 with
  | str _ hl1=>
    cases h2 with
    | str _ hl2=>
      have hc:=Tryz.strings_Split (Sep.S s) (Sep.S [32]) mx w (by show s.length<_;omega) hmx (by decide)
      have hk:Lib.countB (Sep.S s) (Sep.S [32])=s.count 32:=count_one s
      have hd:(Lib.splitB (Sep.S [32]) 0 (Lib.countB (Sep.S s) (Sep.S [32])) (Sep.S s)).map (fun b=>b.data.toList)=yI s:=by
        rw [Lib.splitB_data,hk]
        exact zeJ s.length s (Nat.le_refl _) _ (Nat.le_refl _)
      have hv:(Lib.splitB (Sep.S [32]) 0 (Lib.countB (Sep.S s) (Sep.S [32])) (Sep.S s)).map Value.string=(yI s).map fun x=>Value.string (Sep.S x):=by
        rw [← hd,List.map_map]
        exact List.map_congr_left fun b _=>by simp [Sep.S]
      refine⟨((Lib.splitB (Sep.S [32]) 0 (Lib.countB (Sep.S s) (Sep.S [32])) (Sep.S s)).map Value.string).toArray,?_,?_,hc.mono fun e w' h=> ?_⟩
      · rw [hv];simp [U.size]
      · exact zmf (fun x hx=>by have:=sW s x hx;unfold maxLen;omega) (by rw [hv])
      · obtain⟨he,hw⟩:=h
        rw [hk] at he
        rw [hlen]
        exact⟨he,hw⟩
def RI (I:Alg) (args:List D) (hp:List HO):Option CT:=match args,hp with
  |[.v (.one (.p (.str s))),.v (.one (.p (.str ([32]))))],[]=>(fun(s:Str)=>(some (.one ⟨I.hid (s.length≤1000000),(.ret (.v (.one (.row 0)))),[.row .str 9 (I.hid ((yI s)))]⟩):Option CT)) s
  |_,_=>none
theorem zix:zx Tryz.prog 147 (RI alg):=by
  intro args hp r h
  unfold RI at h
  split at h
  · cases h;exact fun hn=>zu7 _ hn
  · cases h
def ziw:Know Tryz.prog:=⟨147,RI,zix⟩
def ziv:Know Tryz.prog:=⟨147,fun I=>zy I (RI I),zf zix⟩
end Go.Proofs.YtmkcejdibmilmaaGreatDoor
namespace Go.Proofs.YtmkcejdibmilmaaGreatDoor
open Go Go.Sep Go.Ab
set_option maxRecDepth 100000
theorem zl4 (s:Str):decide (0≤Lib.indexByte s 9)=s.contains 9:=by
  have h: ∀ s:Str,(0≤Lib.indexByte s 9)↔s.contains 9=true:=by
    intro s
    induction s with
    |nil=>simp [Lib.indexByte]
    | cons b l ih=>
      have hb:=YG l 9
      unfold Lib.indexByte
      by_cases e:b=9
      · subst e;simp
      · have e2:(b == 9)=false:=by simpa using e
        have e3:((9:UInt8) == b)=false:=by simpa using fun h:9=b=>e h.symm
        rw [e2,if_neg (by simp),List.contains_cons,e3,Bool.false_or,← ih]
        split
        · rename_i h;have:=beq_iff_eq.1 h;omega
        · rename_i h;have: ¬ Lib.indexByte l 9= -1:=fun e=>h (by rw [e];rfl);omega
  rw [Bool.eq_iff_iff,decide_eq_true_eq];exact h s
theorem zl3 (s:Str):(0≤Lib.indexByte s 9)↔s.contains 9=true:=by rw [← zl4,decide_eq_true_iff]
theorem zjd (b:Str):Lib.hasPrefix b [47]=decide (b.head?=some 47):=by
  cases b with
  |nil=>rfl
  | cons c r=>
    unfold Lib.hasPrefix
    by_cases h:c=47
    · subst h;simp [List.isPrefixOf]
    · simp [List.isPrefixOf,h];exact fun e=>h e.symm
def su (q:Rq) (s:Str):Rq:=
  if(begM s).1=0 then { q with h:=(begM s).2,pos:=1} else if(begM s).1=11 then { q with h:=(begM s).2} else q
def vU (q:Rq):Prop:=q.own=true
theorem zqk (ln:Ln) (p:Int) (m tg:Str) (hm:Int) (hf:List Fld) (hl le:Int) (out:List Evt) (s:Str) (hneed:vU ⟨ln,p,⟨m,tg,hm,hf,hl⟩,le,none,true,out⟩∧s.length≤1000000):Spc Tryz.prog 116 [.v (.one (.ptr 0 0)),.v (.one (.p (.str s)))] [.abs (.rq ⟨ln,p,⟨m,tg,hm,hf,hl⟩,le,none,true,out⟩)] (.ret (.v (.one (.p (.int .i64 ((begM s).1)))))) [.abs (.rq ((su ⟨ln,p,⟨m,tg,hm,hf,hl⟩,le,none,true,out⟩ s)))]:=by
  obtain⟨-,hs⟩:=hneed
  generalize hr:begM s=r
  obtain⟨rc,⟨rm,rt,ri,rf,rl⟩⟩:=r
  unfold su
  rw [hr]
  unfold begM at hr
  have hsm:=sW s
  refine spcG zh mixed Tryz.func116 (by kernel_rfl) { cfgQ with keep:=some [0,1,4,5,39]} [Xp,Xo,ziw,ziv,xG,xE,Rf,S9] (by kernel_rfl) ?_
  intro I X hI hX
  refine orcL ?_;go_invoke;refine orcS (by kernel_rfl) ?_
  simp only [zi,Nat.reduceAdd]
  subst hI
  simp only [nrmA,nrmB,nrlB,reduceCtorEq,HO.abs.injEq,Gh.rq.injEq,Rq.mk.injEq]
  generalize yI s=L at *
  by_cases h3:L.length=3
  · obtain⟨a,b,c,rfl⟩: ∃ a b c,L=[a,b,c]:=by
      match L,h3 with
      |[a,b,c],_=>exact⟨a,b,c,rfl⟩
    have ha:=hsm a (by simp)
    have hb:=hsm b (by simp)
    clear hsm h3
    simp only [show Int.toNat 1=1 from rfl,show Int.toNat 2=2 from rfl,List.getD_cons_zero,List.getD_cons_succ,zjd,zl4,zl3,Bool.decide_eq_true] at hr ⊢
    by_cases q1:TQ a=false
    · rw [if_pos q1] at hr
      simp only [Prod.mk.injEq,hd0,Hd.mk.injEq] at hr
      obtain⟨rfl,rfl,rfl,rfl,rfl,rfl⟩:=hr
      (repeat' (first|refine And.intro ?_ ?_|intro _))<;>first|omega|exact True.intro|exact False.elim ‹False›|skip
      all_goals first|omega|rfl|(simp only [List.length_cons,List.length_nil];omega)|(simp_all;done)|trace_state
    rw [if_neg q1] at hr
    by_cases q2:b.head?≠some 47∨b.contains 9=true
    · rw [if_pos q2] at hr
      simp only [Prod.mk.injEq,hd0,Hd.mk.injEq] at hr
      obtain⟨rfl,rfl,rfl,rfl,rfl,rfl⟩:=hr
      (repeat' (first|refine And.intro ?_ ?_|intro _))<;>first|omega|exact True.intro|exact False.elim ‹False›|skip
      all_goals first|omega|rfl|(simp only [List.length_cons,List.length_nil];omega)|(simp_all;done)|trace_state
    rw [if_neg q2] at hr
    by_cases q3:c=VD
    · rw [if_pos q3] at hr
      simp only [Prod.mk.injEq,Hd.mk.injEq] at hr
      obtain⟨rfl,rfl,rfl,rfl,rfl,rfl⟩:=hr
      unfold VD at q3
      (repeat' (first|refine And.intro ?_ ?_|intro _))<;>first|omega|exact True.intro|exact False.elim ‹False›|skip
      all_goals first|omega|rfl|(simp only [List.length_cons,List.length_nil];omega)|(simp_all;done)|trace_state
    rw [if_neg q3] at hr
    by_cases q4:c=zaZ
    · rw [if_pos q4] at hr
      simp only [Prod.mk.injEq,Hd.mk.injEq] at hr
      obtain⟨rfl,rfl,rfl,rfl,rfl,rfl⟩:=hr
      unfold VD at q3
      unfold zaZ at q4
      (repeat' (first|refine And.intro ?_ ?_|intro _))<;>first|omega|exact True.intro|exact False.elim ‹False›|skip
      all_goals first|omega|rfl|(simp only [List.length_cons,List.length_nil];omega)|(simp_all;done)|trace_state
    rw [if_neg q4] at hr
    simp only [Prod.mk.injEq,Hd.mk.injEq] at hr
    obtain⟨rfl,rfl,rfl,rfl,rfl,rfl⟩:=hr
    unfold VD at q3
    unfold zaZ at q4
    (repeat' (first|refine And.intro ?_ ?_|intro _))<;>first|omega|exact True.intro|exact False.elim ‹False›|skip
    all_goals first|omega|rfl|(simp only [List.length_cons,List.length_nil];omega)|(simp_all;done)|trace_state
  · have hr2:(5,hd0)=((rc,⟨rm,rt,ri,rf,rl⟩):Int × Hd):=by
      rw [← hr]
      split
      · exact absurd rfl h3
      · rfl
    simp only [Prod.mk.injEq,hd0,Hd.mk.injEq] at hr2
    obtain⟨rfl,rfl,rfl,rfl,rfl,rfl⟩:=hr2
    (repeat' (first|refine And.intro ?_ ?_|intro _))<;>first|omega|exact True.intro|exact False.elim ‹False›|skip
    all_goals first|omega|rfl|(simp only [List.length_cons,List.length_nil];omega)|trace_state
theorem zql (ln:Ln) (p:Int) (m tg:Str) (hm:Int) (hf:List Fld) (hl le:Int) (out:List Evt) (s:Str) (hneed:vU ⟨ln,p,⟨m,tg,hm,hf,hl⟩,le,none,false,out⟩∧s.length≤1000000):Spc Tryz.prog 116 [.v (.one (.ptr 0 0)),.v (.one (.p (.str s)))] [.abs (.rq ⟨ln,p,⟨m,tg,hm,hf,hl⟩,le,none,false,out⟩)] (.ret (.v (.one (.p (.int .i64 ((begM s).1)))))) [.abs (.rq ((su ⟨ln,p,⟨m,tg,hm,hf,hl⟩,le,none,false,out⟩ s)))]:=by
  exact absurd hneed.1 (fun h=>by unfold vU at h;cases h)
theorem zqi (ln:Ln) (p:Int) (m tg:Str) (hm:Int) (hf:List Fld) (hl le:Int) (ch:Ch) (out:List Evt) (s:Str) (hneed:vU ⟨ln,p,⟨m,tg,hm,hf,hl⟩,le,some ch,true,out⟩∧s.length≤1000000):Spc Tryz.prog 116 [.v (.one (.ptr 0 0)),.v (.one (.p (.str s)))] [.abs (.rq ⟨ln,p,⟨m,tg,hm,hf,hl⟩,le,some ch,true,out⟩)] (.ret (.v (.one (.p (.int .i64 ((begM s).1)))))) [.abs (.rq ((su ⟨ln,p,⟨m,tg,hm,hf,hl⟩,le,some ch,true,out⟩ s)))]:=by
  obtain⟨-,hs⟩:=hneed
  generalize hr:begM s=r
  obtain⟨rc,⟨rm,rt,ri,rf,rl⟩⟩:=r
  unfold su
  rw [hr]
  unfold begM at hr
  have hsm:=sW s
  refine spcG zh mixed Tryz.func116 (by kernel_rfl) { cfgQ with keep:=some [0,1,4,5,39]} [Xp,Xo,ziw,ziv,xG,xE,Rf,S9] (by kernel_rfl) ?_
  intro I X hI hX
  refine orcL ?_;go_invoke;refine orcS (by kernel_rfl) ?_
  simp only [zi,Nat.reduceAdd]
  subst hI
  simp only [nrmA,nrmB,nrlB,reduceCtorEq,HO.abs.injEq,Gh.rq.injEq,Rq.mk.injEq]
  generalize yI s=L at *
  by_cases h3:L.length=3
  · obtain⟨a,b,c,rfl⟩: ∃ a b c,L=[a,b,c]:=by
      match L,h3 with
      |[a,b,c],_=>exact⟨a,b,c,rfl⟩
    have ha:=hsm a (by simp)
    have hb:=hsm b (by simp)
    clear hsm h3
    simp only [show Int.toNat 1=1 from rfl,show Int.toNat 2=2 from rfl,List.getD_cons_zero,List.getD_cons_succ,zjd,zl4,zl3,Bool.decide_eq_true] at hr ⊢
    by_cases q1:TQ a=false
    · rw [if_pos q1] at hr
      simp only [Prod.mk.injEq,hd0,Hd.mk.injEq] at hr
      obtain⟨rfl,rfl,rfl,rfl,rfl,rfl⟩:=hr
      (repeat' (first|refine And.intro ?_ ?_|intro _))<;>first|omega|exact True.intro|exact False.elim ‹False›|skip
      all_goals first|omega|rfl|(simp only [List.length_cons,List.length_nil];omega)|(simp_all;done)|trace_state
    rw [if_neg q1] at hr
    by_cases q2:b.head?≠some 47∨b.contains 9=true
    · rw [if_pos q2] at hr
      simp only [Prod.mk.injEq,hd0,Hd.mk.injEq] at hr
      obtain⟨rfl,rfl,rfl,rfl,rfl,rfl⟩:=hr
      (repeat' (first|refine And.intro ?_ ?_|intro _))<;>first|omega|exact True.intro|exact False.elim ‹False›|skip
      all_goals first|omega|rfl|(simp only [List.length_cons,List.length_nil];omega)|(simp_all;done)|trace_state
    rw [if_neg q2] at hr
    by_cases q3:c=VD
    · rw [if_pos q3] at hr
      simp only [Prod.mk.injEq,Hd.mk.injEq] at hr
      obtain⟨rfl,rfl,rfl,rfl,rfl,rfl⟩:=hr
      unfold VD at q3
      (repeat' (first|refine And.intro ?_ ?_|intro _))<;>first|omega|exact True.intro|exact False.elim ‹False›|skip
      all_goals first|omega|rfl|(simp only [List.length_cons,List.length_nil];omega)|(simp_all;done)|trace_state
    rw [if_neg q3] at hr
    by_cases q4:c=zaZ
    · rw [if_pos q4] at hr
      simp only [Prod.mk.injEq,Hd.mk.injEq] at hr
      obtain⟨rfl,rfl,rfl,rfl,rfl,rfl⟩:=hr
      unfold VD at q3
      unfold zaZ at q4
      (repeat' (first|refine And.intro ?_ ?_|intro _))<;>first|omega|exact True.intro|exact False.elim ‹False›|skip
      all_goals first|omega|rfl|(simp only [List.length_cons,List.length_nil];omega)|(simp_all;done)|trace_state
    rw [if_neg q4] at hr
    simp only [Prod.mk.injEq,Hd.mk.injEq] at hr
    obtain⟨rfl,rfl,rfl,rfl,rfl,rfl⟩:=hr
    unfold VD at q3
    unfold zaZ at q4
    (repeat' (first|refine And.intro ?_ ?_|intro _))<;>first|omega|exact True.intro|exact False.elim ‹False›|skip
    all_goals first|omega|rfl|(simp only [List.length_cons,List.length_nil];omega)|(simp_all;done)|trace_state
  · have hr2:(5,hd0)=((rc,⟨rm,rt,ri,rf,rl⟩):Int × Hd):=by
      rw [← hr]
      split
      · exact absurd rfl h3
      · rfl
    simp only [Prod.mk.injEq,hd0,Hd.mk.injEq] at hr2
    obtain⟨rfl,rfl,rfl,rfl,rfl,rfl⟩:=hr2
    (repeat' (first|refine And.intro ?_ ?_|intro _))<;>first|omega|exact True.intro|exact False.elim ‹False›|skip
    all_goals first|omega|rfl|(simp only [List.length_cons,List.length_nil];omega)|trace_state
theorem zqj (ln:Ln) (p:Int) (m tg:Str) (hm:Int) (hf:List Fld) (hl le:Int) (ch:Ch) (out:List Evt) (s:Str) (hneed:vU ⟨ln,p,⟨m,tg,hm,hf,hl⟩,le,some ch,false,out⟩∧s.length≤1000000):Spc Tryz.prog 116 [.v (.one (.ptr 0 0)),.v (.one (.p (.str s)))] [.abs (.rq ⟨ln,p,⟨m,tg,hm,hf,hl⟩,le,some ch,false,out⟩)] (.ret (.v (.one (.p (.int .i64 ((begM s).1)))))) [.abs (.rq ((su ⟨ln,p,⟨m,tg,hm,hf,hl⟩,le,some ch,false,out⟩ s)))]:=by
  exact absurd hneed.1 (fun h=>by unfold vU at h;cases h)
theorem zvr (q:Rq) (s:Str) (hneed:vU q∧s.length≤1000000):Spc Tryz.prog 116 [.v (.one (.ptr 0 0)),.v (.one (.p (.str s)))] [.abs (.rq q)] (.ret (.v (.one (.p (.int .i64 ((begM s).1)))))) [.abs (.rq ((su q s)))]:=by
  obtain⟨ln,p,⟨m,tg,hm,hf,hl⟩,le,ck,own,out⟩:=q
  cases ck with
  | none=>cases own with
    |true=>exact zqk ln p m tg hm hf hl le out s hneed
    |false=>exact zql ln p m tg hm hf hl le out s hneed
  | some ch=>cases own with
    |true=>exact zqi ln p m tg hm hf hl le ch out s hneed
    |false=>exact zqj ln p m tg hm hf hl le ch out s hneed
def Qn (I:Alg) (args:List D) (hp:List HO):Option CT:=match args,hp with
  |[.v (.one (.ptr 0 0)),.v (.one (.p (.str s)))],[.abs (.rq q)]=>(fun(q:Rq) (s:Str)=>(some (.one ⟨I.hid (vU q∧s.length≤1000000),(.ret (.v (.one (.p (.int .i64 (I.hid ((begM s).1))))))),[.abs (.rq (I.hid ((su q s))))]⟩):Option CT)) q s
  |_,_=>none
theorem zi6:zx Tryz.prog 116 (Qn alg):=by
  intro args hp r h
  unfold Qn at h
  split at h
  · cases h;exact fun hn=>zvr _ _ hn
  · cases h
def zi5:Know Tryz.prog:=⟨116,Qn,zi6⟩
def zi4:Know Tryz.prog:=⟨116,fun I=>zy I (Qn I),zf zi6⟩
def FsOk (f:List Fld):Prop:=f.length≤1000∧∀ x ∈ f,x.name.length≤1000000∧x.value.length≤1000000
theorem zez (f:List Fld) (n:Str):(valsF f n).length≤f.length:=by
  unfold valsF
  first|exact Nat.le_trans (List.length_map ..).le (List.length_filter_le _ _)|(rw [List.length_map];exact List.length_filter_le _ _)|exact List.length_filterMap_le _ _
theorem zpU (a:Str) (n:Int) (l:List Str) (i:Nat) (h: ¬ i<l.length):sizM a n (l.drop i)=(n,0):=by
  rw [List.drop_of_length_le (by omega)];rfl
theorem zml (a:Str) (n:Int) (l:List Str) (i:Nat) (h:i<l.length):sizM a n (l.drop i)=if(numA (l.getD i []) 10 9).2=false then(0,7) else if l.getD i []≠a then(0,12) else sizM a (numA (l.getD i []) 10 9).1 (l.drop (i+1)):=by
  rw [List.drop_eq_getElem_cons h,show l.getD i []=l[i] by simp [h]];rfl
theorem zvp (m t:Str) (mi:Int) (f:List Fld) (le:Int) (hneed:FsOk f):Spc Tryz.prog 150 [.v (.agg [(.p (.str m)),(.p (.str t)),(.p (.int .i64 mi)),(.p (.list .fld f)),(.p (.int .i64 le))])] [] (.ret (.tup [(.one (.p (.int .i64 ((lenM mi f).1)))),(.one (.p (.int .i64 ((lenM mi f).2))))])) []:=by
  obtain⟨hf1,hf2⟩:=hneed
  generalize hr:lenM mi f=r
  obtain⟨rn,rc⟩:=r
  refine spcG zh mixed Tryz.func150 (by kernel_rfl) { keep:=some [0,1,2,3,4,5,6,7,8,9,10,45,46,47]} [vg,ve,zbm,zbl,rJ,rH] (by kernel_rfl) ?_
  intro I X hI hX
  refine orcL ?_;go_invoke;refine orcS (by kernel_rfl) ?_
  simp only [zi,Nat.reduceAdd]
  have hh: ∀ {α:Type} (x:α),I.hid x=x:=by subst hI;intros;rfl
  have hln: ∀ (l:List Str),I.len l=(l.length:Int):=by subst hI;intros;rfl
  simp only [hh,hln]
  unfold lenM at hr
  rw [show zpA=[116,114,97,110,115,102,101,114,45,101,110,99,111,100,105,110,103] from rfl,show Ro=[99,111,110,116,101,110,116,45,108,101,110,103,116,104] from rfl] at hr
  have hL1:=zez f [99,111,110,116,101,110,116,45,108,101,110,103,116,104]
  have hT1:=zez f [116,114,97,110,115,102,101,114,45,101,110,99,111,100,105,110,103]
  have hT2: ∀ x ∈ valsF f [116,114,97,110,115,102,101,114,45,101,110,99,111,100,105,110,103],x.length≤1000000:=by
    intro x hx
    unfold valsF at hx
    rw [List.mem_map] at hx
    obtain⟨y,hy,rfl⟩:=hx
    exact(hf2 y (List.mem_filter.1 hy).1).2
  generalize valsF f [99,111,110,116,101,110,116,45,108,101,110,103,116,104]=L at *
  generalize valsF f [116,114,97,110,115,102,101,114,45,101,110,99,111,100,105,110,103]=T at *
  have keyL: ∀ (k:Int) (st:St),k=(L.length:Int)→(if(sizM (L.getD 0 []) 0 L).2≠0 then(0,(sizM (L.getD 0 []) 0 L).2) else if 4000<(sizM (L.getD 0 []) 0 L).1 then(0,4) else((sizM (L.getD 0 []) 0 L).1,0))=(rn,rc)→cutM { keep:=some [0,1,2,3,4,5,6,7,8,9,10,45,46,47]} 0 [4,6,45,46,47] st=some ⟨[(4,.v (.one (.row 0))),(6,.v (.one (.p (.int .i64 0)))),(45,.v (.one (.row 0))),(46,.v (.one (.p (.int .i64 k)))),(47,.v (.one (.p (.int .i64 0))))],[.row .str 9 L],75,none⟩→Ok Tryz.prog X (fun o h=>o=(.ret (.tup [(.one (.p (.int .i64 rn))),(.one (.p (.int .i64 rc)))]))∧h=[]) (leaf I tab { keep:=some [0,1,2,3,4,5,6,7,8,9,10,45,46,47]} [⟨uI Tryz.f150,finK I tab { keep:=some [0,1,2,3,4,5,6,7,8,9,10,45,46,47]} 0 Tryz.f150⟩] 0 [1,1,1,1,0,1,0] st):=by
    intro k st hk hm hst
    refine zC hI zh mixed [vg,ve,zbm,zbl,rJ,rH] hX [4,6,45,46,47] (fun(g:Nat × Int)=>match g with|(i,n)=>i≤L.length∧(if(sizM (L.getD 0 []) n (L.drop i)).2≠0 then(0,(sizM (L.getD 0 []) n (L.drop i)).2) else if 4000<(sizM (L.getD 0 []) n (L.drop i)).1 then(0,4) else((sizM (L.getD 0 []) n (L.drop i)).1,0))=(rn,rc)) (fun(g:Nat × Int)=>match g with|(i,n)=>⟨[(4,.v (.one (.row 0))),(6,.v (.one (.p (.int .i64 n)))),(45,.v (.one (.row 0))),(46,.v (.one (.p (.int .i64 k)))),(47,.v (.one (.p (.int .i64 i))))],[.row .str 9 L],75,none⟩) (fun(g:Nat × Int)=>match g with|(i,n)=>L.length - i) (0,0) (by kernel_rfl) hst ?_ ?_
    · exact⟨Nat.zero_le _,hm⟩
    clear hm hst hr
    rintro⟨i,n⟩ ⟨h1,hm⟩ A hA
    simp only at hA
    refine orcL ?_;go_invoke;refine orcS (by kernel_rfl) ?_
    simp only [zi,Nat.reduceAdd]
    subst hI
    simp only [nrmA,nrmB]
    by_cases hi:i<L.length
    · rw [zml _ _ _ _ hi] at hm
      have h0:i=0→L.getD i []=L.getD 0 []:=fun h=>by rw [h]
      have hn:=uK (L.getD i [])
      have hgo:=hA (i+1,(numA (L.getD i []) 10 9).1)
      generalize L.getD i []=x at *
      generalize L.getD 0 []=y at *
      generalize numA x 10 9=na at *
      obtain⟨na,nb⟩:=na
      simp only at hm hgo hn
      cases nb with
      | false=>
        rw [if_pos rfl] at hm
        simp only [ne_eq,Int.reduceEq,not_false_eq_true,if_true,Prod.mk.injEq] at hm
        obtain⟨rfl,rfl⟩:=hm
        (repeat' (first|refine And.intro ?_ ?_|intro _))<;>first|omega|exact True.intro|exact False.elim ‹False›|skip
        all_goals first|omega|rfl|contradiction|(simp_all;done)|trace_state
      | true=>
        simp only [Bool.true_eq_false,if_false] at hm
        by_cases hxy:x=y
        · simp only [if_neg (fun h:x≠y=>h hxy)] at hm
          have hg:=hgo ⟨by omega,hm⟩ (by omega)
          (repeat' (first|refine And.intro ?_ ?_|intro _))<;>first|omega|exact True.intro|exact False.elim ‹False›|skip
          all_goals first|omega|exact hg|contradiction|(exfalso;exact ‹¬ x=y› hxy)|trace_state
        · simp only [if_pos (show x≠y from hxy),ne_eq,Int.reduceEq,not_false_eq_true,if_true,Prod.mk.injEq] at hm
          obtain⟨rfl,rfl⟩:=hm
          have hi0: ¬ i=0:=fun h=>hxy (h0 h)
          (repeat' (first|refine And.intro ?_ ?_|intro _))<;>first|omega|exact True.intro|exact False.elim ‹False›|skip
          all_goals first|omega|rfl|contradiction|(exfalso;exact hxy ‹x=y›)|trace_state
    · rw [zpU _ _ _ _ hi] at hm
      simp only [ne_eq,not_true_eq_false,if_false] at hm
      by_cases h4:4000<n
      · rw [if_pos h4] at hm
        simp only [Prod.mk.injEq] at hm
        obtain⟨rfl,rfl⟩:=hm
        (repeat' (first|refine And.intro ?_ ?_|intro _))<;>first|omega|exact True.intro|exact False.elim ‹False›|skip
        all_goals first|omega|rfl|trace_state
      · rw [if_neg h4] at hm
        simp only [Prod.mk.injEq] at hm
        obtain⟨rfl,rfl⟩:=hm
        (repeat' (first|refine And.intro ?_ ?_|intro _))<;>first|omega|exact True.intro|exact False.elim ‹False›|skip
        all_goals first|omega|rfl|trace_state
  subst hI
  have hT0:T.length=0↔T=[]:=List.length_eq_zero_iff
  have hLz:L.length=0↔L=[]:=List.length_eq_zero_iff
  simp only [nrmA,nrmB]
  have hg0:0<T.length→(T.getD 0 []).length≤1000000:=fun h=>hT2 _ (by rw [show T.getD 0 []=T[0] by simp [h]];exact List.getElem_mem h)
  by_cases q1:T=[]
  · rw [if_neg (fun h=>h q1)] at hr
    have q2:=hT0.2 q1
    clear hg0 hT2
    (repeat' (first|refine And.intro ?_ ?_|intro _))<;>first|omega|exact True.intro|exact False.elim ‹False›|skip
    all_goals first
      |omega
      |((with_reducible show Ok _ _ _ _);(try(exfalso;omega));exact keyL _ _ rfl hr (by kernel_rfl))
      |exact⟨hf1,by decide,hf2⟩
      |exact hf1
      |(exact(hf2 _ ‹_›).1)
      |(exact(hf2 _ ‹_›).2)
      |decide
  · rw [if_pos q1] at hr
    have q2: ¬ T.length=0:=fun h=>q1 (hT0.1 h)
    clear keyL
    by_cases q3:L≠[]∨mi=0
    · rw [if_pos q3] at hr
      simp only [Prod.mk.injEq] at hr
      obtain⟨rfl,rfl⟩:=hr
      have q4:L.length=0→mi=0:=fun h=>by
        rcases q3 with q3|q3
        · exact absurd (hLz.1 h) q3
        · exact q3
      (repeat' (first|refine And.intro ?_ ?_|intro _))<;>first|omega|exact True.intro|exact False.elim ‹False›|skip
      all_goals first|omega|rfl|(exact(hf2 _ ‹_›).1)|(exact(hf2 _ ‹_›).2)|decide|trace_state
    · rw [if_neg q3] at hr
      simp only [not_or,ne_eq,Decidable.not_not] at q3
      have q4:=hLz.2 q3.1
      by_cases q5:1<T.length∨lowS (T.getD 0 [])≠zab
      · rw [if_pos q5] at hr
        unfold zab at q5
        simp only [Prod.mk.injEq] at hr
        obtain⟨rfl,rfl⟩:=hr
        (repeat' (first|refine And.intro ?_ ?_|intro _))<;>first|omega|exact True.intro|exact False.elim ‹False›|skip
        all_goals first|omega|rfl|(exact(hf2 _ ‹_›).1)|(exact(hf2 _ ‹_›).2)|decide|exact hg0 (by omega)|(exfalso;rcases q5 with q5|q5<;>first|omega|exact q5 ‹_›)|trace_state
      · rw [if_neg q5] at hr
        unfold zab at q5
        simp only [not_or,ne_eq,Decidable.not_not] at q5
        simp only [Prod.mk.injEq] at hr
        obtain⟨rfl,rfl⟩:=hr
        (repeat' (first|refine And.intro ?_ ?_|intro _))<;>first|omega|exact True.intro|exact False.elim ‹False›|skip
        all_goals first|omega|rfl|(exact(hf2 _ ‹_›).1)|(exact(hf2 _ ‹_›).2)|decide|exact hg0 (by omega)|(exfalso;exact ‹¬ _=_› q5.2)|trace_state
def Qk (I:Alg) (args:List D) (hp:List HO):Option CT:=match args,hp with
  |[.v (.agg [(.p (.str m)),(.p (.str t)),(.p (.int .i64 mi)),(.p (.list .fld f)),(.p (.int .i64 le))])],[]=>(fun(m t:Str) (mi:Int) (f:List Fld) (le:Int)=>(some (.one ⟨I.hid (FsOk f),(.ret (.tup [(.one (.p (.int .i64 (I.hid ((lenM mi f).1))))),(.one (.p (.int .i64 (I.hid ((lenM mi f).2)))))])),[]⟩):Option CT)) m t mi f le
  |_,_=>none
theorem zi2:zx Tryz.prog 150 (Qk alg):=by
  intro args hp r h
  unfold Qk at h
  split at h
  · cases h;exact fun hn=>zvp _ _ _ _ _ hn
  · cases h
def zi1:Know Tryz.prog:=⟨150,Qk,zi2⟩
def zi0:Know Tryz.prog:=⟨150,fun I=>zy I (Qk I),zf zi2⟩
end Go.Proofs.YtmkcejdibmilmaaGreatDoor
namespace Go.Proofs.YtmkcejdibmilmaaGreatDoor
open Go Go.Sep Go.Ab
set_option maxRecDepth 100000
def rqFs (q:Rq):Prop:=FsOk q.h.fields∧q.out.length≤9000000
theorem zm0 (ln:Ln) (p:Int) (m tg:Str) (hm:Int) (hf:List Fld) (hl le:Int) (out:List Evt) (hneed:vU ⟨ln,p,⟨m,tg,hm,hf,hl⟩,le,none,true,out⟩∧rqFs ⟨ln,p,⟨m,tg,hm,hf,hl⟩,le,none,true,out⟩):Spc Tryz.prog 117 [.v (.one (.ptr 0 0))] [.abs (.rq ⟨ln,p,⟨m,tg,hm,hf,hl⟩,le,none,true,out⟩)] (.ret (.v (.one (.p (.int .i64 ((yc ⟨ln,p,⟨m,tg,hm,hf,hl⟩,le,none,true,out⟩).2)))))) [.abs (.rq (((yc ⟨ln,p,⟨m,tg,hm,hf,hl⟩,le,none,true,out⟩).1)))]:=by
  obtain⟨-,hfs,hfw⟩:=hneed
  simp only at hfs hfw
  obtain⟨hf1,hf2⟩:=hfs
  generalize hr:yc ⟨ln,p,⟨m,tg,hm,hf,hl⟩,le,none,true,out⟩=r
  obtain⟨rq,rc⟩:=r
  have hhl:zfF.length≤1000000:=by decide
  refine spcG zh mixed Tryz.func117 (by kernel_rfl) { cfgQ with fz:=[81],keep:=some [0,2,4,5]} [TB,Tz,zkk,zkj,zW,zV,yh,yg,yD,yC,yK,yJ,wU,wS,Xa,Y9,zi1,zi0] (by kernel_rfl) ?_
  intro I X hI hX
  refine orcL ?_;go_invoke;refine orcS (by kernel_rfl) ?_
  simp only [zi,Nat.reduceAdd]
  subst hI
  unfold yc ztH at hr
  simp only at hr
  rw [show([104,111,115,116]:Str)=zfF from rfl]
  simp only [nrmA,nrmB,nrlB,reduceCtorEq,HO.abs.injEq,Gh.rq.injEq,Rq.mk.injEq]
  have hln:=zhj hm hf
  generalize oneF (valsF hf zfF)=oc at *
  obtain⟨ov,oc⟩:=oc
  simp only at hr ⊢
  generalize lenM hm hf=z at *
  obtain⟨zn,zc⟩:=z
  simp only at hr hln ⊢
  by_cases q1:(decide (oc=9)||decide (oc=10)&&decide (hm=1))=true
  · rw [if_pos q1] at hr
    simp only [Prod.mk.injEq] at hr
    obtain⟨rfl,rfl⟩:=hr
    simp only [Bool.or_eq_true,Bool.and_eq_true,decide_eq_true_eq] at q1
    (repeat' (first|refine And.intro ?_ ?_|intro _))<;>first|omega|exact True.intro|exact False.elim ‹False›|skip
    all_goals first|omega|rfl|exact hf1|exact⟨hf1,hf2⟩|(exact(hf2 _ ‹_›).1)|(exact(hf2 _ ‹_›).2)|(unfold zG;simp only;omega)|trace_state
  rw [if_neg q1] at hr
  simp only [Bool.or_eq_true,Bool.and_eq_true,decide_eq_true_eq] at q1
  by_cases q2:zc=0
  · rw [if_neg (fun h=>h q2)] at hr
    by_cases q3:zn=0
    · rw [if_pos q3] at hr
      simp only [Prod.mk.injEq] at hr
      obtain⟨rfl,rfl⟩:=hr
      subst q3
      (repeat' (first|refine And.intro ?_ ?_|intro _))<;>first|omega|exact True.intro|exact False.elim ‹False›|skip
      all_goals first|omega|rfl|exact hf1|exact⟨hf1,hf2⟩|(exact(hf2 _ ‹_›).1)|(exact(hf2 _ ‹_›).2)|(unfold zG;simp;omega)|trace_state
    rw [if_neg q3] at hr
    by_cases q4:0<zn
    · rw [if_pos q4] at hr
      simp only [Prod.mk.injEq] at hr
      obtain⟨rfl,rfl⟩:=hr
      (repeat' (first|refine And.intro ?_ ?_|intro _))<;>first|omega|exact True.intro|exact False.elim ‹False›|skip
      all_goals first|omega|rfl|exact hf1|exact⟨hf1,hf2⟩|(exact(hf2 _ ‹_›).1)|(exact(hf2 _ ‹_›).2)|(unfold zG;simp;omega)|trace_state
    · rw [if_neg q4] at hr
      simp only [Prod.mk.injEq] at hr
      obtain⟨rfl,rfl⟩:=hr
      (repeat' (first|refine And.intro ?_ ?_|intro _))<;>first|omega|exact True.intro|exact False.elim ‹False›|skip
      all_goals first|omega|rfl|exact hf1|exact⟨hf1,hf2⟩|(exact(hf2 _ ‹_›).1)|(exact(hf2 _ ‹_›).2)|(unfold zG;simp;omega)|trace_state
  · rw [if_pos q2] at hr
    simp only [Prod.mk.injEq] at hr
    obtain⟨rfl,rfl⟩:=hr
    (repeat' (first|refine And.intro ?_ ?_|intro _))<;>first|omega|exact True.intro|exact False.elim ‹False›|skip
    all_goals first|omega|rfl|exact hf1|exact⟨hf1,hf2⟩|(exact(hf2 _ ‹_›).1)|(exact(hf2 _ ‹_›).2)|(unfold zG;simp only;omega)|trace_state
theorem zm1 (ln:Ln) (p:Int) (m tg:Str) (hm:Int) (hf:List Fld) (hl le:Int) (out:List Evt) (hneed:vU ⟨ln,p,⟨m,tg,hm,hf,hl⟩,le,none,false,out⟩∧rqFs ⟨ln,p,⟨m,tg,hm,hf,hl⟩,le,none,false,out⟩):Spc Tryz.prog 117 [.v (.one (.ptr 0 0))] [.abs (.rq ⟨ln,p,⟨m,tg,hm,hf,hl⟩,le,none,false,out⟩)] (.ret (.v (.one (.p (.int .i64 ((yc ⟨ln,p,⟨m,tg,hm,hf,hl⟩,le,none,false,out⟩).2)))))) [.abs (.rq (((yc ⟨ln,p,⟨m,tg,hm,hf,hl⟩,le,none,false,out⟩).1)))]:=by
  exact absurd hneed.1 (fun h=>by unfold vU at h;cases h)
theorem zmY (ln:Ln) (p:Int) (m tg:Str) (hm:Int) (hf:List Fld) (hl le:Int) (ch:Ch) (out:List Evt) (hneed:vU ⟨ln,p,⟨m,tg,hm,hf,hl⟩,le,some ch,true,out⟩∧rqFs ⟨ln,p,⟨m,tg,hm,hf,hl⟩,le,some ch,true,out⟩):Spc Tryz.prog 117 [.v (.one (.ptr 0 0))] [.abs (.rq ⟨ln,p,⟨m,tg,hm,hf,hl⟩,le,some ch,true,out⟩)] (.ret (.v (.one (.p (.int .i64 ((yc ⟨ln,p,⟨m,tg,hm,hf,hl⟩,le,some ch,true,out⟩).2)))))) [.abs (.rq (((yc ⟨ln,p,⟨m,tg,hm,hf,hl⟩,le,some ch,true,out⟩).1)))]:=by
  obtain⟨-,hfs,hfw⟩:=hneed
  simp only at hfs hfw
  obtain⟨hf1,hf2⟩:=hfs
  generalize hr:yc ⟨ln,p,⟨m,tg,hm,hf,hl⟩,le,some ch,true,out⟩=r
  obtain⟨rq,rc⟩:=r
  have hhl:zfF.length≤1000000:=by decide
  refine spcG zh mixed Tryz.func117 (by kernel_rfl) { cfgQ with fz:=[81],keep:=some [0,2,4,5]} [TB,Tz,zkk,zkj,zW,zV,yh,yg,yD,yC,yK,yJ,wU,wS,Xa,Y9,zi1,zi0] (by kernel_rfl) ?_
  intro I X hI hX
  refine orcL ?_;go_invoke;refine orcS (by kernel_rfl) ?_
  simp only [zi,Nat.reduceAdd]
  subst hI
  unfold yc ztH at hr
  simp only at hr
  rw [show([104,111,115,116]:Str)=zfF from rfl]
  simp only [nrmA,nrmB,nrlB,reduceCtorEq,HO.abs.injEq,Gh.rq.injEq,Rq.mk.injEq]
  have hln:=zhj hm hf
  generalize oneF (valsF hf zfF)=oc at *
  obtain⟨ov,oc⟩:=oc
  simp only at hr ⊢
  generalize lenM hm hf=z at *
  obtain⟨zn,zc⟩:=z
  simp only at hr hln ⊢
  by_cases q1:(decide (oc=9)||decide (oc=10)&&decide (hm=1))=true
  · rw [if_pos q1] at hr
    simp only [Prod.mk.injEq] at hr
    obtain⟨rfl,rfl⟩:=hr
    simp only [Bool.or_eq_true,Bool.and_eq_true,decide_eq_true_eq] at q1
    (repeat' (first|refine And.intro ?_ ?_|intro _))<;>first|omega|exact True.intro|exact False.elim ‹False›|skip
    all_goals first|omega|rfl|exact hf1|exact⟨hf1,hf2⟩|(exact(hf2 _ ‹_›).1)|(exact(hf2 _ ‹_›).2)|(unfold zG;simp only;omega)|trace_state
  rw [if_neg q1] at hr
  simp only [Bool.or_eq_true,Bool.and_eq_true,decide_eq_true_eq] at q1
  by_cases q2:zc=0
  · rw [if_neg (fun h=>h q2)] at hr
    by_cases q3:zn=0
    · rw [if_pos q3] at hr
      simp only [Prod.mk.injEq] at hr
      obtain⟨rfl,rfl⟩:=hr
      subst q3
      (repeat' (first|refine And.intro ?_ ?_|intro _))<;>first|omega|exact True.intro|exact False.elim ‹False›|skip
      all_goals first|omega|rfl|exact hf1|exact⟨hf1,hf2⟩|(exact(hf2 _ ‹_›).1)|(exact(hf2 _ ‹_›).2)|(unfold zG;simp;omega)|trace_state
    rw [if_neg q3] at hr
    by_cases q4:0<zn
    · rw [if_pos q4] at hr
      simp only [Prod.mk.injEq] at hr
      obtain⟨rfl,rfl⟩:=hr
      (repeat' (first|refine And.intro ?_ ?_|intro _))<;>first|omega|exact True.intro|exact False.elim ‹False›|skip
      all_goals first|omega|rfl|exact hf1|exact⟨hf1,hf2⟩|(exact(hf2 _ ‹_›).1)|(exact(hf2 _ ‹_›).2)|(unfold zG;simp;omega)|trace_state
    · rw [if_neg q4] at hr
      simp only [Prod.mk.injEq] at hr
      obtain⟨rfl,rfl⟩:=hr
      (repeat' (first|refine And.intro ?_ ?_|intro _))<;>first|omega|exact True.intro|exact False.elim ‹False›|skip
      all_goals first|omega|rfl|exact hf1|exact⟨hf1,hf2⟩|(exact(hf2 _ ‹_›).1)|(exact(hf2 _ ‹_›).2)|(unfold zG;simp;omega)|trace_state
  · rw [if_pos q2] at hr
    simp only [Prod.mk.injEq] at hr
    obtain⟨rfl,rfl⟩:=hr
    (repeat' (first|refine And.intro ?_ ?_|intro _))<;>first|omega|exact True.intro|exact False.elim ‹False›|skip
    all_goals first|omega|rfl|exact hf1|exact⟨hf1,hf2⟩|(exact(hf2 _ ‹_›).1)|(exact(hf2 _ ‹_›).2)|(unfold zG;simp only;omega)|trace_state
theorem zmZ (ln:Ln) (p:Int) (m tg:Str) (hm:Int) (hf:List Fld) (hl le:Int) (ch:Ch) (out:List Evt) (hneed:vU ⟨ln,p,⟨m,tg,hm,hf,hl⟩,le,some ch,false,out⟩∧rqFs ⟨ln,p,⟨m,tg,hm,hf,hl⟩,le,some ch,false,out⟩):Spc Tryz.prog 117 [.v (.one (.ptr 0 0))] [.abs (.rq ⟨ln,p,⟨m,tg,hm,hf,hl⟩,le,some ch,false,out⟩)] (.ret (.v (.one (.p (.int .i64 ((yc ⟨ln,p,⟨m,tg,hm,hf,hl⟩,le,some ch,false,out⟩).2)))))) [.abs (.rq (((yc ⟨ln,p,⟨m,tg,hm,hf,hl⟩,le,some ch,false,out⟩).1)))]:=by
  exact absurd hneed.1 (fun h=>by unfold vU at h;cases h)
theorem zs5 (q:Rq) (hneed:vU q∧rqFs q):Spc Tryz.prog 117 [.v (.one (.ptr 0 0))] [.abs (.rq q)] (.ret (.v (.one (.p (.int .i64 ((yc q).2)))))) [.abs (.rq (((yc q).1)))]:=by
  obtain⟨ln,p,⟨m,tg,hm,hf,hl⟩,le,ck,own,out⟩:=q
  cases ck with
  | none=>cases own with
    |true=>exact zm0 ln p m tg hm hf hl le out hneed
    |false=>exact zm1 ln p m tg hm hf hl le out hneed
  | some ch=>cases own with
    |true=>exact zmY ln p m tg hm hf hl le ch out hneed
    |false=>exact zmZ ln p m tg hm hf hl le ch out hneed
def Vb (I:Alg) (args:List D) (hp:List HO):Option CT:=match args,hp with
  |[.v (.one (.ptr 0 0))],[.abs (.rq q)]=>(fun(q:Rq)=>(some (.one ⟨I.hid (vU q∧rqFs q),(.ret (.v (.one (.p (.int .i64 (I.hid ((yc q).2))))))),[.abs (.rq (I.hid (((yc q).1))))]⟩):Option CT)) q
  |_,_=>none
theorem ze3:zx Tryz.prog 117 (Vb alg):=by
  intro args hp r h
  unfold Vb at h
  split at h
  · cases h;exact fun hn=>zs5 _ hn
  · cases h
def ze2:Know Tryz.prog:=⟨117,Vb,ze3⟩
def ze1:Know Tryz.prog:=⟨117,fun I=>zy I (Vb I),zf ze3⟩
theorem zmN (ln:Ln) (p:Int) (m tg:Str) (hm:Int) (hf:List Fld) (hl le:Int) (out:List Evt) (s:Str) (hneed:vU ⟨ln,p,⟨m,tg,hm,hf,hl⟩,le,none,true,out⟩∧rqFs ⟨ln,p,⟨m,tg,hm,hf,hl⟩,le,none,true,out⟩∧s.length≤1000000):Spc Tryz.prog 86 [.v (.one (.ptr 0 0)),.v (.one (.p (.str s)))] [.abs (.rq ⟨ln,p,⟨m,tg,hm,hf,hl⟩,le,none,true,out⟩)] (.ret (.v (.one (.p (.int .i64 ((zL ⟨ln,p,⟨m,tg,hm,hf,hl⟩,le,none,true,out⟩ s).2)))))) [.abs (.rq (((zL ⟨ln,p,⟨m,tg,hm,hf,hl⟩,le,none,true,out⟩ s).1)))]:=by
  obtain⟨-,hfs,hs⟩:=hneed
  have hfs0:=hfs
  obtain⟨hfs,hfw⟩:=hfs
  simp only at hfs hfw
  obtain⟨hf1,hf2⟩:=hfs
  generalize hr:zL ⟨ln,p,⟨m,tg,hm,hf,hl⟩,le,none,true,out⟩ s=r
  obtain⟨rq,rc⟩:=r
  refine spcG zh mixed Tryz.func86 (by kernel_rfl) { cfgQ with seam:=[],keep:=some [0,1,4,5,6]} [Vp,Vo,zi5,zi4,ze2,ze1] (by kernel_rfl) ?_
  intro I X hI hX
  refine orcL ?_;go_invoke;refine orcS (by kernel_rfl) ?_
  simp only [zi,Nat.reduceAdd]
  subst hI
  unfold zL at hr
  simp only at hr
  simp only [nrmA,nrmB,nrlB,reduceCtorEq,HO.abs.injEq,Gh.rq.injEq,Rq.mk.injEq]
  have hdn:(yc ⟨ln,p,⟨m,tg,hm,hf,hl⟩,le,none,true,out⟩)=yc ⟨ln,p,⟨m,tg,hm,hf,hl⟩,le,none,true,out⟩:=rfl
  by_cases q1:p=0
  · rw [if_pos q1] at hr
    by_cases q2:s=[]
    · rw [if_pos q2] at hr
      simp only [Prod.mk.injEq] at hr
      obtain⟨rfl,rfl⟩:=hr
      (repeat' (first|refine And.intro ?_ ?_|intro _))<;>first|omega|exact True.intro|exact False.elim ‹False›|skip
      all_goals first|omega|rfl|(exfalso;exact ‹¬ s=[]› q2)|trace_state
    rw [if_neg q2] at hr
    have hbg:(su ⟨ln,p,⟨m,tg,hm,hf,hl⟩,le,none,true,out⟩ s,(begM s).1)=(rq,rc):=by
      rw [← hr]
      unfold su
      by_cases c0:(begM s).1=0
      · rw [if_pos c0,if_pos c0,c0]
      · rw [if_neg c0,if_neg c0]
        by_cases c1:(begM s).1=11
        · rw [if_pos c1,if_pos c1,c1]
        · rw [if_neg c1,if_neg c1]
    simp only [Prod.mk.injEq] at hbg
    (repeat' (first|refine And.intro ?_ ?_|intro _))<;>first|omega|exact True.intro|exact False.elim ‹False›|skip
    all_goals first|omega|exact hbg.1|exact hbg.2|exact⟨rfl,hs⟩|rfl|(exfalso;exact q2 ‹s=[]›)|(simp only [vU];done)|exact hs|trace_state
  · rw [if_neg q1] at hr
    by_cases q2:s=[]
    · rw [if_pos q2] at hr
      (repeat' (first|refine And.intro ?_ ?_|intro _))<;>first|omega|exact True.intro|exact False.elim ‹False›|skip
      all_goals first|omega|(rw [hr];done)|(rw [hr])|rfl|exact hfs0|exact hf1|(exact(hf2 _ ‹_›).1)|(exact(hf2 _ ‹_›).2)|(exfalso;exact ‹¬ s=[]› q2)|trace_state
    rw [if_neg q2] at hr
    by_cases q3:hf.length=16
    · rw [if_pos q3] at hr
      simp only [Prod.mk.injEq] at hr
      obtain⟨rfl,rfl⟩:=hr
      (repeat' (first|refine And.intro ?_ ?_|intro _))<;>first|omega|exact True.intro|exact False.elim ‹False›|skip
      all_goals first|omega|rfl|(exfalso;exact q2 ‹s=[]›)|trace_state
    · rw [if_neg q3] at hr
      simp only [Prod.mk.injEq] at hr
      obtain⟨rfl,rfl⟩:=hr
      (repeat' (first|refine And.intro ?_ ?_|intro _))<;>first|omega|exact True.intro|exact False.elim ‹False›|skip
      all_goals first|omega|rfl|exact hs|(simp only [List.length_cons,List.length_nil];omega)|(exfalso;exact q2 ‹s=[]›)|trace_state
theorem zmO (ln:Ln) (p:Int) (m tg:Str) (hm:Int) (hf:List Fld) (hl le:Int) (out:List Evt) (s:Str) (hneed:vU ⟨ln,p,⟨m,tg,hm,hf,hl⟩,le,none,false,out⟩∧rqFs ⟨ln,p,⟨m,tg,hm,hf,hl⟩,le,none,false,out⟩∧s.length≤1000000):Spc Tryz.prog 86 [.v (.one (.ptr 0 0)),.v (.one (.p (.str s)))] [.abs (.rq ⟨ln,p,⟨m,tg,hm,hf,hl⟩,le,none,false,out⟩)] (.ret (.v (.one (.p (.int .i64 ((zL ⟨ln,p,⟨m,tg,hm,hf,hl⟩,le,none,false,out⟩ s).2)))))) [.abs (.rq (((zL ⟨ln,p,⟨m,tg,hm,hf,hl⟩,le,none,false,out⟩ s).1)))]:=by
  exact absurd hneed.1 (fun h=>by unfold vU at h;cases h)
theorem zmL (ln:Ln) (p:Int) (m tg:Str) (hm:Int) (hf:List Fld) (hl le:Int) (ch:Ch) (out:List Evt) (s:Str) (hneed:vU ⟨ln,p,⟨m,tg,hm,hf,hl⟩,le,some ch,true,out⟩∧rqFs ⟨ln,p,⟨m,tg,hm,hf,hl⟩,le,some ch,true,out⟩∧s.length≤1000000):Spc Tryz.prog 86 [.v (.one (.ptr 0 0)),.v (.one (.p (.str s)))] [.abs (.rq ⟨ln,p,⟨m,tg,hm,hf,hl⟩,le,some ch,true,out⟩)] (.ret (.v (.one (.p (.int .i64 ((zL ⟨ln,p,⟨m,tg,hm,hf,hl⟩,le,some ch,true,out⟩ s).2)))))) [.abs (.rq (((zL ⟨ln,p,⟨m,tg,hm,hf,hl⟩,le,some ch,true,out⟩ s).1)))]:=by
  obtain⟨-,hfs,hs⟩:=hneed
  have hfs0:=hfs
  obtain⟨hfs,hfw⟩:=hfs
  simp only at hfs hfw
  obtain⟨hf1,hf2⟩:=hfs
  generalize hr:zL ⟨ln,p,⟨m,tg,hm,hf,hl⟩,le,some ch,true,out⟩ s=r
  obtain⟨rq,rc⟩:=r
  refine spcG zh mixed Tryz.func86 (by kernel_rfl) { cfgQ with seam:=[],keep:=some [0,1,4,5,6]} [Vp,Vo,zi5,zi4,ze2,ze1] (by kernel_rfl) ?_
  intro I X hI hX
  refine orcL ?_;go_invoke;refine orcS (by kernel_rfl) ?_
  simp only [zi,Nat.reduceAdd]
  subst hI
  unfold zL at hr
  simp only at hr
  simp only [nrmA,nrmB,nrlB,reduceCtorEq,HO.abs.injEq,Gh.rq.injEq,Rq.mk.injEq]
  have hdn:(yc ⟨ln,p,⟨m,tg,hm,hf,hl⟩,le,some ch,true,out⟩)=yc ⟨ln,p,⟨m,tg,hm,hf,hl⟩,le,some ch,true,out⟩:=rfl
  by_cases q1:p=0
  · rw [if_pos q1] at hr
    by_cases q2:s=[]
    · rw [if_pos q2] at hr
      simp only [Prod.mk.injEq] at hr
      obtain⟨rfl,rfl⟩:=hr
      (repeat' (first|refine And.intro ?_ ?_|intro _))<;>first|omega|exact True.intro|exact False.elim ‹False›|skip
      all_goals first|omega|rfl|(exfalso;exact ‹¬ s=[]› q2)|trace_state
    rw [if_neg q2] at hr
    have hbg:(su ⟨ln,p,⟨m,tg,hm,hf,hl⟩,le,some ch,true,out⟩ s,(begM s).1)=(rq,rc):=by
      rw [← hr]
      unfold su
      by_cases c0:(begM s).1=0
      · rw [if_pos c0,if_pos c0,c0]
      · rw [if_neg c0,if_neg c0]
        by_cases c1:(begM s).1=11
        · rw [if_pos c1,if_pos c1,c1]
        · rw [if_neg c1,if_neg c1]
    simp only [Prod.mk.injEq] at hbg
    (repeat' (first|refine And.intro ?_ ?_|intro _))<;>first|omega|exact True.intro|exact False.elim ‹False›|skip
    all_goals first|omega|exact hbg.1|exact hbg.2|exact⟨rfl,hs⟩|rfl|(exfalso;exact q2 ‹s=[]›)|(simp only [vU];done)|exact hs|trace_state
  · rw [if_neg q1] at hr
    by_cases q2:s=[]
    · rw [if_pos q2] at hr
      (repeat' (first|refine And.intro ?_ ?_|intro _))<;>first|omega|exact True.intro|exact False.elim ‹False›|skip
      all_goals first|omega|(rw [hr];done)|(rw [hr])|rfl|exact hfs0|exact hf1|(exact(hf2 _ ‹_›).1)|(exact(hf2 _ ‹_›).2)|(exfalso;exact ‹¬ s=[]› q2)|trace_state
    rw [if_neg q2] at hr
    by_cases q3:hf.length=16
    · rw [if_pos q3] at hr
      simp only [Prod.mk.injEq] at hr
      obtain⟨rfl,rfl⟩:=hr
      (repeat' (first|refine And.intro ?_ ?_|intro _))<;>first|omega|exact True.intro|exact False.elim ‹False›|skip
      all_goals first|omega|rfl|(exfalso;exact q2 ‹s=[]›)|trace_state
    · rw [if_neg q3] at hr
      simp only [Prod.mk.injEq] at hr
      obtain⟨rfl,rfl⟩:=hr
      (repeat' (first|refine And.intro ?_ ?_|intro _))<;>first|omega|exact True.intro|exact False.elim ‹False›|skip
      all_goals first|omega|rfl|exact hs|(simp only [List.length_cons,List.length_nil];omega)|(exfalso;exact q2 ‹s=[]›)|trace_state
theorem zmM (ln:Ln) (p:Int) (m tg:Str) (hm:Int) (hf:List Fld) (hl le:Int) (ch:Ch) (out:List Evt) (s:Str) (hneed:vU ⟨ln,p,⟨m,tg,hm,hf,hl⟩,le,some ch,false,out⟩∧rqFs ⟨ln,p,⟨m,tg,hm,hf,hl⟩,le,some ch,false,out⟩∧s.length≤1000000):Spc Tryz.prog 86 [.v (.one (.ptr 0 0)),.v (.one (.p (.str s)))] [.abs (.rq ⟨ln,p,⟨m,tg,hm,hf,hl⟩,le,some ch,false,out⟩)] (.ret (.v (.one (.p (.int .i64 ((zL ⟨ln,p,⟨m,tg,hm,hf,hl⟩,le,some ch,false,out⟩ s).2)))))) [.abs (.rq (((zL ⟨ln,p,⟨m,tg,hm,hf,hl⟩,le,some ch,false,out⟩ s).1)))]:=by
  exact absurd hneed.1 (fun h=>by unfold vU at h;cases h)
theorem zsX (q:Rq) (s:Str) (hneed:vU q∧rqFs q∧s.length≤1000000):Spc Tryz.prog 86 [.v (.one (.ptr 0 0)),.v (.one (.p (.str s)))] [.abs (.rq q)] (.ret (.v (.one (.p (.int .i64 ((zL q s).2)))))) [.abs (.rq (((zL q s).1)))]:=by
  obtain⟨ln,p,⟨m,tg,hm,hf,hl⟩,le,ck,own,out⟩:=q
  cases ck with
  | none=>cases own with
    |true=>exact zmN ln p m tg hm hf hl le out s hneed
    |false=>exact zmO ln p m tg hm hf hl le out s hneed
  | some ch=>cases own with
    |true=>exact zmL ln p m tg hm hf hl le ch out s hneed
    |false=>exact zmM ln p m tg hm hf hl le ch out s hneed
def WW (I:Alg) (args:List D) (hp:List HO):Option CT:=match args,hp with
  |[.v (.one (.ptr 0 0)),.v (.one (.p (.str s)))],[.abs (.rq q)]=>(fun(q:Rq) (s:Str)=>(some (.one ⟨I.hid (vU q∧rqFs q∧s.length≤1000000),(.ret (.v (.one (.p (.int .i64 (I.hid ((zL q s).2))))))),[.abs (.rq (I.hid (((zL q s).1))))]⟩):Option CT)) q s
  |_,_=>none
theorem zeX:zx Tryz.prog 86 (WW alg):=by
  intro args hp r h
  unfold WW at h
  split at h
  · cases h;exact fun hn=>zsX _ _ hn
  · cases h
def WV:Know Tryz.prog:=⟨86,WW,zeX⟩
def WU:Know Tryz.prog:=⟨86,fun I=>zy I (WW I),zf zeX⟩
theorem zwA (k:Int) (hneed:False):Spc Tryz.prog 83 [.v (.one (.p (.val (.pointer none)))),.v (.one (.p (.int .u8 k)))] [] (.ret (.tup [(.one (.p (.list .byte ([])))),(.one (.p (.bool false))),(.one (.p (.int .i64 0)))])) []:=hneed.elim
def Q9 (I:Alg) (args:List D) (hp:List HO):Option CT:=match args,hp with
  |[.v (.one (.p (.val (.pointer none)))),.v (.one (.p (.int .u8 k)))],[]=>(fun(k:Int)=>(some (.one ⟨I.hid (False),(.ret (.tup [(.one (.p (.list .byte (I.hid ([]))))),(.one (.p (.bool false))),(.one (.p (.int .i64 0)))])),[]⟩):Option CT)) k
  |_,_=>none
theorem zki:zx Tryz.prog 83 (Q9 alg):=by
  intro args hp r h
  unfold Q9 at h
  split at h
  · cases h;exact fun hn=>zwA _ hn
  · cases h
def Q8:Know Tryz.prog:=⟨83,Q9,zki⟩
def Q7:Know Tryz.prog:=⟨83,fun I=>zy I (Q9 I),zf zki⟩
def rqN (q:Rq):Prop:=∃ i:Nat,i≤1000000∧RqI q i
theorem zcb (q:Rq) (s:Str):(zL q s).1.out.length≤q.out.length+2:=by
  unfold zL yc tZ
  repeat' split
  all_goals(simp only [List.length_append,List.length_cons,List.length_nil];omega)
theorem zm8 (ln:Ln) (p:Int) (m tg:Str) (hm:Int) (hf:List Fld) (hl le:Int) (out:List Evt) (k:Int) (hneed:rqN ⟨ln,p,⟨m,tg,hm,hf,hl⟩,le,none,true,out⟩∧0≤k∧k≤255):Spc Tryz.prog 46 [.v (.one (.ptr 0 0)),.v (.one (.p (.int .u8 k)))] [.abs (.rq ⟨ln,p,⟨m,tg,hm,hf,hl⟩,le,none,true,out⟩)] (.ret (.tup [])) [.abs (.rq ((rqF ⟨ln,p,⟨m,tg,hm,hf,hl⟩,le,none,true,out⟩ (UInt8.ofNat k.toNat))))]:=by
  obtain⟨⟨i,hi,hI0⟩,hk0,hk1⟩:=hneed
  obtain⟨g1,g2,g3,g4,g5,g6,g7,g8,g9,g10⟩:=hI0
  simp only at g1 g2 g3 g4 g5 g6 g7 g8 g9 g10
  have hfs:FsOk hf:=⟨by omega,fun f hm=>by have:=g6 f hm;omega⟩
  have hll:=YC ln (UInt8.ofNat k.toNat)
  generalize hr:rqF ⟨ln,p,⟨m,tg,hm,hf,hl⟩,le,none,true,out⟩ (UInt8.ofNat k.toNat)=r
  refine spcG zh mixed Tryz.func46 (by kernel_rfl) { cfgQ with fz:=[81],keep:=some [0,1,4,5,6,7,8,9,13,62]} [rX,rW,Uy,Ux,Q8,Q7,zW,zV,yh,yg,yD,yC,yK,yJ,wU,wS,W9,WZ,Xa,Y9,WV,WU] (by kernel_rfl) ?_
  intro I X hI hX
  refine orcL ?_;go_invoke;refine orcS (by kernel_rfl) ?_
  simp only [zi,Nat.reduceAdd]
  subst hI
  unfold rqF at hr
  simp only at hr
  simp only [nrmA,nrmB,nrlB,reduceCtorEq,HO.abs.injEq,Gh.rq.injEq,Rq.mk.injEq]
  generalize UInt8.ofNat k.toNat=c at *
  have hz2:lnF ⟨ln.b,ln.cr,ln.code⟩ c=lnF ln c:=rfl
  simp only [hz2]
  clear hz2 g2
  by_cases q1:p=2
  · rw [if_pos q1] at hr
    have h9:=g9 q1
    by_cases q2:le - 1=0
    · rw [if_pos q2] at hr
      subst hr
      have q3:le=1:=by omega
      subst q3
      (repeat' (first|refine And.intro ?_ ?_|intro _))<;>first|omega|exact True.intro|exact False.elim ‹False›|skip
      all_goals first|omega|rfl|(unfold zG;simp;omega)|(unfold zG;simp only;omega)|trace_state
    · rw [if_neg q2] at hr
      subst hr
      (repeat' (first|refine And.intro ?_ ?_|intro _))<;>first|omega|exact True.intro|exact False.elim ‹False›|skip
      all_goals first|omega|rfl|(unfold zG;simp;omega)|(unfold zG;simp only;omega)|trace_state
  rw [if_neg q1] at hr
  by_cases q4:p=3
  · exact absurd rfl (g3 q4)
  rw [if_neg q4] at hr
  by_cases q8:p=0∨p=1
  · rw [if_pos q8] at hr
    have hl: ∀ (l:Ln) (s:Str),zL ⟨⟨l.b,l.cr,l.code⟩,p,⟨m,tg,hm,hf,hl⟩,le,none,true,out⟩ s=zL ⟨l,p,⟨m,tg,hm,hf,hl⟩,le,none,true,out⟩ s:=fun l s=>rfl
    simp only [hl]
    clear hl
    generalize lnF ln c=z at *
    obtain⟨l2,s,is,e⟩:=z
    simp only at hr hll ⊢
    have hlo:(zL ⟨l2,p,⟨m,tg,hm,hf,hl⟩,le,none,true,out⟩ s).1.out.length≤out.length+2:=zcb _ _
    generalize zL ⟨l2,p,⟨m,tg,hm,hf,hl⟩,le,none,true,out⟩ s=y at *
    obtain⟨y,ye⟩:=y
    simp only at hr hlo ⊢
    by_cases q5:e=0
    · rw [if_neg (fun h=>h q5)] at hr
      cases is with
      | true=>
        rw [if_pos rfl] at hr
        by_cases q6:ye=0
        · rw [if_neg (fun h=>h q6)] at hr
          subst hr
          (repeat' (first|refine And.intro ?_ ?_|intro _))<;>first|omega|exact True.intro|exact False.elim ‹False›|skip
          all_goals first|omega|rfl|contradiction|exact⟨rfl,⟨hfs,by simp only;omega⟩,by omega⟩|(simp only [vU];done)|exact hfs.1|(exact(hfs.2 _ ‹_›).1)|(exact(hfs.2 _ ‹_›).2)|(unfold zG;omega)|(simp only;omega)|trace_state
        · rw [if_pos q6] at hr
          subst hr
          (repeat' (first|refine And.intro ?_ ?_|intro _))<;>first|omega|exact True.intro|exact False.elim ‹False›|skip
          all_goals first|omega|rfl|contradiction|exact⟨rfl,⟨hfs,by simp only;omega⟩,by omega⟩|(simp only [vU];done)|exact hfs.1|(exact(hfs.2 _ ‹_›).1)|(exact(hfs.2 _ ‹_›).2)|(unfold zG;omega)|(simp only;omega)|trace_state
      | false=>
        rw [if_neg Bool.false_ne_true] at hr
        subst hr
        (repeat' (first|refine And.intro ?_ ?_|intro _))<;>first|omega|exact True.intro|exact False.elim ‹False›|skip
        all_goals first|omega|rfl|contradiction|trace_state
    · rw [if_pos q5] at hr
      subst hr
      (repeat' (first|refine And.intro ?_ ?_|intro _))<;>first|omega|exact True.intro|exact False.elim ‹False›|skip
      all_goals first|omega|rfl|contradiction|(unfold zG;simp only;omega)|trace_state
  rw [if_neg q8] at hr
  subst hr
  (repeat' (first|refine And.intro ?_ ?_|intro _))<;>first|omega|exact True.intro|exact False.elim ‹False›|skip
  all_goals first|omega|rfl|contradiction|trace_state
theorem zm9 (ln:Ln) (p:Int) (m tg:Str) (hm:Int) (hf:List Fld) (hl le:Int) (out:List Evt) (k:Int) (hneed:rqN ⟨ln,p,⟨m,tg,hm,hf,hl⟩,le,none,false,out⟩∧0≤k∧k≤255):Spc Tryz.prog 46 [.v (.one (.ptr 0 0)),.v (.one (.p (.int .u8 k)))] [.abs (.rq ⟨ln,p,⟨m,tg,hm,hf,hl⟩,le,none,false,out⟩)] (.ret (.tup [])) [.abs (.rq ((rqF ⟨ln,p,⟨m,tg,hm,hf,hl⟩,le,none,false,out⟩ (UInt8.ofNat k.toNat))))]:=by
  obtain⟨⟨i,hi,hI0⟩,hk0,hk1⟩:=hneed
  obtain⟨g1,g2,g3,g4,g5,g6,g7,g8,g9,g10⟩:=hI0
  simp only at g1 g2 g3 g4 g5 g6 g7 g8 g9 g10
  have hfs:FsOk hf:=⟨by omega,fun f hm=>by have:=g6 f hm;omega⟩
  have hll:=YC ln (UInt8.ofNat k.toNat)
  generalize hr:rqF ⟨ln,p,⟨m,tg,hm,hf,hl⟩,le,none,false,out⟩ (UInt8.ofNat k.toNat)=r
  refine spcG zh mixed Tryz.func46 (by kernel_rfl) { cfgQ with fz:=[81],keep:=some [0,1,4,5,6,7,8,9,13,62]} [rX,rW,Uy,Ux,Q8,Q7,zW,zV,yh,yg,yD,yC,yK,yJ,wU,wS,W9,WZ,Xa,Y9,WV,WU] (by kernel_rfl) ?_
  intro I X hI hX
  refine orcL ?_;go_invoke;refine orcS (by kernel_rfl) ?_
  simp only [zi,Nat.reduceAdd]
  subst hI
  unfold rqF at hr
  simp only at hr
  simp only [nrmA,nrmB,nrlB,reduceCtorEq,HO.abs.injEq,Gh.rq.injEq,Rq.mk.injEq]
  generalize UInt8.ofNat k.toNat=c at *
  have hz2:lnF ⟨ln.b,ln.cr,ln.code⟩ c=lnF ln c:=rfl
  simp only [hz2]
  clear hz2 g2
  by_cases q1:p=2
  · rw [if_pos q1] at hr
    have h9:=g9 q1
    by_cases q2:le - 1=0
    · rw [if_pos q2] at hr
      subst hr
      have q3:le=1:=by omega
      subst q3
      (repeat' (first|refine And.intro ?_ ?_|intro _))<;>first|omega|exact True.intro|exact False.elim ‹False›|skip
      all_goals first|omega|rfl|(unfold zG;simp;omega)|(unfold zG;simp only;omega)|trace_state
    · rw [if_neg q2] at hr
      subst hr
      (repeat' (first|refine And.intro ?_ ?_|intro _))<;>first|omega|exact True.intro|exact False.elim ‹False›|skip
      all_goals first|omega|rfl|(unfold zG;simp;omega)|(unfold zG;simp only;omega)|trace_state
  rw [if_neg q1] at hr
  by_cases q4:p=3
  · exact absurd rfl (g3 q4)
  rw [if_neg q4] at hr
  by_cases q8:p=0∨p=1
  · exact absurd (g4 q8) (by simp)
  rw [if_neg q8] at hr
  subst hr
  (repeat' (first|refine And.intro ?_ ?_|intro _))<;>first|omega|exact True.intro|exact False.elim ‹False›|skip
  all_goals first|omega|rfl|contradiction|trace_state
theorem zm6 (ln:Ln) (p:Int) (m tg:Str) (hm:Int) (hf:List Fld) (hl le:Int) (ch:Ch) (out:List Evt) (k:Int) (hneed:rqN ⟨ln,p,⟨m,tg,hm,hf,hl⟩,le,some ch,true,out⟩∧0≤k∧k≤255):Spc Tryz.prog 46 [.v (.one (.ptr 0 0)),.v (.one (.p (.int .u8 k)))] [.abs (.rq ⟨ln,p,⟨m,tg,hm,hf,hl⟩,le,some ch,true,out⟩)] (.ret (.tup [])) [.abs (.rq ((rqF ⟨ln,p,⟨m,tg,hm,hf,hl⟩,le,some ch,true,out⟩ (UInt8.ofNat k.toNat))))]:=by
  obtain⟨⟨i,hi,hI0⟩,hk0,hk1⟩:=hneed
  obtain⟨g1,g2,g3,g4,g5,g6,g7,g8,g9,g10⟩:=hI0
  simp only at g1 g2 g3 g4 g5 g6 g7 g8 g9 g10
  have hfs:FsOk hf:=⟨by omega,fun f hm=>by have:=g6 f hm;omega⟩
  have hll:=YC ln (UInt8.ofNat k.toNat)
  generalize hr:rqF ⟨ln,p,⟨m,tg,hm,hf,hl⟩,le,some ch,true,out⟩ (UInt8.ofNat k.toNat)=r
  refine spcG zh mixed Tryz.func46 (by kernel_rfl) { cfgQ with fz:=[81],keep:=some [0,1,4,5,6,7,8,9,13,62]} [rX,rW,Uy,Ux,Q8,Q7,zW,zV,yh,yg,yD,yC,yK,yJ,wU,wS,W9,WZ,Xa,Y9,WV,WU] (by kernel_rfl) ?_
  intro I X hI hX
  refine orcL ?_;go_invoke;refine orcS (by kernel_rfl) ?_
  simp only [zi,Nat.reduceAdd]
  subst hI
  unfold rqF at hr
  simp only at hr
  simp only [nrmA,nrmB,nrlB,reduceCtorEq,HO.abs.injEq,Gh.rq.injEq,Rq.mk.injEq]
  generalize UInt8.ofNat k.toNat=c at *
  have hni:=zkn (g2 ch rfl) hi
  have hz:chF ⟨⟨ch.ln.b,ch.ln.cr,ch.ln.code⟩,ch.pos,ch.left,ch.all,ch.tails,ch.code⟩ c=chF ch c:=rfl
  have hck:ckOf ⟨ln,p,⟨m,tg,hm,hf,hl⟩,le,some ch,true,out⟩=ch:=rfl
  simp only [hz]
  rw [hck] at hr
  clear hz hck
  have hz2:lnF ⟨ln.b,ln.cr,ln.code⟩ c=lnF ln c:=rfl
  simp only [hz2]
  clear hz2 g2
  by_cases q1:p=2
  · rw [if_pos q1] at hr
    have h9:=g9 q1
    by_cases q2:le - 1=0
    · rw [if_pos q2] at hr
      subst hr
      have q3:le=1:=by omega
      subst q3
      (repeat' (first|refine And.intro ?_ ?_|intro _))<;>first|omega|exact True.intro|exact False.elim ‹False›|skip
      all_goals first|omega|rfl|(unfold zG;simp;omega)|(unfold zG;simp only;omega)|trace_state
    · rw [if_neg q2] at hr
      subst hr
      (repeat' (first|refine And.intro ?_ ?_|intro _))<;>first|omega|exact True.intro|exact False.elim ‹False›|skip
      all_goals first|omega|rfl|(unfold zG;simp;omega)|(unfold zG;simp only;omega)|trace_state
  rw [if_neg q1] at hr
  by_cases q4:p=3
  · rw [if_pos q4] at hr
    generalize chF ch c=z at *
    obtain⟨⟨⟨zb,zc,zo⟩,z1,z2,z3,z4,z5⟩,d,ov,e⟩:=z
    simp only at hr ⊢
    have hd0:d.length=0↔d=[]:=List.length_eq_zero_iff
    by_cases q5:e=0
    · rw [if_neg (fun h=>h q5)] at hr
      cases ov with
      | true=>
        rw [if_pos rfl] at hr
        by_cases q6:d=[]
        · rw [if_neg (fun h=>h q6)] at hr
          have q7:=hd0.2 q6
          subst hr
          (repeat' (first|refine And.intro ?_ ?_|intro _))<;>first|omega|exact True.intro|exact False.elim ‹False›|skip
          all_goals first|omega|rfl|(unfold zG;simp;omega)|(unfold zG;simp only;omega)|contradiction|exact⟨⟨hk0,hk1⟩,hni⟩|trace_state
        · rw [if_pos q6] at hr
          have q7: ¬ d.length=0:=fun h=>q6 (hd0.1 h)
          subst hr
          (repeat' (first|refine And.intro ?_ ?_|intro _))<;>first|omega|exact True.intro|exact False.elim ‹False›|skip
          all_goals first|omega|rfl|(unfold zG;simp;omega)|(unfold zG;simp only;omega)|contradiction|exact⟨⟨hk0,hk1⟩,hni⟩|trace_state
      | false=>
        rw [if_neg Bool.false_ne_true] at hr
        by_cases q6:d=[]
        · rw [if_neg (fun h=>h q6)] at hr
          have q7:=hd0.2 q6
          subst hr
          (repeat' (first|refine And.intro ?_ ?_|intro _))<;>first|omega|exact True.intro|exact False.elim ‹False›|skip
          all_goals first|omega|rfl|(unfold zG;simp;omega)|(unfold zG;simp only;omega)|contradiction|exact⟨⟨hk0,hk1⟩,hni⟩|trace_state
        · rw [if_pos q6] at hr
          have q7: ¬ d.length=0:=fun h=>q6 (hd0.1 h)
          subst hr
          (repeat' (first|refine And.intro ?_ ?_|intro _))<;>first|omega|exact True.intro|exact False.elim ‹False›|skip
          all_goals first|omega|rfl|(unfold zG;simp;omega)|(unfold zG;simp only;omega)|contradiction|exact⟨⟨hk0,hk1⟩,hni⟩|trace_state
    · rw [if_pos q5] at hr
      subst hr
      (repeat' (first|refine And.intro ?_ ?_|intro _))<;>first|omega|exact True.intro|exact False.elim ‹False›|skip
      all_goals first|omega|rfl|(unfold zG;simp;omega)|(unfold zG;simp only;omega)|contradiction|exact⟨⟨hk0,hk1⟩,hni⟩|trace_state
  rw [if_neg q4] at hr
  by_cases q8:p=0∨p=1
  · rw [if_pos q8] at hr
    have hl: ∀ (l:Ln) (s:Str),zL ⟨⟨l.b,l.cr,l.code⟩,p,⟨m,tg,hm,hf,hl⟩,le,some ch,true,out⟩ s=zL ⟨l,p,⟨m,tg,hm,hf,hl⟩,le,some ch,true,out⟩ s:=fun l s=>rfl
    simp only [hl]
    clear hl
    generalize lnF ln c=z at *
    obtain⟨l2,s,is,e⟩:=z
    simp only at hr hll ⊢
    have hlo:(zL ⟨l2,p,⟨m,tg,hm,hf,hl⟩,le,some ch,true,out⟩ s).1.out.length≤out.length+2:=zcb _ _
    generalize zL ⟨l2,p,⟨m,tg,hm,hf,hl⟩,le,some ch,true,out⟩ s=y at *
    obtain⟨y,ye⟩:=y
    simp only at hr hlo ⊢
    by_cases q5:e=0
    · rw [if_neg (fun h=>h q5)] at hr
      cases is with
      | true=>
        rw [if_pos rfl] at hr
        by_cases q6:ye=0
        · rw [if_neg (fun h=>h q6)] at hr
          subst hr
          (repeat' (first|refine And.intro ?_ ?_|intro _))<;>first|omega|exact True.intro|exact False.elim ‹False›|skip
          all_goals first|omega|rfl|contradiction|exact⟨rfl,⟨hfs,by simp only;omega⟩,by omega⟩|(simp only [vU];done)|exact hfs.1|(exact(hfs.2 _ ‹_›).1)|(exact(hfs.2 _ ‹_›).2)|(unfold zG;omega)|(simp only;omega)|trace_state
        · rw [if_pos q6] at hr
          subst hr
          (repeat' (first|refine And.intro ?_ ?_|intro _))<;>first|omega|exact True.intro|exact False.elim ‹False›|skip
          all_goals first|omega|rfl|contradiction|exact⟨rfl,⟨hfs,by simp only;omega⟩,by omega⟩|(simp only [vU];done)|exact hfs.1|(exact(hfs.2 _ ‹_›).1)|(exact(hfs.2 _ ‹_›).2)|(unfold zG;omega)|(simp only;omega)|trace_state
      | false=>
        rw [if_neg Bool.false_ne_true] at hr
        subst hr
        (repeat' (first|refine And.intro ?_ ?_|intro _))<;>first|omega|exact True.intro|exact False.elim ‹False›|skip
        all_goals first|omega|rfl|contradiction|trace_state
    · rw [if_pos q5] at hr
      subst hr
      (repeat' (first|refine And.intro ?_ ?_|intro _))<;>first|omega|exact True.intro|exact False.elim ‹False›|skip
      all_goals first|omega|rfl|contradiction|(unfold zG;simp only;omega)|trace_state
  rw [if_neg q8] at hr
  subst hr
  (repeat' (first|refine And.intro ?_ ?_|intro _))<;>first|omega|exact True.intro|exact False.elim ‹False›|skip
  all_goals first|omega|rfl|contradiction|trace_state
theorem zm7 (ln:Ln) (p:Int) (m tg:Str) (hm:Int) (hf:List Fld) (hl le:Int) (ch:Ch) (out:List Evt) (k:Int) (hneed:rqN ⟨ln,p,⟨m,tg,hm,hf,hl⟩,le,some ch,false,out⟩∧0≤k∧k≤255):Spc Tryz.prog 46 [.v (.one (.ptr 0 0)),.v (.one (.p (.int .u8 k)))] [.abs (.rq ⟨ln,p,⟨m,tg,hm,hf,hl⟩,le,some ch,false,out⟩)] (.ret (.tup [])) [.abs (.rq ((rqF ⟨ln,p,⟨m,tg,hm,hf,hl⟩,le,some ch,false,out⟩ (UInt8.ofNat k.toNat))))]:=by
  obtain⟨⟨i,hi,hI0⟩,hk0,hk1⟩:=hneed
  obtain⟨g1,g2,g3,g4,g5,g6,g7,g8,g9,g10⟩:=hI0
  simp only at g1 g2 g3 g4 g5 g6 g7 g8 g9 g10
  have hfs:FsOk hf:=⟨by omega,fun f hm=>by have:=g6 f hm;omega⟩
  have hll:=YC ln (UInt8.ofNat k.toNat)
  generalize hr:rqF ⟨ln,p,⟨m,tg,hm,hf,hl⟩,le,some ch,false,out⟩ (UInt8.ofNat k.toNat)=r
  refine spcG zh mixed Tryz.func46 (by kernel_rfl) { cfgQ with fz:=[81],keep:=some [0,1,4,5,6,7,8,9,13,62]} [rX,rW,Uy,Ux,Q8,Q7,zW,zV,yh,yg,yD,yC,yK,yJ,wU,wS,W9,WZ,Xa,Y9,WV,WU] (by kernel_rfl) ?_
  intro I X hI hX
  refine orcL ?_;go_invoke;refine orcS (by kernel_rfl) ?_
  simp only [zi,Nat.reduceAdd]
  subst hI
  unfold rqF at hr
  simp only at hr
  simp only [nrmA,nrmB,nrlB,reduceCtorEq,HO.abs.injEq,Gh.rq.injEq,Rq.mk.injEq]
  generalize UInt8.ofNat k.toNat=c at *
  have hni:=zkn (g2 ch rfl) hi
  have hz:chF ⟨⟨ch.ln.b,ch.ln.cr,ch.ln.code⟩,ch.pos,ch.left,ch.all,ch.tails,ch.code⟩ c=chF ch c:=rfl
  have hck:ckOf ⟨ln,p,⟨m,tg,hm,hf,hl⟩,le,some ch,false,out⟩=ch:=rfl
  simp only [hz]
  rw [hck] at hr
  clear hz hck
  have hz2:lnF ⟨ln.b,ln.cr,ln.code⟩ c=lnF ln c:=rfl
  simp only [hz2]
  clear hz2 g2
  by_cases q1:p=2
  · rw [if_pos q1] at hr
    have h9:=g9 q1
    by_cases q2:le - 1=0
    · rw [if_pos q2] at hr
      subst hr
      have q3:le=1:=by omega
      subst q3
      (repeat' (first|refine And.intro ?_ ?_|intro _))<;>first|omega|exact True.intro|exact False.elim ‹False›|skip
      all_goals first|omega|rfl|(unfold zG;simp;omega)|(unfold zG;simp only;omega)|trace_state
    · rw [if_neg q2] at hr
      subst hr
      (repeat' (first|refine And.intro ?_ ?_|intro _))<;>first|omega|exact True.intro|exact False.elim ‹False›|skip
      all_goals first|omega|rfl|(unfold zG;simp;omega)|(unfold zG;simp only;omega)|trace_state
  rw [if_neg q1] at hr
  by_cases q4:p=3
  · rw [if_pos q4] at hr
    generalize chF ch c=z at *
    obtain⟨⟨⟨zb,zc,zo⟩,z1,z2,z3,z4,z5⟩,d,ov,e⟩:=z
    simp only at hr ⊢
    have hd0:d.length=0↔d=[]:=List.length_eq_zero_iff
    by_cases q5:e=0
    · rw [if_neg (fun h=>h q5)] at hr
      cases ov with
      | true=>
        rw [if_pos rfl] at hr
        by_cases q6:d=[]
        · rw [if_neg (fun h=>h q6)] at hr
          have q7:=hd0.2 q6
          subst hr
          (repeat' (first|refine And.intro ?_ ?_|intro _))<;>first|omega|exact True.intro|exact False.elim ‹False›|skip
          all_goals first|omega|rfl|(unfold zG;simp;omega)|(unfold zG;simp only;omega)|contradiction|exact⟨⟨hk0,hk1⟩,hni⟩|trace_state
        · rw [if_pos q6] at hr
          have q7: ¬ d.length=0:=fun h=>q6 (hd0.1 h)
          subst hr
          (repeat' (first|refine And.intro ?_ ?_|intro _))<;>first|omega|exact True.intro|exact False.elim ‹False›|skip
          all_goals first|omega|rfl|(unfold zG;simp;omega)|(unfold zG;simp only;omega)|contradiction|exact⟨⟨hk0,hk1⟩,hni⟩|trace_state
      | false=>
        rw [if_neg Bool.false_ne_true] at hr
        by_cases q6:d=[]
        · rw [if_neg (fun h=>h q6)] at hr
          have q7:=hd0.2 q6
          subst hr
          (repeat' (first|refine And.intro ?_ ?_|intro _))<;>first|omega|exact True.intro|exact False.elim ‹False›|skip
          all_goals first|omega|rfl|(unfold zG;simp;omega)|(unfold zG;simp only;omega)|contradiction|exact⟨⟨hk0,hk1⟩,hni⟩|trace_state
        · rw [if_pos q6] at hr
          have q7: ¬ d.length=0:=fun h=>q6 (hd0.1 h)
          subst hr
          (repeat' (first|refine And.intro ?_ ?_|intro _))<;>first|omega|exact True.intro|exact False.elim ‹False›|skip
          all_goals first|omega|rfl|(unfold zG;simp;omega)|(unfold zG;simp only;omega)|contradiction|exact⟨⟨hk0,hk1⟩,hni⟩|trace_state
    · rw [if_pos q5] at hr
      subst hr
      (repeat' (first|refine And.intro ?_ ?_|intro _))<;>first|omega|exact True.intro|exact False.elim ‹False›|skip
      all_goals first|omega|rfl|(unfold zG;simp;omega)|(unfold zG;simp only;omega)|contradiction|exact⟨⟨hk0,hk1⟩,hni⟩|trace_state
  rw [if_neg q4] at hr
  by_cases q8:p=0∨p=1
  · exact absurd (g4 q8) (by simp)
  rw [if_neg q8] at hr
  subst hr
  (repeat' (first|refine And.intro ?_ ?_|intro _))<;>first|omega|exact True.intro|exact False.elim ‹False›|skip
  all_goals first|omega|rfl|contradiction|trace_state
theorem zs7 (q:Rq) (k:Int) (hneed:rqN q∧0≤k∧k≤255):Spc Tryz.prog 46 [.v (.one (.ptr 0 0)),.v (.one (.p (.int .u8 k)))] [.abs (.rq q)] (.ret (.tup [])) [.abs (.rq ((rqF q (UInt8.ofNat k.toNat))))]:=by
  obtain⟨ln,p,⟨m,tg,hm,hf,hl⟩,le,ck,own,out⟩:=q
  cases ck with
  | none=>cases own with
    |true=>exact zm8 ln p m tg hm hf hl le out k hneed
    |false=>exact zm9 ln p m tg hm hf hl le out k hneed
  | some ch=>cases own with
    |true=>exact zm6 ln p m tg hm hf hl le ch out k hneed
    |false=>exact zm7 ln p m tg hm hf hl le ch out k hneed
def Ve (I:Alg) (args:List D) (hp:List HO):Option CT:=match args,hp with
  |[.v (.one (.ptr 0 0)),.v (.one (.p (.int .u8 k)))],[.abs (.rq q)]=>(fun(q:Rq) (k:Int)=>(some (.one ⟨I.hid (rqN q∧0≤k∧k≤255),(.ret (.tup [])),[.abs (.rq (I.hid ((rqF q (UInt8.ofNat k.toNat)))))]⟩):Option CT)) q k
  |_,_=>none
theorem ze5:zx Tryz.prog 46 (Ve alg):=by
  intro args hp r h
  unfold Ve at h
  split at h
  · cases h;exact fun hn=>zs7 _ _ hn
  · cases h
def uT:Know Tryz.prog:=⟨46,Ve,ze5⟩
def uS:Know Tryz.prog:=⟨46,fun I=>zy I (Ve I),zf ze5⟩
end Go.Proofs.YtmkcejdibmilmaaGreatDoor

