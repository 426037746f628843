/- Texts of this proof, one behind the other: RpcE ParS Quo ParT FldP ParP ParV ParM ParW ParX. -/
import Derived.Handy
import Derived.Test.YtlpmdnffdmdahaaGreatDoorMe
set_option linter.all false
namespace Go.Proofs.YtlpmdnffdmdahaaGreatDoor
open Go Go.RowKit Go.Sep
set_option maxRecDepth 100000
set_option maxHeartbeats 4000000 in
theorem zbW (B : Nat) (z : Value) (ao:Option Addr) (cap:Nat) (s:List UInt8) (hs:s.length≤1000000) (l:List Chunk) (w:World) (H:At w (objC B 81 [.int .u32 0,.int .i32 0,z,.nilIface,.slice ao 4 cap]::rowC 9 1 (.slice ao 4 cap) 4 X4::l)):
    Calls Tryz.prog 44 #[.pointer (some ⟨B,0,none⟩),.string (S s)] w fun e w'=>e=.returned (.string (S (escS s)))∧At w' l:=by
  have hmf: ∀ (fn:Fn) (first cap:Array Value) (w:World),(Instr.makeFunc fn first cap).run Tryz.prog w=.ok (.func fn first cap) w:=fun _ _ _ _=>rfl
  go_enter Tryz.func44,Tryz.ntmps44
  go_wp2_with (first | ((with_reducible show wpList _ _ _ (⟨_,.load _ _,_,_,_,_⟩::_) _ _);refine zf rfl (zh Tryz.underlying79 rfl rfl (by first|(with_reducible refine(H.cell _).trans ?_);exact rfl|(with_reducible refine(H.p1.cell _).trans ?_);exact rfl|(with_reducible refine(H.p2.cell _).trans ?_);exact rfl|(with_reducible refine(H.p3.cell _).trans ?_);exact rfl|(with_reducible refine(H.p4.cell _).trans ?_);exact rfl|(with_reducible refine(H.p5.cell _).trans ?_);exact rfl|(with_reducible refine(H.p6.cell _).trans ?_);exact rfl)) ?_;simp only [Act.put,List.setIfInBounds_toArray,List.set_cons_succ,List.set_cons_zero])
                                        |(go_at_call 52;refine Calls.mono (do_c B z ao cap l _ (by first|with_reducible exact H|with_reducible exact H.p1|with_reducible exact H.p2|with_reducible exact H.p3|with_reducible exact H.p4|with_reducible exact H.p5|with_reducible exact H.p6|exact H|exact H.p1|exact H.p2|exact H.p3|exact H.p4|exact H.p5|exact H.p6)) ?_;rintro e w1 ⟨b,aoT,cT,ao1,c1,ao2,c2,rfl,H'⟩;replace H:=H';clear H')
                                        |(go_at_call 135;refine Calls.mono (zdN b aoT cT ao1 c1 ao2 c2 s hs l _ H.tail) ?_;rintro e w2 ⟨rfl,H'⟩;replace H:=H';clear H'))
  go_ret
  exact⟨rfl,H⟩
end Go.Proofs.YtlpmdnffdmdahaaGreatDoor
namespace Go.Proofs.YtlpmdnffdmdahaaGreatDoor
open Go Go.Sep Go.Ab
set_option maxRecDepth 100000
def quoM (s:Str):Str:=if yI s=true then s else [34]++escS s++[34]
def Z4 (w:Str):Bool:=yI (cutB w 47).1&&((!(cutB w 47).2.2||yI (cutB w 47).2.1)&&decide (lowS w=w))
def hasP (l:List Fld) (n:Str):Bool:=decide (0≤ixP l n)
def txtL:List Fld→List Fld→Str→Str × Int
  |_,[],a=>(a,0)
  | d,p::r,a=>
    if yI p.name=false∨lowS p.name≠p.name then([],6)
    else if hasP d p.name=true then([],9)
    else if yc p.value=false then([],3)
    else txtL (d++[p]) r (a++([59,32]++p.name++[61]++quoM p.value))
def yN (w:Str) (l:List Fld):Str × Int:=if Z4 w=false then([],5) else if 8<l.length then([],8) else txtL [] l w
theorem UO: ∀ s:Str,(escS s).length≤2 * s.length
  |[]=>Nat.le_refl _
  | c::s=>by
    have ih:=UO s
    have e:escS (c::s)=escB c++escS s:=rfl
    have:(escB c).length≤2:=by unfold escB;split<;>simp
    rw [e,List.length_append,List.length_cons];omega
theorem XV (s:Str):(quoM s).length≤2 * s.length+2:=by
  have:=UO s
  unfold quoM
  split
  · omega
  · simp only [List.length_append,List.length_cons,List.length_nil];omega
theorem zcL {l:List Fld} {i:Nat} (h:i<l.length) (d:Fld) (a:Str):txtL (l.take i) (l.drop i) a=
    if yI (l.getD i d).name=false∨lowS (l.getD i d).name≠(l.getD i d).name then([],6)
    else if hasP (l.take i) (l.getD i d).name=true then([],9)
    else if yc (l.getD i d).value=false then([],3)
    else txtL (l.take (i+1)) (l.drop (i+1)) (a++([59,32]++(l.getD i d).name++[61]++quoM (l.getD i d).value)):=by
  rw [List.drop_eq_getElem_cons h,List.take_succ_eq_append_getElem h,txtL,show l.getD i d=l[i] by simp [h]]
end Go.Proofs.YtlpmdnffdmdahaaGreatDoor
namespace Go.Proofs.YtlpmdnffdmdahaaGreatDoor
open Go Go.RowKit Go.Sep Go.Ab
set_option maxRecDepth 100000
theorem zez: ∀ v ∈ X4,v.oneCell'=true:=by
  intro v h
  simp only [X4,List.mem_cons,List.mem_nil_iff,or_false] at h
  rcases h with rfl|rfl|rfl|rfl<;>rfl
set_option maxHeartbeats 4000000 in
theorem zdQ (s:Str) (hneed:s.length≤200000):Spc Tryz.prog 26 [.v (.one (.p (.str s)))] [] (.ret (.v (.one (.p (.str (quoM s)))))) []:=by
  refine⟨⟨_,Tryz.func26,by kernel_rfl,by kernel_rfl⟩,fun Sf K fr w vs hH hM hA=> ?_⟩
  have hM0:=hM
  obtain⟨v,r,rfl⟩: ∃ v r,vs=v::r:=by cases vs with|nil=>exact hM.elim|cons v r=>exact⟨v,r,rfl⟩
  obtain⟨h1,hM⟩:=hM
  obtain rfl:r=[]:=by cases r with|nil=>rfl|cons v r=>exact hM.elim
  cases h1 with
  | str _ hl1=>
    have ht:Calls Tryz.prog 22 #[.string (S s)] w fun e w'=>∃ S' K',e=.returned (.bool (yI s))∧Sf.le S'∧Ext (K.map CO.base) (K'.map CO.base)∧HR S' (K'.map CO.base) [] K'∧At w' (frzC S'::(CO.zx K'++fr)):=by
      refine((SN s (by omega)).2 Sf K fr w _ hH hM0 hA).mono ?_
      rintro e w1 ⟨S1,K1,hle,hext,hH1,hA1,ho⟩
      cases e with
      |returned v=>cases ho;exact⟨S1,K1,rfl,hle,hext,hH1,hA1⟩
      |panicked c=>exact ho.elim
      |outgrown=>exact ho.elim
    have hq:=XV s
    have hes:=UO s
    by_cases htk:yI s=true
    · rw [htk] at ht
      rw [show quoM s=s from if_pos htk]
      have H:=hA
      go_enter Tryz.func26,Tryz.ntmps26
      go_wp2_with (first|((with_reducible show wpList _ _ _ (⟨some 6,.buildSlice _ _ _,_,_,_,_⟩::_) _ _);refine yJ Tryz.underlying65 in_9 [.string _,.string _,.string _,.string _] rfl rfl (XG rfl rfl rfl rfl) (by simp) H rfl ?_;intro ao6 cap6 w6 hc6 H1;replace H:=H1;clear H1;simp only [Act.put,List.setIfInBounds_toArray,List.set_cons_succ,List.set_cons_zero])
                                        |(go_at_call 22;refine Calls.mono (ht) ?_;rintro e w1 ⟨S1,K1,rfl,hle,hext,hH1,H'⟩;replace H:=H';clear H'))
      go_ret
      exact⟨S1,K1,hle,hext,hH1,H,.str _ hl1⟩
    · have htf : yI s = false := by simpa using htk
      rw [htf] at ht
      have H:=hA
      go_enter Tryz.func26,Tryz.ntmps26
      go_wp2_with (first|((with_reducible show wpList _ _ _ (⟨some 6,.buildSlice _ _ _,_,_,_,_⟩::_) _ _);refine yJ Tryz.underlying65 in_9 [.string _,.string _,.string _,.string _] rfl rfl (XG rfl rfl rfl rfl) (by simp) H rfl ?_;intro ao6 cap6 w6 hc6 H1;replace H:=H1;clear H1;simp only [Act.put,List.setIfInBounds_toArray,List.set_cons_succ,List.set_cons_zero])
                                        |(go_at_call 22;refine Calls.mono (ht) ?_;rintro e w1 ⟨S1,K1,rfl,hle,hext,hH1,H'⟩;replace H:=H';clear H')
                                        |(go_at_call 43;refine Calls.mono (zb7 _ _ X4 zez _ _ (by first|with_reducible exact H|with_reducible exact H.p1|with_reducible exact H.p2|with_reducible exact H.p3|with_reducible exact H.p4|with_reducible exact H.p5|with_reducible exact H.p6|exact H|exact H.p1|exact H.p2|exact H.p3|exact H.p4|exact H.p5|exact H.p6)) ?_;rintro e w2 ⟨b,ao1,c1,rfl,H'⟩;replace H:=H';clear H')
                                        |(go_at_call 44;refine Calls.mono (zbW b _ _ _ s (by omega) _ _ (by first|with_reducible exact H|with_reducible exact H.p1|with_reducible exact H.p2|with_reducible exact H.p3|with_reducible exact H.p4|with_reducible exact H.p5|with_reducible exact H.p6|exact H|exact H.p1|exact H.p2|exact H.p3|exact H.p4|exact H.p5|exact H.p6)) ?_;rintro e w3 ⟨rfl,H'⟩;replace H:=H';clear H'))
      all_goals try(exfalso;omega)
      go_ret
      have e:quoM s=34::(escS s++[34]):=by unfold quoM;rw [if_neg htk];simp
      have hb:(quoM s).length≤maxLen:=Nat.le_trans hq (by unfold maxLen;omega)
      generalize quoM s=q at *
      subst e
      exact⟨S1,K1,hle,hext,hH1,H,.str _ hb⟩
def ZI (I:Alg) (args:List D) (hp:List HO):Option CT:=match args,hp with
  |[.v (.one (.p (.str s)))],[]=>(fun(s:Str)=>(some (.one ⟨I.hid (s.length≤200000),(.ret (.v (.one (.p (.str (I.hid (quoM s))))))),[]⟩):Option CT)) s
  |_,_=>none
theorem TM:yH Tryz.prog 26 (ZI alg):=by
  intro args hp r h
  unfold ZI at h
  split at h
  · cases h;exact fun hn=>zdQ _ hn
  · cases h
def TL:Know Tryz.prog:=⟨26,ZI,TM⟩
def TK:Know Tryz.prog:=⟨26,fun I=>xh I (ZI I),zH TM⟩
end Go.Proofs.YtlpmdnffdmdahaaGreatDoor
namespace Go.Proofs.YtlpmdnffdmdahaaGreatDoor
open Go Go.Sep Go.Ab
set_option maxRecDepth 100000
theorem zdS (s:Str) (hneed:s.length≤1000000):Spc Tryz.prog 21 [.v (.one (.p (.str s)))] [] (.ret (.v (.one (.p (.bool ((Z4 s))))))) []:=by
  have hc:=zcm s 47
  have hbq:(lowS s == s)=decide (lowS s=s):=by rw [Bool.eq_iff_iff];simp
  generalize hr:Z4 s=r
  unfold Z4 at hr
  refine spcG zN mixed Tryz.func21 (by kernel_rfl) { keep:=some [0,2,3,4,5]} [qV,qU,xM,xK,zcU,zcT] (by kernel_rfl) ?_
  intro I X hI hX
  refine zJ (let y0:=I.hid (α:=(Prop)) (LE.le (List.length s) 1000000);let y1:=I.hid (α:=Str) (Prod.fst (Prod.snd (cutB s (47:UInt8))));let y2:=I.hid (α:=Str) (Prod.fst (cutB s (47:UInt8)));let y3:=I.seq (I.hid (α:=Str) (lowS s)) s;.need y0 (.need (I.hid (α:=(Prop)) (LE.le (List.length y2) 1000000)) (.br (I.hid (α:=Bool) (yI y2)) (.br (I.bnot (I.hid (α:=Bool) (Prod.snd (Prod.snd (cutB s (47:UInt8)))))) (.need y0 (.fin (.ret (.v (.one (.p (.bool y3))))) [])) (.need (I.hid (α:=(Prop)) (LE.le (List.length y1) 1000000)) (.br (I.hid (α:=Bool) (yI y1)) (.need y0 (.fin (.ret (.v (.one (.p (.bool y3))))) [])) (.fin (.ret (.v (.one (.p (.bool Bool.false))))) [])))) (.fin (.ret (.v (.one (.p (.bool Bool.false))))) [])))) (by kernel_rfl) ?_
  simp only [yg]
  subst hI
  simp only [nrmA,nrmB,nrlB,reduceCtorEq]
  (repeat' (first|refine And.intro ?_ ?_|intro _))<;>first|omega|exact True.intro|exact False.elim ‹False›|skip
  all_goals first
    |omega
    |(subst hr;simp_all;done)
    |(rw [hbq,← hr];simp only [*];done)
    |(rw [hbq,← hr];simp [*];done)
def ZK (I:Alg) (args:List D) (hp:List HO):Option CT:=match args,hp with
  |[.v (.one (.p (.str s)))],[]=>(fun(s:Str)=>(some (.one ⟨I.hid (s.length≤1000000),(.ret (.v (.one (.p (.bool (I.hid ((Z4 s)))))))),[]⟩):Option CT)) s
  |_,_=>none
theorem TS:yH Tryz.prog 21 (ZK alg):=by
  intro args hp r h
  unfold ZK at h
  split at h
  · cases h;exact fun hn=>zdS _ hn
  · cases h
def TR:Know Tryz.prog:=⟨21,ZK,TS⟩
def TQ:Know Tryz.prog:=⟨21,fun I=>xh I (ZK I),zH TS⟩
theorem zdT (a b n v:Str):Spc Tryz.prog 25 [.v (.agg [(.p (.str a)),(.p (.str b))]),.v (.one (.ptr 0 0))] [.pack [.obj 37 [(.p (.str n)),(.p (.str v))]]] (.ret (.v (.one (.p (.bool ((a == n))))))) [.pack [.obj 37 [(.p (.str n)),(.p (.str v))]]]:=by
  refine spcG zN mixed Tryz.func25 (by kernel_rfl) { keep:=some [0,1,2,3]} [] (by kernel_rfl) ?_
  intro I X hI hX
  refine zJ (.fin (.ret (.v (.one (.p (.bool (I.seq a n)))))) [(.pack [(.obj 37 [(.p (.str n)),(.p (.str v))])])]) (by kernel_rfl) ?_
  simp only [yg]
  subst hI
  simp only [nrmA,nrmB,nrlB,reduceCtorEq,HO.pack.injEq,HO.obj.injEq]
  try trivial
def ZM (I:Alg) (args:List D) (hp:List HO):Option CT:=match args,hp with
  |[.v (.agg [(.p (.str a)),(.p (.str b))]),.v (.one (.ptr 0 0))],[.pack [.obj 37 [(.p (.str n)),(.p (.str v))]]]=>(fun(a b n v:Str)=>(some (.one ⟨I.hid (True),(.ret (.v (.one (.p (.bool (I.hid ((a == n)))))))),[.pack [.obj 37 [(.p (.str n)),(.p (.str v))]]]⟩):Option CT)) a b n v
  |_,_=>none
theorem TV:yH Tryz.prog 25 (ZM alg):=by
  intro args hp r h
  unfold ZM at h
  split at h
  · cases h;exact fun hn=>zdT _ _ _ _
  · cases h
def ZL:Know Tryz.prog:=⟨25,ZM,TV⟩
def TU:Know Tryz.prog:=⟨25,fun I=>xh I (ZM I),zH TV⟩
theorem zeF (l:List Fld) (n v:Str) (hneed:l.length≤1000000):Spc Tryz.prog 29 [.v (.one (.p (.list .fld l))),.v (.one (.fn 25 [.ptr 0 0]))] [.pack [.obj 37 [(.p (.str n)),(.p (.str v))]]] (.ret (.v (.one (.p (.int .i64 ((ixP l n))))))) [.pack [.obj 37 [(.p (.str n)),(.p (.str v))]]]:=by
  refine spcG zN mixed Tryz.func29 (by kernel_rfl) { keep:=some [0,1,4,5,7,8]} [ZL] (by kernel_rfl) ?_
  intro I X hI hX
  refine zJ (.code 0 [1,0,1,0] ⟨[(8,(.v (.one (.p (.int .i64 0))))),(7,(.v (.one (.p (.int .i64 (I.len (α:=Fld) l)))))),(4,(.v (.one (.p (.int .i64 0))))),(0,(.v (.one (.p (.list .fld l))))),(1,(.v (.one (.fn 25 [(.ptr 0 0)]))))],[(.pack [(.obj 37 [(.p (.str n)),(.p (.str v))])])],19,none⟩) (by kernel_rfl) ?_
  simp only [yg]
  refine yZ hI zN mixed [ZL] hX [0,1,7,8] (fun(i:Nat)=>i≤l.length∧i≤l.findIdx (fun f=>f.name == n)) (fun(i:Nat)=>⟨[(0,.v (.one (.p (.list .fld l)))),(1,.v (.one (.fn 25 [.ptr 0 0]))),(7,.v (.one (.p (.int .i64 ((I.len (α:=Fld) l)))))),(8,.v (.one (.p (.int .i64 i))))],[.pack [.obj 37 [(.p (.str n)),(.p (.str v))]]],19,none⟩) (fun(i:Nat)=>l.length - i) 0 (by kernel_rfl) (by kernel_rfl) ?_ ?_
  · exact⟨Nat.zero_le _,Nat.zero_le _⟩
  rintro i ⟨h1,h2⟩ A hA
  refine zJ (let y0:HO:=.pack [(.obj 37 [(.p (.str n)),(.p (.str v))])];let y1:=I.inb (Nat.cast i) (I.len (α:=Fld) l);.br (I.ilt (Nat.cast i) (I.len (α:=Fld) l)) (.need y1 (.need y1 (.need (I.hid (α:=(Prop)) True) (.br (I.hid (α:=Bool) (BEq.beq (Fld.name (I.get (α:=Fld) l (Fld.mk ([]:Str) ([]:Str)) (Nat.cast i))) n)) (.fin (.ret (.v (.one (.p (.int .i64 (Nat.cast i)))))) [y0]) (.need (I.inr Go.IntKind.i64 (I.add (Nat.cast i) 1)) (.need (A ⟨[(0,(.v (.one (.p (.list .fld l))))),(1,(.v (.one (.fn 25 [(.ptr 0 0)])))),(7,(.v (.one (.p (.int .i64 (I.len (α:=Fld) l)))))),(8,(.v (.one (.p (.int .i64 (I.add (Nat.cast i) 1))))))],[y0],19,none⟩) .qed)))))) (.fin (.ret (.v (.one (.p (.int .i64 (Neg.neg (1:Int))))))) [y0])) (by kernel_rfl) ?_
  simp only [yg]
  subst hI
  simp only [nrmA,nrmB,nrlB,reduceCtorEq,HO.pack.injEq,HO.obj.injEq]
  have hfl:l.findIdx (fun f=>f.name == n)≤l.length:=List.findIdx_le_length
  have hyes:i<l.length→(l.getD i ⟨[],[]⟩).name=n→ixP l n=i:=fun h hid=>by
    have h0:l.findIdx (fun f=>f.name == n)≤i:=by
      refine Nat.le_of_not_lt fun hlt=> ?_
      have:=List.not_of_lt_findIdx hlt
      rw [List.getD_eq_getElem?_getD,List.getElem?_eq_getElem h] at hid
      simp only [Option.getD_some] at hid
      rw [hid] at this;simp at this
    unfold ixP
    rw [if_pos (by omega)];omega
  have hno:i<l.length→¬ (l.getD i ⟨[],[]⟩).name=n→i+1≤l.findIdx (fun f=>f.name == n):=fun h hid=>by
    refine Nat.lt_of_le_of_ne h2 fun e=>hid ?_
    have hlt:l.findIdx (fun f=>f.name == n)<l.length:=by omega
    have:=List.findIdx_getElem (xs:=l) (p:=fun f=>f.name == n) (w:=hlt)
    have h9:l.getD i ⟨[],[]⟩=l[l.findIdx (fun f=>f.name == n)]:=by simp [e,List.getD_eq_getElem?_getD,hlt]
    rw [h9];simpa using this
  have hend: ¬ i<l.length→ixP l n= -1:=fun h=>by unfold ixP;rw [if_neg (by omega)]
  generalize l.getD i ⟨[],[]⟩=x at *
  (repeat' (first|refine And.intro ?_ ?_|intro _))<;>first|omega|exact True.intro|exact False.elim ‹False›|skip
  all_goals first
    |omega
    |(exact(hyes (by omega) ‹_›).symm)
    |(exact hA (i+1) ⟨by omega,hno (by omega) ‹_›⟩ (by omega))
    |(exact(hend (by omega)).symm)
def X8 (I:Alg) (args:List D) (hp:List HO):Option CT:=match args,hp with
  |[.v (.one (.p (.list .fld l))),.v (.one (.fn 25 [.ptr 0 0]))],[.pack [.obj 37 [(.p (.str n)),(.p (.str v))]]]=>(fun(l:List Fld) (n v:Str)=>(some (.one ⟨I.hid (l.length≤1000000),(.ret (.v (.one (.p (.int .i64 (I.hid ((ixP l n)))))))),[.pack [.obj 37 [(.p (.str n)),(.p (.str v))]]]⟩):Option CT)) l n v
  |_,_=>none
theorem zav:yH Tryz.prog 29 (X8 alg):=by
  intro args hp r h
  unfold X8 at h
  split at h
  · cases h;exact fun hn=>zeF _ _ _ hn
  · cases h
def zc4:Know Tryz.prog:=⟨29,X8,zav⟩
def zc3:Know Tryz.prog:=⟨29,fun I=>xh I (X8 I),zH zav⟩
theorem zeI (l:List Fld) (n v:Str) (hneed:l.length≤1000000):Spc Tryz.prog 24 [.v (.one (.p (.list .fld l))),.v (.one (.fn 25 [.ptr 0 0]))] [.pack [.obj 37 [(.p (.str n)),(.p (.str v))]]] (.ret (.v (.one (.p (.bool ((hasP l n))))))) [.pack [.obj 37 [(.p (.str n)),(.p (.str v))]]]:=by
  refine spcG zN mixed Tryz.func24 (by kernel_rfl) { keep:=some [0,1,4]} [zc4,zc3] (by kernel_rfl) ?_
  intro I X hI hX
  refine zJ (.need (I.hid (α:=(Prop)) (LE.le (List.length l) 1000000)) (.fin (.ret (.v (.one (.p (.bool (I.ile 0 (I.hid (α:=Int) (ixP l n)))))))) [(.pack [(.obj 37 [(.p (.str n)),(.p (.str v))])])])) (by kernel_rfl) ?_
  simp only [yg]
  subst hI
  simp only [nrmA,nrmB,nrlB,reduceCtorEq,HO.pack.injEq,HO.obj.injEq]
  unfold hasP
  (repeat' (first|refine And.intro ?_ ?_|intro _))<;>first|omega|exact True.intro|exact False.elim ‹False›|skip
  all_goals first|exact hneed|trivial|(simp;done)|trace_state
def Wi (I:Alg) (args:List D) (hp:List HO):Option CT:=match args,hp with
  |[.v (.one (.p (.list .fld l))),.v (.one (.fn 25 [.ptr 0 0]))],[.pack [.obj 37 [(.p (.str n)),(.p (.str v))]]]=>(fun(l:List Fld) (n v:Str)=>(some (.one ⟨I.hid (l.length≤1000000),(.ret (.v (.one (.p (.bool (I.hid ((hasP l n)))))))),[.pack [.obj 37 [(.p (.str n)),(.p (.str v))]]]⟩):Option CT)) l n v
  |_,_=>none
theorem zaz:yH Tryz.prog 24 (Wi alg):=by
  intro args hp r h
  unfold Wi at h
  split at h
  · cases h;exact fun hn=>zeI _ _ _ hn
  · cases h
def zay:Know Tryz.prog:=⟨24,Wi,zaz⟩
def zax:Know Tryz.prog:=⟨24,fun I=>xh I (Wi I),zH zaz⟩
set_option maxHeartbeats 1000000 in
theorem zdW (w:Str) (l:List Fld) (hneed:(w.length≤100000∧l.length≤1000000)∧∀ f ∈ l,f.name.length≤100000∧f.value.length≤100000):Spc Tryz.prog 9 [.v (.agg [(.p (.str w)),(.p (.list .fld l))])] [] (.ret (.tup [(.one (.p (.str ((yN w l).1)))),(.one (.p (.int .i64 ((yN w l).2))))])) []:=by
  obtain⟨⟨hw,hl⟩,hf⟩:=hneed
  generalize hr:yN w l=r
  unfold yN at hr
  refine spcG zN mixed Tryz.func9 (by kernel_rfl) { keep:=some [0,1,2,3,4,5,6,18,19,20]} [qV,qU,uI,uH,xM,xK,TL,TK,TR,TQ,ZL,TU,zay,zax] (by kernel_rfl) ?_
  intro I X hI hX
  refine zJ (.need (I.hid (α:=(Prop)) (LE.le (List.length w) 1000000)) (.br (I.bnot (I.hid (α:=Bool) (Z4 w))) (.fin (.ret (.tup [(.one (.p (.str ([]:Str)))),(.one (.p (.int .i64 5)))])) []) (.br (I.ilt 8 (I.len (α:=Fld) l)) (.fin (.ret (.tup [(.one (.p (.str ([]:Str)))),(.one (.p (.int .i64 8)))])) []) (.code 0 [1,1,1,1,0,1,0] ⟨[(20,(.v (.one (.p (.int .i64 0))))),(19,(.v (.one (.p (.int .i64 (I.len (α:=Fld) l)))))),(18,(.v (.one (.p (.list .fld l))))),(4,(.v (.one (.p (.str w))))),(3,(.v (.one (.p (.int .i64 0))))),(2,(.v (.one (.p (.str ([]:Str)))))),(1,(.v (.one (.ptr 0 0)))),(0,(.v (.agg [(.p (.str w)),(.p (.list .fld l))])))],[(.obj 24 [(.p (.str w)),(.p (.list .fld l))])],62,none⟩)))) (by kernel_rfl) ?_
  simp only [yg]
  (repeat' (first|refine And.intro ?_ ?_|intro _))
  · subst hI
    simp only [nrmA,nrmB,nrlB,reduceCtorEq]
    omega
  · subst hI
    simp only [nrmA,nrmB,nrlB,reduceCtorEq] at *
    rw [if_pos (by simp_all)] at hr
    subst hr;exact⟨rfl,rfl⟩
  · trivial
  · subst hI
    simp only [nrmA,nrmB,nrlB,reduceCtorEq] at *
    rw [if_neg (by simp_all),if_pos (by omega)] at hr
    subst hr;exact⟨rfl,rfl⟩
  · trivial
  have hl8:l.length≤8:=by
    subst hI
    simp only [nrmA,nrmB,nrlB,reduceCtorEq] at *
    omega
  have hr1:txtL [] l w=r:=by
    subst hI
    simp only [nrmA,nrmB,nrlB,reduceCtorEq] at *
    rw [if_neg (by simp_all),if_neg (by omega)] at hr
    exact hr
  clear hr
  refine yZ hI zN mixed [qV,qU,uI,uH,xM,xK,TL,TK,TR,TQ,ZL,TU,zay,zax] hX [1,4,18,19,20] (fun(g:Nat × Str)=>match g with|(i,a)=>i≤l.length∧txtL (l.take i) (l.drop i) a=r∧a.length≤100000+i * 300100) (fun(g:Nat × Str)=>match g with|(i,a)=>⟨[(1,.v (.one (.ptr 0 0))),(4,.v (.one (.p (.str a)))),(18,.v (.one (.p (.list .fld l)))),(19,.v (.one (.p (.int .i64 ((I.len (α:=Fld) l)))))),(20,.v (.one (.p (.int .i64 i))))],[.pack [.obj 24 [(.p (.str w)),(.p (.list .fld l))]]],62,none⟩) (fun(g:Nat × Str)=>match g with|(i,a)=>l.length - i) (0,w) (by kernel_rfl) (by kernel_rfl) ?_ ?_
  · exact⟨Nat.zero_le _,hr1,by omega⟩
  rintro⟨i,a⟩ ⟨h1,h2,h3⟩ A hA
  refine zJ (let y0:=I.get (α:=Fld) l (Fld.mk ([]:Str) ([]:Str)) (Nat.cast i);let y1:=I.hid (α:=Str) (quoM (Fld.value y0));let y2:=I.hid (α:=(Prop)) (LE.le (List.length (Fld.name y0)) 1000000);let y3:=I.inb (Nat.cast i) (I.len (α:=Fld) l);let y4:=I.cut (α:=Fld) l 0 (Int.ofNat i);.br (I.ilt (Nat.cast i) (I.len (α:=Fld) l)) (.need y3 (.need y3 (.need y2 (.br (I.bnot (I.hid (α:=Bool) (yI (Fld.name y0)))) (.fin (.ret (.tup [(.one (.p (.str ([]:Str)))),(.one (.p (.int .i64 6)))])) []) (.need y2 (.br (I.bnot (I.seq (I.hid (α:=Str) (lowS (Fld.name y0))) (Fld.name y0))) (.fin (.ret (.tup [(.one (.p (.str ([]:Str)))),(.one (.p (.int .i64 6)))])) []) (.need (I.cutb 0 (Int.ofNat i) (I.len (α:=Fld) l)) (.need (I.hid (α:=(Prop)) (LE.le (List.length y4) 1000000)) (.br (I.hid (α:=Bool) (hasP y4 (Fld.name y0))) (.fin (.ret (.tup [(.one (.p (.str ([]:Str)))),(.one (.p (.int .i64 9)))])) []) (.need (I.hid (α:=(Prop)) (LE.le (List.length (Fld.value y0)) 1000000)) (.br (I.bnot (I.hid (α:=Bool) (yc (Fld.value y0)))) (.fin (.ret (.tup [(.one (.p (.str ([]:Str)))),(.one (.p (.int .i64 3)))])) []) (.need (I.few (I.add (I.len (α:=UInt8) ([59,32]:Str)) (I.len (α:=UInt8) (Fld.name y0))) 1000000000) (.need (I.few (I.add (I.len (α:=UInt8) (I.app (α:=UInt8) ([59,32]:Str) (Fld.name y0))) (I.len (α:=UInt8) ([61]:Str))) 1000000000) (.need (I.hid (α:=(Prop)) (LE.le (List.length (Fld.value y0)) 200000)) (.need (I.few (I.add (I.len (α:=UInt8) (I.app (α:=UInt8) (I.app (α:=UInt8) ([59,32]:Str) (Fld.name y0)) ([61]:Str))) (I.len (α:=UInt8) y1)) 1000000000) (.need (I.few (I.add (I.len (α:=UInt8) a) (I.len (α:=UInt8) (I.app (α:=UInt8) (I.app (α:=UInt8) (I.app (α:=UInt8) ([59,32]:Str) (Fld.name y0)) ([61]:Str)) y1))) 1000000000) (.need (I.inr Go.IntKind.i64 (I.add (Nat.cast i) 1)) (.need (A ⟨[(1,(.v (.one (.ptr 0 0)))),(4,(.v (.one (.p (.str (I.app (α:=UInt8) a (I.app (α:=UInt8) (I.app (α:=UInt8) (I.app (α:=UInt8) ([59,32]:Str) (Fld.name y0)) ([61]:Str)) y1))))))),(18,(.v (.one (.p (.list .fld l))))),(19,(.v (.one (.p (.int .i64 (I.len (α:=Fld) l)))))),(20,(.v (.one (.p (.int .i64 (I.add (Nat.cast i) 1))))))],[(.pack [(.obj 24 [(.p (.str w)),(.p (.list .fld l))])])],62,none⟩) .qed)))))))))))))))))) (.fin (.ret (.tup [(.one (.p (.str a))),(.one (.p (.int .i64 0)))])) [])) (by kernel_rfl) ?_
  simp only [yg]
  subst hI
  simp only [nrmA,nrmB,nrlB,reduceCtorEq,HO.pack.injEq,HO.obj.injEq]
  have hx:i<l.length→l.getD i ⟨[],[]⟩ ∈ l:=fun h=>by rw [show l.getD i ⟨[],[]⟩=l[i] by simp [h]];exact List.getElem_mem h
  have hff:=fun h=>hf _ (hx h)
  have hx2:=fun(h:i<l.length)=>(zcL h ⟨[],[]⟩ a).symm.trans h2
  have hend: ¬ i<l.length→(a,(0:Int))=r:=fun h=>by rw [← h2,List.drop_of_length_le (by omega)];rfl
  have hta:(l.take i).length≤8:=by rw [List.length_take];omega
  have hmo:=fun(h:i<l.length) (b:Str) e k=>hA (i+1,a++b) ⟨by show i+1≤l.length;omega,e,k⟩ (by show l.length - (i+1)<l.length - i;omega)
  simp only [Int.natCast_add,Int.natCast_one] at hmo
  generalize l.getD i ⟨[],[]⟩=f at *
  clear hA hx hf
  have hq:=XV f.value
  have hno:yI f.name=true→lowS f.name=f.name→¬ (yI f.name=false∨lowS f.name≠f.name):=fun e1 e2=>by rintro(e|e);rw [e1] at e;cases e;exact e e2
  have hbl:(quoM f.value).length≤200002→f.name.length≤100000→([59,32]++f.name++[61]++quoM f.value).length≤300100:=fun _ _=>by simp only [List.length_append,List.length_cons,List.length_nil];omega
  (repeat' (first|refine And.intro ?_ ?_|intro _))<;>first|omega|exact True.intro|exact False.elim ‹False›|skip
  all_goals first
    |(have h9:=hend (by omega);subst h9;rfl)
    | (have h8 :=hff (by omega);first
        |omega
        |(simp only [List.length_append,List.length_cons,List.length_nil];omega)
        |(have h9:=hx2 (by omega);first
            |(rw [if_pos (.inl ‹_›)] at h9;subst h9;rfl)
            |(rw [if_pos (.inr ‹_›)] at h9;subst h9;rfl)
            |(rw [if_neg (hno ‹_› ‹_›),if_pos ‹_›] at h9;subst h9;rfl)
            |(rw [if_neg (hno ‹_› ‹_›),if_neg (by rw [‹hasP (List.take i l) f.name=false›];decide),if_pos ‹_›] at h9;subst h9;rfl)
            | (rw [if_neg (hno ‹_› ‹_›),if_neg (by rw [‹hasP (List.take i l) f.name=false›];decide),if_neg (by rw [‹yc f.value=true›];decide)] at h9
               have hb:=hbl (by omega) (by omega)
               exact hmo (by omega) _ h9 (by rw [List.length_append];omega))))
    |omega
def ZN (I:Alg) (args:List D) (hp:List HO):Option CT:=match args,hp with
  |[.v (.agg [(.p (.str w)),(.p (.list .fld l))])],[]=>(fun(w:Str) (l:List Fld)=>(some (.one ⟨I.hid ((w.length≤100000∧l.length≤1000000)∧∀ f ∈ l,f.name.length≤100000∧f.value.length≤100000),(.ret (.tup [(.one (.p (.str (I.hid ((yN w l).1))))),(.one (.p (.int .i64 (I.hid ((yN w l).2)))))])),[]⟩):Option CT)) w l
  |_,_=>none
theorem Si:yH Tryz.prog 9 (ZN alg):=by
  intro args hp r h
  unfold ZN at h
  split at h
  · cases h;exact fun hn=>zdW _ _ hn
  · cases h
def TY:Know Tryz.prog:=⟨9,ZN,Si⟩
def TW:Know Tryz.prog:=⟨9,fun I=>xh I (ZN I),zH Si⟩
end Go.Proofs.YtlpmdnffdmdahaaGreatDoor
namespace Go.Proofs.YtlpmdnffdmdahaaGreatDoor
open Go Go.Sep Go.Ab
set_option maxRecDepth 100000
theorem qf (c:UInt8) (t:Str): ∀ s:Str,(∀ x ∈ s,x≠c)→Lib.indexByte (s++c::t) c=s.length
  |[],_=>by simp [Lib.indexByte]
  | b::l,h=>by
    have ih:=qf c t l (fun x hx=>h x (List.mem_cons_of_mem _ hx))
    have hb:(b == c)=false:=by simpa using h b (List.mem_cons_self ..)
    simp only [List.cons_append,Lib.indexByte,hb,ih,List.length_cons]
    rw [if_neg (by simp),if_neg (by try simp;try omega)]
    try omega
theorem Tq {s:Str} (h:tokA s=true) {x:UInt8} (hx:x ∈ s):tokB (x.toNat:Int)=true:=List.all_eq_true.1 h x hx
theorem yh {s:Str} (h:yI s=true):s≠[]∧tokA s=true:=by
  unfold yI at h
  simpa using h
end Go.Proofs.YtlpmdnffdmdahaaGreatDoor
namespace Go.Proofs.YtlpmdnffdmdahaaGreatDoor
open Go Go.Sep Go.Ab
set_option maxRecDepth 100000
theorem uJ {c:UInt8} (h:isTk c=true):rH (c.toNat:Int)=true∧c≠32∧c≠9∧c≠59∧c≠61∧c≠47∧c≠34:=by
  have key: ∀ n:Fin 256,tokB ((n.1:Nat):Int)=true→rH ((n.1:Nat):Int)=true∧n.1≠32∧n.1≠9∧n.1≠59∧n.1≠61∧n.1≠47∧n.1≠34:=by decide+kernel
  have:=key ⟨c.toNat,c.toNat_lt⟩ h
  obtain⟨h0,h1,h2,h3,h4,h5,h6⟩:=this
  exact⟨h0,fun e=>h1 (by rw [e];rfl),fun e=>h2 (by rw [e];rfl),fun e=>h3 (by rw [e];rfl),fun e=>h4 (by rw [e];rfl),fun e=>h5 (by rw [e];rfl),fun e=>h6 (by rw [e];rfl)⟩
theorem sJ {x:Str} (h:tokA x=true): ∀ c ∈ x,isTk c=true:=fun c m=>Tq h m
theorem rC {x:Str} (h:tokA x=true):yc x=true:=List.all_eq_true.2 fun c m=>(uJ (sJ h c m)).1
theorem rD {x r:Str} (h:tokA x=true) (k: ∀ c,r.head?=some c→isTk c=false):tokS (x++r)=x∧tokE (x++r)=r:=by
  unfold tokS tokE
  constructor
  · rw [List.takeWhile_append_of_pos (sJ h)]
    cases r with
    |nil=>simp
    |cons c r=>rw [List.takeWhile_cons_of_neg (by rw [k c rfl];decide),List.append_nil]
  · rw [List.dropWhile_append_of_pos (sJ h)]
    cases r with
    |nil=>rfl
    |cons c r=>rw [List.dropWhile_cons_of_neg (by rw [k c rfl];decide)]
theorem ZC (s:Str):tokA (tokS s)=true:=by
  exact List.all_takeWhile
theorem QY {x:Str} (h:x≠[]) (k:tokA x=true):yI x=true:=by unfold yI;rw [k,decide_eq_true h];rfl
theorem Ur {x r:Str} (h:x≠[]) (k:tokA x=true):skS (x++r)=x++r:=by
  cases x with
  |nil=>exact absurd rfl h
  | cons c x=>
    have hc:=uJ (sJ k c (List.mem_cons_self ..))
    unfold skS Lib.trimLeftS
    rw [List.cons_append,List.dropWhile_cons_of_neg]
    simp [hc.2.1,hc.2.2.1]
theorem zcP {c:UInt8} {r:Str} (h:c≠32) (k:c≠9):skS (c::r)=c::r:=by
  unfold skS Lib.trimLeftS
  rw [List.dropWhile_cons_of_neg]
  simp [h,k]
theorem zdK (r:Str):skS (32::r)=skS r:=by
  unfold skS Lib.trimLeftS
  rw [List.dropWhile_cons_of_pos (by decide)]
theorem TN: ∀ (v r:Str),quoF (escS v++34::r)=some (v,r)
  |[],r=>zcX r rfl
  | c ::v,r=>by
    have ih:=TN v r
    have e:escS (c::v)=escB c++escS v:=rfl
    rw [e]
    unfold escB
    by_cases h:c=34∨c=92
    · rw [if_pos h]
      show quoF (92::c::(escS v++34::r))=_
      rw [zcW c _ rfl,ih];rfl
    · rw [if_neg h]
      show quoF (c::(escS v++34::r))=_
      rw [zdR _ (fun e=>h (.inl e)) (fun e=>h (.inr e)),ih];rfl
def Bhd (r:Str):Prop:=r=[]∨∃ t,r=59::t
theorem Bhd.no {r:Str} (h:Bhd r): ∀ c,r.head?=some c→isTk c=false:=by
  rcases h with rfl|⟨t,rfl⟩
  · intro c e;cases e
  · intro c e;cases e;decide
structure QK (p:Fld):Prop where
  tk:yI p.name=true
  lo:lowS p.name=p.name
  se:yc p.value=true
theorem zal {p:Fld} (h:QK p) {r:Str} (k:Bhd r):parM (p.name++[61]++quoM p.value++r)=(0,p,r):=by
  obtain⟨hn,ht⟩:=yh h.tk
  have e0:p.name++[61]++quoM p.value++r=p.name++(61::(quoM p.value++r)):=by simp
  obtain⟨a1,a2⟩:=rD (r:=61::(quoM p.value++r)) ht (fun c e=>by cases e;decide)
  unfold parM
  rw [e0,a1,a2,if_neg hn,if_neg (by simp [zQ])]
  by_cases hv:yI p.value=true
  · obtain⟨hv0,hvt⟩:=yh hv
    have eq:quoM p.value=p.value:=by unfold quoM;rw [if_pos hv]
    obtain⟨b1,b2⟩:=rD (r:=r) hvt k.no
    have hh:zQ ((61::(quoM p.value++r)).drop 1) 34=false:=by
      rw [eq]
      show zQ (p.value++r) 34=false
      cases hx:p.value with
      |nil=>exact absurd hx hv0
      | cons c x=>
        have:=(uJ (sJ hvt c (by rw [hx];exact List.mem_cons_self ..))).2.2.2.2.2.2
        simp [zQ,this]
    rw [if_neg (by rw [hh];decide),eq]
    show(if tokS (p.value++r)=[] then _ else _)=_
    rw [b1,if_neg hv0]
    show((0:Int),(⟨lowS p.name,tokS (p.value++r)⟩:Fld),tokE (p.value++r))=_
    rw [b1,b2,h.lo]
  · have eq:quoM p.value=[34]++escS p.value++[34]:=by unfold quoM;rw [if_neg hv]
    have hh:zQ ((61::(quoM p.value++r)).drop 1) 34=true:=by rw [eq];simp [zQ]
    have hd:(61::(quoM p.value++r)).drop 2=escS p.value++34::r:=by rw [eq];simp
    have hq:=TN p.value r
    rw [if_pos hh,hd,if_pos (by rw [hq];rfl)]
    unfold quoV quoR
    rw [hq,h.lo]
def wM:List Fld→Str
  |[]=>[]
  |p::r=>[59,32]++p.name++[61]++quoM p.value++wM r
theorem Q5 (l:List Fld):Bhd (wM l):=by
  cases l with
  |nil=>exact .inl rfl
  |cons p r=>exact .inr ⟨_,rfl⟩
theorem TB (l:List Fld):skS (wM l)=wM l:=by
  cases l with
  |nil=>rfl
  |cons p r=>exact zcP (by decide) (by decide)
theorem QZ (p:Fld) (r:List Fld):(wM r).length<(wM (p::r)).length:=by
  simp only [wM,List.length_append,List.length_cons,List.length_nil];omega
theorem Uj: ∀ (l d:List Fld) (a:Str),(txtL d l a).2=0→(txtL d l a).1=a++wM l∧(∀ p ∈ l,QK p)
  |[],d,a,_=>⟨by simp [txtL,wM],fun p h=>by cases h⟩
  | p :: r,d,a,h=>by
    rw [txtL] at h ⊢
    by_cases h1:yI p.name=false∨lowS p.name≠p.name
    · rw [if_pos h1] at h;exact absurd (show(6:Int)=0 from h) (by decide)
    · rw [if_neg h1] at h ⊢
      by_cases h2:hasP d p.name=true
      · rw [if_pos h2] at h;exact absurd (show(9:Int)=0 from h) (by decide)
      · rw [if_neg h2] at h ⊢
        by_cases h3:yc p.value=false
        · rw [if_pos h3] at h;exact absurd (show(3:Int)=0 from h) (by decide)
        · rw [if_neg h3] at h ⊢
          obtain⟨g1,g2⟩:=Uj r _ _ h
          refine⟨by rw [g1];simp [wM],fun q hq=> ?_⟩
          rcases List.mem_cons.1 hq with rfl|hq
          · exact⟨by simpa using fun e=>h1 (.inl e),Classical.not_not.1 fun e=>h1 (.inr e),by simpa using h3⟩
          · exact g2 q hq
theorem SX (l:List Fld) (n:Str):(getP l n).2=hasP l n:=by
  rw [zaZ]
  unfold hasP
  split
  · rename_i h;rw [decide_eq_true h]
  · rename_i h;rw [decide_eq_false h]
theorem Vt: ∀ (l d:List Fld) (a:Str) (n:Nat),(txtL d l a).2=0→d.length+l.length≤8→(wM l).length<n→medL n (wM l) d=(0,d++l,[])
  |l,d,a,0,_,_,hn=>absurd hn (Nat.not_lt_zero _)
  | [],d,a,n+1,_,_,_=>by
    show medL (n+1) [] d=_
    rw [zaI,if_neg (by simp [zQ]),if_pos rfl,List.append_nil]
  | p ::r,d,a,n+1,h,hd,hn=>by
    have hgp:=(Uj (p::r) d a h).2 p (List.mem_cons_self ..)
    have hlt:=QZ p r
    rw [txtL] at h
    by_cases h1:yI p.name=false∨lowS p.name≠p.name
    · rw [if_pos h1] at h;exact absurd (show(6:Int)=0 from h) (by decide)
    rw [if_neg h1] at h
    by_cases h2:hasP d p.name=true
    · rw [if_pos h2] at h;exact absurd (show(9:Int)=0 from h) (by decide)
    rw [if_neg h2] at h
    by_cases h3:yc p.value=false
    · rw [if_pos h3] at h;exact absurd (show(3:Int)=0 from h) (by decide)
    rw [if_neg h3] at h
    obtain⟨hn0,hnt⟩:=yh hgp.tk
    have e1:(wM (p::r)).drop 1=32::(p.name++([61]++quoM p.value++wM r)):=by simp [wM]
    have e2:skS ((wM (p::r)).drop 1)=p.name++[61]++quoM p.value++wM r:=by
      rw [e1,zdK,Ur hn0 hnt];simp
    have hh:zQ (wM (p::r)) 59=true:=by simp [wM,zQ]
    rw [medL,if_pos hh,e2,zal hgp (Q5 r)]
    simp only [List.length_cons] at hd
    rw [if_neg (fun h=>h rfl),if_neg (by rw [SX];exact h2),if_neg (by omega),TB,Vt r (d++[p]) _ n h (by simp;omega) (by omega)]
    simp
theorem Zo (c:UInt8): ∀ s:Str,(∀ x ∈ s,x≠c)→Lib.indexByte s c= -1
  |[],_=>rfl
  | x::s,h=>by
    have hx:=h x (List.mem_cons_self ..)
    rw [Lib.indexByte,if_neg (by simpa using hx),Zo c s (fun y hy=>h y (List.mem_cons_of_mem _ hy))];rfl
theorem zbh {w:Str} (h:(cutB w 47).2.2=true):w=(cutB w 47).1++47::(cutB w 47).2.1:=by
  unfold cutB at h ⊢
  split
  · rename_i h0
    have hl:=(wW w 47).2
    have hg : w.getD (Lib.indexByte w 47).toNat 0=47:=by
      have: ∀ (s:Str),0≤Lib.indexByte s 47→s.getD (Lib.indexByte s 47).toNat 0=47:=by
        intro s
        induction s with
        |nil=>intro h;simp [Lib.indexByte] at h
        | cons x s ih=>
          intro h
          rw [Lib.indexByte] at h ⊢
          by_cases hx:(x == 47)=true
          · rw [if_pos hx];simpa using hx
          · rw [if_neg hx] at h ⊢
            by_cases h3:Lib.indexByte s 47= -1
            · simp [h3] at h
            · have hb:=(wW s 47).1
              simp only [h3,beq_iff_eq,if_false] at h ⊢
              rw [show(Lib.indexByte s 47+1).toNat=(Lib.indexByte s 47).toNat+1 by omega,List.getD_cons_succ]
              exact ih (by omega)
      exact this w h0
    have:=List.drop_eq_getElem_cons (l:=w) (i:=(Lib.indexByte w 47).toNat) (by omega)
    have hlt:(Lib.indexByte w 47).toNat<w.length:=by omega
    have e47:w[(Lib.indexByte w 47).toNat]'hlt=47:=by
      have h9:=hg
      rwa [List.getD_eq_getElem?_getD,List.getElem?_eq_getElem hlt,Option.getD_some] at h9
    rw [e47] at this
    simp only
    rw [← this,List.take_append_drop]
  · rename_i h0;rw [if_neg h0] at h;cases h
def Zv (w:Str):Prop:=(yI w=true∧lowS w=w)∨∃ a b,w=a++47::b∧yI a=true∧yI b=true∧lowS a=a∧lowS b=b
theorem SH (a b:Str):lowS (a++b)=lowS a++lowS b:=by simp [lowS]
theorem zcJ {w:Str} (h:Z4 w=true):Zv w:=by
  unfold Z4 at h
  rw [Bool.and_eq_true,Bool.and_eq_true,decide_eq_true_iff] at h
  obtain⟨h1,h2,h3⟩:=h
  by_cases hc:(cutB w 47).2.2=true
  · rw [hc] at h2
    have hw:=zbh hc
    simp only [Bool.not_true,Bool.false_or] at h2
    refine .inr ⟨_,_,hw,h1,h2,?_⟩
    rw [hw,SH] at h3
    have:=List.append_inj h3 (by rw [yY])
    refine⟨this.1,?_⟩
    have h5:=this.2
    rw [show lowS (47::(cutB w 47).2.1)=47::lowS (cutB w 47).2.1 from rfl] at h5
    exact(List.cons.inj h5).2
  · have e:(cutB w 47).1=w:=by
      unfold cutB at hc ⊢
      split
      · rename_i h0;rw [if_pos h0] at hc;exact absurd rfl hc
      · rfl
    rw [e] at h1
    exact .inl ⟨h1,h3⟩
theorem zc8 {w:Str} (h:Zv w):Z4 w=true:=by
  unfold Z4
  rcases h with⟨h1,h2⟩|⟨a,b,rfl,h1,h2,h3,h4⟩
  · have hn:Lib.indexByte w 47= -1:=Zo 47 w fun x hx=>(uJ (sJ (yh h1).2 x hx)).2.2.2.2.2.1
    unfold cutB
    rw [if_neg (by omega),h1,decide_eq_true h2];rfl
  · have hn:Lib.indexByte (a++47::b) 47=a.length:=qf 47 b a fun x hx=>(uJ (sJ (yh h1).2 x hx)).2.2.2.2.2.1
    unfold cutB
    rw [if_pos (by omega),hn,Int.toNat_natCast]
    simp only
    rw [List.take_left' rfl,show(a++47::b).drop (a.length+1)=b by rw [← List.drop_drop,List.drop_left' rfl];rfl,h1,h2,decide_eq_true (by rw [SH,show lowS (47::b)=47::lowS b from rfl,h3,h4])];rfl
theorem zbT {w:Str} (h:Zv w) (r:Str):skS (w++r)=w++r∧w≠[]:=by
  rcases h with⟨h1,_⟩|⟨a,b,rfl,h1,_⟩
  · obtain⟨h0,ht⟩:=yh h1;exact⟨Ur h0 ht,h0⟩
  · obtain⟨h0,ht⟩:=yh h1
    rw [List.append_assoc]
    exact⟨Ur h0 ht,by simp⟩
theorem zaK {w:Str} (h:Zv w) {r:Str} (k:Bhd r):medA (w++r)=medB w r:=by
  rcases h with⟨h1,h2⟩|⟨a,b,rfl,h1,h2,h3,h4⟩
  · obtain⟨h0,ht⟩:=yh h1
    obtain⟨a1,a2⟩:=rD ht k.no
    have hh:zQ r 47=false:=by
      rcases k with rfl|⟨t,rfl⟩
      · rfl
      · simp [zQ]
    unfold medA
    rw [a1,a2,if_neg h0,if_neg (by rw [hh];decide),h2]
  · obtain⟨ha0,hat⟩:=yh h1
    obtain⟨hb0,hbt⟩:=yh h2
    obtain⟨a1,a2⟩:=rD (r:=47::(b++r)) hat (fun c e=>by cases e;decide)
    obtain⟨b1,b2⟩:=rD hbt k.no
    have e:a++47::b++r=a++47::(b++r):=by simp
    unfold medA
    rw [e,a1,a2,if_neg ha0,if_pos (by simp [zQ])]
    show(if tokS (b++r)=[] then _ else medB (lowS a++([47]++lowS (tokS (b++r)))) (tokE (b++r)))=_
    rw [b1,if_neg hb0,b2,h3,h4];rfl
theorem xB (a b:Str):yc (a++b)=(yc a&&yc b):=List.all_append
theorem Ro: ∀ {v:Str},yc v=true→yc (escS v)=true
  |[],_=>rfl
  | c ::v,h=>by
    have h':rH (c.toNat:Int)=true∧yc v=true:=by simpa [yc] using h
    have e:escS (c::v)=escB c++escS v:=rfl
    rw [e,xB,Ro h'.2,Bool.and_true]
    unfold escB
    split
    · rename_i hc
      have:rH ((92:UInt8).toNat:Int)=true:=by decide
      show(rH ((92:UInt8).toNat:Int)&&(rH (c.toNat:Int)&&true))=true
      rw [this,h'.1];rfl
    · simp [yc,h'.1]
theorem zbZ {v:Str} (h:yc v=true):yc (quoM v)=true:=by
  unfold quoM
  split
  · exact h
  · rw [xB,xB,Ro h];decide
theorem W9: ∀ {l:List Fld},(∀ p ∈ l,QK p)→yc (wM l)=true
  |[],_=>rfl
  | p::r,h=>by
    have hp:=h p (List.mem_cons_self ..)
    have e:wM (p::r)=[59,32]++p.name++[61]++quoM p.value++wM r:=rfl
    rw [e,xB,xB,xB,xB,rC (yh hp.tk).2,zbZ hp.se,W9 fun q hq=>h q (List.mem_cons_of_mem _ hq)];decide
theorem QS {w:Str} (h:Zv w):yc w=true:=by
  rcases h with⟨h1,_⟩|⟨a,b,rfl,h1,h2,_⟩
  · exact rC (yh h1).2
  · rw [xB,show yc (47::b)=(yc [47]&&yc b) from xB [47] b,rC (yh h1).2,rC (yh h2).2];decide
theorem WY {w:Str} {l:List Fld} (h:(yN w l).2=0):zI (yN w l).1=(⟨w,l⟩,0):=by
  unfold yN at h ⊢
  by_cases h1:Z4 w=false
  · rw [if_pos h1] at h;exact absurd (show(5:Int)=0 from h) (by decide)
  rw [if_neg h1] at h ⊢
  by_cases h2:8<l.length
  · rw [if_pos h2] at h;exact absurd (show(8:Int)=0 from h) (by decide)
  rw [if_neg h2] at h ⊢
  have hw:=zcJ (w:=w) (by simpa using h1)
  obtain⟨g1,g2⟩:=Uj l [] w h
  rw [g1]
  unfold zI yu
  rw [if_neg (by rw [xB,QS hw,W9 g2];decide),(zbT hw _).1,zaK hw (Q5 l)]
  unfold medB
  rw [TB,Vt l [] w _ h (by simp;omega) (Nat.lt_succ_self _)]
  rfl
theorem zb8 (s:Str):lowS (lowS s)=lowS s:=by
  unfold lowS
  rw [List.map_map]
  refine List.map_congr_left fun c _=> ?_
  have key: ∀ n:Fin 256,lowC (lowC (UInt8.ofNat n.1))=lowC (UInt8.ofNat n.1):=by decide+kernel
  have:=key ⟨c.toNat,c.toNat_lt⟩
  rwa [UInt8.ofNat_toNat] at this
theorem zdf {s:Str} (h:tokA s=true):tokA (lowS s)=true:=by
  unfold tokA lowS
  rw [List.all_map,List.all_eq_true]
  intro c m
  have key: ∀ n:Fin 256,tokB ((n.1:Nat):Int)=true→tokB ((lowC (UInt8.ofNat n.1)).toNat:Int)=true:=by decide+kernel
  have:=key ⟨c.toNat,c.toNat_lt⟩ (Tq h m)
  simpa using this
theorem Yt {s:Str} (h:s≠[]) (k:tokA s=true):yI (lowS s)=true∧lowS (lowS s)=lowS s:=
  ⟨QY (fun e=>h (List.map_eq_nil_iff.1 e)) (zdf k),zb8 s⟩
theorem Yh: ∀ (s:Str) (p:Str × Str),yc s=true→quoF s=some p→yc p.1=true∧yc p.2=true
  |[],p,_,h=>by simp [quoF] at h
  | [x],p,hs,h=>by
    simp only [quoF] at h
    split at h
    · cases h;exact⟨rfl,rfl⟩
    · cases h
  | x ::y::r,p,hs,h=>by
    have h0:rH (x.toNat:Int)=true∧rH (y.toNat:Int)=true∧yc r=true:=by simpa [yc] using hs
    have hyr:yc (y::r)=true:=by simp [yc,h0.2.1];simpa [yc] using h0.2.2
    simp only [quoF] at h
    split at h
    · cases h;exact⟨rfl,hyr⟩
    · split at h
      · rw [Option.map_eq_some_iff] at h
        obtain⟨q,hq,rfl⟩:=h
        have:=Yh r q h0.2.2 hq
        exact⟨by simp only [yc,List.all_cons,h0.2.1,Bool.true_and];exact this.1,this.2⟩
      · rw [Option.map_eq_some_iff] at h
        obtain⟨q,hq,rfl⟩:=h
        have:=Yh (y::r) q hyr hq
        exact⟨by simp only [yc,List.all_cons,h0.1,Bool.true_and];exact this.1,this.2⟩
theorem wO {s t:Str} (h:t.Sublist s) (k:yc s=true):yc t=true:=List.all_eq_true.2 fun c m=>List.all_eq_true.1 k c (h.subset m)
theorem uQ (s:Str):(tokE s).Sublist s:=List.dropWhile_sublist _
theorem XM (s:Str):(skS s).Sublist s:=List.dropWhile_sublist _
theorem zam {s:Str} (hs:yc s=true) (h:(parM s).1=0):QK (parM s).2.1∧yc (parM s).2.2=true:=by
  unfold parM at h ⊢
  by_cases h1:tokS s=[]
  · rw [if_pos h1] at h;exact absurd (show(5:Int)=0 from h) (by decide)
  rw [if_neg h1] at h ⊢
  by_cases h2:zQ (tokE s) 61=false
  · rw [if_pos h2] at h;exact absurd (show(5:Int)=0 from h) (by decide)
  rw [if_neg h2] at h ⊢
  have hn:=Yt h1 (ZC s)
  by_cases h3:zQ ((tokE s).drop 1) 34=true
  · rw [if_pos h3] at h ⊢
    by_cases h4:(quoF ((tokE s).drop 2)).isSome=true
    · rw [if_pos h4] at h ⊢
      obtain⟨q,hq⟩:=Option.isSome_iff_exists.1 h4
      have hsd:yc ((tokE s).drop 2)=true:=wO ((List.drop_sublist _ _).trans (uQ s)) hs
      have:=Yh _ q hsd hq
      unfold quoV quoR
      rw [hq]
      exact⟨⟨hn.1,hn.2,this.1⟩,this.2⟩
    · rw [if_neg h4] at h;exact absurd (show(14:Int)=0 from h) (by decide)
  · rw [if_neg h3] at h ⊢
    by_cases h4:tokS ((tokE s).drop 1)=[]
    · rw [if_pos h4] at h;exact absurd (show(5:Int)=0 from h) (by decide)
    · rw [if_neg h4]
      exact⟨⟨hn.1,hn.2,rC (ZC _)⟩,wO ((uQ _).trans ((List.drop_sublist _ _).trans (uQ s))) hs⟩
def Ug:List Fld→List Fld→Prop
  |_,[]=>True
  |d,p::r=>QK p∧hasP d p.name=false∧Ug (d++[p]) r
theorem Y6: ∀ (l d:List Fld) (p:Fld),Ug d l→QK p→hasP (d++l) p.name=false→Ug d (l++[p])
  |[],d,p,_,h,k=>⟨h,by simpa using k,trivial⟩
  |q::l,d,p,h,hp,k=>⟨h.1,h.2.1,Y6 l (d++[q]) p h.2.2 hp (by simpa using k)⟩
theorem QT: ∀ (l d:List Fld) (a:Str),Ug d l→(txtL d l a).2=0
  |[],_,_,_=>rfl
  | p::r,d,a,h=>by
    rw [txtL,if_neg (by rintro(e|e);exact absurd (h.1.tk.symm.trans e) (by decide);exact e h.1.lo),if_neg (by rw [h.2.1];decide),if_neg (by rw [h.1.se];decide)]
    exact QT r _ _ h.2.2
theorem Vu: ∀ (n:Nat) (s:Str) (d:List Fld),yc s=true→Ug [] d→d.length≤8→(medL n s d).1=0→Ug [] (medL n s d).2.1∧(medL n s d).2.1.length≤8
  |0,s,d,_,_,_,h=>absurd (show(5:Int)=0 from h) (by decide)
  | n + 1, s,d,hs,hd,hl,h=>by
    rw [medL] at h ⊢
    by_cases h1:zQ s 59=true
    · rw [if_pos h1] at h ⊢
      have hs1:yc (skS (s.drop 1))=true:=wO ((XM _).trans (List.drop_sublist _ _)) hs
      by_cases h2:(parM (skS (s.drop 1))).1=0
      · rw [if_neg (fun e=>e h2)] at h ⊢
        obtain⟨g1,g2⟩:=zam hs1 h2
        by_cases h3:(getP d (parM (skS (s.drop 1))).2.1.name).2=true
        · rw [if_pos h3] at h;exact absurd (show(9:Int)=0 from h) (by decide)
        · rw [if_neg h3] at h ⊢
          by_cases h4:d.length=8
          · rw [if_pos h4] at h;exact absurd (show(8:Int)=0 from h) (by decide)
          · rw [if_neg h4] at h ⊢
            refine Vu n _ _ (wO (XM _) g2) (Y6 d [] _ hd g1 ?_) (by simp;omega) h
            rw [List.nil_append,← SX];simpa using h3
      · rw [if_pos h2] at h;exact absurd h h2
    · rw [if_neg h1] at h ⊢
      by_cases h2:s=[]
      · rw [if_pos h2];exact⟨hd,hl⟩
      · rw [if_neg h2] at h;exact absurd (show(5:Int)=0 from h) (by decide)
theorem Vw {w s:Str} (hw:Zv w) (hs:yc s=true) (h:(medB w s).1=0):Zv (medB w s).2.1.word∧Ug [] (medB w s).2.1.params∧(medB w s).2.1.params.length≤8:=
  ⟨hw,Vu _ _ [] (wO (XM s) hs) trivial (by simp) h⟩
theorem Xj {s:Str} (h:(zI s).2=0):Zv (zI s).1.word∧Ug [] (zI s).1.params∧(zI s).1.params.length≤8:=by
  unfold zI at h ⊢
  by_cases h1:yc s=false
  · rw [if_pos h1] at h;exact absurd (show(3:Int)=0 from h) (by decide)
  rw [if_neg h1] at h ⊢
  have hs:yc s=true:=by simpa using h1
  by_cases h2:(yu s).1=0
  · rw [if_pos h2]
    simp only
    unfold yu at h2 ⊢
    have hk:yc (skS s)=true:=wO (XM s) hs
    generalize skS s=t at *
    unfold medA at h2 ⊢
    by_cases h3:tokS t=[]
    · rw [if_pos h3] at h2;exact absurd (show(5:Int)=0 from h2) (by decide)
    rw [if_neg h3] at h2 ⊢
    have ht:=Yt h3 (ZC t)
    by_cases h4:zQ (tokE t) 47=true
    · rw [if_pos h4] at h2 ⊢
      by_cases h5:tokS ((tokE t).drop 1)=[]
      · rw [if_pos h5] at h2;exact absurd (show(5:Int)=0 from h2) (by decide)
      · rw [if_neg h5] at h2 ⊢
        have hu:=Yt h5 (ZC _)
        exact Vw (.inr ⟨_,_,rfl,ht.1,hu.1,ht.2,hu.2⟩) (wO ((uQ _).trans ((List.drop_sublist _ _).trans (uQ t))) hk) h2
    · rw [if_neg h4] at h2 ⊢
      exact Vw (.inl ht) (wO (uQ t) hk) h2
  · rw [if_neg h2] at h;exact absurd h h2
theorem zbr {s:Str} (h:(zI s).2=0):(yN (zI s).1.word (zI s).1.params).2=0∧zI (yN (zI s).1.word (zI s).1.params).1=((zI s).1,0):=by
  obtain⟨g1,g2,g3⟩:=Xj h
  have h0:(yN (zI s).1.word (zI s).1.params).2=0:=by
    unfold yN
    rw [if_neg (by rw [zc8 g1];decide),if_neg (by omega)]
    exact QT _ _ _ g2
  exact⟨h0,WY h0⟩
theorem Xi {s:Str} (h:(zI s).2≠0):(zI s).1=⟨[],[]⟩:=by
  unfold zI at h ⊢
  by_cases h1:yc s=false
  · rw [if_pos h1]
  · rw [if_neg h1] at h ⊢
    by_cases h2:(yu s).1=0
    · rw [if_pos h2] at h;exact absurd rfl h
    · rw [if_neg h2]
end Go.Proofs.YtlpmdnffdmdahaaGreatDoor
namespace Go.Proofs.YtlpmdnffdmdahaaGreatDoor
open Go Go.Sep Go.Ab
set_option maxRecDepth 100000
def sumP:List Fld→Nat
  |[]=>0
  |f::r=>f.name.length+f.value.length+sumP r
theorem Tz: ∀ {l:List Fld} {f:Fld},f ∈ l→f.name.length+f.value.length≤sumP l
  | g::r,f,h=>by
    rcases List.mem_cons.1 h with rfl|h
    · exact Nat.le_add_right _ _
    · exact Nat.le_trans (Tz h) (Nat.le_add_left _ _)
theorem Va: ∀ {l:List Fld} {i:Nat} (d:Fld),i<l.length→sumP (l.take (i+1))=sumP (l.take i)+((l.getD i d).name.length+(l.getD i d).value.length)
  |g::r,0,d,_=>by simp [sumP]
  | g::r,i+1,d,h=>by
    have:=Va (l:=r) (i:=i) d (by simpa using h)
    rw [List.take_succ_cons,List.take_succ_cons,List.getD_cons_succ,sumP,sumP,this];omega
def YB (w:Str) (l:List Fld):Bool:=decide (50<l.length)||decide (2000<w.length+sumP (l.take 100))
theorem zaW {w:Str} {l:List Fld} (h:YB w l=false):l.length≤50∧w.length≤2000∧∀ f ∈ l,f.name.length≤2000∧f.value.length≤2000:=by
  unfold YB at h
  simp only [Bool.or_eq_false_iff,decide_eq_false_iff_not] at h
  rw [List.take_of_length_le (by omega)] at h
  exact⟨by omega,by omega,fun f hf=>by have:=Tz hf;omega⟩
set_option maxHeartbeats 1000000 in
theorem zdn (w:Str) (l:List Fld) (hneed:w.length≤140737488355328∧l.length≤140737488355328∧∀ f ∈ l,f.name.length≤140737488355328∧f.value.length≤140737488355328):Spc Tryz.prog 6 [.v (.agg [(.p (.str w)),(.p (.list .fld l))])] [] (.ret (.v (.one (.p (.bool ((YB w l))))))) []:=by
  obtain⟨hw,hl,hf⟩:=hneed
  generalize hr:YB w l=r
  refine spcG zN mixed Tryz.func6 (by kernel_rfl) { keep:=some [0,1,2,3,4]} [] (by kernel_rfl) ?_
  intro I X hI hX
  refine zJ (.code 0 [1,1,0,1,0] ⟨[(4,(.v (.one (.p (.int .i64 0))))),(3,(.v (.one (.p (.int .i64 (I.len (α:=UInt8) w)))))),(2,(.v (.one (.p (.val (.bool .false)))))),(1,(.v (.one (.ptr 0 0)))),(0,(.v (.agg [(.p (.str w)),(.p (.list .fld l))])))],[(.obj 24 [(.p (.str w)),(.p (.list .fld l))])],44,none⟩) (by kernel_rfl) ?_
  simp only [yg]
  have hgr:YB w l=(decide (50<l.length)||decide (2000<w.length+sumP (l.take 100))):=rfl
  have hcl:=hgr.symm.trans hr
  clear hgr hr
  rw [show I.len (α:=UInt8) w=(w.length:Int) by subst hI;rfl]
  refine yZ hI zN mixed [] hX [1,3,4] (fun(g:Nat × Int)=>match g with|(i,n)=>i≤l.length∧i≤100∧n=(w.length:Int)+sumP (l.take i)∧sumP (l.take i)≤i * 281474976710656) (fun(g:Nat × Int)=>match g with|(i,n)=>⟨[(1,.v (.one (.ptr 0 0))),(3,.v (.one (.p (.int .i64 n)))),(4,.v (.one (.p (.int .i64 i))))],[.pack [.obj 24 [(.p (.str w)),(.p (.list .fld l))]]],44,none⟩) (fun(g:Nat × Int)=>match g with|(i,n)=>l.length - i) (0,(w.length:Int)) (by kernel_rfl) (by kernel_rfl) ?_ ?_
  · exact⟨Nat.zero_le _,Nat.zero_le _,by simp [sumP],by simp [sumP]⟩
  rintro⟨i,n⟩ ⟨h1,h2,h3,h4⟩ A hA
  have hx:i<l.length→l.getD i ⟨[],[]⟩ ∈ l:=fun h=>by rw [show l.getD i ⟨[],[]⟩=l[i] by simp [h]];exact List.getElem_mem h
  have hff:=fun h=>hf _ (hx h)
  have hst:=fun(h:i<l.length)=>Va (l:=l) (i:=i) ⟨[],[]⟩ h
  have hmo:=fun(h:i<l.length) (k:i<100) (n':Int) (e:n'=(w.length:Int)+sumP (l.take (i+1)))=>hA (i+1,n') ⟨by show i+1≤l.length;omega,by show i+1≤100;omega,e,by show sumP (l.take (i+1))≤(i+1) * 281474976710656;have:=hff h;rw [hst h];omega⟩ (by show l.length - (i+1)<l.length - i;omega)
  simp only [Int.natCast_add,Int.natCast_one] at hmo
  have hend: ¬ (i<l.length∧i<100)→sumP (l.take i)=sumP (l.take 100):=fun h=>by
    by_cases k:i<100
    · rw [List.take_of_length_le (show l.length≤i by omega),List.take_of_length_le (show l.length≤100 by omega)]
    · rw [show i=100 by omega]
  have e1:(50:Int)<l.length→true=r:=fun h=>by rw [← hcl,decide_eq_true (show 50<l.length by omega)];rfl
  have e2: ¬ (i<l.length∧i<100)→¬ (50:Int)<l.length→decide (2000<n)=r:=fun h k=>by
    rw [← hcl,decide_eq_false (show ¬ 50<l.length by omega),Bool.false_or,h3,hend h,Bool.eq_iff_iff,decide_eq_true_iff,decide_eq_true_iff];omega
  clear hcl hend hA hx hf
  refine zJ (let y0:=I.add (I.len (α:=UInt8) (Fld.name (I.get (α:=Fld) l (Fld.mk ([]:Str) ([]:Str)) (Nat.cast i)))) (I.len (α:=UInt8) (Fld.value (I.get (α:=Fld) l (Fld.mk ([]:Str) ([]:Str)) (Nat.cast i))));let y1:=I.inb (Nat.cast i) (I.len (α:=Fld) l);.br (I.ilt (Nat.cast i) (I.len (α:=Fld) l)) (.br (I.ilt (Nat.cast i) 100) (.need y1 (.need y1 (.need y1 (.need y1 (.need (I.inr Go.IntKind.i64 y0) (.need (I.inr Go.IntKind.i64 (I.add n y0)) (.need (I.inr Go.IntKind.i64 (I.add (Nat.cast i) 1)) (.need (A ⟨[(1,(.v (.one (.ptr 0 0)))),(3,(.v (.one (.p (.int .i64 (I.add n y0)))))),(4,(.v (.one (.p (.int .i64 (I.add (Nat.cast i) 1))))))],[(.pack [(.obj 24 [(.p (.str w)),(.p (.list .fld l))])])],44,none⟩) .qed)))))))) (.br (I.ilt 50 (I.len (α:=Fld) l)) (.fin (.ret (.v (.one (.p (.bool Bool.true))))) []) (.fin (.ret (.v (.one (.p (.bool (I.ilt 2000 n)))))) []))) (.br (I.ilt 50 (I.len (α:=Fld) l)) (.fin (.ret (.v (.one (.p (.bool Bool.true))))) []) (.fin (.ret (.v (.one (.p (.bool (I.ilt 2000 n)))))) []))) (by kernel_rfl) ?_
  simp only [yg]
  subst hI
  simp only [nrmA,nrmB,nrlB,reduceCtorEq,HO.pack.injEq,HO.obj.injEq]
  generalize l.getD i ⟨[],[]⟩=f at *
  generalize l.take i=li at *
  (repeat' (first|refine And.intro ?_ ?_|intro _))<;>first|omega|exact True.intro|exact False.elim ‹False›|skip
  all_goals first
    |(have:=hff (by omega);omega)
    |omega
    |exact e1 ‹_›
    |exact e2 (by omega) ‹_›
    |(refine hmo (by omega) (by omega) _ ?_;rw [hst (by omega),h3];omega)
def qi (I:Alg) (args:List D) (hp:List HO):Option CT:=match args,hp with
  |[.v (.agg [(.p (.str w)),(.p (.list .fld l))])],[]=>(fun(w:Str) (l:List Fld)=>(some (.one ⟨I.hid (w.length≤140737488355328∧l.length≤140737488355328∧∀ f ∈ l,f.name.length≤140737488355328∧f.value.length≤140737488355328),(.ret (.v (.one (.p (.bool (I.hid ((YB w l)))))))),[]⟩):Option CT)) w l
  |_,_=>none
theorem VN:yH Tryz.prog 6 (qi alg):=by
  intro args hp r h
  unfold qi at h
  split at h
  · cases h;exact fun hn=>zdn _ _ hn
  · cases h
def zaY:Know Tryz.prog:=⟨6,qi,VN⟩
def zaX:Know Tryz.prog:=⟨6,fun I=>xh I (qi I),zH VN⟩
set_option maxHeartbeats 1000000 in
theorem zan:Spc Tryz.prog 5 [] [] (.ret (.v (.one (.p (.bool true))))) []:=by
  refine spcG zN mixed Tryz.func5 (by kernel_rfl) { keep:=some [0,1,2,3,4,5,6]} [Yn,Ym,Vm,Vl,TY,TW] (by kernel_rfl) ?_
  intro I X hI hX
  refine zJ (.need (I.hid (α:=(Prop)) (LE.le (List.length (Array.toList (List.toArray ([70,111,114,109,45,68,97,116,97,32,59,32,78,97,109,101,61,34,97,92,34,98,34,59,32,120,61,49]:List UInt8)))) 1000000)) (.need (I.hid (α:=(Prop)) (LE.le (List.length (I.hid (α:=(List Go.Ab.Fld)) ([(Prod.fst (Prod.snd (Go.Proofs.YtlpmdnffdmdahaaGreatDoor.parM (Go.Proofs.YtlpmdnffdmdahaaGreatDoor.skS (List.drop 1 (Go.Proofs.YtlpmdnffdmdahaaGreatDoor.skS (Go.Proofs.YtlpmdnffdmdahaaGreatDoor.tokE (Go.Proofs.YtlpmdnffdmdahaaGreatDoor.skS (Array.toList (List.toArray ([70,111,114,109,45,68,97,116,97,32,59,32,78,97,109,101,61,34,97,92,34,98,34,59,32,120,61,49]:List UInt8))))))))))),(Prod.fst (Prod.snd (Go.Proofs.YtlpmdnffdmdahaaGreatDoor.parM (Go.Proofs.YtlpmdnffdmdahaaGreatDoor.skS (List.drop 1 (Go.Proofs.YtlpmdnffdmdahaaGreatDoor.skS (Prod.snd (Prod.snd (Go.Proofs.YtlpmdnffdmdahaaGreatDoor.parM (Go.Proofs.YtlpmdnffdmdahaaGreatDoor.skS (List.drop 1 (Go.Proofs.YtlpmdnffdmdahaaGreatDoor.skS (Go.Proofs.YtlpmdnffdmdahaaGreatDoor.tokE (Go.Proofs.YtlpmdnffdmdahaaGreatDoor.skS (Array.toList (List.toArray ([70,111,114,109,45,68,97,116,97,32,59,32,78,97,109,101,61,34,97,92,34,98,34,59,32,120,61,49]:List UInt8)))))))))))))))))]:List Go.Ab.Fld))) 1000000)) (.need (I.hid (α:=(Prop)) (And (And (LE.le (List.length (I.hid (α:=(List UInt8)) ([(Go.Proofs.YtlpmdnffdmdahaaGreatDoor.lowC (70:UInt8)),(Go.Proofs.YtlpmdnffdmdahaaGreatDoor.lowC (111:UInt8)),(Go.Proofs.YtlpmdnffdmdahaaGreatDoor.lowC (114:UInt8)),(Go.Proofs.YtlpmdnffdmdahaaGreatDoor.lowC (109:UInt8)),(Go.Proofs.YtlpmdnffdmdahaaGreatDoor.lowC (45:UInt8)),(Go.Proofs.YtlpmdnffdmdahaaGreatDoor.lowC (68:UInt8)),(Go.Proofs.YtlpmdnffdmdahaaGreatDoor.lowC (97:UInt8)),(Go.Proofs.YtlpmdnffdmdahaaGreatDoor.lowC (116:UInt8)),(Go.Proofs.YtlpmdnffdmdahaaGreatDoor.lowC (97:UInt8))]:List UInt8))) 100000) (LE.le (List.length (I.hid (α:=(List Go.Ab.Fld)) ([(Prod.fst (Prod.snd (Go.Proofs.YtlpmdnffdmdahaaGreatDoor.parM (Go.Proofs.YtlpmdnffdmdahaaGreatDoor.skS (List.drop 1 (Go.Proofs.YtlpmdnffdmdahaaGreatDoor.skS (Go.Proofs.YtlpmdnffdmdahaaGreatDoor.tokE (Go.Proofs.YtlpmdnffdmdahaaGreatDoor.skS (Array.toList (List.toArray ([70,111,114,109,45,68,97,116,97,32,59,32,78,97,109,101,61,34,97,92,34,98,34,59,32,120,61,49]:List UInt8))))))))))),(Prod.fst (Prod.snd (Go.Proofs.YtlpmdnffdmdahaaGreatDoor.parM (Go.Proofs.YtlpmdnffdmdahaaGreatDoor.skS (List.drop 1 (Go.Proofs.YtlpmdnffdmdahaaGreatDoor.skS (Prod.snd (Prod.snd (Go.Proofs.YtlpmdnffdmdahaaGreatDoor.parM (Go.Proofs.YtlpmdnffdmdahaaGreatDoor.skS (List.drop 1 (Go.Proofs.YtlpmdnffdmdahaaGreatDoor.skS (Go.Proofs.YtlpmdnffdmdahaaGreatDoor.tokE (Go.Proofs.YtlpmdnffdmdahaaGreatDoor.skS (Array.toList (List.toArray ([70,111,114,109,45,68,97,116,97,32,59,32,78,97,109,101,61,34,97,92,34,98,34,59,32,120,61,49]:List UInt8)))))))))))))))))]:List Go.Ab.Fld))) 1000000)) (∀ (f:Fld),
    f ∈
        I.hid
          (zI
                (ByteArray.mk
                      #[70,111,114,109,45,68,97,116,97,32,59,32,78,97,109,101,61,34,97,92,34,98,34,
                        59,32,120,61,49]).data.toList).fst.params→
      List.length f.name≤100000∧List.length f.value≤100000))) (.br (I.ieq (I.hid (α:=Int) (Prod.snd (Go.Proofs.YtlpmdnffdmdahaaGreatDoor.zI (Array.toList (List.toArray ([70,111,114,109,45,68,97,116,97,32,59,32,78,97,109,101,61,34,97,92,34,98,34,59,32,120,61,49]:List UInt8)))))) 0) (.br (I.ieq (I.hid (α:=Int) (Prod.snd (Go.Proofs.YtlpmdnffdmdahaaGreatDoor.yN (I.hid (α:=(List UInt8)) ([(Go.Proofs.YtlpmdnffdmdahaaGreatDoor.lowC (70:UInt8)),(Go.Proofs.YtlpmdnffdmdahaaGreatDoor.lowC (111:UInt8)),(Go.Proofs.YtlpmdnffdmdahaaGreatDoor.lowC (114:UInt8)),(Go.Proofs.YtlpmdnffdmdahaaGreatDoor.lowC (109:UInt8)),(Go.Proofs.YtlpmdnffdmdahaaGreatDoor.lowC (45:UInt8)),(Go.Proofs.YtlpmdnffdmdahaaGreatDoor.lowC (68:UInt8)),(Go.Proofs.YtlpmdnffdmdahaaGreatDoor.lowC (97:UInt8)),(Go.Proofs.YtlpmdnffdmdahaaGreatDoor.lowC (116:UInt8)),(Go.Proofs.YtlpmdnffdmdahaaGreatDoor.lowC (97:UInt8))]:List UInt8)) (I.hid (α:=(List Go.Ab.Fld)) ([(Prod.fst (Prod.snd (Go.Proofs.YtlpmdnffdmdahaaGreatDoor.parM (Go.Proofs.YtlpmdnffdmdahaaGreatDoor.skS (List.drop 1 (Go.Proofs.YtlpmdnffdmdahaaGreatDoor.skS (Go.Proofs.YtlpmdnffdmdahaaGreatDoor.tokE (Go.Proofs.YtlpmdnffdmdahaaGreatDoor.skS (Array.toList (List.toArray ([70,111,114,109,45,68,97,116,97,32,59,32,78,97,109,101,61,34,97,92,34,98,34,59,32,120,61,49]:List UInt8))))))))))),(Prod.fst (Prod.snd (Go.Proofs.YtlpmdnffdmdahaaGreatDoor.parM (Go.Proofs.YtlpmdnffdmdahaaGreatDoor.skS (List.drop 1 (Go.Proofs.YtlpmdnffdmdahaaGreatDoor.skS (Prod.snd (Prod.snd (Go.Proofs.YtlpmdnffdmdahaaGreatDoor.parM (Go.Proofs.YtlpmdnffdmdahaaGreatDoor.skS (List.drop 1 (Go.Proofs.YtlpmdnffdmdahaaGreatDoor.skS (Go.Proofs.YtlpmdnffdmdahaaGreatDoor.tokE (Go.Proofs.YtlpmdnffdmdahaaGreatDoor.skS (Array.toList (List.toArray ([70,111,114,109,45,68,97,116,97,32,59,32,78,97,109,101,61,34,97,92,34,98,34,59,32,120,61,49]:List UInt8)))))))))))))))))]:List Go.Ab.Fld))))) 0) (.br (I.hid (α:=Bool) (Prod.snd (Go.Proofs.YtlpmdnffdmdahaaGreatDoor.getP (I.hid (α:=(List Go.Ab.Fld)) ([(Prod.fst (Prod.snd (Go.Proofs.YtlpmdnffdmdahaaGreatDoor.parM (Go.Proofs.YtlpmdnffdmdahaaGreatDoor.skS (List.drop 1 (Go.Proofs.YtlpmdnffdmdahaaGreatDoor.skS (Go.Proofs.YtlpmdnffdmdahaaGreatDoor.tokE (Go.Proofs.YtlpmdnffdmdahaaGreatDoor.skS (Array.toList (List.toArray ([70,111,114,109,45,68,97,116,97,32,59,32,78,97,109,101,61,34,97,92,34,98,34,59,32,120,61,49]:List UInt8))))))))))),(Prod.fst (Prod.snd (Go.Proofs.YtlpmdnffdmdahaaGreatDoor.parM (Go.Proofs.YtlpmdnffdmdahaaGreatDoor.skS (List.drop 1 (Go.Proofs.YtlpmdnffdmdahaaGreatDoor.skS (Prod.snd (Prod.snd (Go.Proofs.YtlpmdnffdmdahaaGreatDoor.parM (Go.Proofs.YtlpmdnffdmdahaaGreatDoor.skS (List.drop 1 (Go.Proofs.YtlpmdnffdmdahaaGreatDoor.skS (Go.Proofs.YtlpmdnffdmdahaaGreatDoor.tokE (Go.Proofs.YtlpmdnffdmdahaaGreatDoor.skS (Array.toList (List.toArray ([70,111,114,109,45,68,97,116,97,32,59,32,78,97,109,101,61,34,97,92,34,98,34,59,32,120,61,49]:List UInt8)))))))))))))))))]:List Go.Ab.Fld)) (Array.toList (List.toArray ([110,97,109,101]:List UInt8)))))) (.br (I.seq (I.hid (α:=(List UInt8)) (Prod.fst (Go.Proofs.YtlpmdnffdmdahaaGreatDoor.getP (I.hid (α:=(List Go.Ab.Fld)) ([(Prod.fst (Prod.snd (Go.Proofs.YtlpmdnffdmdahaaGreatDoor.parM (Go.Proofs.YtlpmdnffdmdahaaGreatDoor.skS (List.drop 1 (Go.Proofs.YtlpmdnffdmdahaaGreatDoor.skS (Go.Proofs.YtlpmdnffdmdahaaGreatDoor.tokE (Go.Proofs.YtlpmdnffdmdahaaGreatDoor.skS (Array.toList (List.toArray ([70,111,114,109,45,68,97,116,97,32,59,32,78,97,109,101,61,34,97,92,34,98,34,59,32,120,61,49]:List UInt8))))))))))),(Prod.fst (Prod.snd (Go.Proofs.YtlpmdnffdmdahaaGreatDoor.parM (Go.Proofs.YtlpmdnffdmdahaaGreatDoor.skS (List.drop 1 (Go.Proofs.YtlpmdnffdmdahaaGreatDoor.skS (Prod.snd (Prod.snd (Go.Proofs.YtlpmdnffdmdahaaGreatDoor.parM (Go.Proofs.YtlpmdnffdmdahaaGreatDoor.skS (List.drop 1 (Go.Proofs.YtlpmdnffdmdahaaGreatDoor.skS (Go.Proofs.YtlpmdnffdmdahaaGreatDoor.tokE (Go.Proofs.YtlpmdnffdmdahaaGreatDoor.skS (Array.toList (List.toArray ([70,111,114,109,45,68,97,116,97,32,59,32,78,97,109,101,61,34,97,92,34,98,34,59,32,120,61,49]:List UInt8)))))))))))))))))]:List Go.Ab.Fld)) (Array.toList (List.toArray ([110,97,109,101]:List UInt8)))))) (Array.toList (List.toArray ([97,34,98]:List UInt8)))) (.fin (.ret (.v (.one (.p (.bool (I.seq (I.hid (α:=(List UInt8)) (Prod.fst (Go.Proofs.YtlpmdnffdmdahaaGreatDoor.yN (I.hid (α:=(List UInt8)) ([(Go.Proofs.YtlpmdnffdmdahaaGreatDoor.lowC (70:UInt8)),(Go.Proofs.YtlpmdnffdmdahaaGreatDoor.lowC (111:UInt8)),(Go.Proofs.YtlpmdnffdmdahaaGreatDoor.lowC (114:UInt8)),(Go.Proofs.YtlpmdnffdmdahaaGreatDoor.lowC (109:UInt8)),(Go.Proofs.YtlpmdnffdmdahaaGreatDoor.lowC (45:UInt8)),(Go.Proofs.YtlpmdnffdmdahaaGreatDoor.lowC (68:UInt8)),(Go.Proofs.YtlpmdnffdmdahaaGreatDoor.lowC (97:UInt8)),(Go.Proofs.YtlpmdnffdmdahaaGreatDoor.lowC (116:UInt8)),(Go.Proofs.YtlpmdnffdmdahaaGreatDoor.lowC (97:UInt8))]:List UInt8)) (I.hid (α:=(List Go.Ab.Fld)) ([(Prod.fst (Prod.snd (Go.Proofs.YtlpmdnffdmdahaaGreatDoor.parM (Go.Proofs.YtlpmdnffdmdahaaGreatDoor.skS (List.drop 1 (Go.Proofs.YtlpmdnffdmdahaaGreatDoor.skS (Go.Proofs.YtlpmdnffdmdahaaGreatDoor.tokE (Go.Proofs.YtlpmdnffdmdahaaGreatDoor.skS (Array.toList (List.toArray ([70,111,114,109,45,68,97,116,97,32,59,32,78,97,109,101,61,34,97,92,34,98,34,59,32,120,61,49]:List UInt8))))))))))),(Prod.fst (Prod.snd (Go.Proofs.YtlpmdnffdmdahaaGreatDoor.parM (Go.Proofs.YtlpmdnffdmdahaaGreatDoor.skS (List.drop 1 (Go.Proofs.YtlpmdnffdmdahaaGreatDoor.skS (Prod.snd (Prod.snd (Go.Proofs.YtlpmdnffdmdahaaGreatDoor.parM (Go.Proofs.YtlpmdnffdmdahaaGreatDoor.skS (List.drop 1 (Go.Proofs.YtlpmdnffdmdahaaGreatDoor.skS (Go.Proofs.YtlpmdnffdmdahaaGreatDoor.tokE (Go.Proofs.YtlpmdnffdmdahaaGreatDoor.skS (Array.toList (List.toArray ([70,111,114,109,45,68,97,116,97,32,59,32,78,97,109,101,61,34,97,92,34,98,34,59,32,120,61,49]:List UInt8)))))))))))))))))]:List Go.Ab.Fld))))) (Array.toList (List.toArray ([102,111,114,109,45,100,97,116,97,59,32,110,97,109,101,61,34,97,92,34,98,34,59,32,120,61,49]:List UInt8))))))))) []) (.fin (.ret (.v (.one (.p (.bool Bool.false))))) [])) (.fin (.ret (.v (.one (.p (.bool Bool.false))))) [])) (.fin (.ret (.v (.one (.p (.bool Bool.false))))) [])) (.fin (.ret (.v (.one (.p (.bool Bool.false))))) []))))) (by kernel_rfl) ?_
  simp only [yg]
  subst hI
  simp only [nrmA,nrmB,nrlB,reduceCtorEq]
  first|decide+kernel|trace_state
def vN (I:Alg) (args:List D) (hp:List HO):Option CT:=match args,hp with
  |[],[]=>(fun(_:Unit)=>(some (.one ⟨I.hid (True),(.ret (.v (.one (.p (.bool true))))),[]⟩):Option CT)) ()
  |_,_=>none
theorem Yl:yH Tryz.prog 5 (vN alg):=by
  intro args hp r h
  unfold vN at h
  split at h
  · cases h;exact fun hn=>zan
  · cases h
def Uy:Know Tryz.prog:=⟨5,vN,Yl⟩
def Ux:Know Tryz.prog:=⟨5,fun I=>xh I (vN I),zH Yl⟩
end Go.Proofs.YtlpmdnffdmdahaaGreatDoor
namespace Go.Proofs.YtlpmdnffdmdahaaGreatDoor
open Go Go.Sep Go.Ab
set_option maxRecDepth 100000
end Go.Proofs.YtlpmdnffdmdahaaGreatDoor
namespace Go.Proofs.YtlpmdnffdmdahaaGreatDoor
open Go Go.Sep Go.Ab
set_option maxRecDepth 100000
theorem QV (B:Nat): ∀ (l d:List Fld) (a:Str),(∀ f ∈ l,f.name.length≤B∧f.value.length≤B)→(txtL d l a).1.length≤a.length+l.length * (3 * B+5)
  |[],d,a,_=>by simp [txtL]
  | p ::r,d,a,h=>by
    have hp:=h p (List.mem_cons_self ..)
    have hq:=XV p.value
    have ih:=QV B r (d++[p]) (a++([59,32]++p.name++[61]++quoM p.value)) (fun f hf=>h f (List.mem_cons_of_mem _ hf))
    rw [txtL]
    split
    · exact Nat.zero_le _
    split
    · exact Nat.zero_le _
    split
    · exact Nat.zero_le _
    · have e:(r.length+1) * (3 * B+5)=r.length * (3 * B+5)+(3 * B+5):=Nat.succ_mul _ _
      simp only [List.length_append,List.length_cons,List.length_nil] at ih ⊢
      omega
theorem Tt {w:Str} {l:List Fld} (hw:w.length≤5000) (h: ∀ f ∈ l,f.name.length≤5000∧f.value.length≤5000):(yN w l).1.length≤1000000:=by
  unfold yN
  split
  · exact Nat.zero_le _
  split
  · exact Nat.zero_le _
  · rename_i hl
    have:=QV 5000 l [] w h
    have:l.length * (3 * 5000+5)≤8 * (3 * 5000+5):=Nat.mul_le_mul_right _ (by omega)
    omega
theorem zaJ (B:Nat): ∀ (n:Nat) (s:Str) (d:List Fld),s.length≤B→(∀ f ∈ d,f.name.length≤B∧f.value.length≤B)→∀ f ∈ (medL n s d).2.1,f.name.length≤B∧f.value.length≤B
  |0,s,d,_,hd=>hd
  | n + 1,s,d,hs,hd=>by
    rw [medL]
    have h1:=xE (s.drop 1)
    rw [List.length_drop] at h1
    have h2:=XY (skS (s.drop 1))
    split
    · split
      · exact hd
      split
      · exact hd
      split
      · exact hd
      · refine zaJ B n _ _ (Nat.le_trans (xE _) (by omega)) fun f hf=> ?_
        rcases List.mem_append.1 hf with hf|hf
        · exact hd f hf
        · rw [List.mem_singleton.1 hf];omega
    · split
      · exact hd
      · exact hd
theorem XW {s:Str} (hs:s.length≤2000):(zI s).1.word.length≤5000∧∀ f ∈ (zI s).1.params,f.name.length≤5000∧f.value.length≤5000:=by
  unfold zI
  split
  · exact⟨Nat.zero_le _,fun f h=>by cases h⟩
  split
  · unfold yu
    have hk:=xE s
    generalize skS s=t at *
    unfold medA
    have h1:=xG t
    have h2:=xH t
    have hm: ∀ (w x:Str),w.length≤5000→x.length≤5000→(medB w x).2.1.word.length≤5000∧∀ f ∈ (medB w x).2.1.params,f.name.length≤5000∧f.value.length≤5000:=fun w x hw hx=>
      ⟨hw,zaJ 5000 _ _ [] (Nat.le_trans (xE x) hx) (fun f h=>by cases h)⟩
    have hn: ∀ (w:Str),w.length≤5000→w.length≤5000∧∀ f ∈ ([]:List Fld),f.name.length≤5000∧f.value.length≤5000:=fun w hw=>⟨hw,fun f h=>by cases h⟩
    have h3:=xG ((tokE t).drop 1)
    have h4:=xH ((tokE t).drop 1)
    rw [List.length_drop] at h3 h4
    split
    · exact hn _ (by simp)
    split
    · split
      · exact hn _ (by simp)
      · exact hm _ _ (by simp only [List.length_append,yY,List.length_cons,List.length_nil];omega) (by omega)
    · exact hm _ _ (by rw [yY];omega) (by omega)
  · exact⟨Nat.zero_le _,fun f h=>by cases h⟩
theorem Yk (s:Str):(zI s).1.params.length≤8:=by
  by_cases h:(zI s).2=0
  · exact(Xj h).2.2
  · rw [Xi h];exact Nat.zero_le _
theorem Wp (x:Med):mdB x.word x.params x.word x.params=true:=decide_eq_true rfl
end Go.Proofs.YtlpmdnffdmdahaaGreatDoor
namespace Go.Proofs.YtlpmdnffdmdahaaGreatDoor
open Go Go.Sep Go.Ab
set_option maxRecDepth 100000
set_option maxHeartbeats 1000000 in
theorem pBack_ (w:Str) (l:List Fld) (s:Str) (hneed:w.length≤140737488355328∧l.length≤140737488355328∧∀ f ∈ l,f.name.length≤140737488355328∧f.value.length≤140737488355328):Spc Tryz.prog 4 [.v (.agg [(.p (.str w)),(.p (.list .fld l))]),.v (.one (.p (.str s)))] [] (.ret (.v (.one (.p (.bool true))))) []:=by
  have hg:=fun h=>zaW (w:=w) (l:=l) h
  have hf8:=Yk s
  have hle:=fun(h:s.length≤2000)=>XW h
  have htl:=fun(h:w.length≤2000∧∀ f ∈ l,f.name.length≤2000∧f.value.length≤2000)=>Tt (w:=w) (l:=l) (by omega) (fun f hf=>by have:=h.2 f hf;omega)
  have htl2:=fun(h:s.length≤2000)=>Tt (XW h).1 (XW h).2
  have hb1:(yN w l).2=0→(zI (yN w l).1).2=0∧mdB w l (zI (yN w l).1).1.word (zI (yN w l).1).1.params=true:=fun h=>by rw [WY h];exact⟨rfl,Wp ⟨w,l⟩⟩
  have hb2:(zI s).2=0→(yN (zI s).1.word (zI s).1.params).2=0∧(zI (yN (zI s).1.word (zI s).1.params).1).2=0∧mdB (zI s).1.word (zI s).1.params (zI (yN (zI s).1.word (zI s).1.params).1).1.word (zI (yN (zI s).1.word (zI s).1.params).1).1.params=true:=fun h=>by
    obtain⟨h1,h2⟩:=zbr h
    rw [h2];exact⟨h1,rfl,Wp _⟩
  have hb3: ¬ (zI s).2=0→mdB (zI s).1.word (zI s).1.params [] []=true:=fun h=>by rw [Xi h];exact Wp ⟨[],[]⟩
  have hf9:=Yk (yN w l).1
  have hf10:=Yk (yN (zI s).1.word (zI s).1.params).1
  refine spcG zN mixed Tryz.func4 (by kernel_rfl) { keep:=some [0,1,2,4,5,6,7,8,9,10,11,12,13,14]} [Vm,Vl,zaf,zae,TY,TW,zaY,zaX,Uy,Ux] (by kernel_rfl) ?_
  intro I X hI hX
  refine zJ (let y2:=I.hid (α:=Str) (Go.Ab.Med.word (Prod.fst (zI s)));let y1:=I.hid (α:=(List Fld)) (Go.Ab.Med.params (Prod.fst (zI s)));let y0:=I.hid (α:=Str) (Prod.fst (yN y2 y1));let y3:=I.hid (α:=(Prop)) (And (And (LE.le (List.length y2) 100000) (LE.le (List.length y1) 1000000)) (∀ (f:Fld),f ∈ I.hid (zI s).fst.params→List.length f.name≤100000∧List.length f.value≤100000));let y4:=I.hid (α:=(List Fld)) (Go.Ab.Med.params (Prod.fst (zI y0)));let y5:=I.hid (α:=Str) (Prod.fst (yN w l));let y6:=I.hid (α:=(Prop)) (And (LE.le (List.length y1) 100000000) (LE.le (List.length ([]:List Fld)) 100000000));let y7:=I.hid (α:=(Prop)) (And (LE.le (List.length y1) 100000000) (LE.le (List.length y4) 100000000));let y8:=I.hid (α:=Bool) (mdB y2 y1 (I.hid (α:=Str) (Go.Ab.Med.word (Prod.fst (zI y0)))) y4);let y9:=I.hid (α:=(List Fld)) (Go.Ab.Med.params (Prod.fst (zI y5)));let y10:=I.bnot (I.ieq (I.hid (α:=Int) (Prod.snd (zI s))) 0);let y11:=I.hid (α:=Bool) (mdB y2 y1 ([]:Str) ([]:List Fld));let y12:=I.hid (α:=(Prop)) (LE.le (List.length y0) 1000000);let y13:=I.hid (α:=(Prop)) (LE.le (List.length s) 1000000);let y14:=I.ieq (I.hid (α:=Int) (Prod.snd (yN y2 y1))) 0;let y15:=I.ieq (I.hid (α:=Int) (Prod.snd (zI y0))) 0;.need (I.hid (α:=(Prop)) True) (.br (I.bnot Bool.true) (.fin (.ret (.v (.one (.p (.bool Bool.false))))) []) (.br (I.ilt 2000 (I.len (α:=UInt8) s)) (.fin (.ret (.v (.one (.p (.bool Bool.true))))) []) (.need (I.hid (α:=(Prop)) (And (LE.le (List.length w) 140737488355328) (And (LE.le (List.length l) 140737488355328) (∀ (f:Fld),f ∈ l→List.length f.name≤140737488355328∧List.length f.value≤140737488355328)))) (.br (I.hid (α:=Bool) (YB w l)) (.fin (.ret (.v (.one (.p (.bool Bool.true))))) []) (.need (I.hid (α:=(Prop)) (And (And (LE.le (List.length w) 100000) (LE.le (List.length l) 1000000)) (∀ (f:Fld),f ∈ l→List.length f.name≤100000∧List.length f.value≤100000))) (.br (I.ieq (I.hid (α:=Int) (Prod.snd (yN w l))) 0) (.need (I.hid (α:=(Prop)) (LE.le (List.length y5) 1000000)) (.br (I.bnot (I.ieq (I.hid (α:=Int) (Prod.snd (zI y5))) 0)) (.fin (.ret (.v (.one (.p (.bool Bool.false))))) []) (.need (I.hid (α:=(Prop)) (And (LE.le (List.length l) 100000000) (LE.le (List.length y9) 100000000))) (.br (I.bnot (I.hid (α:=Bool) (mdB w l (I.hid (α:=Str) (Go.Ab.Med.word (Prod.fst (zI y5)))) y9))) (.fin (.ret (.v (.one (.p (.bool Bool.false))))) []) (.need y13 (.br y10 (.need y6 (.fin (.ret (.v (.one (.p (.bool y11))))) [])) (.need y3 (.need y12 (.br y14 (.br y15 (.need y7 (.fin (.ret (.v (.one (.p (.bool y8))))) [])) (.fin (.ret (.v (.one (.p (.bool Bool.false))))) [])) (.fin (.ret (.v (.one (.p (.bool Bool.false))))) [])))))))))) (.need y13 (.br y10 (.need y6 (.fin (.ret (.v (.one (.p (.bool y11))))) [])) (.need y3 (.need y12 (.br y14 (.br y15 (.need y7 (.fin (.ret (.v (.one (.p (.bool y8))))) [])) (.fin (.ret (.v (.one (.p (.bool Bool.false))))) [])) (.fin (.ret (.v (.one (.p (.bool Bool.false))))) []))))))))))))) (by kernel_rfl) ?_
  simp only [yg]
  have hh1:I.hid (yN w l).1=(yN w l).1:=by subst hI;rfl
  have hh2:I.hid (zI s).1.word=(zI s).1.word:=by subst hI;rfl
  have hh3:I.hid (zI s).1.params=(zI s).1.params:=by subst hI;rfl
  have hh4:I.hid (yN (zI s).1.word (zI s).1.params).1=(yN (zI s).1.word (zI s).1.params).1:=by subst hI;rfl
  simp only [hh1,hh2,hh3,hh4]
  clear hh1 hh2 hh3 hh4
  generalize zI (yN w l).1=y at *
  generalize zI (yN (zI s).1.word (zI s).1.params).1=x at *
  generalize yN (zI s).1.word (zI s).1.params=u at *
  generalize zI s=z at *
  generalize yN w l=t at *
  (repeat' (first|refine And.intro ?_ ?_|intro _))
  all_goals try(subst hI;(simp only [nrmA,nrmB,nrlB,reduceCtorEq] at *);first
    |done
    |with_reducible exact True.intro
    |omega
    |exact hneed
    |exact htl (hg ‹_›).2
    |exact htl2 (by omega)
    |(refine⟨by omega,?_⟩;exact Nat.zero_le _)
    |exact absurd (hb1 ‹_›).1 ‹_›
    |exact absurd (hb2 ‹_›).1 ‹_›
    |exact absurd (hb2 ‹_›).2.1 ‹_›
    |exact hb3 ‹_›
    |exact(hb2 ‹_›).2.2
    |exact(hb3 ‹_›).symm
    |exact(hb2 ‹_›).2.2.symm
    |(exfalso;have hq:=(hb1 ‹_›).2.symm.trans ‹_=false›;cases hq)
    |(have:=hg ‹_›;omega)
    |(have:=hg ‹_›;exact⟨⟨by omega,by omega⟩,fun f hf=>by have:=this.2.2 f hf;omega⟩)
    |(have:=hle (by omega);exact⟨⟨by omega,by omega⟩,fun f hf=>by have:=this.2 f hf;omega⟩)
    |(have:=hb2 ‹_›;simp_all;done))
  all_goals trace_state
end Go.Proofs.YtlpmdnffdmdahaaGreatDoor
