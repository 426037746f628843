/- Texts of this proof, one behind the other: RpcE ParS Quo ParT FldP ParP ParV ParM ParW. -/
import Derived.Handy
import Derived.Test.YtlpmdnffdmdahaaGreatDoorMe
set_option linter.all false
namespace Go.Proofs.YtlpmdnffdmdahaaGreatDoor
open Go Go.RowKit Go.Sep
set_option maxRecDepth 100000
set_option maxHeartbeats 4000000 in
theorem zcv (B : Nat) (z : Value) (ao:Option Addr) (cap:Nat) (s:List UInt8) (hs:s.length≤1000000) (l:List Chunk) (w:World) (H:At w (objC B 81 [.int .u32 0,.int .i32 0,z,.nilIface,.slice ao 4 cap]::rowC 9 1 (.slice ao 4 cap) 4 X4::l)):
    Calls Tryz.prog 44 #[.pointer (some ⟨B,0,none⟩),.string (S s)] w fun e w'=>e=.returned (.string (S (escS s)))∧At w' l:=by
  have hmf: ∀ (fn:Fn) (first cap:Array Value) (w:World),(Instr.makeFunc fn first cap).run Tryz.prog w=.ok (.func fn first cap) w:=fun _ _ _ _=>rfl
  go_enter Tryz.func44,Tryz.ntmps44
  go_wp2_with (first | ((with_reducible show wpList _ _ _ (⟨_,.load _ _,_,_,_,_⟩::_) _ _);refine zf rfl (zh Tryz.underlying79 rfl rfl (by first|(with_reducible refine(H.cell _).trans ?_);exact rfl|(with_reducible refine(H.p1.cell _).trans ?_);exact rfl|(with_reducible refine(H.p2.cell _).trans ?_);exact rfl|(with_reducible refine(H.p3.cell _).trans ?_);exact rfl|(with_reducible refine(H.p4.cell _).trans ?_);exact rfl|(with_reducible refine(H.p5.cell _).trans ?_);exact rfl|(with_reducible refine(H.p6.cell _).trans ?_);exact rfl)) ?_;simp only [Act.put,List.setIfInBounds_toArray,List.set_cons_succ,List.set_cons_zero])
                                        |(go_at_call 52;refine Calls.mono (do_c B z ao cap l _ (by first|with_reducible exact H|with_reducible exact H.p1|with_reducible exact H.p2|with_reducible exact H.p3|with_reducible exact H.p4|with_reducible exact H.p5|with_reducible exact H.p6|exact H|exact H.p1|exact H.p2|exact H.p3|exact H.p4|exact H.p5|exact H.p6)) ?_;rintro e w1 ⟨b,aoT,cT,ao1,c1,ao2,c2,rfl,H'⟩;replace H:=H';clear H')
                                        |(go_at_call 135;refine Calls.mono (zev b aoT cT ao1 c1 ao2 c2 s hs l _ H.tail) ?_;rintro e w2 ⟨rfl,H'⟩;replace H:=H';clear H'))
  go_ret
  exact⟨rfl,H⟩
end Go.Proofs.YtlpmdnffdmdahaaGreatDoor
namespace Go.Proofs.YtlpmdnffdmdahaaGreatDoor
open Go Go.Sep Go.Ab
set_option maxRecDepth 100000
def quoM (s:Str):Str:=if zO s=true then s else [34]++escS s++[34]
def Yx (w:Str):Bool:=zO (cutB w 47).1&&((!(cutB w 47).2.2||zO (cutB w 47).2.1)&&decide (lowS w=w))
def hasP (l:List Fld) (n:Str):Bool:=decide (0≤ixP l n)
def txtL:List Fld→List Fld→Str→Str × Int
  |_,[],a=>(a,0)
  | d,p::r,a=>
    if zO p.name=false∨lowS p.name≠p.name then([],6)
    else if hasP d p.name=true then([],9)
    else if yh p.value=false then([],3)
    else txtL (d++[p]) r (a++([59,32]++p.name++[61]++quoM p.value))
def uV (w:Str) (l:List Fld):Str × Int:=if Yx w=false then([],5) else if 8<l.length then([],8) else txtL [] l w
theorem TA: ∀ s:Str,(escS s).length≤2 * s.length
  |[]=>Nat.le_refl _
  | c::s=>by
    have ih:=TA s
    have e:escS (c::s)=escB c++escS s:=rfl
    have:(escB c).length≤2:=by unfold escB;split<;>simp
    rw [e,List.length_append,List.length_cons];omega
theorem Yf (s:Str):(quoM s).length≤2 * s.length+2:=by
  have:=TA s
  unfold quoM
  split
  · omega
  · simp only [List.length_append,List.length_cons,List.length_nil];omega
theorem UQ {l:List Fld} {i:Nat} (h:i<l.length) (d:Fld) (a:Str):txtL (l.take i) (l.drop i) a=
    if zO (l.getD i d).name=false∨lowS (l.getD i d).name≠(l.getD i d).name then([],6)
    else if hasP (l.take i) (l.getD i d).name=true then([],9)
    else if yh (l.getD i d).value=false then([],3)
    else txtL (l.take (i+1)) (l.drop (i+1)) (a++([59,32]++(l.getD i d).name++[61]++quoM (l.getD i d).value)):=by
  rw [List.drop_eq_getElem_cons h,List.take_succ_eq_append_getElem h,txtL,show l.getD i d=l[i] by simp [h]]
end Go.Proofs.YtlpmdnffdmdahaaGreatDoor
namespace Go.Proofs.YtlpmdnffdmdahaaGreatDoor
open Go Go.RowKit Go.Sep Go.Ab
set_option maxRecDepth 100000
theorem zfj: ∀ v ∈ X4,v.oneCell'=true:=by
  intro v h
  simp only [X4,List.mem_cons,List.mem_nil_iff,or_false] at h
  rcases h with rfl|rfl|rfl|rfl<;>rfl
set_option maxHeartbeats 4000000 in
theorem zeA (s:Str) (hneed:s.length≤200000):Spc Tryz.prog 26 [.v (.one (.p (.str s)))] [] (.ret (.v (.one (.p (.str (quoM s)))))) []:=by
  refine⟨⟨_,Tryz.func26,by kernel_rfl,by kernel_rfl⟩,fun Sf K fr w vs hH hM hA=> ?_⟩
  have hM0:=hM
  obtain⟨v,r,rfl⟩: ∃ v r,vs=v::r:=by cases vs with|nil=>exact hM.elim|cons v r=>exact⟨v,r,rfl⟩
  obtain⟨h1,hM⟩:=hM
  obtain rfl:r=[]:=by cases r with|nil=>rfl|cons v r=>exact hM.elim
  cases h1 with
  | str _ hl1=>
    have ht:Calls Tryz.prog 22 #[.string (S s)] w fun e w'=>∃ S' K',e=.returned (.bool (zO s))∧Sf.le S'∧Ext (K.map CO.base) (K'.map CO.base)∧HR S' (K'.map CO.base) [] K'∧At w' (frzC S'::(CO.zx K'++fr)):=by
      refine((RZ s (by omega)).2 Sf K fr w _ hH hM0 hA).mono ?_
      rintro e w1 ⟨S1,K1,hle,hext,hH1,hA1,ho⟩
      cases e with
      |returned v=>cases ho;exact⟨S1,K1,rfl,hle,hext,hH1,hA1⟩
      |panicked c=>exact ho.elim
      |outgrown=>exact ho.elim
    have hq:=Yf s
    have hes:=TA s
    by_cases htk:zO s=true
    · rw [htk] at ht
      rw [show quoM s=s from if_pos htk]
      have H:=hA
      go_enter Tryz.func26,Tryz.ntmps26
      go_wp2_with (first|((with_reducible show wpList _ _ _ (⟨some 6,.buildSlice _ _ _,_,_,_,_⟩::_) _ _);refine yO Tryz.underlying65 in_9 [.string _,.string _,.string _,.string _] rfl rfl (Wl rfl rfl rfl rfl) (by simp) H rfl ?_;intro ao6 cap6 w6 hc6 H1;replace H:=H1;clear H1;simp only [Act.put,List.setIfInBounds_toArray,List.set_cons_succ,List.set_cons_zero])
                                        |(go_at_call 22;refine Calls.mono (ht) ?_;rintro e w1 ⟨S1,K1,rfl,hle,hext,hH1,H'⟩;replace H:=H';clear H'))
      go_ret
      exact⟨S1,K1,hle,hext,hH1,H,.str _ hl1⟩
    · have htf : zO s = false := by simpa using htk
      rw [htf] at ht
      have H:=hA
      go_enter Tryz.func26,Tryz.ntmps26
      go_wp2_with (first|((with_reducible show wpList _ _ _ (⟨some 6,.buildSlice _ _ _,_,_,_,_⟩::_) _ _);refine yO Tryz.underlying65 in_9 [.string _,.string _,.string _,.string _] rfl rfl (Wl rfl rfl rfl rfl) (by simp) H rfl ?_;intro ao6 cap6 w6 hc6 H1;replace H:=H1;clear H1;simp only [Act.put,List.setIfInBounds_toArray,List.set_cons_succ,List.set_cons_zero])
                                        |(go_at_call 22;refine Calls.mono (ht) ?_;rintro e w1 ⟨S1,K1,rfl,hle,hext,hH1,H'⟩;replace H:=H';clear H')
                                        |(go_at_call 43;refine Calls.mono (zcI _ _ X4 zfj _ _ (by first|with_reducible exact H|with_reducible exact H.p1|with_reducible exact H.p2|with_reducible exact H.p3|with_reducible exact H.p4|with_reducible exact H.p5|with_reducible exact H.p6|exact H|exact H.p1|exact H.p2|exact H.p3|exact H.p4|exact H.p5|exact H.p6)) ?_;rintro e w2 ⟨b,ao1,c1,rfl,H'⟩;replace H:=H';clear H')
                                        |(go_at_call 44;refine Calls.mono (zcv b _ _ _ s (by omega) _ _ (by first|with_reducible exact H|with_reducible exact H.p1|with_reducible exact H.p2|with_reducible exact H.p3|with_reducible exact H.p4|with_reducible exact H.p5|with_reducible exact H.p6|exact H|exact H.p1|exact H.p2|exact H.p3|exact H.p4|exact H.p5|exact H.p6)) ?_;rintro e w3 ⟨rfl,H'⟩;replace H:=H';clear H'))
      all_goals try(exfalso;omega)
      go_ret
      have e:quoM s=34::(escS s++[34]):=by unfold quoM;rw [if_neg htk];simp
      have hb:(quoM s).length≤maxLen:=Nat.le_trans hq (by unfold maxLen;omega)
      generalize quoM s=q at *
      subst e
      exact⟨S1,K1,hle,hext,hH1,H,.str _ hb⟩
def Ye (I:Alg) (args:List D) (hp:List HO):Option CT:=match args,hp with
  |[.v (.one (.p (.str s)))],[]=>(fun(s:Str)=>(some (.one ⟨I.hid (s.length≤200000),(.ret (.v (.one (.p (.str (I.hid (quoM s))))))),[]⟩):Option CT)) s
  |_,_=>none
theorem SY:yw Tryz.prog 26 (Ye alg):=by
  intro args hp r h
  unfold Ye at h
  split at h
  · cases h;exact fun hn=>zeA _ hn
  · cases h
def SX:Know Tryz.prog:=⟨26,Ye,SY⟩
def SV:Know Tryz.prog:=⟨26,fun I=>yE I (Ye I),zA SY⟩
end Go.Proofs.YtlpmdnffdmdahaaGreatDoor
namespace Go.Proofs.YtlpmdnffdmdahaaGreatDoor
open Go Go.Sep Go.Ab
set_option maxRecDepth 100000
theorem zeC (s:Str) (hneed:s.length≤1000000):Spc Tryz.prog 21 [.v (.one (.p (.str s)))] [] (.ret (.v (.one (.p (.bool ((Yx s))))))) []:=by
  have hc:=zc1 s 47
  have hbq:(lowS s == s)=decide (lowS s=s):=by rw [Bool.eq_iff_iff];simp
  generalize hr:Yx s=r
  unfold Yx at hr
  refine spcG zJ mixed Tryz.func21 (by kernel_rfl) { keep:=some [0,2,3,4,5]} [Zp,Zo,xZ,xY,zdz,zdy] (by kernel_rfl) ?_
  intro I X hI hX
  refine zy (let y0:=I.hid (α:=(Prop)) (LE.le (List.length s) 1000000);let y1:=I.hid (α:=Str) (Prod.fst (Prod.snd (cutB s (47:UInt8))));let y2:=I.hid (α:=Str) (Prod.fst (cutB s (47:UInt8)));let y3:=I.seq (I.hid (α:=Str) (lowS s)) s;.need y0 (.need (I.hid (α:=(Prop)) (LE.le (List.length y2) 1000000)) (.br (I.hid (α:=Bool) (zO y2)) (.br (I.bnot (I.hid (α:=Bool) (Prod.snd (Prod.snd (cutB s (47:UInt8)))))) (.need y0 (.fin (.ret (.v (.one (.p (.bool y3))))) [])) (.need (I.hid (α:=(Prop)) (LE.le (List.length y1) 1000000)) (.br (I.hid (α:=Bool) (zO y1)) (.need y0 (.fin (.ret (.v (.one (.p (.bool y3))))) [])) (.fin (.ret (.v (.one (.p (.bool Bool.false))))) [])))) (.fin (.ret (.v (.one (.p (.bool Bool.false))))) [])))) (by kernel_rfl) ?_
  simp only [zN]
  subst hI
  simp only [nrmA,nrmB,nrlB,reduceCtorEq]
  (repeat' (first|refine And.intro ?_ ?_|intro _))<;>first|omega|exact True.intro|exact False.elim ‹False›|skip
  all_goals first
    |omega
    |(subst hr;simp_all;done)
    |(rw [hbq,← hr];simp only [*];done)
    |(rw [hbq,← hr];simp [*];done)
def Yh (I:Alg) (args:List D) (hp:List HO):Option CT:=match args,hp with
  |[.v (.one (.p (.str s)))],[]=>(fun(s:Str)=>(some (.one ⟨I.hid (s.length≤1000000),(.ret (.v (.one (.p (.bool (I.hid ((Yx s)))))))),[]⟩):Option CT)) s
  |_,_=>none
theorem Rj:yw Tryz.prog 21 (Yh alg):=by
  intro args hp r h
  unfold Yh at h
  split at h
  · cases h;exact fun hn=>zeC _ hn
  · cases h
def Ri:Know Tryz.prog:=⟨21,Yh,Rj⟩
def Rh:Know Tryz.prog:=⟨21,fun I=>yE I (Yh I),zA Rj⟩
theorem zeD (a b n v:Str):Spc Tryz.prog 25 [.v (.agg [(.p (.str a)),(.p (.str b))]),.v (.one (.ptr 0 0))] [.pack [.obj 37 [(.p (.str n)),(.p (.str v))]]] (.ret (.v (.one (.p (.bool ((a == n))))))) [.pack [.obj 37 [(.p (.str n)),(.p (.str v))]]]:=by
  refine spcG zJ mixed Tryz.func25 (by kernel_rfl) { keep:=some [0,1,2,3]} [] (by kernel_rfl) ?_
  intro I X hI hX
  refine zy (.fin (.ret (.v (.one (.p (.bool (I.seq a n)))))) [(.pack [(.obj 37 [(.p (.str n)),(.p (.str v))])])]) (by kernel_rfl) ?_
  simp only [zN]
  subst hI
  simp only [nrmA,nrmB,nrlB,reduceCtorEq,HO.pack.injEq,HO.obj.injEq]
  try trivial
def Yj (I:Alg) (args:List D) (hp:List HO):Option CT:=match args,hp with
  |[.v (.agg [(.p (.str a)),(.p (.str b))]),.v (.one (.ptr 0 0))],[.pack [.obj 37 [(.p (.str n)),(.p (.str v))]]]=>(fun(a b n v:Str)=>(some (.one ⟨I.hid (True),(.ret (.v (.one (.p (.bool (I.hid ((a == n)))))))),[.pack [.obj 37 [(.p (.str n)),(.p (.str v))]]]⟩):Option CT)) a b n v
  |_,_=>none
theorem Rl:yw Tryz.prog 25 (Yj alg):=by
  intro args hp r h
  unfold Yj at h
  split at h
  · cases h;exact fun hn=>zeD _ _ _ _
  · cases h
def Yi:Know Tryz.prog:=⟨25,Yj,Rl⟩
def Rk:Know Tryz.prog:=⟨25,fun I=>yE I (Yj I),zA Rl⟩
theorem zfp (l:List Fld) (n v:Str) (hneed:l.length≤1000000):Spc Tryz.prog 29 [.v (.one (.p (.list .fld l))),.v (.one (.fn 25 [.ptr 0 0]))] [.pack [.obj 37 [(.p (.str n)),(.p (.str v))]]] (.ret (.v (.one (.p (.int .i64 ((ixP l n))))))) [.pack [.obj 37 [(.p (.str n)),(.p (.str v))]]]:=by
  refine spcG zJ mixed Tryz.func29 (by kernel_rfl) { keep:=some [0,1,4,5,7,8]} [Yi,Ry,Rx] (by kernel_rfl) ?_
  intro I X hI hX
  refine zy (.code 0 [1,0,1,0] ⟨[(8,(.v (.one (.p (.int .i64 0))))),(7,(.v (.one (.p (.int .i64 (I.len (α:=Fld) l)))))),(4,(.v (.one (.p (.int .i64 0))))),(0,(.v (.one (.p (.list .fld l))))),(1,(.v (.one (.fn 25 [(.ptr 0 0)]))))],[(.pack [(.obj 37 [(.p (.str n)),(.p (.str v))])])],19,none⟩) (by kernel_rfl) ?_
  simp only [zN]
  refine zQ hI zJ mixed [Yi,Ry,Rx] hX [0,1,7,8] (fun(i:Nat)=>i≤l.length∧i≤l.findIdx (fun f=>f.name == n)) (fun(i:Nat)=>⟨[(0,.v (.one (.p (.list .fld l)))),(1,.v (.one (.fn 25 [.ptr 0 0]))),(7,.v (.one (.p (.int .i64 ((I.len (α:=Fld) l)))))),(8,.v (.one (.p (.int .i64 i))))],[.pack [.obj 37 [(.p (.str n)),(.p (.str v))]]],19,none⟩) (fun(i:Nat)=>l.length - i) 0 (by kernel_rfl) (by kernel_rfl) ?_ ?_
  · exact⟨Nat.zero_le _,Nat.zero_le _⟩
  rintro i ⟨h1,h2⟩ A hA
  refine zy (let y0:HO:=.pack [(.obj 37 [(.p (.str n)),(.p (.str v))])];let y1:=I.inb (Nat.cast i) (I.len (α:=Fld) l);.br (I.ilt (Nat.cast i) (I.len (α:=Fld) l)) (.need y1 (.need y1 (.need (I.hid (α:=(Prop)) True) (.br (I.hid (α:=Bool) (BEq.beq (Fld.name (I.get (α:=Fld) l (Fld.mk ([]:Str) ([]:Str)) (Nat.cast i))) n)) (.fin (.ret (.v (.one (.p (.int .i64 (Nat.cast i)))))) [y0]) (.need (I.inr Go.IntKind.i64 (I.add (Nat.cast i) 1)) (.need (A ⟨[(0,(.v (.one (.p (.list .fld l))))),(1,(.v (.one (.fn 25 [(.ptr 0 0)])))),(7,(.v (.one (.p (.int .i64 (I.len (α:=Fld) l)))))),(8,(.v (.one (.p (.int .i64 (I.add (Nat.cast i) 1))))))],[y0],19,none⟩) .qed)))))) (.fin (.ret (.v (.one (.p (.int .i64 (Neg.neg (1:Int))))))) [y0])) (by kernel_rfl) ?_
  simp only [zN]
  subst hI
  simp only [nrmA,nrmB,nrlB,reduceCtorEq,HO.pack.injEq,HO.obj.injEq]
  have hfl:l.findIdx (fun f=>f.name == n)≤l.length:=List.findIdx_le_length
  have hyes:i<l.length→(l.getD i ⟨[],[]⟩).name=n→ixP l n=i:=fun h hid=>by
    have h0:l.findIdx (fun f=>f.name == n)≤i:=by
      refine Nat.le_of_not_lt fun hlt=> ?_
      have:=List.not_of_lt_findIdx hlt
      rw [List.getD_eq_getElem?_getD,List.getElem?_eq_getElem h] at hid
      simp only [Option.getD_some] at hid
      rw [hid] at this;simp at this
    unfold ixP
    rw [if_pos (by omega)];omega
  have hno:i<l.length→¬ (l.getD i ⟨[],[]⟩).name=n→i+1≤l.findIdx (fun f=>f.name == n):=fun h hid=>by
    refine Nat.lt_of_le_of_ne h2 fun e=>hid ?_
    have hlt:l.findIdx (fun f=>f.name == n)<l.length:=by omega
    have:=List.findIdx_getElem (xs:=l) (p:=fun f=>f.name == n) (w:=hlt)
    have h9:l.getD i ⟨[],[]⟩=l[l.findIdx (fun f=>f.name == n)]:=by simp [e,List.getD_eq_getElem?_getD,hlt]
    rw [h9];simpa using this
  have hend: ¬ i<l.length→ixP l n= -1:=fun h=>by unfold ixP;rw [if_neg (by omega)]
  generalize l.getD i ⟨[],[]⟩=x at *
  (repeat' (first|refine And.intro ?_ ?_|intro _))<;>first|omega|exact True.intro|exact False.elim ‹False›|skip
  all_goals first
    |omega
    |(exact(hyes (by omega) ‹_›).symm)
    |(exact hA (i+1) ⟨by omega,hno (by omega) ‹_›⟩ (by omega))
    |(exact(hend (by omega)).symm)
def WO (I:Alg) (args:List D) (hp:List HO):Option CT:=match args,hp with
  |[.v (.one (.p (.list .fld l))),.v (.one (.fn 25 [.ptr 0 0]))],[.pack [.obj 37 [(.p (.str n)),(.p (.str v))]]]=>(fun(l:List Fld) (n v:Str)=>(some (.one ⟨I.hid (l.length≤1000000),(.ret (.v (.one (.p (.int .i64 (I.hid ((ixP l n)))))))),[.pack [.obj 37 [(.p (.str n)),(.p (.str v))]]]⟩):Option CT)) l n v
  |_,_=>none
theorem za2:yw Tryz.prog 29 (WO alg):=by
  intro args hp r h
  unfold WO at h
  split at h
  · cases h;exact fun hn=>zfp _ _ _ hn
  · cases h
def zdL:Know Tryz.prog:=⟨29,WO,za2⟩
def zdK:Know Tryz.prog:=⟨29,fun I=>yE I (WO I),zA za2⟩
theorem zfs (l:List Fld) (n v:Str) (hneed:l.length≤1000000):Spc Tryz.prog 24 [.v (.one (.p (.list .fld l))),.v (.one (.fn 25 [.ptr 0 0]))] [.pack [.obj 37 [(.p (.str n)),(.p (.str v))]]] (.ret (.v (.one (.p (.bool ((hasP l n))))))) [.pack [.obj 37 [(.p (.str n)),(.p (.str v))]]]:=by
  refine spcG zJ mixed Tryz.func24 (by kernel_rfl) { keep:=some [0,1,4]} [Ry,Rx,zdL,zdK] (by kernel_rfl) ?_
  intro I X hI hX
  refine zy (.need (I.hid (α:=(Prop)) (LE.le (List.length l) 1000000)) (.fin (.ret (.v (.one (.p (.bool (I.ile 0 (I.hid (α:=Int) (ixP l n)))))))) [(.pack [(.obj 37 [(.p (.str n)),(.p (.str v))])])])) (by kernel_rfl) ?_
  simp only [zN]
  subst hI
  simp only [nrmA,nrmB,nrlB,reduceCtorEq,HO.pack.injEq,HO.obj.injEq]
  unfold hasP
  (repeat' (first|refine And.intro ?_ ?_|intro _))<;>first|omega|exact True.intro|exact False.elim ‹False›|skip
  all_goals first|exact hneed|trivial|(simp;done)|trace_state
def WS (I:Alg) (args:List D) (hp:List HO):Option CT:=match args,hp with
  |[.v (.one (.p (.list .fld l))),.v (.one (.fn 25 [.ptr 0 0]))],[.pack [.obj 37 [(.p (.str n)),(.p (.str v))]]]=>(fun(l:List Fld) (n v:Str)=>(some (.one ⟨I.hid (l.length≤1000000),(.ret (.v (.one (.p (.bool (I.hid ((hasP l n)))))))),[.pack [.obj 37 [(.p (.str n)),(.p (.str v))]]]⟩):Option CT)) l n v
  |_,_=>none
theorem za6:yw Tryz.prog 24 (WS alg):=by
  intro args hp r h
  unfold WS at h
  split at h
  · cases h;exact fun hn=>zfs _ _ _ hn
  · cases h
def za5:Know Tryz.prog:=⟨24,WS,za6⟩
def za4:Know Tryz.prog:=⟨24,fun I=>yE I (WS I),zA za6⟩
set_option maxHeartbeats 1000000 in
theorem zeG (w:Str) (l:List Fld) (hneed:(w.length≤100000∧l.length≤1000000)∧∀ f ∈ l,f.name.length≤100000∧f.value.length≤100000):Spc Tryz.prog 9 [.v (.agg [(.p (.str w)),(.p (.list .fld l))])] [] (.ret (.tup [(.one (.p (.str ((uV w l).1)))),(.one (.p (.int .i64 ((uV w l).2))))])) []:=by
  obtain⟨⟨hw,hl⟩,hf⟩:=hneed
  generalize hr:uV w l=r
  unfold uV at hr
  refine spcG zJ mixed Tryz.func9 (by kernel_rfl) { keep:=some [0,1,2,3,4,5,6,18,19,20]} [Zp,Zo,tC,tu,xZ,xY,SX,SV,Ri,Rh,Yi,Rk,za5,za4] (by kernel_rfl) ?_
  intro I X hI hX
  refine zy (.need (I.hid (α:=(Prop)) (LE.le (List.length w) 1000000)) (.br (I.bnot (I.hid (α:=Bool) (Yx w))) (.fin (.ret (.tup [(.one (.p (.str ([]:Str)))),(.one (.p (.int .i64 5)))])) []) (.br (I.ilt 8 (I.len (α:=Fld) l)) (.fin (.ret (.tup [(.one (.p (.str ([]:Str)))),(.one (.p (.int .i64 8)))])) []) (.code 0 [1,1,1,1,0,1,0] ⟨[(20,(.v (.one (.p (.int .i64 0))))),(19,(.v (.one (.p (.int .i64 (I.len (α:=Fld) l)))))),(18,(.v (.one (.p (.list .fld l))))),(4,(.v (.one (.p (.str w))))),(3,(.v (.one (.p (.int .i64 0))))),(2,(.v (.one (.p (.str ([]:Str)))))),(1,(.v (.one (.ptr 0 0)))),(0,(.v (.agg [(.p (.str w)),(.p (.list .fld l))])))],[(.obj 24 [(.p (.str w)),(.p (.list .fld l))])],62,none⟩)))) (by kernel_rfl) ?_
  simp only [zN]
  (repeat' (first|refine And.intro ?_ ?_|intro _))
  · subst hI
    simp only [nrmA,nrmB,nrlB,reduceCtorEq]
    omega
  · subst hI
    simp only [nrmA,nrmB,nrlB,reduceCtorEq] at *
    rw [if_pos (by simp_all)] at hr
    subst hr;exact⟨rfl,rfl⟩
  · trivial
  · subst hI
    simp only [nrmA,nrmB,nrlB,reduceCtorEq] at *
    rw [if_neg (by simp_all),if_pos (by omega)] at hr
    subst hr;exact⟨rfl,rfl⟩
  · trivial
  have hl8:l.length≤8:=by
    subst hI
    simp only [nrmA,nrmB,nrlB,reduceCtorEq] at *
    omega
  have hr1:txtL [] l w=r:=by
    subst hI
    simp only [nrmA,nrmB,nrlB,reduceCtorEq] at *
    rw [if_neg (by simp_all),if_neg (by omega)] at hr
    exact hr
  clear hr
  refine zQ hI zJ mixed [Zp,Zo,tC,tu,xZ,xY,SX,SV,Ri,Rh,Yi,Rk,za5,za4] hX [1,4,18,19,20] (fun(g:Nat × Str)=>match g with|(i,a)=>i≤l.length∧txtL (l.take i) (l.drop i) a=r∧a.length≤100000+i * 300100) (fun(g:Nat × Str)=>match g with|(i,a)=>⟨[(1,.v (.one (.ptr 0 0))),(4,.v (.one (.p (.str a)))),(18,.v (.one (.p (.list .fld l)))),(19,.v (.one (.p (.int .i64 ((I.len (α:=Fld) l)))))),(20,.v (.one (.p (.int .i64 i))))],[.pack [.obj 24 [(.p (.str w)),(.p (.list .fld l))]]],62,none⟩) (fun(g:Nat × Str)=>match g with|(i,a)=>l.length - i) (0,w) (by kernel_rfl) (by kernel_rfl) ?_ ?_
  · exact⟨Nat.zero_le _,hr1,by omega⟩
  rintro⟨i,a⟩ ⟨h1,h2,h3⟩ A hA
  refine zy (let y0:=I.get (α:=Fld) l (Fld.mk ([]:Str) ([]:Str)) (Nat.cast i);let y1:=I.hid (α:=Str) (quoM (Fld.value y0));let y2:=I.hid (α:=(Prop)) (LE.le (List.length (Fld.name y0)) 1000000);let y3:=I.inb (Nat.cast i) (I.len (α:=Fld) l);let y4:=I.cut (α:=Fld) l 0 (Int.ofNat i);.br (I.ilt (Nat.cast i) (I.len (α:=Fld) l)) (.need y3 (.need y3 (.need y2 (.br (I.bnot (I.hid (α:=Bool) (zO (Fld.name y0)))) (.fin (.ret (.tup [(.one (.p (.str ([]:Str)))),(.one (.p (.int .i64 6)))])) []) (.need y2 (.br (I.bnot (I.seq (I.hid (α:=Str) (lowS (Fld.name y0))) (Fld.name y0))) (.fin (.ret (.tup [(.one (.p (.str ([]:Str)))),(.one (.p (.int .i64 6)))])) []) (.need (I.cutb 0 (Int.ofNat i) (I.len (α:=Fld) l)) (.need (I.hid (α:=(Prop)) (LE.le (List.length y4) 1000000)) (.br (I.hid (α:=Bool) (hasP y4 (Fld.name y0))) (.fin (.ret (.tup [(.one (.p (.str ([]:Str)))),(.one (.p (.int .i64 9)))])) []) (.need (I.hid (α:=(Prop)) (LE.le (List.length (Fld.value y0)) 1000000)) (.br (I.bnot (I.hid (α:=Bool) (yh (Fld.value y0)))) (.fin (.ret (.tup [(.one (.p (.str ([]:Str)))),(.one (.p (.int .i64 3)))])) []) (.need (I.few (I.add (I.len (α:=UInt8) ([59,32]:Str)) (I.len (α:=UInt8) (Fld.name y0))) 1000000000) (.need (I.few (I.add (I.len (α:=UInt8) (I.app (α:=UInt8) ([59,32]:Str) (Fld.name y0))) (I.len (α:=UInt8) ([61]:Str))) 1000000000) (.need (I.hid (α:=(Prop)) (LE.le (List.length (Fld.value y0)) 200000)) (.need (I.few (I.add (I.len (α:=UInt8) (I.app (α:=UInt8) (I.app (α:=UInt8) ([59,32]:Str) (Fld.name y0)) ([61]:Str))) (I.len (α:=UInt8) y1)) 1000000000) (.need (I.few (I.add (I.len (α:=UInt8) a) (I.len (α:=UInt8) (I.app (α:=UInt8) (I.app (α:=UInt8) (I.app (α:=UInt8) ([59,32]:Str) (Fld.name y0)) ([61]:Str)) y1))) 1000000000) (.need (I.inr Go.IntKind.i64 (I.add (Nat.cast i) 1)) (.need (A ⟨[(1,(.v (.one (.ptr 0 0)))),(4,(.v (.one (.p (.str (I.app (α:=UInt8) a (I.app (α:=UInt8) (I.app (α:=UInt8) (I.app (α:=UInt8) ([59,32]:Str) (Fld.name y0)) ([61]:Str)) y1))))))),(18,(.v (.one (.p (.list .fld l))))),(19,(.v (.one (.p (.int .i64 (I.len (α:=Fld) l)))))),(20,(.v (.one (.p (.int .i64 (I.add (Nat.cast i) 1))))))],[(.pack [(.obj 24 [(.p (.str w)),(.p (.list .fld l))])])],62,none⟩) .qed)))))))))))))))))) (.fin (.ret (.tup [(.one (.p (.str a))),(.one (.p (.int .i64 0)))])) [])) (by kernel_rfl) ?_
  simp only [zN]
  subst hI
  simp only [nrmA,nrmB,nrlB,reduceCtorEq,HO.pack.injEq,HO.obj.injEq]
  have hx:i<l.length→l.getD i ⟨[],[]⟩ ∈ l:=fun h=>by rw [show l.getD i ⟨[],[]⟩=l[i] by simp [h]];exact List.getElem_mem h
  have hff:=fun h=>hf _ (hx h)
  have hx2:=fun(h:i<l.length)=>(UQ h ⟨[],[]⟩ a).symm.trans h2
  have hend: ¬ i<l.length→(a,(0:Int))=r:=fun h=>by rw [← h2,List.drop_of_length_le (by omega)];rfl
  have hta:(l.take i).length≤8:=by rw [List.length_take];omega
  have hmo:=fun(h:i<l.length) (b:Str) e k=>hA (i+1,a++b) ⟨by show i+1≤l.length;omega,e,k⟩ (by show l.length - (i+1)<l.length - i;omega)
  simp only [Int.natCast_add,Int.natCast_one] at hmo
  generalize l.getD i ⟨[],[]⟩=f at *
  clear hA hx hf
  have hq:=Yf f.value
  have hno:zO f.name=true→lowS f.name=f.name→¬ (zO f.name=false∨lowS f.name≠f.name):=fun e1 e2=>by rintro(e|e);rw [e1] at e;cases e;exact e e2
  have hbl:(quoM f.value).length≤200002→f.name.length≤100000→([59,32]++f.name++[61]++quoM f.value).length≤300100:=fun _ _=>by simp only [List.length_append,List.length_cons,List.length_nil];omega
  (repeat' (first|refine And.intro ?_ ?_|intro _))<;>first|omega|exact True.intro|exact False.elim ‹False›|skip
  all_goals first
    |(have h9:=hend (by omega);subst h9;rfl)
    | (have h8 :=hff (by omega);first
        |omega
        |(simp only [List.length_append,List.length_cons,List.length_nil];omega)
        |(have h9:=hx2 (by omega);first
            |(rw [if_pos (.inl ‹_›)] at h9;subst h9;rfl)
            |(rw [if_pos (.inr ‹_›)] at h9;subst h9;rfl)
            |(rw [if_neg (hno ‹_› ‹_›),if_pos ‹_›] at h9;subst h9;rfl)
            |(rw [if_neg (hno ‹_› ‹_›),if_neg (by rw [‹hasP (List.take i l) f.name=false›];decide),if_pos ‹_›] at h9;subst h9;rfl)
            | (rw [if_neg (hno ‹_› ‹_›),if_neg (by rw [‹hasP (List.take i l) f.name=false›];decide),if_neg (by rw [‹yh f.value=true›];decide)] at h9
               have hb:=hbl (by omega) (by omega)
               exact hmo (by omega) _ h9 (by rw [List.length_append];omega))))
    |omega
def Yk (I:Alg) (args:List D) (hp:List HO):Option CT:=match args,hp with
  |[.v (.agg [(.p (.str w)),(.p (.list .fld l))])],[]=>(fun(w:Str) (l:List Fld)=>(some (.one ⟨I.hid ((w.length≤100000∧l.length≤1000000)∧∀ f ∈ l,f.name.length≤100000∧f.value.length≤100000),(.ret (.tup [(.one (.p (.str (I.hid ((uV w l).1))))),(.one (.p (.int .i64 (I.hid ((uV w l).2)))))])),[]⟩):Option CT)) w l
  |_,_=>none
theorem Ru:yw Tryz.prog 9 (Yk alg):=by
  intro args hp r h
  unfold Yk at h
  split at h
  · cases h;exact fun hn=>zeG _ _ hn
  · cases h
def Ro:Know Tryz.prog:=⟨9,Yk,Ru⟩
def Rn:Know Tryz.prog:=⟨9,fun I=>yE I (Yk I),zA Ru⟩
end Go.Proofs.YtlpmdnffdmdahaaGreatDoor
namespace Go.Proofs.YtlpmdnffdmdahaaGreatDoor
open Go Go.Sep Go.Ab
set_option maxRecDepth 100000
theorem SA {s:Str} (h:tokA s=true) {x:UInt8} (hx:x ∈ s):tokB (x.toNat:Int)=true:=List.all_eq_true.1 h x hx
end Go.Proofs.YtlpmdnffdmdahaaGreatDoor
namespace Go.Proofs.YtlpmdnffdmdahaaGreatDoor
open Go Go.Sep Go.Ab
set_option maxRecDepth 100000
theorem zbk {c:UInt8} (h:isTk c=true):rJ (c.toNat:Int)=true∧c≠32∧c≠9∧c≠59∧c≠61∧c≠47∧c≠34:=by
  have key: ∀ n:Fin 256,tokB ((n.1:Nat):Int)=true→rJ ((n.1:Nat):Int)=true∧n.1≠32∧n.1≠9∧n.1≠59∧n.1≠61∧n.1≠47∧n.1≠34:=by decide+kernel
  have:=key ⟨c.toNat,c.toNat_lt⟩ h
  obtain⟨h0,h1,h2,h3,h4,h5,h6⟩:=this
  exact⟨h0,fun e=>h1 (by rw [e];rfl),fun e=>h2 (by rw [e];rfl),fun e=>h3 (by rw [e];rfl),fun e=>h4 (by rw [e];rfl),fun e=>h5 (by rw [e];rfl),fun e=>h6 (by rw [e];rfl)⟩
theorem zds {x:Str} (h:tokA x=true): ∀ c ∈ x,isTk c=true:=fun c m=>SA h m
theorem zcl {x:Str} (h:tokA x=true):yh x=true:=List.all_eq_true.2 fun c m=>(zbk (zds h c m)).1
theorem Z5 (s:Str):tokA (tokS s)=true:=by
  exact List.all_takeWhile
theorem zaz {x:Str} (h:x≠[]) (k:tokA x=true):zO x=true:=by unfold zO;rw [k,decide_eq_true h];rfl
def Bhd (r:Str):Prop:=r=[]∨∃ t,r=59::t
theorem Bhd.no {r:Str} (h:Bhd r): ∀ c,r.head?=some c→isTk c=false:=by
  rcases h with rfl|⟨t,rfl⟩
  · intro c e;cases e
  · intro c e;cases e;decide
structure zem (p:Fld):Prop where
  tk:zO p.name=true
  lo:lowS p.name=p.name
  se:yh p.value=true
theorem zcO (l:List Fld) (n:Str):(getP l n).2=hasP l n:=by
  rw [zbv]
  unfold hasP
  split
  · rename_i h;rw [decide_eq_true h]
  · rename_i h;rw [decide_eq_false h]
def zcd (w:Str):Prop:=(zO w=true∧lowS w=w)∨∃ a b,w=a++47::b∧zO a=true∧zO b=true∧lowS a=a∧lowS b=b
theorem zcK (s:Str):lowS (lowS s)=lowS s:=by
  unfold lowS
  rw [List.map_map]
  refine List.map_congr_left fun c _=> ?_
  have key: ∀ n:Fin 256,lowC (lowC (UInt8.ofNat n.1))=lowC (UInt8.ofNat n.1):=by decide+kernel
  have:=key ⟨c.toNat,c.toNat_lt⟩
  rwa [UInt8.ofNat_toNat] at this
theorem zdV {s:Str} (h:tokA s=true):tokA (lowS s)=true:=by
  unfold tokA lowS
  rw [List.all_map,List.all_eq_true]
  intro c m
  have key: ∀ n:Fin 256,tokB ((n.1:Nat):Int)=true→tokB ((lowC (UInt8.ofNat n.1)).toNat:Int)=true:=by decide+kernel
  have:=key ⟨c.toNat,c.toNat_lt⟩ (SA h m)
  simpa using this
theorem YT {s:Str} (h:s≠[]) (k:tokA s=true):zO (lowS s)=true∧lowS (lowS s)=lowS s:=
  ⟨zaz (fun e=>h (List.map_eq_nil_iff.1 e)) (zdV k),zcK s⟩
theorem YL: ∀ (s:Str) (p:Str × Str),yh s=true→quoF s=some p→yh p.1=true∧yh p.2=true
  |[],p,_,h=>by simp [quoF] at h
  | [x],p,hs,h=>by
    simp only [quoF] at h
    split at h
    · cases h;exact⟨rfl,rfl⟩
    · cases h
  | x ::y::r,p,hs,h=>by
    have h0:rJ (x.toNat:Int)=true∧rJ (y.toNat:Int)=true∧yh r=true:=by simpa [yh] using hs
    have hyr:yh (y::r)=true:=by simp [yh,h0.2.1];simpa [yh] using h0.2.2
    simp only [quoF] at h
    split at h
    · cases h;exact⟨rfl,hyr⟩
    · split at h
      · rw [Option.map_eq_some_iff] at h
        obtain⟨q,hq,rfl⟩:=h
        have:=YL r q h0.2.2 hq
        exact⟨by simp only [yh,List.all_cons,h0.2.1,Bool.true_and];exact this.1,this.2⟩
      · rw [Option.map_eq_some_iff] at h
        obtain⟨q,hq,rfl⟩:=h
        have:=YL (y::r) q hyr hq
        exact⟨by simp only [yh,List.all_cons,h0.1,Bool.true_and];exact this.1,this.2⟩
theorem vC {s t:Str} (h:t.Sublist s) (k:yh s=true):yh t=true:=List.all_eq_true.2 fun c m=>List.all_eq_true.1 k c (h.subset m)
theorem tX (s:Str):(tokE s).Sublist s:=List.dropWhile_sublist _
theorem Wx (s:Str):(skS s).Sublist s:=List.dropWhile_sublist _
theorem zaU {s:Str} (hs:yh s=true) (h:(parM s).1=0):zem (parM s).2.1∧yh (parM s).2.2=true:=by
  unfold parM at h ⊢
  by_cases h1:tokS s=[]
  · rw [if_pos h1] at h;exact absurd (show(5:Int)=0 from h) (by decide)
  rw [if_neg h1] at h ⊢
  by_cases h2:zT (tokE s) 61=false
  · rw [if_pos h2] at h;exact absurd (show(5:Int)=0 from h) (by decide)
  rw [if_neg h2] at h ⊢
  have hn:=YT h1 (Z5 s)
  by_cases h3:zT ((tokE s).drop 1) 34=true
  · rw [if_pos h3] at h ⊢
    by_cases h4:(quoF ((tokE s).drop 2)).isSome=true
    · rw [if_pos h4] at h ⊢
      obtain⟨q,hq⟩:=Option.isSome_iff_exists.1 h4
      have hsd:yh ((tokE s).drop 2)=true:=vC ((List.drop_sublist _ _).trans (tX s)) hs
      have:=YL _ q hsd hq
      unfold quoV quoR
      rw [hq]
      exact⟨⟨hn.1,hn.2,this.1⟩,this.2⟩
    · rw [if_neg h4] at h;exact absurd (show(14:Int)=0 from h) (by decide)
  · rw [if_neg h3] at h ⊢
    by_cases h4:tokS ((tokE s).drop 1)=[]
    · rw [if_pos h4] at h;exact absurd (show(5:Int)=0 from h) (by decide)
    · rw [if_neg h4]
      exact⟨⟨hn.1,hn.2,zcl (Z5 _)⟩,vC ((tX _).trans ((List.drop_sublist _ _).trans (tX s))) hs⟩
def Sl:List Fld→List Fld→Prop
  |_,[]=>True
  |d,p::r=>zem p∧hasP d p.name=false∧Sl (d++[p]) r
theorem Xz: ∀ (l d:List Fld) (p:Fld),Sl d l→zem p→hasP (d++l) p.name=false→Sl d (l++[p])
  |[],d,p,_,h,k=>⟨h,by simpa using k,trivial⟩
  |q::l,d,p,h,hp,k=>⟨h.1,h.2.1,Xz l (d++[q]) p h.2.2 hp (by simpa using k)⟩
theorem VX: ∀ (n:Nat) (s:Str) (d:List Fld),yh s=true→Sl [] d→d.length≤8→(medL n s d).1=0→Sl [] (medL n s d).2.1∧(medL n s d).2.1.length≤8
  |0,s,d,_,_,_,h=>absurd (show(5:Int)=0 from h) (by decide)
  | n + 1, s,d,hs,hd,hl,h=>by
    rw [medL] at h ⊢
    by_cases h1:zT s 59=true
    · rw [if_pos h1] at h ⊢
      have hs1:yh (skS (s.drop 1))=true:=vC ((Wx _).trans (List.drop_sublist _ _)) hs
      by_cases h2:(parM (skS (s.drop 1))).1=0
      · rw [if_neg (fun e=>e h2)] at h ⊢
        obtain⟨g1,g2⟩:=zaU hs1 h2
        by_cases h3:(getP d (parM (skS (s.drop 1))).2.1.name).2=true
        · rw [if_pos h3] at h;exact absurd (show(9:Int)=0 from h) (by decide)
        · rw [if_neg h3] at h ⊢
          by_cases h4:d.length=8
          · rw [if_pos h4] at h;exact absurd (show(8:Int)=0 from h) (by decide)
          · rw [if_neg h4] at h ⊢
            refine VX n _ _ (vC (Wx _) g2) (Xz d [] _ hd g1 ?_) (by simp;omega) h
            rw [List.nil_append,← zcO];simpa using h3
      · rw [if_pos h2] at h;exact absurd h h2
    · rw [if_neg h1] at h ⊢
      by_cases h2:s=[]
      · rw [if_pos h2];exact⟨hd,hl⟩
      · rw [if_neg h2] at h;exact absurd (show(5:Int)=0 from h) (by decide)
theorem VY {w s:Str} (hw:zcd w) (hs:yh s=true) (h:(medB w s).1=0):zcd (medB w s).2.1.word∧Sl [] (medB w s).2.1.params∧(medB w s).2.1.params.length≤8:=
  ⟨hw,VX _ _ [] (vC (Wx s) hs) trivial (by simp) h⟩
theorem QS {s:Str} (h:(yA s).2=0):zcd (yA s).1.word∧Sl [] (yA s).1.params∧(yA s).1.params.length≤8:=by
  unfold yA at h ⊢
  by_cases h1:yh s=false
  · rw [if_pos h1] at h;exact absurd (show(3:Int)=0 from h) (by decide)
  rw [if_neg h1] at h ⊢
  have hs:yh s=true:=by simpa using h1
  by_cases h2:(yD s).1=0
  · rw [if_pos h2]
    simp only
    unfold yD at h2 ⊢
    have hk:yh (skS s)=true:=vC (Wx s) hs
    generalize skS s=t at *
    unfold medA at h2 ⊢
    by_cases h3:tokS t=[]
    · rw [if_pos h3] at h2;exact absurd (show(5:Int)=0 from h2) (by decide)
    rw [if_neg h3] at h2 ⊢
    have ht:=YT h3 (Z5 t)
    by_cases h4:zT (tokE t) 47=true
    · rw [if_pos h4] at h2 ⊢
      by_cases h5:tokS ((tokE t).drop 1)=[]
      · rw [if_pos h5] at h2;exact absurd (show(5:Int)=0 from h2) (by decide)
      · rw [if_neg h5] at h2 ⊢
        have hu:=YT h5 (Z5 _)
        exact VY (.inr ⟨_,_,rfl,ht.1,hu.1,ht.2,hu.2⟩) (vC ((tX _).trans ((List.drop_sublist _ _).trans (tX t))) hk) h2
    · rw [if_neg h4] at h2 ⊢
      exact VY (.inl ht) (vC (tX t) hk) h2
  · rw [if_neg h2] at h;exact absurd h h2
theorem QO {s:Str} (h:(yA s).2≠0):(yA s).1=⟨[],[]⟩:=by
  unfold yA at h ⊢
  by_cases h1:yh s=false
  · rw [if_pos h1]
  · rw [if_neg h1] at h ⊢
    by_cases h2:(yD s).1=0
    · rw [if_pos h2] at h;exact absurd rfl h
    · rw [if_neg h2]
end Go.Proofs.YtlpmdnffdmdahaaGreatDoor
namespace Go.Proofs.YtlpmdnffdmdahaaGreatDoor
open Go Go.Sep Go.Ab
set_option maxRecDepth 100000
def sumP:List Fld→Nat
  |[]=>0
  |f::r=>f.name.length+f.value.length+sumP r
theorem SC: ∀ {l:List Fld} {f:Fld},f ∈ l→f.name.length+f.value.length≤sumP l
  | g::r,f,h=>by
    rcases List.mem_cons.1 h with rfl|h
    · exact Nat.le_add_right _ _
    · exact Nat.le_trans (SC h) (Nat.le_add_left _ _)
theorem VD: ∀ {l:List Fld} {i:Nat} (d:Fld),i<l.length→sumP (l.take (i+1))=sumP (l.take i)+((l.getD i d).name.length+(l.getD i d).value.length)
  |g::r,0,d,_=>by simp [sumP]
  | g::r,i+1,d,h=>by
    have:=VD (l:=r) (i:=i) d (by simpa using h)
    rw [List.take_succ_cons,List.take_succ_cons,List.getD_cons_succ,sumP,sumP,this];omega
def Y2 (w:Str) (l:List Fld):Bool:=decide (50<l.length)||decide (2000<w.length+sumP (l.take 100))
theorem zbs {w:Str} {l:List Fld} (h:Y2 w l=false):l.length≤50∧w.length≤2000∧∀ f ∈ l,f.name.length≤2000∧f.value.length≤2000:=by
  unfold Y2 at h
  simp only [Bool.or_eq_false_iff,decide_eq_false_iff_not] at h
  rw [List.take_of_length_le (by omega)] at h
  exact⟨by omega,by omega,fun f hf=>by have:=SC hf;omega⟩
set_option maxHeartbeats 1000000 in
theorem zd4 (w:Str) (l:List Fld) (hneed:w.length≤140737488355328∧l.length≤140737488355328∧∀ f ∈ l,f.name.length≤140737488355328∧f.value.length≤140737488355328):Spc Tryz.prog 6 [.v (.agg [(.p (.str w)),(.p (.list .fld l))])] [] (.ret (.v (.one (.p (.bool ((Y2 w l))))))) []:=by
  obtain⟨hw,hl,hf⟩:=hneed
  generalize hr:Y2 w l=r
  refine spcG zJ mixed Tryz.func6 (by kernel_rfl) { keep:=some [0,1,2,3,4]} [] (by kernel_rfl) ?_
  intro I X hI hX
  refine zy (.code 0 [1,1,0,1,0] ⟨[(4,(.v (.one (.p (.int .i64 0))))),(3,(.v (.one (.p (.int .i64 (I.len (α:=UInt8) w)))))),(2,(.v (.one (.p (.val (.bool .false)))))),(1,(.v (.one (.ptr 0 0)))),(0,(.v (.agg [(.p (.str w)),(.p (.list .fld l))])))],[(.obj 24 [(.p (.str w)),(.p (.list .fld l))])],44,none⟩) (by kernel_rfl) ?_
  simp only [zN]
  have hgr:Y2 w l=(decide (50<l.length)||decide (2000<w.length+sumP (l.take 100))):=rfl
  have hcl:=hgr.symm.trans hr
  clear hgr hr
  rw [show I.len (α:=UInt8) w=(w.length:Int) by subst hI;rfl]
  refine zQ hI zJ mixed [] hX [1,3,4] (fun(g:Nat × Int)=>match g with|(i,n)=>i≤l.length∧i≤100∧n=(w.length:Int)+sumP (l.take i)∧sumP (l.take i)≤i * 281474976710656) (fun(g:Nat × Int)=>match g with|(i,n)=>⟨[(1,.v (.one (.ptr 0 0))),(3,.v (.one (.p (.int .i64 n)))),(4,.v (.one (.p (.int .i64 i))))],[.pack [.obj 24 [(.p (.str w)),(.p (.list .fld l))]]],44,none⟩) (fun(g:Nat × Int)=>match g with|(i,n)=>l.length - i) (0,(w.length:Int)) (by kernel_rfl) (by kernel_rfl) ?_ ?_
  · exact⟨Nat.zero_le _,Nat.zero_le _,by simp [sumP],by simp [sumP]⟩
  rintro⟨i,n⟩ ⟨h1,h2,h3,h4⟩ A hA
  have hx:i<l.length→l.getD i ⟨[],[]⟩ ∈ l:=fun h=>by rw [show l.getD i ⟨[],[]⟩=l[i] by simp [h]];exact List.getElem_mem h
  have hff:=fun h=>hf _ (hx h)
  have hst:=fun(h:i<l.length)=>VD (l:=l) (i:=i) ⟨[],[]⟩ h
  have hmo:=fun(h:i<l.length) (k:i<100) (n':Int) (e:n'=(w.length:Int)+sumP (l.take (i+1)))=>hA (i+1,n') ⟨by show i+1≤l.length;omega,by show i+1≤100;omega,e,by show sumP (l.take (i+1))≤(i+1) * 281474976710656;have:=hff h;rw [hst h];omega⟩ (by show l.length - (i+1)<l.length - i;omega)
  simp only [Int.natCast_add,Int.natCast_one] at hmo
  have hend: ¬ (i<l.length∧i<100)→sumP (l.take i)=sumP (l.take 100):=fun h=>by
    by_cases k:i<100
    · rw [List.take_of_length_le (show l.length≤i by omega),List.take_of_length_le (show l.length≤100 by omega)]
    · rw [show i=100 by omega]
  have e1:(50:Int)<l.length→true=r:=fun h=>by rw [← hcl,decide_eq_true (show 50<l.length by omega)];rfl
  have e2: ¬ (i<l.length∧i<100)→¬ (50:Int)<l.length→decide (2000<n)=r:=fun h k=>by
    rw [← hcl,decide_eq_false (show ¬ 50<l.length by omega),Bool.false_or,h3,hend h,Bool.eq_iff_iff,decide_eq_true_iff,decide_eq_true_iff];omega
  clear hcl hend hA hx hf
  refine zy (let y0:=I.add (I.len (α:=UInt8) (Fld.name (I.get (α:=Fld) l (Fld.mk ([]:Str) ([]:Str)) (Nat.cast i)))) (I.len (α:=UInt8) (Fld.value (I.get (α:=Fld) l (Fld.mk ([]:Str) ([]:Str)) (Nat.cast i))));let y1:=I.inb (Nat.cast i) (I.len (α:=Fld) l);.br (I.ilt (Nat.cast i) (I.len (α:=Fld) l)) (.br (I.ilt (Nat.cast i) 100) (.need y1 (.need y1 (.need y1 (.need y1 (.need (I.inr Go.IntKind.i64 y0) (.need (I.inr Go.IntKind.i64 (I.add n y0)) (.need (I.inr Go.IntKind.i64 (I.add (Nat.cast i) 1)) (.need (A ⟨[(1,(.v (.one (.ptr 0 0)))),(3,(.v (.one (.p (.int .i64 (I.add n y0)))))),(4,(.v (.one (.p (.int .i64 (I.add (Nat.cast i) 1))))))],[(.pack [(.obj 24 [(.p (.str w)),(.p (.list .fld l))])])],44,none⟩) .qed)))))))) (.br (I.ilt 50 (I.len (α:=Fld) l)) (.fin (.ret (.v (.one (.p (.bool Bool.true))))) []) (.fin (.ret (.v (.one (.p (.bool (I.ilt 2000 n)))))) []))) (.br (I.ilt 50 (I.len (α:=Fld) l)) (.fin (.ret (.v (.one (.p (.bool Bool.true))))) []) (.fin (.ret (.v (.one (.p (.bool (I.ilt 2000 n)))))) []))) (by kernel_rfl) ?_
  simp only [zN]
  subst hI
  simp only [nrmA,nrmB,nrlB,reduceCtorEq,HO.pack.injEq,HO.obj.injEq]
  generalize l.getD i ⟨[],[]⟩=f at *
  generalize l.take i=li at *
  (repeat' (first|refine And.intro ?_ ?_|intro _))<;>first|omega|exact True.intro|exact False.elim ‹False›|skip
  all_goals first
    |(have:=hff (by omega);omega)
    |omega
    |exact e1 ‹_›
    |exact e2 (by omega) ‹_›
    |(refine hmo (by omega) (by omega) _ ?_;rw [hst (by omega),h3];omega)
def qJ (I:Alg) (args:List D) (hp:List HO):Option CT:=match args,hp with
  |[.v (.agg [(.p (.str w)),(.p (.list .fld l))])],[]=>(fun(w:Str) (l:List Fld)=>(some (.one ⟨I.hid (w.length≤140737488355328∧l.length≤140737488355328∧∀ f ∈ l,f.name.length≤140737488355328∧f.value.length≤140737488355328),(.ret (.v (.one (.p (.bool (I.hid ((Y2 w l)))))))),[]⟩):Option CT)) w l
  |_,_=>none
theorem Ul:yw Tryz.prog 6 (qJ alg):=by
  intro args hp r h
  unfold qJ at h
  split at h
  · cases h;exact fun hn=>zd4 _ _ hn
  · cases h
def zbu:Know Tryz.prog:=⟨6,qJ,Ul⟩
def zbt:Know Tryz.prog:=⟨6,fun I=>yE I (qJ I),zA Ul⟩
set_option maxHeartbeats 1000000 in
theorem zaV:Spc Tryz.prog 5 [] [] (.ret (.v (.one (.p (.bool true))))) []:=by
  refine spcG zJ mixed Tryz.func5 (by kernel_rfl) { keep:=some [0,1,2,3,4,5,6]} [Zl,Zk,VQ,VP,Ro,Rn] (by kernel_rfl) ?_
  intro I X hI hX
  refine zy (.need (I.hid (α:=(Prop)) (LE.le (List.length (Array.toList (List.toArray ([70,111,114,109,45,68,97,116,97,32,59,32,78,97,109,101,61,34,97,92,34,98,34,59,32,120,61,49]:List UInt8)))) 1000000)) (.need (I.hid (α:=(Prop)) (LE.le (List.length (I.hid (α:=(List Go.Ab.Fld)) ([(Prod.fst (Prod.snd (Go.Proofs.YtlpmdnffdmdahaaGreatDoor.parM (Go.Proofs.YtlpmdnffdmdahaaGreatDoor.skS (List.drop 1 (Go.Proofs.YtlpmdnffdmdahaaGreatDoor.skS (Go.Proofs.YtlpmdnffdmdahaaGreatDoor.tokE (Go.Proofs.YtlpmdnffdmdahaaGreatDoor.skS (Array.toList (List.toArray ([70,111,114,109,45,68,97,116,97,32,59,32,78,97,109,101,61,34,97,92,34,98,34,59,32,120,61,49]:List UInt8))))))))))),(Prod.fst (Prod.snd (Go.Proofs.YtlpmdnffdmdahaaGreatDoor.parM (Go.Proofs.YtlpmdnffdmdahaaGreatDoor.skS (List.drop 1 (Go.Proofs.YtlpmdnffdmdahaaGreatDoor.skS (Prod.snd (Prod.snd (Go.Proofs.YtlpmdnffdmdahaaGreatDoor.parM (Go.Proofs.YtlpmdnffdmdahaaGreatDoor.skS (List.drop 1 (Go.Proofs.YtlpmdnffdmdahaaGreatDoor.skS (Go.Proofs.YtlpmdnffdmdahaaGreatDoor.tokE (Go.Proofs.YtlpmdnffdmdahaaGreatDoor.skS (Array.toList (List.toArray ([70,111,114,109,45,68,97,116,97,32,59,32,78,97,109,101,61,34,97,92,34,98,34,59,32,120,61,49]:List UInt8)))))))))))))))))]:List Go.Ab.Fld))) 1000000)) (.need (I.hid (α:=(Prop)) (And (And (LE.le (List.length (I.hid (α:=(List UInt8)) ([(Go.Proofs.YtlpmdnffdmdahaaGreatDoor.lowC (70:UInt8)),(Go.Proofs.YtlpmdnffdmdahaaGreatDoor.lowC (111:UInt8)),(Go.Proofs.YtlpmdnffdmdahaaGreatDoor.lowC (114:UInt8)),(Go.Proofs.YtlpmdnffdmdahaaGreatDoor.lowC (109:UInt8)),(Go.Proofs.YtlpmdnffdmdahaaGreatDoor.lowC (45:UInt8)),(Go.Proofs.YtlpmdnffdmdahaaGreatDoor.lowC (68:UInt8)),(Go.Proofs.YtlpmdnffdmdahaaGreatDoor.lowC (97:UInt8)),(Go.Proofs.YtlpmdnffdmdahaaGreatDoor.lowC (116:UInt8)),(Go.Proofs.YtlpmdnffdmdahaaGreatDoor.lowC (97:UInt8))]:List UInt8))) 100000) (LE.le (List.length (I.hid (α:=(List Go.Ab.Fld)) ([(Prod.fst (Prod.snd (Go.Proofs.YtlpmdnffdmdahaaGreatDoor.parM (Go.Proofs.YtlpmdnffdmdahaaGreatDoor.skS (List.drop 1 (Go.Proofs.YtlpmdnffdmdahaaGreatDoor.skS (Go.Proofs.YtlpmdnffdmdahaaGreatDoor.tokE (Go.Proofs.YtlpmdnffdmdahaaGreatDoor.skS (Array.toList (List.toArray ([70,111,114,109,45,68,97,116,97,32,59,32,78,97,109,101,61,34,97,92,34,98,34,59,32,120,61,49]:List UInt8))))))))))),(Prod.fst (Prod.snd (Go.Proofs.YtlpmdnffdmdahaaGreatDoor.parM (Go.Proofs.YtlpmdnffdmdahaaGreatDoor.skS (List.drop 1 (Go.Proofs.YtlpmdnffdmdahaaGreatDoor.skS (Prod.snd (Prod.snd (Go.Proofs.YtlpmdnffdmdahaaGreatDoor.parM (Go.Proofs.YtlpmdnffdmdahaaGreatDoor.skS (List.drop 1 (Go.Proofs.YtlpmdnffdmdahaaGreatDoor.skS (Go.Proofs.YtlpmdnffdmdahaaGreatDoor.tokE (Go.Proofs.YtlpmdnffdmdahaaGreatDoor.skS (Array.toList (List.toArray ([70,111,114,109,45,68,97,116,97,32,59,32,78,97,109,101,61,34,97,92,34,98,34,59,32,120,61,49]:List UInt8)))))))))))))))))]:List Go.Ab.Fld))) 1000000)) (∀ (f:Fld),
    f ∈
        I.hid
          (yA
                (ByteArray.mk
                      #[70,111,114,109,45,68,97,116,97,32,59,32,78,97,109,101,61,34,97,92,34,98,34,
                        59,32,120,61,49]).data.toList).fst.params→
      List.length f.name≤100000∧List.length f.value≤100000))) (.br (I.ieq (I.hid (α:=Int) (Prod.snd (Go.Proofs.YtlpmdnffdmdahaaGreatDoor.yA (Array.toList (List.toArray ([70,111,114,109,45,68,97,116,97,32,59,32,78,97,109,101,61,34,97,92,34,98,34,59,32,120,61,49]:List UInt8)))))) 0) (.br (I.ieq (I.hid (α:=Int) (Prod.snd (Go.Proofs.YtlpmdnffdmdahaaGreatDoor.uV (I.hid (α:=(List UInt8)) ([(Go.Proofs.YtlpmdnffdmdahaaGreatDoor.lowC (70:UInt8)),(Go.Proofs.YtlpmdnffdmdahaaGreatDoor.lowC (111:UInt8)),(Go.Proofs.YtlpmdnffdmdahaaGreatDoor.lowC (114:UInt8)),(Go.Proofs.YtlpmdnffdmdahaaGreatDoor.lowC (109:UInt8)),(Go.Proofs.YtlpmdnffdmdahaaGreatDoor.lowC (45:UInt8)),(Go.Proofs.YtlpmdnffdmdahaaGreatDoor.lowC (68:UInt8)),(Go.Proofs.YtlpmdnffdmdahaaGreatDoor.lowC (97:UInt8)),(Go.Proofs.YtlpmdnffdmdahaaGreatDoor.lowC (116:UInt8)),(Go.Proofs.YtlpmdnffdmdahaaGreatDoor.lowC (97:UInt8))]:List UInt8)) (I.hid (α:=(List Go.Ab.Fld)) ([(Prod.fst (Prod.snd (Go.Proofs.YtlpmdnffdmdahaaGreatDoor.parM (Go.Proofs.YtlpmdnffdmdahaaGreatDoor.skS (List.drop 1 (Go.Proofs.YtlpmdnffdmdahaaGreatDoor.skS (Go.Proofs.YtlpmdnffdmdahaaGreatDoor.tokE (Go.Proofs.YtlpmdnffdmdahaaGreatDoor.skS (Array.toList (List.toArray ([70,111,114,109,45,68,97,116,97,32,59,32,78,97,109,101,61,34,97,92,34,98,34,59,32,120,61,49]:List UInt8))))))))))),(Prod.fst (Prod.snd (Go.Proofs.YtlpmdnffdmdahaaGreatDoor.parM (Go.Proofs.YtlpmdnffdmdahaaGreatDoor.skS (List.drop 1 (Go.Proofs.YtlpmdnffdmdahaaGreatDoor.skS (Prod.snd (Prod.snd (Go.Proofs.YtlpmdnffdmdahaaGreatDoor.parM (Go.Proofs.YtlpmdnffdmdahaaGreatDoor.skS (List.drop 1 (Go.Proofs.YtlpmdnffdmdahaaGreatDoor.skS (Go.Proofs.YtlpmdnffdmdahaaGreatDoor.tokE (Go.Proofs.YtlpmdnffdmdahaaGreatDoor.skS (Array.toList (List.toArray ([70,111,114,109,45,68,97,116,97,32,59,32,78,97,109,101,61,34,97,92,34,98,34,59,32,120,61,49]:List UInt8)))))))))))))))))]:List Go.Ab.Fld))))) 0) (.br (I.hid (α:=Bool) (Prod.snd (Go.Proofs.YtlpmdnffdmdahaaGreatDoor.getP (I.hid (α:=(List Go.Ab.Fld)) ([(Prod.fst (Prod.snd (Go.Proofs.YtlpmdnffdmdahaaGreatDoor.parM (Go.Proofs.YtlpmdnffdmdahaaGreatDoor.skS (List.drop 1 (Go.Proofs.YtlpmdnffdmdahaaGreatDoor.skS (Go.Proofs.YtlpmdnffdmdahaaGreatDoor.tokE (Go.Proofs.YtlpmdnffdmdahaaGreatDoor.skS (Array.toList (List.toArray ([70,111,114,109,45,68,97,116,97,32,59,32,78,97,109,101,61,34,97,92,34,98,34,59,32,120,61,49]:List UInt8))))))))))),(Prod.fst (Prod.snd (Go.Proofs.YtlpmdnffdmdahaaGreatDoor.parM (Go.Proofs.YtlpmdnffdmdahaaGreatDoor.skS (List.drop 1 (Go.Proofs.YtlpmdnffdmdahaaGreatDoor.skS (Prod.snd (Prod.snd (Go.Proofs.YtlpmdnffdmdahaaGreatDoor.parM (Go.Proofs.YtlpmdnffdmdahaaGreatDoor.skS (List.drop 1 (Go.Proofs.YtlpmdnffdmdahaaGreatDoor.skS (Go.Proofs.YtlpmdnffdmdahaaGreatDoor.tokE (Go.Proofs.YtlpmdnffdmdahaaGreatDoor.skS (Array.toList (List.toArray ([70,111,114,109,45,68,97,116,97,32,59,32,78,97,109,101,61,34,97,92,34,98,34,59,32,120,61,49]:List UInt8)))))))))))))))))]:List Go.Ab.Fld)) (Array.toList (List.toArray ([110,97,109,101]:List UInt8)))))) (.br (I.seq (I.hid (α:=(List UInt8)) (Prod.fst (Go.Proofs.YtlpmdnffdmdahaaGreatDoor.getP (I.hid (α:=(List Go.Ab.Fld)) ([(Prod.fst (Prod.snd (Go.Proofs.YtlpmdnffdmdahaaGreatDoor.parM (Go.Proofs.YtlpmdnffdmdahaaGreatDoor.skS (List.drop 1 (Go.Proofs.YtlpmdnffdmdahaaGreatDoor.skS (Go.Proofs.YtlpmdnffdmdahaaGreatDoor.tokE (Go.Proofs.YtlpmdnffdmdahaaGreatDoor.skS (Array.toList (List.toArray ([70,111,114,109,45,68,97,116,97,32,59,32,78,97,109,101,61,34,97,92,34,98,34,59,32,120,61,49]:List UInt8))))))))))),(Prod.fst (Prod.snd (Go.Proofs.YtlpmdnffdmdahaaGreatDoor.parM (Go.Proofs.YtlpmdnffdmdahaaGreatDoor.skS (List.drop 1 (Go.Proofs.YtlpmdnffdmdahaaGreatDoor.skS (Prod.snd (Prod.snd (Go.Proofs.YtlpmdnffdmdahaaGreatDoor.parM (Go.Proofs.YtlpmdnffdmdahaaGreatDoor.skS (List.drop 1 (Go.Proofs.YtlpmdnffdmdahaaGreatDoor.skS (Go.Proofs.YtlpmdnffdmdahaaGreatDoor.tokE (Go.Proofs.YtlpmdnffdmdahaaGreatDoor.skS (Array.toList (List.toArray ([70,111,114,109,45,68,97,116,97,32,59,32,78,97,109,101,61,34,97,92,34,98,34,59,32,120,61,49]:List UInt8)))))))))))))))))]:List Go.Ab.Fld)) (Array.toList (List.toArray ([110,97,109,101]:List UInt8)))))) (Array.toList (List.toArray ([97,34,98]:List UInt8)))) (.fin (.ret (.v (.one (.p (.bool (I.seq (I.hid (α:=(List UInt8)) (Prod.fst (Go.Proofs.YtlpmdnffdmdahaaGreatDoor.uV (I.hid (α:=(List UInt8)) ([(Go.Proofs.YtlpmdnffdmdahaaGreatDoor.lowC (70:UInt8)),(Go.Proofs.YtlpmdnffdmdahaaGreatDoor.lowC (111:UInt8)),(Go.Proofs.YtlpmdnffdmdahaaGreatDoor.lowC (114:UInt8)),(Go.Proofs.YtlpmdnffdmdahaaGreatDoor.lowC (109:UInt8)),(Go.Proofs.YtlpmdnffdmdahaaGreatDoor.lowC (45:UInt8)),(Go.Proofs.YtlpmdnffdmdahaaGreatDoor.lowC (68:UInt8)),(Go.Proofs.YtlpmdnffdmdahaaGreatDoor.lowC (97:UInt8)),(Go.Proofs.YtlpmdnffdmdahaaGreatDoor.lowC (116:UInt8)),(Go.Proofs.YtlpmdnffdmdahaaGreatDoor.lowC (97:UInt8))]:List UInt8)) (I.hid (α:=(List Go.Ab.Fld)) ([(Prod.fst (Prod.snd (Go.Proofs.YtlpmdnffdmdahaaGreatDoor.parM (Go.Proofs.YtlpmdnffdmdahaaGreatDoor.skS (List.drop 1 (Go.Proofs.YtlpmdnffdmdahaaGreatDoor.skS (Go.Proofs.YtlpmdnffdmdahaaGreatDoor.tokE (Go.Proofs.YtlpmdnffdmdahaaGreatDoor.skS (Array.toList (List.toArray ([70,111,114,109,45,68,97,116,97,32,59,32,78,97,109,101,61,34,97,92,34,98,34,59,32,120,61,49]:List UInt8))))))))))),(Prod.fst (Prod.snd (Go.Proofs.YtlpmdnffdmdahaaGreatDoor.parM (Go.Proofs.YtlpmdnffdmdahaaGreatDoor.skS (List.drop 1 (Go.Proofs.YtlpmdnffdmdahaaGreatDoor.skS (Prod.snd (Prod.snd (Go.Proofs.YtlpmdnffdmdahaaGreatDoor.parM (Go.Proofs.YtlpmdnffdmdahaaGreatDoor.skS (List.drop 1 (Go.Proofs.YtlpmdnffdmdahaaGreatDoor.skS (Go.Proofs.YtlpmdnffdmdahaaGreatDoor.tokE (Go.Proofs.YtlpmdnffdmdahaaGreatDoor.skS (Array.toList (List.toArray ([70,111,114,109,45,68,97,116,97,32,59,32,78,97,109,101,61,34,97,92,34,98,34,59,32,120,61,49]:List UInt8)))))))))))))))))]:List Go.Ab.Fld))))) (Array.toList (List.toArray ([102,111,114,109,45,100,97,116,97,59,32,110,97,109,101,61,34,97,92,34,98,34,59,32,120,61,49]:List UInt8))))))))) []) (.fin (.ret (.v (.one (.p (.bool Bool.false))))) [])) (.fin (.ret (.v (.one (.p (.bool Bool.false))))) [])) (.fin (.ret (.v (.one (.p (.bool Bool.false))))) [])) (.fin (.ret (.v (.one (.p (.bool Bool.false))))) []))))) (by kernel_rfl) ?_
  simp only [zN]
  subst hI
  simp only [nrmA,nrmB,nrlB,reduceCtorEq]
  first|decide+kernel|trace_state
def um (I:Alg) (args:List D) (hp:List HO):Option CT:=match args,hp with
  |[],[]=>(fun(_:Unit)=>(some (.one ⟨I.hid (True),(.ret (.v (.one (.p (.bool true))))),[]⟩):Option CT)) ()
  |_,_=>none
theorem YO:yw Tryz.prog 5 (um alg):=by
  intro args hp r h
  unfold um at h
  split at h
  · cases h;exact fun hn=>zaV
  · cases h
def U4:Know Tryz.prog:=⟨5,um,YO⟩
def U3:Know Tryz.prog:=⟨5,fun I=>yE I (um I),zA YO⟩
end Go.Proofs.YtlpmdnffdmdahaaGreatDoor
namespace Go.Proofs.YtlpmdnffdmdahaaGreatDoor
open Go Go.Sep Go.Ab
set_option maxRecDepth 100000
theorem zcS (s:Str) (c:UInt8):x9 [c] s 0=Lib.indexByte s c:=by
  rw [X8]
  split
  · rename_i h;rw [h]
  · omega
theorem zcN (l:List Fld) (n:Str):hasP l n=true↔∃ k,k<l.length∧(l.getD k ⟨[],[]⟩).name=n:=by
  unfold hasP ixP
  rw [decide_eq_true_iff]
  constructor
  · intro h
    split at h
    · rename_i hlt
      refine⟨_,hlt,?_⟩
      have:=List.findIdx_getElem (xs:=l) (p:=fun f=>f.name == n) (w:=hlt)
      rw [show l.getD (l.findIdx fun f=>f.name == n) ⟨[],[]⟩=l[l.findIdx fun f=>f.name == n] by simp [hlt]]
      simpa using this
    · omega
  · rintro⟨k,hk,e⟩
    rw [if_pos]
    · omega
    · refine Nat.lt_of_le_of_lt (Nat.le_of_not_lt fun hlt=> ?_) hk
      have:=List.not_of_lt_findIdx hlt
      rw [show l.getD k ⟨[],[]⟩=l[k] by simp [hk]] at e
      simp [e] at this
theorem Uk {l:List Fld} {i:Nat} (h:i≤l.length) (n:Str):hasP (l.take i) n=true↔∃ k,k<i∧(l.getD k ⟨[],[]⟩).name=n:=by
  rw [zcN]
  constructor
  · rintro⟨k,hk,e⟩
    rw [List.length_take,Nat.min_eq_left h] at hk
    exact⟨k,hk,by rw [← e];simp [List.getD_eq_getElem?_getD,List.getElem?_take,hk]⟩
  · rintro⟨k,hk,e⟩
    exact⟨k,by rw [List.length_take,Nat.min_eq_left h];exact hk,by rw [← e];simp [List.getD_eq_getElem?_getD,List.getElem?_take,hk]⟩
theorem zbH {s:Str} {k:Nat} (h:k<s.length):escS (s.drop k)=(if s.getD k 0=34∨s.getD k 0=92 then [92,s.getD k 0] else [s.getD k 0])++escS (s.drop (k+1)):=by
  rw [List.drop_eq_getElem_cons h,show s.getD k 0=s[k] by simp [h]]
  rfl
set_option maxHeartbeats 4000000 in
theorem zez (w:Str) (l:List Fld) (hneed:(w.length≤100000∧l.length≤1000000)∧∀ f ∈ l,f.name.length≤100000∧f.value.length≤100000):Spc Tryz.prog 10 [.v (.agg [(.p (.str w)),(.p (.list .fld l))])] [] (.ret (.tup [(.one (.p (.str ((uV w l).1)))),(.one (.p (.int .i64 ((uV w l).2))))])) []:=by
  obtain⟨⟨hw,hl⟩,hf⟩:=hneed
  have hx:=vK w 47
  have hA0:Lib.indexByte w 47<0→Yx w=(zO w&&decide (lowS w=w)):=fun h=>by
    unfold Yx cutB
    rw [if_neg (by omega)];rfl
  have hA1: ¬ Lib.indexByte w 47<0→Yx w=(zO (w.take (Lib.indexByte w 47).toNat)&&(zO (List.take (w.length - (Lib.indexByte w 47+1).toNat) (w.drop (Lib.indexByte w 47+1).toNat))&&decide (lowS w=w))):=fun h=>by
    unfold Yx cutB
    have e:List.take (w.length - (Lib.indexByte w 47+1).toNat) (w.drop (Lib.indexByte w 47+1).toNat)=w.drop (Lib.indexByte w 47+1).toNat:=List.take_of_length_le (by rw [List.length_drop];exact Nat.le_refl _)
    rw [if_pos (by omega),e,show(Lib.indexByte w 47+1).toNat=(Lib.indexByte w 47).toNat+1 by omega];rfl
  generalize hr:uV w l=r
  unfold uV at hr
  refine spcG zJ mixed Tryz.func10 (by kernel_rfl) { keep:=some [0,1,2,3,4,5,6,7,8,9,10]} [xI,xH,xE,xC,zV,zU,yJ,yI] (by kernel_rfl) ?_
  intro I X hI hX
  refine zy (let y0:=I.hid (α:=Int) (x9 ([47]:Str) w (0:Int));let y1:=I.cut (α:=UInt8) w (I.add y0 1) (I.len (α:=UInt8) w);let y2:=I.hid (α:=(Prop)) (LE.le (List.length w) 1000000);let y3:HO:=.obj 24 [(.p (.str w)),(.p (.list .fld l))];let y4:=I.seq (I.hid (α:=Str) (lowS w)) w;.need (I.hid (α:=(Prop)) (And (LE.le (List.length w) 1000000) (LE.le (List.length ([47]:Str)) 1000000))) (.need y2 (.br (I.ilt y0 0) (.br y4 (.need y2 (.br (I.bnot (I.hid (α:=Bool) (zO w))) (.fin (.ret (.tup [(.one (.p (.str ([]:Str)))),(.one (.p (.int .i64 5)))])) []) (.br (I.ilt 8 (I.len (α:=Fld) l)) (.fin (.ret (.tup [(.one (.p (.str ([]:Str)))),(.one (.p (.int .i64 8)))])) []) (.code 0 [1,1,1,1,1,1,1,0,1,0] ⟨[(7,(.v (.one (.p (.int .i64 0))))),(6,(.v (.one (.p (.str w))))),(5,(.v (.one (.p (.bool (I.hid (α:=Bool) (zO w))))))),(4,(.v (.one (.p (.int .i64 y0))))),(3,(.v (.one (.p (.int .i64 0))))),(2,(.v (.one (.p (.str ([]:Str)))))),(1,(.v (.one (.ptr 0 0)))),(0,(.v (.agg [(.p (.str w)),(.p (.list .fld l))])))],[y3,(.row .byte 5 w)],142,none⟩)))) (.fin (.ret (.tup [(.one (.p (.str ([]:Str)))),(.one (.p (.int .i64 5)))])) [])) (.br y4 (.need (I.cutb 0 y0 (I.len (α:=UInt8) w)) (.need (I.hid (α:=(Prop)) (LE.le (List.length (I.cut (α:=UInt8) w 0 y0)) 1000000)) (.br (I.hid (α:=Bool) (zO (I.cut (α:=UInt8) w 0 y0))) (.need (I.inr Go.IntKind.i64 (I.add y0 1)) (.need (I.cutb (I.add y0 1) (I.len (α:=UInt8) w) (I.len (α:=UInt8) w)) (.need (I.hid (α:=(Prop)) (LE.le (List.length y1) 1000000)) (.br (I.bnot (I.hid (α:=Bool) (zO y1))) (.fin (.ret (.tup [(.one (.p (.str ([]:Str)))),(.one (.p (.int .i64 5)))])) []) (.br (I.ilt 8 (I.len (α:=Fld) l)) (.fin (.ret (.tup [(.one (.p (.str ([]:Str)))),(.one (.p (.int .i64 8)))])) []) (.code 0 [1,1,1,1,1,1,1,0,1,0] ⟨[(7,(.v (.one (.p (.int .i64 0))))),(6,(.v (.one (.p (.str w))))),(5,(.v (.one (.p (.bool (I.hid (α:=Bool) (zO y1))))))),(4,(.v (.one (.p (.int .i64 y0))))),(3,(.v (.one (.p (.int .i64 0))))),(2,(.v (.one (.p (.str ([]:Str)))))),(1,(.v (.one (.ptr 0 0)))),(0,(.v (.agg [(.p (.str w)),(.p (.list .fld l))])))],[y3,(.row .byte 5 w)],142,none⟩)))))) (.fin (.ret (.tup [(.one (.p (.str ([]:Str)))),(.one (.p (.int .i64 5)))])) [])))) (.fin (.ret (.tup [(.one (.p (.str ([]:Str)))),(.one (.p (.int .i64 5)))])) []))))) (by kernel_rfl) ?_
  simp only [zN]
  rw [zcS]
  generalize Lib.indexByte w 47=k at *
  generalize Yx w=b at *
  have n1:k<0→¬ lowS w=w→b=false:=fun h e=>by rw [hA0 h,decide_eq_false e,Bool.and_false]
  have n2:k<0→zO w=false→b=false:=fun h e=>by rw [hA0 h,e,Bool.false_and]
  have n3:k<0→lowS w=w→zO w=true→b=true:=fun h e e1=>by rw [hA0 h,e1,decide_eq_true e];rfl
  have n4: ¬ k<0→¬ lowS w=w→b=false:=fun h e=>by rw [hA1 h,decide_eq_false e,Bool.and_false,Bool.and_false]
  have n5: ¬ k<0→zO (w.take k.toNat)=false→b=false:=fun h e=>by rw [hA1 h,e,Bool.false_and]
  have n6: ¬ k<0→zO (List.take (w.length - (k+1).toNat) (w.drop (k+1).toNat))=false→b=false:=fun h e=>by rw [hA1 h,e,Bool.false_and,Bool.and_false]
  have n7: ¬ k<0→lowS w=w→zO (w.take k.toNat)=true→zO (List.take (w.length - (k+1).toNat) (w.drop (k+1).toNat))=true→b=true:=fun h e e1 e2=>by rw [hA1 h,e1,e2,decide_eq_true e];rfl
  clear hA0 hA1
  have m1:b=false→([]=r.1∧(5:Int)=r.2):=fun e=>by rw [if_pos e] at hr;subst hr;exact⟨rfl,rfl⟩
  have m2:b=true→(8:Int)<(l.length:Int)→([]=r.1∧(8:Int)=r.2):=fun e h=>by rw [if_neg (by rw [e];decide),if_pos (by omega)] at hr;subst hr;exact⟨rfl,rfl⟩
  have m3:b=true→¬ (8:Int)<(l.length:Int)→txtL [] l w=r∧l.length≤8:=fun e h=>by rw [if_neg (by rw [e];decide),if_neg (by omega)] at hr;exact⟨hr,by omega⟩
  clear hr
  (repeat' (first|refine And.intro ?_ ?_|intro _))
  all_goals try(subst hI;(simp only [nrmA,nrmB,nrlB,reduceCtorEq] at *);first|done|trivial|omega|(simp only [List.length_cons,List.length_nil];omega)|(rw [List.length_take];omega)|(rw [List.length_drop];omega)|(refine m1 ?_;first|exact n1 ‹_› ‹_›|exact n2 ‹_› ‹_›|exact n4 ‹_› ‹_›|exact n5 ‹_› ‹_›|exact n6 ‹_› ‹_›)|(refine m2 ?_ ‹_›;first|exact n3 ‹_› ‹_› ‹_›|exact n7 ‹_› ‹_› ‹_› ‹_›))
  all_goals
    have hm3:txtL [] l w=r∧l.length≤8:=by
      subst hI
      simp only [nrmA,nrmB,nrlB,reduceCtorEq] at *
      refine m3 ?_ ‹_›
      first|exact n3 ‹_› ‹_› ‹_›|exact n7 ‹_› ‹_› ‹_› ‹_›
    obtain⟨hr1,hl8⟩:=hm3
    clear n1 n2 n3 n4 n5 n6 n7 m1 m2 m3
  refine zQ hI zJ mixed [xI,xH,xE,xC,zV,zU,yJ,yI] hX [1,6,7] (fun(g:Nat × Str)=>match g with|(i,a)=>i≤l.length∧txtL (l.take i) (l.drop i) a=r∧a.length≤100000+i * 300100) (fun(g:Nat × Str)=>match g with|(i,a)=>⟨[(1,.v (.one (.ptr 0 0))),(6,.v (.one (.p (.str a)))),(7,.v (.one (.p (.int .i64 i))))],[.pack [.obj 24 [(.p (.str w)),(.p (.list .fld l))]]],142,none⟩) (fun(g:Nat × Str)=>match g with|(i,a)=>l.length - i) (0,w) (by kernel_rfl) (by kernel_rfl) ?_ ?_
  · exact⟨Nat.zero_le _,hr1,by omega⟩
  rintro⟨i,a⟩ ⟨h1,h2,h3⟩ A hA
  have hx:i<l.length→l.getD i ⟨[],[]⟩ ∈ l:=fun h=>by rw [show l.getD i ⟨[],[]⟩=l[i] by simp [h]];exact List.getElem_mem h
  have hff:=fun h=>hf _ (hx h)
  have hx2:=fun(h:i<l.length)=>(UQ h ⟨[],[]⟩ a).symm.trans h2
  have hend: ¬ i<l.length→(a,(0:Int))=r:=fun h=>by rw [← h2,List.drop_of_length_le (by omega)];rfl
  have o1:i<l.length→zO (l.getD i ⟨[],[]⟩).name=false→([]=r.1∧(6:Int)=r.2):=fun h e=>by
    have h9:=hx2 h
    rw [if_pos (.inl e)] at h9;subst h9;exact⟨rfl,rfl⟩
  have o2:i<l.length→¬ lowS (l.getD i ⟨[],[]⟩).name=(l.getD i ⟨[],[]⟩).name→([]=r.1∧(6:Int)=r.2):=fun h e=>by
    have h9:=hx2 h
    rw [if_pos (.inr e)] at h9;subst h9;exact⟨rfl,rfl⟩
  have o3: ¬ i<l.length→(a=r.1∧(0:Int)=r.2):=fun h=>by
    have h9:=hend h
    subst h9;exact⟨rfl,rfl⟩
  have hgi:I.get (α:=Fld) l ⟨[],[]⟩ (i:Int)=l.getD i ⟨[],[]⟩:=by subst hI;rfl
  refine zy (let y0:=I.get (α:=Fld) l (Fld.mk ([]:Str) ([]:Str)) (Nat.cast i);let y1:=I.hid (α:=(Prop)) (LE.le (List.length (Fld.name y0)) 1000000);let y2:=I.inb (Nat.cast i) (I.len (α:=Fld) l);.br (I.ilt (Nat.cast i) (I.len (α:=Fld) l)) (.need y2 (.need y2 (.need y1 (.br (I.bnot (I.hid (α:=Bool) (zO (Fld.name y0)))) (.fin (.ret (.tup [(.one (.p (.str ([]:Str)))),(.one (.p (.int .i64 6)))])) []) (.need y1 (.br (I.bnot (I.seq (I.hid (α:=Str) (lowS (Fld.name y0))) (Fld.name y0))) (.fin (.ret (.tup [(.one (.p (.str ([]:Str)))),(.one (.p (.int .i64 6)))])) []) (.code 0 [1,0,0,1,1,0,1,0] ⟨[(9,(.v (.one (.p (.int .i64 0))))),(8,(.v (.one (.ptr 1 0)))),(1,(.v (.one (.ptr 0 0)))),(6,(.v (.one (.p (.str a))))),(7,(.v (.one (.p (.int .i64 (Nat.cast i))))))],[(.obj 24 [(.p (.str w)),(.p (.list .fld l))]),(.obj 37 [(.p (.str (Fld.name y0))),(.p (.str (Fld.value y0)))])],142,none⟩))))))) (.fin (.ret (.tup [(.one (.p (.str a))),(.one (.p (.int .i64 0)))])) [])) (by kernel_rfl) ?_
  simp only [zN]
  rw [hgi]
  generalize hfi:l.getD i ⟨[],[]⟩=f at *
  (repeat' (first|refine And.intro ?_ ?_|intro _))
  all_goals try(subst hI;(simp only [nrmA,nrmB,nrlB,reduceCtorEq] at *);first|done|trivial|omega|(have:=hff (by omega);omega)|exact o1 (by omega) ‹_›|exact o2 (by omega) ‹_›|exact o3 (by omega))
  have hfacts:i<l.length∧zO f.name=true∧lowS f.name=f.name:=by
    subst hI
    simp only [nrmA,nrmB,nrlB,reduceCtorEq] at *
    exact⟨by omega,‹_›,‹_›⟩
  obtain⟨hil,htk,hlo⟩:=hfacts
  have hfl:=hff hil
  have hx3:=hx2 hil
  rw [if_neg (by rintro(e|e);rw [htk] at e;cases e;exact e hlo)] at hx3
  clear hx hff hx2 hend o1 o2 o3 h2
  refine zQ hI zJ mixed [xI,xH,xE,xC,zV,zU,yJ,yI] hX [1,6,7,8,9] (fun(j:Nat)=>j≤i∧∀ k,k<j→(l.getD k ⟨[],[]⟩).name≠f.name) (fun(j:Nat)=>⟨[(1,.v (.one (.ptr 0 0))),(6,.v (.one (.p (.str a)))),(7,.v (.one (.p (.int .i64 i)))),(8,.v (.one (.ptr 1 0))),(9,.v (.one (.p (.int .i64 j))))],[.pack [.obj 24 [(.p (.str w)),(.p (.list .fld l))]],.pack [.obj 37 [(.p (.str f.name)),(.p (.str f.value))]]],142,none⟩) (fun(j:Nat)=>i - j) 0 (by kernel_rfl) (by kernel_rfl) ?_ ?_
  · exact⟨Nat.zero_le _,fun k h=>absurd h (Nat.not_lt_zero _)⟩
  rintro j ⟨g1,g2⟩ B hB
  have hgj:I.get (α:=Fld) l ⟨[],[]⟩ (j:Int)=l.getD j ⟨[],[]⟩:=by subst hI;rfl
  have hhp:=Uk (l:=l) (i:=i) h1 f.name
  have q1:j<i→(l.getD j ⟨[],[]⟩).name=f.name→([]=r.1∧(9:Int)=r.2):=fun h e=>by
    have h9:=hx3
    rw [if_pos (hhp.2 ⟨j,h,e⟩)] at h9;subst h9;exact⟨rfl,rfl⟩
  have q2:=fun(h:j<i) (e: ¬ (l.getD j ⟨[],[]⟩).name=f.name)=>hB (j+1) ⟨by omega,fun k hk=>if hk2:k<j then g2 k hk2 else by rw [show k=j by omega];exact e⟩ (by omega)
  simp only [Int.natCast_add,Int.natCast_one] at q2
  have hx4: ¬ j<i→(if yh f.value=false then([],3) else txtL (l.take (i+1)) (l.drop (i+1)) (a++([59,32]++f.name++[61]++quoM f.value)))=r:=fun h=>by
    have h9:=hx3
    rwa [if_neg (fun e=>by obtain⟨k,hk,e⟩:=hhp.1 e;exact g2 k (by omega) e)] at h9
  have q3: ¬ j<i→yh f.value=false→([]=r.1∧(3:Int)=r.2):=fun h e=>by
    have h9:=hx4 h
    rw [if_pos e] at h9;subst h9;exact⟨rfl,rfl⟩
  have q4: ¬ j<i→yh f.value=true→txtL (l.take (i+1)) (l.drop (i+1)) (a++([59,32]++f.name++[61]++quoM f.value))=r:=fun h e=>by
    have h9:=hx4 h
    rwa [if_neg (by rw [e];decide)] at h9
  have hqu:=Yf f.value
  have hbl:([59,32]++f.name++[61]++quoM f.value).length≤300100:=by simp only [List.length_append,List.length_cons,List.length_nil];omega
  have q5:=fun(c:Str) (hc:c=a++([59,32]++f.name++[61]++quoM f.value)) (h: ¬ j<i) (e:yh f.value=true)=>hA (i+1,c) ⟨by show i+1≤l.length;omega,by show txtL (l.take (i+1)) (l.drop (i+1)) c=r;rw [hc];exact q4 h e,by show c.length≤_;rw [hc,List.length_append];omega⟩ (by show l.length - (i+1)<l.length - i;omega)
  simp only [Int.natCast_add,Int.natCast_one] at q5
  have hq1:zO f.value=true→quoM f.value=f.value:=fun h=>if_pos h
  have hq2: ¬ zO f.value=true→quoM f.value=[34]++escS f.value++[34]:=fun h=>if_neg h
  clear hx3 hx4 q4 hhp g2 hA hB
  refine zy (let y0:=I.len (α:=UInt8) (I.app (α:=UInt8) a (I.app (α:=UInt8) (I.app (α:=UInt8) ([59,32]:Str) (Fld.name f)) ([61]:Str)));let y1:HO:=.pack [(.obj 24 [(.p (.str w)),(.p (.list .fld l))])];let y2:=I.hid (α:=(Prop)) (LE.le (List.length (Fld.value f)) 1000000);let y3:HO:=.obj 37 [(.p (.str (Fld.name f))),(.p (.str (Fld.value f)))];let y4:=I.inb (Nat.cast j) (I.len (α:=Fld) l);.br (I.ilt (Nat.cast j) (Nat.cast i)) (.need y4 (.need y4 (.br (I.seq (Fld.name (I.get (α:=Fld) l (Fld.mk ([]:Str) ([]:Str)) (Nat.cast j))) (Fld.name f)) (.fin (.ret (.tup [(.one (.p (.str ([]:Str)))),(.one (.p (.int .i64 9)))])) []) (.need (I.inr Go.IntKind.i64 (I.add (Nat.cast j) 1)) (.need (B ⟨[(1,(.v (.one (.ptr 0 0)))),(6,(.v (.one (.p (.str a))))),(7,(.v (.one (.p (.int .i64 (Nat.cast i)))))),(8,(.v (.one (.ptr 1 0)))),(9,(.v (.one (.p (.int .i64 (I.add (Nat.cast j) 1))))))],[y1,(.pack [y3])],142,none⟩) .qed))))) (.need y2 (.br (I.bnot (I.hid (α:=Bool) (yh (Fld.value f)))) (.fin (.ret (.tup [(.one (.p (.str ([]:Str)))),(.one (.p (.int .i64 3)))])) []) (.need (I.few (I.add (I.len (α:=UInt8) ([59,32]:Str)) (I.len (α:=UInt8) (Fld.name f))) 1000000000) (.need (I.few (I.add (I.len (α:=UInt8) (I.app (α:=UInt8) ([59,32]:Str) (Fld.name f))) (I.len (α:=UInt8) ([61]:Str))) 1000000000) (.need (I.few (I.add (I.len (α:=UInt8) a) (I.len (α:=UInt8) (I.app (α:=UInt8) (I.app (α:=UInt8) ([59,32]:Str) (Fld.name f)) ([61]:Str)))) 1000000000) (.need y2 (.br (I.hid (α:=Bool) (zO (Fld.value f))) (.need (I.few (I.add y0 (I.len (α:=UInt8) (Fld.value f))) 1000000000) (.need (I.inr Go.IntKind.i64 (I.add (Nat.cast i) 1)) (.need (A ⟨[(1,(.v (.one (.ptr 0 0)))),(6,(.v (.one (.p (.str (I.app (α:=UInt8) (I.app (α:=UInt8) a (I.app (α:=UInt8) (I.app (α:=UInt8) ([59,32]:Str) (Fld.name f)) ([61]:Str))) (Fld.value f))))))),(7,(.v (.one (.p (.int .i64 (I.add (Nat.cast i) 1))))))],[y1],142,none⟩) .qed))) (.need (I.few (I.add y0 (I.len (α:=UInt8) ([34]:Str))) 1000000000) (.code 1 [1,0,0,1,1,1,1,1,1,1,0,1,0] ⟨[(10,(.v (.one (.p (.int .i64 0))))),(6,(.v (.one (.p (.str (I.app (α:=UInt8) (I.app (α:=UInt8) a (I.app (α:=UInt8) (I.app (α:=UInt8) ([59,32]:Str) (Fld.name f)) ([61]:Str))) ([34]:Str))))))),(1,(.v (.one (.ptr 0 0)))),(7,(.v (.one (.p (.int .i64 (Nat.cast i)))))),(8,(.v (.one (.ptr 1 0)))),(9,(.v (.one (.p (.int .i64 (Nat.cast j))))))],[y1,y3],142,none⟩)))))))))) (by kernel_rfl) ?_
  simp only [zN]
  rw [hgj]
  (repeat' (first|refine And.intro ?_ ?_|intro _))
  all_goals try(subst hI;(simp only [nrmA,nrmB,nrlB,reduceCtorEq] at *);first|done|exact True.intro|omega|(simp only [List.length_append,List.length_cons,List.length_nil];omega)|exact q1 (by omega) ‹_›|exact q2 (by omega) ‹_›|exact q3 (by omega) ‹_›|exact q5 _ (by rw [hq1 ‹_›,List.append_assoc]) (by omega) ‹_›)
  have hfacts: ¬ j<i∧yh f.value=true∧zO f.value=false:=by
    subst hI
    simp only [nrmA,nrmB,nrlB,reduceCtorEq] at *
    exact⟨by omega,‹_›,‹_›⟩
  obtain⟨hji,hse,htv⟩:=hfacts
  have q6:=fun c hc=>q5 c hc hji hse
  rw [hq2 (by rw [htv];decide)] at q6 hbl
  clear q1 q2 q3 q5 hq1 hq2 hqu
  rw [show I.app (I.app a (I.app (I.app [59,32] f.name) [61])) [34]=a++([59,32]++f.name++[61])++[34] by subst hI;rfl]
  have hbl2:(a++([59,32]++f.name++[61])++[34]).length≤3000000:=by simp only [List.length_append,List.length_cons,List.length_nil] at hbl ⊢;omega
  have hes:a++([59,32]++f.name++[61]++([34]++escS f.value++[34]))=a++([59,32]++f.name++[61])++[34]++escS f.value++[34]:=by simp only [List.append_assoc]
  rw [hes] at q6
  generalize a++([59,32]++f.name++[61])++[34]=u at *
  refine zQ hI zJ mixed [xI,xH,xE,xC,zV,zU,yJ,yI] hX [1,6,7,8,10] (fun(g:Nat × Str)=>match g with|(k,c)=>k≤f.value.length∧c++escS (f.value.drop k)=u++escS f.value∧c.length≤3000000+2 * k) (fun(g:Nat × Str)=>match g with|(k,c)=>⟨[(1,.v (.one (.ptr 0 0))),(6,.v (.one (.p (.str c)))),(7,.v (.one (.p (.int .i64 i)))),(8,.v (.one (.ptr 1 0))),(10,.v (.one (.p (.int .i64 k))))],[.pack [.obj 24 [(.p (.str w)),(.p (.list .fld l))]],.pack [.obj 37 [(.p (.str f.name)),(.p (.str f.value))]]],142,none⟩) (fun(g:Nat × Str)=>match g with|(k,c)=>f.value.length - k) (0,u) (by kernel_rfl) (by kernel_rfl) ?_ ?_
  · exact⟨Nat.zero_le _,rfl,by omega⟩
  rintro⟨k,c⟩ ⟨g1,g2,g3⟩ E hE
  have ht1:k<f.value.length→List.take (((k:Int)+1).toNat - k) (f.value.drop k)=[f.value.getD k 0]:=fun h=>by
    rw [show((k:Int)+1).toNat - k=1 by omega,List.drop_eq_getElem_cons h,show f.value.getD k 0=f.value[k] by simp [h]];rfl
  have hs1:=fun(h:k<f.value.length)=>zbH h
  have r1:k<f.value.length→(((f.value.getD k 0).toNat:Int)=34∨((f.value.getD k 0).toNat:Int)=92)→(c++[92]++List.take (((k:Int)+1).toNat - k) (f.value.drop k))++escS (f.value.drop (k+1))=u++escS f.value∧(c++[92]++List.take (((k:Int)+1).toNat - k) (f.value.drop k)).length≤3000000+2 * (k+1):=fun h e=>by
    rw [ht1 h]
    have e1:f.value.getD k 0=34∨f.value.getD k 0=92:=e.imp (fun e=>UInt8.toNat_inj.1 (by have:(34:UInt8).toNat=34:=rfl;omega)) (fun e=>UInt8.toNat_inj.1 (by have:(92:UInt8).toNat=92:=rfl;omega))
    refine⟨?_,by simp only [List.length_append,List.length_cons,List.length_nil];omega⟩
    rw [← g2,hs1 h,if_pos e1];simp
  have r2:k<f.value.length→¬ ((f.value.getD k 0).toNat:Int)=34→¬ ((f.value.getD k 0).toNat:Int)=92→(c++List.take (((k:Int)+1).toNat - k) (f.value.drop k))++escS (f.value.drop (k+1))=u++escS f.value∧(c++List.take (((k:Int)+1).toNat - k) (f.value.drop k)).length≤3000000+2 * (k+1):=fun h e e'=>by
    rw [ht1 h]
    refine⟨?_,by simp only [List.length_append,List.length_cons,List.length_nil];omega⟩
    rw [← g2,hs1 h,if_neg (by rintro(e1|e1);exact e (by rw [e1];rfl);exact e' (by rw [e1];rfl))];simp
  have r3: ¬ k<f.value.length→c++[34]=u++escS f.value++[34]:=fun h=>by
    rw [← g2,List.drop_of_length_le (by omega)];simp [escS]
  have r4:=fun(c':Str) (h:k<f.value.length) (e:c'++escS (f.value.drop (k+1))=u++escS f.value∧c'.length≤3000000+2 * (k+1))=>hE (k+1,c') ⟨by show k+1≤f.value.length;omega,e.1,e.2⟩ (by show f.value.length - (k+1)<f.value.length - k;omega)
  simp only [Int.natCast_add,Int.natCast_one] at r4
  have hl1:k<f.value.length→(List.take (((k:Int)+1).toNat - k) (f.value.drop k)).length=1:=fun h=>by rw [ht1 h];rfl
  clear hE g2 hs1 ht1
  refine zy (let y0:=I.cut (α:=UInt8) (Fld.value f) (Int.ofNat k) (I.add (Nat.cast k) 1);let y1:=I.inr Go.IntKind.i64 (I.add (Nat.cast k) 1);let y7:=I.len (α:=UInt8) (Fld.value f);let y2:=I.cutb (Int.ofNat k) (I.add (Nat.cast k) 1) y7;let y3:HO:=.pack [(.obj 24 [(.p (.str w)),(.p (.list .fld l))])];let y4:HO:=.pack [(.obj 37 [(.p (.str (Fld.name f))),(.p (.str (Fld.value f)))])];let y5:=I.few (I.add (I.len (α:=UInt8) (I.app (α:=UInt8) c ([92]:Str))) (I.len (α:=UInt8) y0)) 1000000000;let y6:=I.few (I.add (I.len (α:=UInt8) c) (I.len (α:=UInt8) ([92]:Str))) 1000000000;let y8:=I.b2i (I.get (α:=UInt8) (Fld.value f) 0 (Nat.cast k));.br (I.ilt (Nat.cast k) y7) (.need (I.inb (Nat.cast k) y7) (.br (I.ieq y8 34) (.need y6 (.need y1 (.need y2 (.need y5 (.need y1 (.need (E ⟨[(1,(.v (.one (.ptr 0 0)))),(6,(.v (.one (.p (.str (I.app (α:=UInt8) (I.app (α:=UInt8) c ([92]:Str)) y0)))))),(7,(.v (.one (.p (.int .i64 (Nat.cast i)))))),(8,(.v (.one (.ptr 1 0)))),(10,(.v (.one (.p (.int .i64 (I.add (Nat.cast k) 1))))))],[y3,y4],142,none⟩) .qed)))))) (.need (I.inb (Nat.cast k) y7) (.br (I.ieq y8 92) (.need y6 (.need y1 (.need y2 (.need y5 (.need y1 (.need (E ⟨[(1,(.v (.one (.ptr 0 0)))),(6,(.v (.one (.p (.str (I.app (α:=UInt8) (I.app (α:=UInt8) c ([92]:Str)) y0)))))),(7,(.v (.one (.p (.int .i64 (Nat.cast i)))))),(8,(.v (.one (.ptr 1 0)))),(10,(.v (.one (.p (.int .i64 (I.add (Nat.cast k) 1))))))],[y3,y4],142,none⟩) .qed)))))) (.need y1 (.need y2 (.need (I.few (I.add (I.len (α:=UInt8) c) (I.len (α:=UInt8) y0)) 1000000000) (.need y1 (.need (E ⟨[(1,(.v (.one (.ptr 0 0)))),(6,(.v (.one (.p (.str (I.app (α:=UInt8) c y0)))))),(7,(.v (.one (.p (.int .i64 (Nat.cast i)))))),(8,(.v (.one (.ptr 1 0)))),(10,(.v (.one (.p (.int .i64 (I.add (Nat.cast k) 1))))))],[y3,y4],142,none⟩) .qed))))))))) (.need (I.few (I.add (I.len (α:=UInt8) c) (I.len (α:=UInt8) ([34]:Str))) 1000000000) (.need (I.inr Go.IntKind.i64 (I.add (Nat.cast i) 1)) (.need (A ⟨[(1,(.v (.one (.ptr 0 0)))),(6,(.v (.one (.p (.str (I.app (α:=UInt8) c ([34]:Str))))))),(7,(.v (.one (.p (.int .i64 (I.add (Nat.cast i) 1))))))],[y3],142,none⟩) .qed)))) (by kernel_rfl) ?_
  simp only [zN]
  subst hI
  simp only [nrmA,nrmB,nrlB,reduceCtorEq,HO.pack.injEq,HO.obj.injEq]
  (repeat' (first|refine And.intro ?_ ?_|intro _))
  all_goals first
    |omega
    |(simp only [List.length_cons,List.length_nil];omega)
    |(have:=hl1 (by omega);simp only [List.length_append,List.length_cons,List.length_nil] at *;omega)
    |exact r4 _ (by omega) (r1 (by omega) (.inl ‹_›))
    |exact r4 _ (by omega) (r1 (by omega) (.inr ‹_›))
    |exact r4 _ (by omega) (r2 (by omega) ‹_› ‹_›)
    |exact q6 _ (r3 (by omega))
    |skip
  refine zQ hI zJ mixed [xI,xH,xE,xC,zV,zU,yJ,yI] hX [1,6,7] (fun(g:Nat × Str)=>match g with|(i,a)=>i≤l.length∧txtL (l.take i) (l.drop i) a=r∧a.length≤100000+i * 300100) (fun(g:Nat × Str)=>match g with|(i,a)=>⟨[(1,.v (.one (.ptr 0 0))),(6,.v (.one (.p (.str a)))),(7,.v (.one (.p (.int .i64 i))))],[.pack [.obj 24 [(.p (.str w)),(.p (.list .fld l))]]],142,none⟩) (fun(g:Nat × Str)=>match g with|(i,a)=>l.length - i) (0,w) (by kernel_rfl) (by kernel_rfl) ?_ ?_
  · exact⟨Nat.zero_le _,hr1,by omega⟩
  rintro⟨i,a⟩ ⟨h1,h2,h3⟩ A hA
  have hx:i<l.length→l.getD i ⟨[],[]⟩ ∈ l:=fun h=>by rw [show l.getD i ⟨[],[]⟩=l[i] by simp [h]];exact List.getElem_mem h
  have hff:=fun h=>hf _ (hx h)
  have hx2:=fun(h:i<l.length)=>(UQ h ⟨[],[]⟩ a).symm.trans h2
  have hend: ¬ i<l.length→(a,(0:Int))=r:=fun h=>by rw [← h2,List.drop_of_length_le (by omega)];rfl
  have o1:i<l.length→zO (l.getD i ⟨[],[]⟩).name=false→([]=r.1∧(6:Int)=r.2):=fun h e=>by
    have h9:=hx2 h
    rw [if_pos (.inl e)] at h9;subst h9;exact⟨rfl,rfl⟩
  have o2:i<l.length→¬ lowS (l.getD i ⟨[],[]⟩).name=(l.getD i ⟨[],[]⟩).name→([]=r.1∧(6:Int)=r.2):=fun h e=>by
    have h9:=hx2 h
    rw [if_pos (.inr e)] at h9;subst h9;exact⟨rfl,rfl⟩
  have o3: ¬ i<l.length→(a=r.1∧(0:Int)=r.2):=fun h=>by
    have h9:=hend h
    subst h9;exact⟨rfl,rfl⟩
  have hgi:I.get (α:=Fld) l ⟨[],[]⟩ (i:Int)=l.getD i ⟨[],[]⟩:=by subst hI;rfl
  refine zy (let y0:=I.get (α:=Fld) l (Fld.mk ([]:Str) ([]:Str)) (Nat.cast i);let y1:=I.hid (α:=(Prop)) (LE.le (List.length (Fld.name y0)) 1000000);let y2:=I.inb (Nat.cast i) (I.len (α:=Fld) l);.br (I.ilt (Nat.cast i) (I.len (α:=Fld) l)) (.need y2 (.need y2 (.need y1 (.br (I.bnot (I.hid (α:=Bool) (zO (Fld.name y0)))) (.fin (.ret (.tup [(.one (.p (.str ([]:Str)))),(.one (.p (.int .i64 6)))])) []) (.need y1 (.br (I.bnot (I.seq (I.hid (α:=Str) (lowS (Fld.name y0))) (Fld.name y0))) (.fin (.ret (.tup [(.one (.p (.str ([]:Str)))),(.one (.p (.int .i64 6)))])) []) (.code 0 [1,0,0,1,1,0,1,0] ⟨[(9,(.v (.one (.p (.int .i64 0))))),(8,(.v (.one (.ptr 1 0)))),(1,(.v (.one (.ptr 0 0)))),(6,(.v (.one (.p (.str a))))),(7,(.v (.one (.p (.int .i64 (Nat.cast i))))))],[(.obj 24 [(.p (.str w)),(.p (.list .fld l))]),(.obj 37 [(.p (.str (Fld.name y0))),(.p (.str (Fld.value y0)))])],142,none⟩))))))) (.fin (.ret (.tup [(.one (.p (.str a))),(.one (.p (.int .i64 0)))])) [])) (by kernel_rfl) ?_
  simp only [zN]
  rw [hgi]
  generalize hfi:l.getD i ⟨[],[]⟩=f at *
  (repeat' (first|refine And.intro ?_ ?_|intro _))
  all_goals try(subst hI;(simp only [nrmA,nrmB,nrlB,reduceCtorEq] at *);first|done|trivial|omega|(have:=hff (by omega);omega)|exact o1 (by omega) ‹_›|exact o2 (by omega) ‹_›|exact o3 (by omega))
  have hfacts:i<l.length∧zO f.name=true∧lowS f.name=f.name:=by
    subst hI
    simp only [nrmA,nrmB,nrlB,reduceCtorEq] at *
    exact⟨by omega,‹_›,‹_›⟩
  obtain⟨hil,htk,hlo⟩:=hfacts
  have hfl:=hff hil
  have hx3:=hx2 hil
  rw [if_neg (by rintro(e|e);rw [htk] at e;cases e;exact e hlo)] at hx3
  clear hx hff hx2 hend o1 o2 o3 h2
  refine zQ hI zJ mixed [xI,xH,xE,xC,zV,zU,yJ,yI] hX [1,6,7,8,9] (fun(j:Nat)=>j≤i∧∀ k,k<j→(l.getD k ⟨[],[]⟩).name≠f.name) (fun(j:Nat)=>⟨[(1,.v (.one (.ptr 0 0))),(6,.v (.one (.p (.str a)))),(7,.v (.one (.p (.int .i64 i)))),(8,.v (.one (.ptr 1 0))),(9,.v (.one (.p (.int .i64 j))))],[.pack [.obj 24 [(.p (.str w)),(.p (.list .fld l))]],.pack [.obj 37 [(.p (.str f.name)),(.p (.str f.value))]]],142,none⟩) (fun(j:Nat)=>i - j) 0 (by kernel_rfl) (by kernel_rfl) ?_ ?_
  · exact⟨Nat.zero_le _,fun k h=>absurd h (Nat.not_lt_zero _)⟩
  rintro j ⟨g1,g2⟩ B hB
  have hgj:I.get (α:=Fld) l ⟨[],[]⟩ (j:Int)=l.getD j ⟨[],[]⟩:=by subst hI;rfl
  have hhp:=Uk (l:=l) (i:=i) h1 f.name
  have q1:j<i→(l.getD j ⟨[],[]⟩).name=f.name→([]=r.1∧(9:Int)=r.2):=fun h e=>by
    have h9:=hx3
    rw [if_pos (hhp.2 ⟨j,h,e⟩)] at h9;subst h9;exact⟨rfl,rfl⟩
  have q2:=fun(h:j<i) (e: ¬ (l.getD j ⟨[],[]⟩).name=f.name)=>hB (j+1) ⟨by omega,fun k hk=>if hk2:k<j then g2 k hk2 else by rw [show k=j by omega];exact e⟩ (by omega)
  simp only [Int.natCast_add,Int.natCast_one] at q2
  have hx4: ¬ j<i→(if yh f.value=false then([],3) else txtL (l.take (i+1)) (l.drop (i+1)) (a++([59,32]++f.name++[61]++quoM f.value)))=r:=fun h=>by
    have h9:=hx3
    rwa [if_neg (fun e=>by obtain⟨k,hk,e⟩:=hhp.1 e;exact g2 k (by omega) e)] at h9
  have q3: ¬ j<i→yh f.value=false→([]=r.1∧(3:Int)=r.2):=fun h e=>by
    have h9:=hx4 h
    rw [if_pos e] at h9;subst h9;exact⟨rfl,rfl⟩
  have q4: ¬ j<i→yh f.value=true→txtL (l.take (i+1)) (l.drop (i+1)) (a++([59,32]++f.name++[61]++quoM f.value))=r:=fun h e=>by
    have h9:=hx4 h
    rwa [if_neg (by rw [e];decide)] at h9
  have hqu:=Yf f.value
  have hbl:([59,32]++f.name++[61]++quoM f.value).length≤300100:=by simp only [List.length_append,List.length_cons,List.length_nil];omega
  have q5:=fun(c:Str) (hc:c=a++([59,32]++f.name++[61]++quoM f.value)) (h: ¬ j<i) (e:yh f.value=true)=>hA (i+1,c) ⟨by show i+1≤l.length;omega,by show txtL (l.take (i+1)) (l.drop (i+1)) c=r;rw [hc];exact q4 h e,by show c.length≤_;rw [hc,List.length_append];omega⟩ (by show l.length - (i+1)<l.length - i;omega)
  simp only [Int.natCast_add,Int.natCast_one] at q5
  have hq1:zO f.value=true→quoM f.value=f.value:=fun h=>if_pos h
  have hq2: ¬ zO f.value=true→quoM f.value=[34]++escS f.value++[34]:=fun h=>if_neg h
  clear hx3 hx4 q4 hhp g2 hA hB
  refine zy (let y0:=I.len (α:=UInt8) (I.app (α:=UInt8) a (I.app (α:=UInt8) (I.app (α:=UInt8) ([59,32]:Str) (Fld.name f)) ([61]:Str)));let y1:HO:=.pack [(.obj 24 [(.p (.str w)),(.p (.list .fld l))])];let y2:=I.hid (α:=(Prop)) (LE.le (List.length (Fld.value f)) 1000000);let y3:HO:=.obj 37 [(.p (.str (Fld.name f))),(.p (.str (Fld.value f)))];let y4:=I.inb (Nat.cast j) (I.len (α:=Fld) l);.br (I.ilt (Nat.cast j) (Nat.cast i)) (.need y4 (.need y4 (.br (I.seq (Fld.name (I.get (α:=Fld) l (Fld.mk ([]:Str) ([]:Str)) (Nat.cast j))) (Fld.name f)) (.fin (.ret (.tup [(.one (.p (.str ([]:Str)))),(.one (.p (.int .i64 9)))])) []) (.need (I.inr Go.IntKind.i64 (I.add (Nat.cast j) 1)) (.need (B ⟨[(1,(.v (.one (.ptr 0 0)))),(6,(.v (.one (.p (.str a))))),(7,(.v (.one (.p (.int .i64 (Nat.cast i)))))),(8,(.v (.one (.ptr 1 0)))),(9,(.v (.one (.p (.int .i64 (I.add (Nat.cast j) 1))))))],[y1,(.pack [y3])],142,none⟩) .qed))))) (.need y2 (.br (I.bnot (I.hid (α:=Bool) (yh (Fld.value f)))) (.fin (.ret (.tup [(.one (.p (.str ([]:Str)))),(.one (.p (.int .i64 3)))])) []) (.need (I.few (I.add (I.len (α:=UInt8) ([59,32]:Str)) (I.len (α:=UInt8) (Fld.name f))) 1000000000) (.need (I.few (I.add (I.len (α:=UInt8) (I.app (α:=UInt8) ([59,32]:Str) (Fld.name f))) (I.len (α:=UInt8) ([61]:Str))) 1000000000) (.need (I.few (I.add (I.len (α:=UInt8) a) (I.len (α:=UInt8) (I.app (α:=UInt8) (I.app (α:=UInt8) ([59,32]:Str) (Fld.name f)) ([61]:Str)))) 1000000000) (.need y2 (.br (I.hid (α:=Bool) (zO (Fld.value f))) (.need (I.few (I.add y0 (I.len (α:=UInt8) (Fld.value f))) 1000000000) (.need (I.inr Go.IntKind.i64 (I.add (Nat.cast i) 1)) (.need (A ⟨[(1,(.v (.one (.ptr 0 0)))),(6,(.v (.one (.p (.str (I.app (α:=UInt8) (I.app (α:=UInt8) a (I.app (α:=UInt8) (I.app (α:=UInt8) ([59,32]:Str) (Fld.name f)) ([61]:Str))) (Fld.value f))))))),(7,(.v (.one (.p (.int .i64 (I.add (Nat.cast i) 1))))))],[y1],142,none⟩) .qed))) (.need (I.few (I.add y0 (I.len (α:=UInt8) ([34]:Str))) 1000000000) (.code 1 [1,0,0,1,1,1,1,1,1,1,0,1,0] ⟨[(10,(.v (.one (.p (.int .i64 0))))),(6,(.v (.one (.p (.str (I.app (α:=UInt8) (I.app (α:=UInt8) a (I.app (α:=UInt8) (I.app (α:=UInt8) ([59,32]:Str) (Fld.name f)) ([61]:Str))) ([34]:Str))))))),(1,(.v (.one (.ptr 0 0)))),(7,(.v (.one (.p (.int .i64 (Nat.cast i)))))),(8,(.v (.one (.ptr 1 0)))),(9,(.v (.one (.p (.int .i64 (Nat.cast j))))))],[y1,y3],142,none⟩)))))))))) (by kernel_rfl) ?_
  simp only [zN]
  rw [hgj]
  (repeat' (first|refine And.intro ?_ ?_|intro _))
  all_goals try(subst hI;(simp only [nrmA,nrmB,nrlB,reduceCtorEq] at *);first|done|exact True.intro|omega|(simp only [List.length_append,List.length_cons,List.length_nil];omega)|exact q1 (by omega) ‹_›|exact q2 (by omega) ‹_›|exact q3 (by omega) ‹_›|exact q5 _ (by rw [hq1 ‹_›,List.append_assoc]) (by omega) ‹_›)
  have hfacts: ¬ j<i∧yh f.value=true∧zO f.value=false:=by
    subst hI
    simp only [nrmA,nrmB,nrlB,reduceCtorEq] at *
    exact⟨by omega,‹_›,‹_›⟩
  obtain⟨hji,hse,htv⟩:=hfacts
  have q6:=fun c hc=>q5 c hc hji hse
  rw [hq2 (by rw [htv];decide)] at q6 hbl
  clear q1 q2 q3 q5 hq1 hq2 hqu
  rw [show I.app (I.app a (I.app (I.app [59,32] f.name) [61])) [34]=a++([59,32]++f.name++[61])++[34] by subst hI;rfl]
  have hbl2:(a++([59,32]++f.name++[61])++[34]).length≤3000000:=by simp only [List.length_append,List.length_cons,List.length_nil] at hbl ⊢;omega
  have hes:a++([59,32]++f.name++[61]++([34]++escS f.value++[34]))=a++([59,32]++f.name++[61])++[34]++escS f.value++[34]:=by simp only [List.append_assoc]
  rw [hes] at q6
  generalize a++([59,32]++f.name++[61])++[34]=u at *
  refine zQ hI zJ mixed [xI,xH,xE,xC,zV,zU,yJ,yI] hX [1,6,7,8,10] (fun(g:Nat × Str)=>match g with|(k,c)=>k≤f.value.length∧c++escS (f.value.drop k)=u++escS f.value∧c.length≤3000000+2 * k) (fun(g:Nat × Str)=>match g with|(k,c)=>⟨[(1,.v (.one (.ptr 0 0))),(6,.v (.one (.p (.str c)))),(7,.v (.one (.p (.int .i64 i)))),(8,.v (.one (.ptr 1 0))),(10,.v (.one (.p (.int .i64 k))))],[.pack [.obj 24 [(.p (.str w)),(.p (.list .fld l))]],.pack [.obj 37 [(.p (.str f.name)),(.p (.str f.value))]]],142,none⟩) (fun(g:Nat × Str)=>match g with|(k,c)=>f.value.length - k) (0,u) (by kernel_rfl) (by kernel_rfl) ?_ ?_
  · exact⟨Nat.zero_le _,rfl,by omega⟩
  rintro⟨k,c⟩ ⟨g1,g2,g3⟩ E hE
  have ht1:k<f.value.length→List.take (((k:Int)+1).toNat - k) (f.value.drop k)=[f.value.getD k 0]:=fun h=>by
    rw [show((k:Int)+1).toNat - k=1 by omega,List.drop_eq_getElem_cons h,show f.value.getD k 0=f.value[k] by simp [h]];rfl
  have hs1:=fun(h:k<f.value.length)=>zbH h
  have r1:k<f.value.length→(((f.value.getD k 0).toNat:Int)=34∨((f.value.getD k 0).toNat:Int)=92)→(c++[92]++List.take (((k:Int)+1).toNat - k) (f.value.drop k))++escS (f.value.drop (k+1))=u++escS f.value∧(c++[92]++List.take (((k:Int)+1).toNat - k) (f.value.drop k)).length≤3000000+2 * (k+1):=fun h e=>by
    rw [ht1 h]
    have e1:f.value.getD k 0=34∨f.value.getD k 0=92:=e.imp (fun e=>UInt8.toNat_inj.1 (by have:(34:UInt8).toNat=34:=rfl;omega)) (fun e=>UInt8.toNat_inj.1 (by have:(92:UInt8).toNat=92:=rfl;omega))
    refine⟨?_,by simp only [List.length_append,List.length_cons,List.length_nil];omega⟩
    rw [← g2,hs1 h,if_pos e1];simp
  have r2:k<f.value.length→¬ ((f.value.getD k 0).toNat:Int)=34→¬ ((f.value.getD k 0).toNat:Int)=92→(c++List.take (((k:Int)+1).toNat - k) (f.value.drop k))++escS (f.value.drop (k+1))=u++escS f.value∧(c++List.take (((k:Int)+1).toNat - k) (f.value.drop k)).length≤3000000+2 * (k+1):=fun h e e'=>by
    rw [ht1 h]
    refine⟨?_,by simp only [List.length_append,List.length_cons,List.length_nil];omega⟩
    rw [← g2,hs1 h,if_neg (by rintro(e1|e1);exact e (by rw [e1];rfl);exact e' (by rw [e1];rfl))];simp
  have r3: ¬ k<f.value.length→c++[34]=u++escS f.value++[34]:=fun h=>by
    rw [← g2,List.drop_of_length_le (by omega)];simp [escS]
  have r4:=fun(c':Str) (h:k<f.value.length) (e:c'++escS (f.value.drop (k+1))=u++escS f.value∧c'.length≤3000000+2 * (k+1))=>hE (k+1,c') ⟨by show k+1≤f.value.length;omega,e.1,e.2⟩ (by show f.value.length - (k+1)<f.value.length - k;omega)
  simp only [Int.natCast_add,Int.natCast_one] at r4
  have hl1:k<f.value.length→(List.take (((k:Int)+1).toNat - k) (f.value.drop k)).length=1:=fun h=>by rw [ht1 h];rfl
  clear hE g2 hs1 ht1
  refine zy (let y0:=I.cut (α:=UInt8) (Fld.value f) (Int.ofNat k) (I.add (Nat.cast k) 1);let y1:=I.inr Go.IntKind.i64 (I.add (Nat.cast k) 1);let y7:=I.len (α:=UInt8) (Fld.value f);let y2:=I.cutb (Int.ofNat k) (I.add (Nat.cast k) 1) y7;let y3:HO:=.pack [(.obj 24 [(.p (.str w)),(.p (.list .fld l))])];let y4:HO:=.pack [(.obj 37 [(.p (.str (Fld.name f))),(.p (.str (Fld.value f)))])];let y5:=I.few (I.add (I.len (α:=UInt8) (I.app (α:=UInt8) c ([92]:Str))) (I.len (α:=UInt8) y0)) 1000000000;let y6:=I.few (I.add (I.len (α:=UInt8) c) (I.len (α:=UInt8) ([92]:Str))) 1000000000;let y8:=I.b2i (I.get (α:=UInt8) (Fld.value f) 0 (Nat.cast k));.br (I.ilt (Nat.cast k) y7) (.need (I.inb (Nat.cast k) y7) (.br (I.ieq y8 34) (.need y6 (.need y1 (.need y2 (.need y5 (.need y1 (.need (E ⟨[(1,(.v (.one (.ptr 0 0)))),(6,(.v (.one (.p (.str (I.app (α:=UInt8) (I.app (α:=UInt8) c ([92]:Str)) y0)))))),(7,(.v (.one (.p (.int .i64 (Nat.cast i)))))),(8,(.v (.one (.ptr 1 0)))),(10,(.v (.one (.p (.int .i64 (I.add (Nat.cast k) 1))))))],[y3,y4],142,none⟩) .qed)))))) (.need (I.inb (Nat.cast k) y7) (.br (I.ieq y8 92) (.need y6 (.need y1 (.need y2 (.need y5 (.need y1 (.need (E ⟨[(1,(.v (.one (.ptr 0 0)))),(6,(.v (.one (.p (.str (I.app (α:=UInt8) (I.app (α:=UInt8) c ([92]:Str)) y0)))))),(7,(.v (.one (.p (.int .i64 (Nat.cast i)))))),(8,(.v (.one (.ptr 1 0)))),(10,(.v (.one (.p (.int .i64 (I.add (Nat.cast k) 1))))))],[y3,y4],142,none⟩) .qed)))))) (.need y1 (.need y2 (.need (I.few (I.add (I.len (α:=UInt8) c) (I.len (α:=UInt8) y0)) 1000000000) (.need y1 (.need (E ⟨[(1,(.v (.one (.ptr 0 0)))),(6,(.v (.one (.p (.str (I.app (α:=UInt8) c y0)))))),(7,(.v (.one (.p (.int .i64 (Nat.cast i)))))),(8,(.v (.one (.ptr 1 0)))),(10,(.v (.one (.p (.int .i64 (I.add (Nat.cast k) 1))))))],[y3,y4],142,none⟩) .qed))))))))) (.need (I.few (I.add (I.len (α:=UInt8) c) (I.len (α:=UInt8) ([34]:Str))) 1000000000) (.need (I.inr Go.IntKind.i64 (I.add (Nat.cast i) 1)) (.need (A ⟨[(1,(.v (.one (.ptr 0 0)))),(6,(.v (.one (.p (.str (I.app (α:=UInt8) c ([34]:Str))))))),(7,(.v (.one (.p (.int .i64 (I.add (Nat.cast i) 1))))))],[y3],142,none⟩) .qed)))) (by kernel_rfl) ?_
  simp only [zN]
  subst hI
  simp only [nrmA,nrmB,nrlB,reduceCtorEq,HO.pack.injEq,HO.obj.injEq]
  (repeat' (first|refine And.intro ?_ ?_|intro _))
  all_goals first
    |omega
    |(simp only [List.length_cons,List.length_nil];omega)
    |(have:=hl1 (by omega);simp only [List.length_append,List.length_cons,List.length_nil] at *;omega)
    |exact r4 _ (by omega) (r1 (by omega) (.inl ‹_›))
    |exact r4 _ (by omega) (r1 (by omega) (.inr ‹_›))
    |exact r4 _ (by omega) (r2 (by omega) ‹_› ‹_›)
    |exact q6 _ (r3 (by omega))
    |skip
def Yd (I:Alg) (args:List D) (hp:List HO):Option CT:=match args,hp with
  |[.v (.agg [(.p (.str w)),(.p (.list .fld l))])],[]=>(fun(w:Str) (l:List Fld)=>(some (.one ⟨I.hid ((w.length≤100000∧l.length≤1000000)∧∀ f ∈ l,f.name.length≤100000∧f.value.length≤100000),(.ret (.tup [(.one (.p (.str (I.hid ((uV w l).1))))),(.one (.p (.int .i64 (I.hid ((uV w l).2)))))])),[]⟩):Option CT)) w l
  |_,_=>none
theorem SS:yw Tryz.prog 10 (Yd alg):=by
  intro args hp r h
  unfold Yd at h
  split at h
  · cases h;exact fun hn=>zez _ _ hn
  · cases h
def zcz:Know Tryz.prog:=⟨10,Yd,SS⟩
def zcy:Know Tryz.prog:=⟨10,fun I=>yE I (Yd I),zA SS⟩
end Go.Proofs.YtlpmdnffdmdahaaGreatDoor
namespace Go.Proofs.YtlpmdnffdmdahaaGreatDoor
open Go Go.Sep Go.Ab
set_option maxRecDepth 100000
theorem zaT (s:Str):(yA s).1.params.length≤8:=by
  by_cases h:(yA s).2=0
  · exact(QS h).2.2
  · rw [QO h];exact Nat.zero_le _
theorem zcJ (x:Med):mdB x.word x.params x.word x.params=true:=decide_eq_true rfl
set_option maxHeartbeats 1000000 in
theorem pDoes_ (s w:Str) (l:List Fld) (n:Str) (hneed:w.length≤140737488355328∧l.length≤140737488355328∧∀ f ∈ l,f.name.length≤140737488355328∧f.value.length≤140737488355328):Spc Tryz.prog 3 [.v (.one (.p (.str s))),.v (.agg [(.p (.str w)),(.p (.list .fld l))]),.v (.one (.p (.str n)))] [] (.ret (.v (.one (.p (.bool true))))) []:=by
  have hg:=fun h=>zbs (w:=w) (l:=l) h
  have hsm:=zcJ (yA s).1
  have hf8:=zaT s
  refine spcG zJ mixed Tryz.func3 (by kernel_rfl) { keep:=some [0,1,2,4,6,7,8,9,10,11,12,13,14,15,16,17,18]} [Zl,Zk,VQ,VP,zaQ,zaP,zaO,zaN,zaK,zaJ,Ro,Rn,zbu,zbt,U4,U3,zcz,zcy] (by kernel_rfl) ?_
  intro I X hI hX
  refine zy (let y0:=I.hid (α:=(List Fld)) (Go.Ab.Med.params (Prod.fst (yA s)));let y1:=I.hid (α:=(Prop)) (And (And (LE.le (List.length w) 100000) (LE.le (List.length l) 1000000)) (∀ (f:Fld),f ∈ l→List.length f.name≤100000∧List.length f.value≤100000));let y2:=I.hid (α:=Str) (Go.Ab.Med.word (Prod.fst (yA s)));let y3:=I.hid (α:=(Prop)) (LE.le (List.length s) 1000000);let y4:=I.hid (α:=(Prop)) (LE.le (List.length l) 1000000);let y5:=I.hid (α:=Str) (Prod.fst (uV w l));let y6:=I.hid (α:=Int) (Prod.snd (uV w l));let y7:=I.hid (α:=Bool) (Prod.snd (getP l n));let y8:=I.hid (α:=Int) (Prod.snd (yA s));let y9:=I.hid (α:=Str) (Prod.fst (getP l n));.need (I.hid (α:=(Prop)) True) (.br (I.bnot Bool.true) (.fin (.ret (.v (.one (.p (.bool Bool.false))))) []) (.br (I.ilt 2000 (I.len (α:=UInt8) s)) (.fin (.ret (.v (.one (.p (.bool Bool.true))))) []) (.need (I.hid (α:=(Prop)) (And (LE.le (List.length w) 140737488355328) (And (LE.le (List.length l) 140737488355328) (∀ (f:Fld),f ∈ l→List.length f.name≤140737488355328∧List.length f.value≤140737488355328)))) (.br (I.hid (α:=Bool) (Y2 w l)) (.fin (.ret (.v (.one (.p (.bool Bool.true))))) []) (.need y3 (.need y3 (.need y1 (.need y1 (.need y4 (.need y4 (.need (I.hid (α:=(Prop)) (And (LE.le (List.length y0) 100000000) (LE.le (List.length y0) 100000000))) (.br (I.hid (α:=Bool) (mdB y2 y0 y2 y0)) (.br (I.ieq y8 y8) (.br (I.seq y5 y5) (.br (I.ieq y6 y6) (.br (I.seq y9 y9) (.fin (.ret (.v (.one (.p (.bool (I.beq y7 y7)))))) []) (.fin (.ret (.v (.one (.p (.bool Bool.false))))) [])) (.fin (.ret (.v (.one (.p (.bool Bool.false))))) [])) (.fin (.ret (.v (.one (.p (.bool Bool.false))))) [])) (.fin (.ret (.v (.one (.p (.bool Bool.false))))) [])) (.fin (.ret (.v (.one (.p (.bool Bool.false))))) [])))))))))))))) (by kernel_rfl) ?_
  simp only [zN]
  generalize yA s=z at *
  generalize uV w l=t at *
  generalize getP l n=v at *
  (repeat' (first|refine And.intro ?_ ?_|intro _))
  all_goals try(subst hI;(simp only [nrmA,nrmB,nrlB,reduceCtorEq] at *);first
    |done
    |with_reducible exact True.intro
    |omega
    |exact hneed
    |(have:=hg ‹_›;omega)
    |(have:=hg ‹_›;exact⟨⟨by omega,by omega⟩,fun f hf=>by have:=this.2.2 f hf;omega⟩)
    |exact absurd (hsm.symm.trans ‹_›) (by decide)
    |(exfalso;have hq:=hsm.symm.trans ‹_=false›;cases hq)
    |(simp_all;done))
  all_goals trace_state
end Go.Proofs.YtlpmdnffdmdahaaGreatDoor
