/- Texts of this proof, one behind the other: RpcE Quo ParT PakW PakX PakG PakV FldB ParM MrkR PakR Base PakZ. -/
import Derived.Handy
import Derived.Test.YtalfiafkeijijaaGreatDoorMe
set_option linter.all false
namespace Go.Proofs.YtalfiafkeijijaaGreatDoor
open Go Go.RowKit Go.Sep
set_option maxRecDepth 100000
set_option maxHeartbeats 4000000 in
theorem zcc (B : Nat) (z : Value) (ao:Option Addr) (cap:Nat) (s:List UInt8) (hs:s.length≤1000000) (l:List Chunk) (w:World) (H:At w (objC B 92 [.int .u32 0,.int .i32 0,z,.nilIface,.slice ao 4 cap]::rowC 9 1 (.slice ao 4 cap) 4 X4::l)):
    Calls Tryz.prog 57 #[.pointer (some ⟨B,0,none⟩),.string (S s)] w fun e w'=>e=.returned (.string (S (escS s)))∧At w' l:=by
  have hmf: ∀ (fn:Fn) (first cap:Array Value) (w:World),(Instr.makeFunc fn first cap).run Tryz.prog w=.ok (.func fn first cap) w:=fun _ _ _ _=>rfl
  go_enter Tryz.func57,Tryz.ntmps57
  go_wp2_with (first | ((with_reducible show wpList _ _ _ (⟨_,.load _ _,_,_,_,_⟩::_) _ _);refine zf rfl (zh Tryz.underlying90 rfl rfl (by first|(with_reducible refine(H.cell _).trans ?_);exact rfl|(with_reducible refine(H.p1.cell _).trans ?_);exact rfl|(with_reducible refine(H.p2.cell _).trans ?_);exact rfl|(with_reducible refine(H.p3.cell _).trans ?_);exact rfl|(with_reducible refine(H.p4.cell _).trans ?_);exact rfl|(with_reducible refine(H.p5.cell _).trans ?_);exact rfl|(with_reducible refine(H.p6.cell _).trans ?_);exact rfl)) ?_;simp only [Act.put,List.setIfInBounds_toArray,List.set_cons_succ,List.set_cons_zero])
                                        |(go_at_call 67;refine Calls.mono (do_c B z ao cap l _ (by first|with_reducible exact H|with_reducible exact H.p1|with_reducible exact H.p2|with_reducible exact H.p3|with_reducible exact H.p4|with_reducible exact H.p5|with_reducible exact H.p6|exact H|exact H.p1|exact H.p2|exact H.p3|exact H.p4|exact H.p5|exact H.p6)) ?_;rintro e w1 ⟨b,aoT,cT,ao1,c1,ao2,c2,rfl,H'⟩;replace H:=H';clear H')
                                        |(go_at_call 143;refine Calls.mono (zdX b aoT cT ao1 c1 ao2 c2 s hs l _ H.tail) ?_;rintro e w2 ⟨rfl,H'⟩;replace H:=H';clear H'))
  go_ret
  exact⟨rfl,H⟩
end Go.Proofs.YtalfiafkeijijaaGreatDoor
namespace Go.Proofs.YtalfiafkeijijaaGreatDoor
open Go Go.RowKit Go.Sep Go.Ab
set_option maxRecDepth 100000
theorem zeD: ∀ v ∈ X4,v.oneCell'=true:=by
  intro v h
  simp only [X4,List.mem_cons,List.mem_nil_iff,or_false] at h
  rcases h with rfl|rfl|rfl|rfl<;>rfl
set_option maxHeartbeats 4000000 in
theorem zd4 (s:Str) (hneed:s.length≤200000):Spc Tryz.prog 41 [.v (.one (.p (.str s)))] [] (.ret (.v (.one (.p (.str (quoM s)))))) []:=by
  refine⟨⟨_,Tryz.func41,by kernel_rfl,by kernel_rfl⟩,fun Sf K fr w vs hH hM hA=> ?_⟩
  have hM0:=hM
  obtain⟨v,r,rfl⟩: ∃ v r,vs=v::r:=by cases vs with|nil=>exact hM.elim|cons v r=>exact⟨v,r,rfl⟩
  obtain⟨h1,hM⟩:=hM
  obtain rfl:r=[]:=by cases r with|nil=>rfl|cons v r=>exact hM.elim
  cases h1 with
  | str _ hl1=>
    have ht:Calls Tryz.prog 23 #[.string (S s)] w fun e w'=>∃ S' K',e=.returned (.bool (zO s))∧Sf.le S'∧Ext (K.map CO.base) (K'.map CO.base)∧HR S' (K'.map CO.base) [] K'∧At w' (frzC S'::(CO.zx K'++fr)):=by
      refine((Ru s (by omega)).2 Sf K fr w _ hH hM0 hA).mono ?_
      rintro e w1 ⟨S1,K1,hle,hext,hH1,hA1,ho⟩
      cases e with
      |returned v=>cases ho;exact⟨S1,K1,rfl,hle,hext,hH1,hA1⟩
      |panicked c=>exact ho.elim
      |outgrown=>exact ho.elim
    have hq:=rU s
    have hes:=U2 s
    by_cases htk:zO s=true
    · rw [htk] at ht
      rw [show quoM s=s from if_pos htk]
      have H:=hA
      go_enter Tryz.func41,Tryz.ntmps41
      go_wp2_with (first|((with_reducible show wpList _ _ _ (⟨some 6,.buildSlice _ _ _,_,_,_,_⟩::_) _ _);refine yM Tryz.underlying77 in_9 [.string _,.string _,.string _,.string _] rfl rfl (XR rfl rfl rfl rfl) (by simp) H rfl ?_;intro ao6 cap6 w6 hc6 H1;replace H:=H1;clear H1;simp only [Act.put,List.setIfInBounds_toArray,List.set_cons_succ,List.set_cons_zero])
                                        |(go_at_call 23;refine Calls.mono (ht) ?_;rintro e w1 ⟨S1,K1,rfl,hle,hext,hH1,H'⟩;replace H:=H';clear H'))
      go_ret
      exact⟨S1,K1,hle,hext,hH1,H,.str _ hl1⟩
    · have htf : zO s = false := by simpa using htk
      rw [htf] at ht
      have H:=hA
      go_enter Tryz.func41,Tryz.ntmps41
      go_wp2_with (first|((with_reducible show wpList _ _ _ (⟨some 6,.buildSlice _ _ _,_,_,_,_⟩::_) _ _);refine yM Tryz.underlying77 in_9 [.string _,.string _,.string _,.string _] rfl rfl (XR rfl rfl rfl rfl) (by simp) H rfl ?_;intro ao6 cap6 w6 hc6 H1;replace H:=H1;clear H1;simp only [Act.put,List.setIfInBounds_toArray,List.set_cons_succ,List.set_cons_zero])
                                        |(go_at_call 23;refine Calls.mono (ht) ?_;rintro e w1 ⟨S1,K1,rfl,hle,hext,hH1,H'⟩;replace H:=H';clear H')
                                        |(go_at_call 56;refine Calls.mono (zcm _ _ X4 zeD _ _ (by first|with_reducible exact H|with_reducible exact H.p1|with_reducible exact H.p2|with_reducible exact H.p3|with_reducible exact H.p4|with_reducible exact H.p5|with_reducible exact H.p6|exact H|exact H.p1|exact H.p2|exact H.p3|exact H.p4|exact H.p5|exact H.p6)) ?_;rintro e w2 ⟨b,ao1,c1,rfl,H'⟩;replace H:=H';clear H')
                                        |(go_at_call 57;refine Calls.mono (zcc b _ _ _ s (by omega) _ _ (by first|with_reducible exact H|with_reducible exact H.p1|with_reducible exact H.p2|with_reducible exact H.p3|with_reducible exact H.p4|with_reducible exact H.p5|with_reducible exact H.p6|exact H|exact H.p1|exact H.p2|exact H.p3|exact H.p4|exact H.p5|exact H.p6)) ?_;rintro e w3 ⟨rfl,H'⟩;replace H:=H';clear H'))
      all_goals try(exfalso;omega)
      go_ret
      have e:quoM s=34::(escS s++[34]):=by unfold quoM;rw [if_neg htk];simp
      have hb:(quoM s).length≤maxLen:=Nat.le_trans hq (by unfold maxLen;omega)
      generalize quoM s=q at *
      subst e
      exact⟨S1,K1,hle,hext,hH1,H,.str _ hb⟩
def ZR (I:Alg) (args:List D) (hp:List HO):Option CT:=match args,hp with
  |[.v (.one (.p (.str s)))],[]=>(fun(s:Str)=>(some (.one ⟨I.hid (s.length≤200000),(.ret (.v (.one (.p (.str (I.hid (quoM s))))))),[]⟩):Option CT)) s
  |_,_=>none
theorem SG:yh Tryz.prog 41 (ZR alg):=by
  intro args hp r h
  unfold ZR at h
  split at h
  · cases h;exact fun hn=>zd4 _ hn
  · cases h
def SE:Know Tryz.prog:=⟨41,ZR,SG⟩
def SC:Know Tryz.prog:=⟨41,fun I=>yE I (ZR I),zA SG⟩
end Go.Proofs.YtalfiafkeijijaaGreatDoor
namespace Go.Proofs.YtalfiafkeijijaaGreatDoor
open Go Go.Sep Go.Ab
set_option maxRecDepth 100000
theorem zd5 (s:Str) (hneed:s.length≤1000000):Spc Tryz.prog 37 [.v (.one (.p (.str s)))] [] (.ret (.v (.one (.p (.bool ((Yf s))))))) []:=by
  have hc:=zcE s 47
  have hbq:(lowS s == s)=decide (lowS s=s):=by rw [Bool.eq_iff_iff];simp
  generalize hr:Yf s=r
  unfold Yf at hr
  refine spcG zJ mixed Tryz.func37 (by kernel_rfl) { keep:=some [0,2,3,4,5]} [tH,tC,YW,YV,zdb,zda] (by kernel_rfl) ?_
  intro I X hI hX
  refine zH (let y0:=I.hid (α:=(Prop)) (LE.le (List.length s) 1000000);let y1:=I.hid (α:=Str) (Prod.fst (Prod.snd (cutB s (47:UInt8))));let y2:=I.hid (α:=Str) (Prod.fst (cutB s (47:UInt8)));let y3:=I.seq (I.hid (α:=Str) (lowS s)) s;.need y0 (.need (I.hid (α:=(Prop)) (LE.le (List.length y2) 1000000)) (.br (I.hid (α:=Bool) (zO y2)) (.br (I.bnot (I.hid (α:=Bool) (Prod.snd (Prod.snd (cutB s (47:UInt8)))))) (.need y0 (.fin (.ret (.v (.one (.p (.bool y3))))) [])) (.need (I.hid (α:=(Prop)) (LE.le (List.length y1) 1000000)) (.br (I.hid (α:=Bool) (zO y1)) (.need y0 (.fin (.ret (.v (.one (.p (.bool y3))))) [])) (.fin (.ret (.v (.one (.p (.bool Bool.false))))) [])))) (.fin (.ret (.v (.one (.p (.bool Bool.false))))) [])))) (by kernel_rfl) ?_
  simp only [zU]
  subst hI
  simp only [nrmA,nrmB,nrlB,reduceCtorEq]
  (repeat' (first|refine And.intro ?_ ?_|intro _))<;>first|omega|exact True.intro|exact False.elim ‹False›|skip
  all_goals first
    |omega
    |(subst hr;simp_all;done)
    |(rw [hbq,← hr];simp only [*];done)
    |(rw [hbq,← hr];simp [*];done)
def ZT (I:Alg) (args:List D) (hp:List HO):Option CT:=match args,hp with
  |[.v (.one (.p (.str s)))],[]=>(fun(s:Str)=>(some (.one ⟨I.hid (s.length≤1000000),(.ret (.v (.one (.p (.bool (I.hid ((Yf s)))))))),[]⟩):Option CT)) s
  |_,_=>none
theorem SL:yh Tryz.prog 37 (ZT alg):=by
  intro args hp r h
  unfold ZT at h
  split at h
  · cases h;exact fun hn=>zd5 _ hn
  · cases h
def SK:Know Tryz.prog:=⟨37,ZT,SL⟩
def SI:Know Tryz.prog:=⟨37,fun I=>yE I (ZT I),zA SL⟩
theorem zd6 (a b n v:Str):Spc Tryz.prog 40 [.v (.agg [(.p (.str a)),(.p (.str b))]),.v (.one (.ptr 0 0))] [.pack [.obj 41 [(.p (.str n)),(.p (.str v))]]] (.ret (.v (.one (.p (.bool ((a == n))))))) [.pack [.obj 41 [(.p (.str n)),(.p (.str v))]]]:=by
  refine spcG zJ mixed Tryz.func40 (by kernel_rfl) { keep:=some [0,1,2,3]} [] (by kernel_rfl) ?_
  intro I X hI hX
  refine zH (.fin (.ret (.v (.one (.p (.bool (I.seq a n)))))) [(.pack [(.obj 41 [(.p (.str n)),(.p (.str v))])])]) (by kernel_rfl) ?_
  simp only [zU]
  subst hI
  simp only [nrmA,nrmB,nrlB,reduceCtorEq,HO.pack.injEq,HO.obj.injEq]
  try trivial
def ZV (I:Alg) (args:List D) (hp:List HO):Option CT:=match args,hp with
  |[.v (.agg [(.p (.str a)),(.p (.str b))]),.v (.one (.ptr 0 0))],[.pack [.obj 41 [(.p (.str n)),(.p (.str v))]]]=>(fun(a b n v:Str)=>(some (.one ⟨I.hid (True),(.ret (.v (.one (.p (.bool (I.hid ((a == n)))))))),[.pack [.obj 41 [(.p (.str n)),(.p (.str v))]]]⟩):Option CT)) a b n v
  |_,_=>none
theorem SQ:yh Tryz.prog 40 (ZV alg):=by
  intro args hp r h
  unfold ZV at h
  split at h
  · cases h;exact fun hn=>zd6 _ _ _ _
  · cases h
def ZU:Know Tryz.prog:=⟨40,ZV,SQ⟩
def SN:Know Tryz.prog:=⟨40,fun I=>yE I (ZV I),zA SQ⟩
theorem zeJ (l:List Fld) (n v:Str) (hneed:l.length≤1000000):Spc Tryz.prog 55 [.v (.one (.p (.list .fld l))),.v (.one (.fn 40 [.ptr 0 0]))] [.pack [.obj 41 [(.p (.str n)),(.p (.str v))]]] (.ret (.v (.one (.p (.int .i64 ((ixP l n))))))) [.pack [.obj 41 [(.p (.str n)),(.p (.str v))]]]:=by
  refine spcG zJ mixed Tryz.func55 (by kernel_rfl) { keep:=some [0,1,4,5,7,8]} [ZU] (by kernel_rfl) ?_
  intro I X hI hX
  refine zH (.code 0 [1,0,1,0] ⟨[(8,(.v (.one (.p (.int .i64 0))))),(7,(.v (.one (.p (.int .i64 (I.len (α:=Fld) l)))))),(4,(.v (.one (.p (.int .i64 0))))),(0,(.v (.one (.p (.list .fld l))))),(1,(.v (.one (.fn 40 [(.ptr 0 0)]))))],[(.pack [(.obj 41 [(.p (.str n)),(.p (.str v))])])],19,none⟩) (by kernel_rfl) ?_
  simp only [zU]
  refine zQ hI zJ mixed [ZU] hX [0,1,7,8] (fun(i:Nat)=>i≤l.length∧i≤l.findIdx (fun f=>f.name == n)) (fun(i:Nat)=>⟨[(0,.v (.one (.p (.list .fld l)))),(1,.v (.one (.fn 40 [.ptr 0 0]))),(7,.v (.one (.p (.int .i64 ((I.len (α:=Fld) l)))))),(8,.v (.one (.p (.int .i64 i))))],[.pack [.obj 41 [(.p (.str n)),(.p (.str v))]]],19,none⟩) (fun(i:Nat)=>l.length - i) 0 (by kernel_rfl) (by kernel_rfl) ?_ ?_
  · exact⟨Nat.zero_le _,Nat.zero_le _⟩
  rintro i ⟨h1,h2⟩ A hA
  refine zH (let y0:HO:=.pack [(.obj 41 [(.p (.str n)),(.p (.str v))])];let y1:=I.inb (Nat.cast i) (I.len (α:=Fld) l);.br (I.ilt (Nat.cast i) (I.len (α:=Fld) l)) (.need y1 (.need y1 (.need (I.hid (α:=(Prop)) True) (.br (I.hid (α:=Bool) (BEq.beq (Fld.name (I.get (α:=Fld) l (Fld.mk ([]:Str) ([]:Str)) (Nat.cast i))) n)) (.fin (.ret (.v (.one (.p (.int .i64 (Nat.cast i)))))) [y0]) (.need (I.inr Go.IntKind.i64 (I.add (Nat.cast i) 1)) (.need (A ⟨[(0,(.v (.one (.p (.list .fld l))))),(1,(.v (.one (.fn 40 [(.ptr 0 0)])))),(7,(.v (.one (.p (.int .i64 (I.len (α:=Fld) l)))))),(8,(.v (.one (.p (.int .i64 (I.add (Nat.cast i) 1))))))],[y0],19,none⟩) .qed)))))) (.fin (.ret (.v (.one (.p (.int .i64 (Neg.neg (1:Int))))))) [y0])) (by kernel_rfl) ?_
  simp only [zU]
  subst hI
  simp only [nrmA,nrmB,nrlB,reduceCtorEq,HO.pack.injEq,HO.obj.injEq]
  have hfl:l.findIdx (fun f=>f.name == n)≤l.length:=List.findIdx_le_length
  have hyes:i<l.length→(l.getD i ⟨[],[]⟩).name=n→ixP l n=i:=fun h hid=>by
    have h0:l.findIdx (fun f=>f.name == n)≤i:=by
      refine Nat.le_of_not_lt fun hlt=> ?_
      have:=List.not_of_lt_findIdx hlt
      rw [List.getD_eq_getElem?_getD,List.getElem?_eq_getElem h] at hid
      simp only [Option.getD_some] at hid
      rw [hid] at this;simp at this
    unfold ixP
    rw [if_pos (by omega)];omega
  have hno:i<l.length→¬ (l.getD i ⟨[],[]⟩).name=n→i+1≤l.findIdx (fun f=>f.name == n):=fun h hid=>by
    refine Nat.lt_of_le_of_ne h2 fun e=>hid ?_
    have hlt:l.findIdx (fun f=>f.name == n)<l.length:=by omega
    have:=List.findIdx_getElem (xs:=l) (p:=fun f=>f.name == n) (w:=hlt)
    have h9:l.getD i ⟨[],[]⟩=l[l.findIdx (fun f=>f.name == n)]:=by simp [e,List.getD_eq_getElem?_getD,hlt]
    rw [h9];simpa using this
  have hend: ¬ i<l.length→ixP l n= -1:=fun h=>by unfold ixP;rw [if_neg (by omega)]
  generalize l.getD i ⟨[],[]⟩=x at *
  (repeat' (first|refine And.intro ?_ ?_|intro _))<;>first|omega|exact True.intro|exact False.elim ‹False›|skip
  all_goals first
    |omega
    |(exact(hyes (by omega) ‹_›).symm)
    |(exact hA (i+1) ⟨by omega,hno (by omega) ‹_›⟩ (by omega))
    |(exact(hend (by omega)).symm)
def Wl (I:Alg) (args:List D) (hp:List HO):Option CT:=match args,hp with
  |[.v (.one (.p (.list .fld l))),.v (.one (.fn 40 [.ptr 0 0]))],[.pack [.obj 41 [(.p (.str n)),(.p (.str v))]]]=>(fun(l:List Fld) (n v:Str)=>(some (.one ⟨I.hid (l.length≤1000000),(.ret (.v (.one (.p (.int .i64 (I.hid ((ixP l n)))))))),[.pack [.obj 41 [(.p (.str n)),(.p (.str v))]]]⟩):Option CT)) l n v
  |_,_=>none
theorem zaD:yh Tryz.prog 55 (Wl alg):=by
  intro args hp r h
  unfold Wl at h
  split at h
  · cases h;exact fun hn=>zeJ _ _ _ hn
  · cases h
def zdh:Know Tryz.prog:=⟨55,Wl,zaD⟩
def zdg:Know Tryz.prog:=⟨55,fun I=>yE I (Wl I),zA zaD⟩
theorem zeK (l:List Fld) (n v:Str) (hneed:l.length≤1000000):Spc Tryz.prog 39 [.v (.one (.p (.list .fld l))),.v (.one (.fn 40 [.ptr 0 0]))] [.pack [.obj 41 [(.p (.str n)),(.p (.str v))]]] (.ret (.v (.one (.p (.bool ((hasP l n))))))) [.pack [.obj 41 [(.p (.str n)),(.p (.str v))]]]:=by
  refine spcG zJ mixed Tryz.func39 (by kernel_rfl) { keep:=some [0,1,4]} [zdh,zdg] (by kernel_rfl) ?_
  intro I X hI hX
  refine zH (.need (I.hid (α:=(Prop)) (LE.le (List.length l) 1000000)) (.fin (.ret (.v (.one (.p (.bool (I.ile 0 (I.hid (α:=Int) (ixP l n)))))))) [(.pack [(.obj 41 [(.p (.str n)),(.p (.str v))])])])) (by kernel_rfl) ?_
  simp only [zU]
  subst hI
  simp only [nrmA,nrmB,nrlB,reduceCtorEq,HO.pack.injEq,HO.obj.injEq]
  unfold hasP
  (repeat' (first|refine And.intro ?_ ?_|intro _))<;>first|omega|exact True.intro|exact False.elim ‹False›|skip
  all_goals first|exact hneed|trivial|(simp;done)|trace_state
def Wq (I:Alg) (args:List D) (hp:List HO):Option CT:=match args,hp with
  |[.v (.one (.p (.list .fld l))),.v (.one (.fn 40 [.ptr 0 0]))],[.pack [.obj 41 [(.p (.str n)),(.p (.str v))]]]=>(fun(l:List Fld) (n v:Str)=>(some (.one ⟨I.hid (l.length≤1000000),(.ret (.v (.one (.p (.bool (I.hid ((hasP l n)))))))),[.pack [.obj 41 [(.p (.str n)),(.p (.str v))]]]⟩):Option CT)) l n v
  |_,_=>none
theorem zaG:yh Tryz.prog 39 (Wq alg):=by
  intro args hp r h
  unfold Wq at h
  split at h
  · cases h;exact fun hn=>zeK _ _ _ hn
  · cases h
def zaF:Know Tryz.prog:=⟨39,Wq,zaG⟩
def zaE:Know Tryz.prog:=⟨39,fun I=>yE I (Wq I),zA zaG⟩
set_option maxHeartbeats 1000000 in
theorem zd7 (w:Str) (l:List Fld) (hneed:(w.length≤100000∧l.length≤1000000)∧∀ f ∈ l,f.name.length≤100000∧f.value.length≤100000):Spc Tryz.prog 22 [.v (.agg [(.p (.str w)),(.p (.list .fld l))])] [] (.ret (.tup [(.one (.p (.str ((zT w l).1)))),(.one (.p (.int .i64 ((zT w l).2))))])) []:=by
  obtain⟨⟨hw,hl⟩,hf⟩:=hneed
  generalize hr:zT w l=r
  unfold zT at hr
  refine spcG zJ mixed Tryz.func22 (by kernel_rfl) { keep:=some [0,1,2,3,4,5,6,18,19,20]} [tH,tC,wW,wV,YW,YV,SE,SC,SK,SI,ZU,SN,zaF,zaE] (by kernel_rfl) ?_
  intro I X hI hX
  refine zH (.need (I.hid (α:=(Prop)) (LE.le (List.length w) 1000000)) (.br (I.bnot (I.hid (α:=Bool) (Yf w))) (.fin (.ret (.tup [(.one (.p (.str ([]:Str)))),(.one (.p (.int .i64 5)))])) []) (.br (I.ilt 8 (I.len (α:=Fld) l)) (.fin (.ret (.tup [(.one (.p (.str ([]:Str)))),(.one (.p (.int .i64 8)))])) []) (.code 0 [1,1,1,1,0,1,0] ⟨[(20,(.v (.one (.p (.int .i64 0))))),(19,(.v (.one (.p (.int .i64 (I.len (α:=Fld) l)))))),(18,(.v (.one (.p (.list .fld l))))),(4,(.v (.one (.p (.str w))))),(3,(.v (.one (.p (.int .i64 0))))),(2,(.v (.one (.p (.str ([]:Str)))))),(1,(.v (.one (.ptr 0 0)))),(0,(.v (.agg [(.p (.str w)),(.p (.list .fld l))])))],[(.obj 44 [(.p (.str w)),(.p (.list .fld l))])],62,none⟩)))) (by kernel_rfl) ?_
  simp only [zU]
  (repeat' (first|refine And.intro ?_ ?_|intro _))
  · subst hI
    simp only [nrmA,nrmB,nrlB,reduceCtorEq]
    omega
  · subst hI
    simp only [nrmA,nrmB,nrlB,reduceCtorEq] at *
    rw [if_pos (by simp_all)] at hr
    subst hr;exact⟨rfl,rfl⟩
  · trivial
  · subst hI
    simp only [nrmA,nrmB,nrlB,reduceCtorEq] at *
    rw [if_neg (by simp_all),if_pos (by omega)] at hr
    subst hr;exact⟨rfl,rfl⟩
  · trivial
  have hl8:l.length≤8:=by
    subst hI
    simp only [nrmA,nrmB,nrlB,reduceCtorEq] at *
    omega
  have hr1:txtL [] l w=r:=by
    subst hI
    simp only [nrmA,nrmB,nrlB,reduceCtorEq] at *
    rw [if_neg (by simp_all),if_neg (by omega)] at hr
    exact hr
  clear hr
  refine zQ hI zJ mixed [tH,tC,wW,wV,YW,YV,SE,SC,SK,SI,ZU,SN,zaF,zaE] hX [1,4,18,19,20] (fun(g:Nat × Str)=>match g with|(i,a)=>i≤l.length∧txtL (l.take i) (l.drop i) a=r∧a.length≤100000+i * 300100) (fun(g:Nat × Str)=>match g with|(i,a)=>⟨[(1,.v (.one (.ptr 0 0))),(4,.v (.one (.p (.str a)))),(18,.v (.one (.p (.list .fld l)))),(19,.v (.one (.p (.int .i64 ((I.len (α:=Fld) l)))))),(20,.v (.one (.p (.int .i64 i))))],[.pack [.obj 44 [(.p (.str w)),(.p (.list .fld l))]]],62,none⟩) (fun(g:Nat × Str)=>match g with|(i,a)=>l.length - i) (0,w) (by kernel_rfl) (by kernel_rfl) ?_ ?_
  · exact⟨Nat.zero_le _,hr1,by omega⟩
  rintro⟨i,a⟩ ⟨h1,h2,h3⟩ A hA
  refine zH (let y0:=I.get (α:=Fld) l (Fld.mk ([]:Str) ([]:Str)) (Nat.cast i);let y1:=I.hid (α:=Str) (quoM (Fld.value y0));let y2:=I.hid (α:=(Prop)) (LE.le (List.length (Fld.name y0)) 1000000);let y3:=I.inb (Nat.cast i) (I.len (α:=Fld) l);let y4:=I.cut (α:=Fld) l 0 (Int.ofNat i);.br (I.ilt (Nat.cast i) (I.len (α:=Fld) l)) (.need y3 (.need y3 (.need y2 (.br (I.bnot (I.hid (α:=Bool) (zO (Fld.name y0)))) (.fin (.ret (.tup [(.one (.p (.str ([]:Str)))),(.one (.p (.int .i64 6)))])) []) (.need y2 (.br (I.bnot (I.seq (I.hid (α:=Str) (lowS (Fld.name y0))) (Fld.name y0))) (.fin (.ret (.tup [(.one (.p (.str ([]:Str)))),(.one (.p (.int .i64 6)))])) []) (.need (I.cutb 0 (Int.ofNat i) (I.len (α:=Fld) l)) (.need (I.hid (α:=(Prop)) (LE.le (List.length y4) 1000000)) (.br (I.hid (α:=Bool) (hasP y4 (Fld.name y0))) (.fin (.ret (.tup [(.one (.p (.str ([]:Str)))),(.one (.p (.int .i64 9)))])) []) (.need (I.hid (α:=(Prop)) (LE.le (List.length (Fld.value y0)) 1000000)) (.br (I.bnot (I.hid (α:=Bool) (yU (Fld.value y0)))) (.fin (.ret (.tup [(.one (.p (.str ([]:Str)))),(.one (.p (.int .i64 3)))])) []) (.need (I.few (I.add (I.len (α:=UInt8) ([59,32]:Str)) (I.len (α:=UInt8) (Fld.name y0))) 1000000000) (.need (I.few (I.add (I.len (α:=UInt8) (I.app (α:=UInt8) ([59,32]:Str) (Fld.name y0))) (I.len (α:=UInt8) ([61]:Str))) 1000000000) (.need (I.hid (α:=(Prop)) (LE.le (List.length (Fld.value y0)) 200000)) (.need (I.few (I.add (I.len (α:=UInt8) (I.app (α:=UInt8) (I.app (α:=UInt8) ([59,32]:Str) (Fld.name y0)) ([61]:Str))) (I.len (α:=UInt8) y1)) 1000000000) (.need (I.few (I.add (I.len (α:=UInt8) a) (I.len (α:=UInt8) (I.app (α:=UInt8) (I.app (α:=UInt8) (I.app (α:=UInt8) ([59,32]:Str) (Fld.name y0)) ([61]:Str)) y1))) 1000000000) (.need (I.inr Go.IntKind.i64 (I.add (Nat.cast i) 1)) (.need (A ⟨[(1,(.v (.one (.ptr 0 0)))),(4,(.v (.one (.p (.str (I.app (α:=UInt8) a (I.app (α:=UInt8) (I.app (α:=UInt8) (I.app (α:=UInt8) ([59,32]:Str) (Fld.name y0)) ([61]:Str)) y1))))))),(18,(.v (.one (.p (.list .fld l))))),(19,(.v (.one (.p (.int .i64 (I.len (α:=Fld) l)))))),(20,(.v (.one (.p (.int .i64 (I.add (Nat.cast i) 1))))))],[(.pack [(.obj 44 [(.p (.str w)),(.p (.list .fld l))])])],62,none⟩) .qed)))))))))))))))))) (.fin (.ret (.tup [(.one (.p (.str a))),(.one (.p (.int .i64 0)))])) [])) (by kernel_rfl) ?_
  simp only [zU]
  subst hI
  simp only [nrmA,nrmB,nrlB,reduceCtorEq,HO.pack.injEq,HO.obj.injEq]
  have hx:i<l.length→l.getD i ⟨[],[]⟩ ∈ l:=fun h=>by rw [show l.getD i ⟨[],[]⟩=l[i] by simp [h]];exact List.getElem_mem h
  have hff:=fun h=>hf _ (hx h)
  have hx2:=fun(h:i<l.length)=>(Ux h ⟨[],[]⟩ a).symm.trans h2
  have hend: ¬ i<l.length→(a,(0:Int))=r:=fun h=>by rw [← h2,List.drop_of_length_le (by omega)];rfl
  have hta:(l.take i).length≤8:=by rw [List.length_take];omega
  have hmo:=fun(h:i<l.length) (b:Str) e k=>hA (i+1,a++b) ⟨by show i+1≤l.length;omega,e,k⟩ (by show l.length - (i+1)<l.length - i;omega)
  simp only [Int.natCast_add,Int.natCast_one] at hmo
  generalize l.getD i ⟨[],[]⟩=f at *
  clear hA hx hf
  have hq:=rU f.value
  have hno:zO f.name=true→lowS f.name=f.name→¬ (zO f.name=false∨lowS f.name≠f.name):=fun e1 e2=>by rintro(e|e);rw [e1] at e;cases e;exact e e2
  have hbl:(quoM f.value).length≤200002→f.name.length≤100000→([59,32]++f.name++[61]++quoM f.value).length≤300100:=fun _ _=>by simp only [List.length_append,List.length_cons,List.length_nil];omega
  (repeat' (first|refine And.intro ?_ ?_|intro _))<;>first|omega|exact True.intro|exact False.elim ‹False›|skip
  all_goals first
    |(have h9:=hend (by omega);subst h9;rfl)
    | (have h8 :=hff (by omega);first
        |omega
        |(simp only [List.length_append,List.length_cons,List.length_nil];omega)
        |(have h9:=hx2 (by omega);first
            |(rw [if_pos (.inl ‹_›)] at h9;subst h9;rfl)
            |(rw [if_pos (.inr ‹_›)] at h9;subst h9;rfl)
            |(rw [if_neg (hno ‹_› ‹_›),if_pos ‹_›] at h9;subst h9;rfl)
            |(rw [if_neg (hno ‹_› ‹_›),if_neg (by rw [‹hasP (List.take i l) f.name=false›];decide),if_pos ‹_›] at h9;subst h9;rfl)
            | (rw [if_neg (hno ‹_› ‹_›),if_neg (by rw [‹hasP (List.take i l) f.name=false›];decide),if_neg (by rw [‹yU f.value=true›];decide)] at h9
               have hb:=hbl (by omega) (by omega)
               exact hmo (by omega) _ h9 (by rw [List.length_append];omega))))
    |omega
def ZW (I:Alg) (args:List D) (hp:List HO):Option CT:=match args,hp with
  |[.v (.agg [(.p (.str w)),(.p (.list .fld l))])],[]=>(fun(w:Str) (l:List Fld)=>(some (.one ⟨I.hid ((w.length≤100000∧l.length≤1000000)∧∀ f ∈ l,f.name.length≤100000∧f.value.length≤100000),(.ret (.tup [(.one (.p (.str (I.hid ((zT w l).1))))),(.one (.p (.int .i64 (I.hid ((zT w l).2)))))])),[]⟩):Option CT)) w l
  |_,_=>none
theorem SS:yh Tryz.prog 22 (ZW alg):=by
  intro args hp r h
  unfold ZW at h
  split at h
  · cases h;exact fun hn=>zd7 _ _ hn
  · cases h
def zcj:Know Tryz.prog:=⟨22,ZW,SS⟩
def zci:Know Tryz.prog:=⟨22,fun I=>yE I (ZW I),zA SS⟩
end Go.Proofs.YtalfiafkeijijaaGreatDoor
namespace Go.Proofs.YtalfiafkeijijaaGreatDoor
open Go Go.Sep Go.Ab
set_option maxRecDepth 100000
set_option maxHeartbeats 4000000 in
theorem zd8 (n f t b:Str) (hneed:(n.length≤10000∧f.length≤10000)∧t.length≤10000):Spc Tryz.prog 11 [.v (.agg [(.p (.str n)),(.p (.str f)),(.p (.str t)),(.p (.list .byte b))])] [] (.ret (.tup [(.one (.row 0)),(.one (.p (.int .i64 ((xg ⟨n,f,t,b⟩).2))))])) [.row .fld 37 ((xg ⟨n,f,t,b⟩).1)]:=by
  obtain⟨⟨hn,hf⟩,ht⟩:=hneed
  have d0:f=[]→zT [102,111,114,109,45,100,97,116,97] [⟨[110,97,109,101],n⟩]=yL ⟨n,f,t,b⟩:=fun e=>by unfold yL VE;rw [if_pos (show(Prt.mk n f t b).file=[] from e)];rfl
  have d1: ¬ f=[]→zT [102,111,114,109,45,100,97,116,97] ([⟨[110,97,109,101],n⟩]++[⟨[102,105,108,101,110,97,109,101],f⟩])=yL ⟨n,f,t,b⟩:=fun e=>by unfold yL VE;rw [if_neg (show ¬ (Prt.mk n f t b).file=[] from e)];rfl
  have hs0: ∀ x ∈ [(⟨[110,97,109,101],n⟩:Fld)],x.name.length≤100000∧x.value.length≤100000:=fun x h=>by rw [List.mem_singleton.1 h];exact⟨by show 4≤100000;omega,by show n.length≤100000;omega⟩
  have hs1: ∀ x ∈ [(⟨[110,97,109,101],n⟩:Fld)]++[⟨[102,105,108,101,110,97,109,101],f⟩],x.name.length≤100000∧x.value.length≤100000:=fun x h=>by
    rcases List.mem_append.1 h with h|h
    · exact hs0 x h
    · rw [List.mem_singleton.1 h];exact⟨by show 8≤100000;omega,by show f.length≤100000;omega⟩
  generalize hr:xg ⟨n,f,t,b⟩=r
  have hh:(f=[]∨xM f=f)→¬ (f≠[]∧xM f≠f):=fun k ⟨e1,e2⟩=>k.elim e1 e2
  have g1: ¬ f=[]→¬ xM f=f→[]=r.1∧(6:Int)=r.2:=fun k1 k2=>by
    rw [← hr];unfold xg
    rw [if_pos (show(Prt.mk n f t b).file≠[]∧_ from⟨k1,k2⟩)];exact⟨rfl,rfl⟩
  have g2:(f=[]∨xM f=f)→¬ (yL ⟨n,f,t,b⟩).2=0→[]=r.1∧(yL ⟨n,f,t,b⟩).2=r.2:=fun k e=>by
    rw [← hr];unfold xg
    rw [if_neg (hh k),if_pos e];exact⟨rfl,rfl⟩
  have g3:(f=[]∨xM f=f)→(yL ⟨n,f,t,b⟩).2=0→t=[]→[(⟨[67,111,110,116,101,110,116,45,68,105,115,112,111,115,105,116,105,111,110],(yL ⟨n,f,t,b⟩).1⟩:Fld)]=r.1∧(0:Int)=r.2:=fun k e k2=>by
    rw [← hr];unfold xg
    rw [if_neg (hh k),if_neg (fun q=>q e),if_pos (show(Prt.mk n f t b).type=[] from k2)];exact⟨rfl,rfl⟩
  have g4:(f=[]∨xM f=f)→(yL ⟨n,f,t,b⟩).2=0→¬ t=[]→[(⟨[67,111,110,116,101,110,116,45,68,105,115,112,111,115,105,116,105,111,110],(yL ⟨n,f,t,b⟩).1⟩:Fld)]++[⟨[67,111,110,116,101,110,116,45,84,121,112,101],t⟩]=r.1∧(0:Int)=r.2:=fun k e k2=>by
    rw [← hr];unfold xg
    rw [if_neg (hh k),if_neg (fun q=>q e),if_neg (show ¬ (Prt.mk n f t b).type=[] from k2)];exact⟨rfl,rfl⟩
  clear hr hh
  generalize yL ⟨n,f,t,b⟩=d at *
  refine spcG zJ mixed Tryz.func11 (by kernel_rfl) { keep:=some [0,1,2,3,4,5,6,7]} [zcx,zcw,zcj,zci] (by kernel_rfl) ?_
  intro I X hI hX
  refine zH (.br (I.bnot (I.seq f (Array.toList (List.toArray ([]:List UInt8))))) (.need (I.hid (α:=(Prop)) (LE.le (List.length f) 1000000)) (.br (I.bnot (I.seq (I.hid (α:=(List UInt8)) (Go.Proofs.YtalfiafkeijijaaGreatDoor.xM f)) f)) (.fin (.ret (.tup [(.one (.row 0)),(.one (.p (.int .i64 6)))])) [(.row .fld 37 ([]:List Go.Ab.Fld))]) (.need (I.few (I.add (I.len (α:=Go.Ab.Fld) ([(Go.Ab.Fld.mk (Array.toList (List.toArray ([110,97,109,101]:List UInt8))) n)]:List Go.Ab.Fld)) (I.len (α:=Go.Ab.Fld) ([(Go.Ab.Fld.mk (Array.toList (List.toArray ([102,105,108,101,110,97,109,101]:List UInt8))) f)]:List Go.Ab.Fld))) 100000000) (.need (I.hid (α:=(Prop)) (And (And (LE.le (List.length (Array.toList (List.toArray ([102,111,114,109,45,100,97,116,97]:List UInt8)))) 100000) (LE.le (List.length (I.app (α:=Go.Ab.Fld) ([(Go.Ab.Fld.mk (Array.toList (List.toArray ([110,97,109,101]:List UInt8))) n)]:List Go.Ab.Fld) ([(Go.Ab.Fld.mk (Array.toList (List.toArray ([102,105,108,101,110,97,109,101]:List UInt8))) f)]:List Go.Ab.Fld))) 1000000)) (∀ (f_1:Fld),
    f_1 ∈
        I.app [Fld.mk (ByteArray.mk #[110,97,109,101]).data.toList n]
          [Fld.mk (ByteArray.mk #[102,105,108,101,110,97,109,101]).data.toList f]→
      List.length f_1.name≤100000∧List.length f_1.value≤100000))) (.br (I.bnot (I.ieq (I.hid (α:=Int) (Prod.snd (Go.Proofs.YtalfiafkeijijaaGreatDoor.zT (Array.toList (List.toArray ([102,111,114,109,45,100,97,116,97]:List UInt8))) (I.app (α:=Go.Ab.Fld) ([(Go.Ab.Fld.mk (Array.toList (List.toArray ([110,97,109,101]:List UInt8))) n)]:List Go.Ab.Fld) ([(Go.Ab.Fld.mk (Array.toList (List.toArray ([102,105,108,101,110,97,109,101]:List UInt8))) f)]:List Go.Ab.Fld))))) 0)) (.fin (.ret (.tup [(.one (.row 0)),(.one (.p (.int .i64 (I.hid (α:=Int) (Prod.snd (Go.Proofs.YtalfiafkeijijaaGreatDoor.zT (Array.toList (List.toArray ([102,111,114,109,45,100,97,116,97]:List UInt8))) (I.app (α:=Go.Ab.Fld) ([(Go.Ab.Fld.mk (Array.toList (List.toArray ([110,97,109,101]:List UInt8))) n)]:List Go.Ab.Fld) ([(Go.Ab.Fld.mk (Array.toList (List.toArray ([102,105,108,101,110,97,109,101]:List UInt8))) f)]:List Go.Ab.Fld))))))))])) [(.row .fld 37 ([]:List Go.Ab.Fld))]) (.br (I.bnot (I.seq t (Array.toList (List.toArray ([]:List UInt8))))) (.need (I.few (I.add (I.len (α:=Go.Ab.Fld) ([(Go.Ab.Fld.mk (Array.toList (List.toArray ([67,111,110,116,101,110,116,45,68,105,115,112,111,115,105,116,105,111,110]:List UInt8))) (I.hid (α:=(List UInt8)) (Prod.fst (Go.Proofs.YtalfiafkeijijaaGreatDoor.zT (Array.toList (List.toArray ([102,111,114,109,45,100,97,116,97]:List UInt8))) (I.app (α:=Go.Ab.Fld) ([(Go.Ab.Fld.mk (Array.toList (List.toArray ([110,97,109,101]:List UInt8))) n)]:List Go.Ab.Fld) ([(Go.Ab.Fld.mk (Array.toList (List.toArray ([102,105,108,101,110,97,109,101]:List UInt8))) f)]:List Go.Ab.Fld))))))]:List Go.Ab.Fld)) (I.len (α:=Go.Ab.Fld) ([(Go.Ab.Fld.mk (Array.toList (List.toArray ([67,111,110,116,101,110,116,45,84,121,112,101]:List UInt8))) t)]:List Go.Ab.Fld))) 100000000) (.fin (.ret (.tup [(.one (.row 0)),(.one (.p (.int .i64 0)))])) [(.row .fld 37 (I.app (α:=Go.Ab.Fld) ([(Go.Ab.Fld.mk (Array.toList (List.toArray ([67,111,110,116,101,110,116,45,68,105,115,112,111,115,105,116,105,111,110]:List UInt8))) (I.hid (α:=(List UInt8)) (Prod.fst (Go.Proofs.YtalfiafkeijijaaGreatDoor.zT (Array.toList (List.toArray ([102,111,114,109,45,100,97,116,97]:List UInt8))) (I.app (α:=Go.Ab.Fld) ([(Go.Ab.Fld.mk (Array.toList (List.toArray ([110,97,109,101]:List UInt8))) n)]:List Go.Ab.Fld) ([(Go.Ab.Fld.mk (Array.toList (List.toArray ([102,105,108,101,110,97,109,101]:List UInt8))) f)]:List Go.Ab.Fld))))))]:List Go.Ab.Fld) ([(Go.Ab.Fld.mk (Array.toList (List.toArray ([67,111,110,116,101,110,116,45,84,121,112,101]:List UInt8))) t)]:List Go.Ab.Fld)))])) (.fin (.ret (.tup [(.one (.row 0)),(.one (.p (.int .i64 0)))])) [(.row .fld 37 ([(Go.Ab.Fld.mk (Array.toList (List.toArray ([67,111,110,116,101,110,116,45,68,105,115,112,111,115,105,116,105,111,110]:List UInt8))) (I.hid (α:=(List UInt8)) (Prod.fst (Go.Proofs.YtalfiafkeijijaaGreatDoor.zT (Array.toList (List.toArray ([102,111,114,109,45,100,97,116,97]:List UInt8))) (I.app (α:=Go.Ab.Fld) ([(Go.Ab.Fld.mk (Array.toList (List.toArray ([110,97,109,101]:List UInt8))) n)]:List Go.Ab.Fld) ([(Go.Ab.Fld.mk (Array.toList (List.toArray ([102,105,108,101,110,97,109,101]:List UInt8))) f)]:List Go.Ab.Fld))))))]:List Go.Ab.Fld))]))))))) (.need (I.hid (α:=(Prop)) (And (And (LE.le (List.length (Array.toList (List.toArray ([102,111,114,109,45,100,97,116,97]:List UInt8)))) 100000) (LE.le (List.length ([(Go.Ab.Fld.mk (Array.toList (List.toArray ([110,97,109,101]:List UInt8))) n)]:List Go.Ab.Fld)) 1000000)) (∀ (f:Fld),
    f ∈ [Fld.mk (ByteArray.mk #[110,97,109,101]).data.toList n]→
      List.length f.name≤100000∧List.length f.value≤100000))) (.br (I.bnot (I.ieq (I.hid (α:=Int) (Prod.snd (Go.Proofs.YtalfiafkeijijaaGreatDoor.zT (Array.toList (List.toArray ([102,111,114,109,45,100,97,116,97]:List UInt8))) ([(Go.Ab.Fld.mk (Array.toList (List.toArray ([110,97,109,101]:List UInt8))) n)]:List Go.Ab.Fld)))) 0)) (.fin (.ret (.tup [(.one (.row 0)),(.one (.p (.int .i64 (I.hid (α:=Int) (Prod.snd (Go.Proofs.YtalfiafkeijijaaGreatDoor.zT (Array.toList (List.toArray ([102,111,114,109,45,100,97,116,97]:List UInt8))) ([(Go.Ab.Fld.mk (Array.toList (List.toArray ([110,97,109,101]:List UInt8))) n)]:List Go.Ab.Fld)))))))])) [(.row .fld 37 ([]:List Go.Ab.Fld))]) (.br (I.bnot (I.seq t (Array.toList (List.toArray ([]:List UInt8))))) (.need (I.few (I.add (I.len (α:=Go.Ab.Fld) ([(Go.Ab.Fld.mk (Array.toList (List.toArray ([67,111,110,116,101,110,116,45,68,105,115,112,111,115,105,116,105,111,110]:List UInt8))) (I.hid (α:=(List UInt8)) (Prod.fst (Go.Proofs.YtalfiafkeijijaaGreatDoor.zT (Array.toList (List.toArray ([102,111,114,109,45,100,97,116,97]:List UInt8))) ([(Go.Ab.Fld.mk (Array.toList (List.toArray ([110,97,109,101]:List UInt8))) n)]:List Go.Ab.Fld)))))]:List Go.Ab.Fld)) (I.len (α:=Go.Ab.Fld) ([(Go.Ab.Fld.mk (Array.toList (List.toArray ([67,111,110,116,101,110,116,45,84,121,112,101]:List UInt8))) t)]:List Go.Ab.Fld))) 100000000) (.fin (.ret (.tup [(.one (.row 0)),(.one (.p (.int .i64 0)))])) [(.row .fld 37 (I.app (α:=Go.Ab.Fld) ([(Go.Ab.Fld.mk (Array.toList (List.toArray ([67,111,110,116,101,110,116,45,68,105,115,112,111,115,105,116,105,111,110]:List UInt8))) (I.hid (α:=(List UInt8)) (Prod.fst (Go.Proofs.YtalfiafkeijijaaGreatDoor.zT (Array.toList (List.toArray ([102,111,114,109,45,100,97,116,97]:List UInt8))) ([(Go.Ab.Fld.mk (Array.toList (List.toArray ([110,97,109,101]:List UInt8))) n)]:List Go.Ab.Fld)))))]:List Go.Ab.Fld) ([(Go.Ab.Fld.mk (Array.toList (List.toArray ([67,111,110,116,101,110,116,45,84,121,112,101]:List UInt8))) t)]:List Go.Ab.Fld)))])) (.fin (.ret (.tup [(.one (.row 0)),(.one (.p (.int .i64 0)))])) [(.row .fld 37 ([(Go.Ab.Fld.mk (Array.toList (List.toArray ([67,111,110,116,101,110,116,45,68,105,115,112,111,115,105,116,105,111,110]:List UInt8))) (I.hid (α:=(List UInt8)) (Prod.fst (Go.Proofs.YtalfiafkeijijaaGreatDoor.zT (Array.toList (List.toArray ([102,111,114,109,45,100,97,116,97]:List UInt8))) ([(Go.Ab.Fld.mk (Array.toList (List.toArray ([110,97,109,101]:List UInt8))) n)]:List Go.Ab.Fld)))))]:List Go.Ab.Fld))]))))) (by kernel_rfl) ?_
  simp only [zU]
  (repeat' (first|refine And.intro ?_ ?_|intro _))
  all_goals try(subst hI;(simp only [nrmA,nrmB,nrlB,reduceCtorEq] at *);first
    |(first|done|exact True.intro|omega|(simp only [List.length_cons,List.length_nil];omega)|exact(g1 ‹_› ‹_›).1|exact(g2 (.inl ‹_›) ‹_›).1|exact(g3 (.inl ‹_›) ‹_› ‹_›).1|exact(g4 (.inl ‹_›) ‹_› ‹_›).1|exact(g2 (.inr ‹_›) ‹_›).1|exact(g3 (.inr ‹_›) ‹_› ‹_›).1|exact(g4 (.inr ‹_›) ‹_› ‹_›).1|exact(g1 ‹_› ‹_›).2|exact(g2 (.inl ‹_›) ‹_›).2|exact(g3 (.inl ‹_›) ‹_› ‹_›).2|exact(g4 (.inl ‹_›) ‹_› ‹_›).2|exact(g2 (.inr ‹_›) ‹_›).2|exact(g3 (.inr ‹_›) ‹_› ‹_›).2|exact(g4 (.inr ‹_›) ‹_› ‹_›).2)
    |exact⟨⟨by decide,by simp⟩,hs0⟩
    |exact⟨⟨by decide,by simp⟩,hs1⟩
    |(have q:=d0 ‹_›;simp only [q] at *;(first|done|exact True.intro|omega|(simp only [List.length_cons,List.length_nil];omega)|exact(g1 ‹_› ‹_›).1|exact(g2 (.inl ‹_›) ‹_›).1|exact(g3 (.inl ‹_›) ‹_› ‹_›).1|exact(g4 (.inl ‹_›) ‹_› ‹_›).1|exact(g2 (.inr ‹_›) ‹_›).1|exact(g3 (.inr ‹_›) ‹_› ‹_›).1|exact(g4 (.inr ‹_›) ‹_› ‹_›).1|exact(g1 ‹_› ‹_›).2|exact(g2 (.inl ‹_›) ‹_›).2|exact(g3 (.inl ‹_›) ‹_› ‹_›).2|exact(g4 (.inl ‹_›) ‹_› ‹_›).2|exact(g2 (.inr ‹_›) ‹_›).2|exact(g3 (.inr ‹_›) ‹_› ‹_›).2|exact(g4 (.inr ‹_›) ‹_› ‹_›).2))
    |(have q:=d1 ‹_›;simp only [q] at *;(first|done|exact True.intro|omega|(simp only [List.length_cons,List.length_nil];omega)|exact(g1 ‹_› ‹_›).1|exact(g2 (.inl ‹_›) ‹_›).1|exact(g3 (.inl ‹_›) ‹_› ‹_›).1|exact(g4 (.inl ‹_›) ‹_› ‹_›).1|exact(g2 (.inr ‹_›) ‹_›).1|exact(g3 (.inr ‹_›) ‹_› ‹_›).1|exact(g4 (.inr ‹_›) ‹_› ‹_›).1|exact(g1 ‹_› ‹_›).2|exact(g2 (.inl ‹_›) ‹_›).2|exact(g3 (.inl ‹_›) ‹_› ‹_›).2|exact(g4 (.inl ‹_›) ‹_› ‹_›).2|exact(g2 (.inr ‹_›) ‹_›).2|exact(g3 (.inr ‹_›) ‹_› ‹_›).2|exact(g4 (.inr ‹_›) ‹_› ‹_›).2)))
  all_goals trace_state
def ZX (I:Alg) (args:List D) (hp:List HO):Option CT:=match args,hp with
  |[.v (.agg [(.p (.str n)),(.p (.str f)),(.p (.str t)),(.p (.list .byte b))])],[]=>(fun(n f t b:Str)=>(some (.one ⟨I.hid ((n.length≤10000∧f.length≤10000)∧t.length≤10000),(.ret (.tup [(.one (.row 0)),(.one (.p (.int .i64 (I.hid ((xg ⟨n,f,t,b⟩).2)))))])),[.row .fld 37 (I.hid ((xg ⟨n,f,t,b⟩).1))]⟩):Option CT)) n f t b
  |_,_=>none
theorem SV:yh Tryz.prog 11 (ZX alg):=by
  intro args hp r h
  unfold ZX at h
  split at h
  · cases h;exact fun hn=>zd8 _ _ _ _ hn
  · cases h
def Wp:Know Tryz.prog:=⟨11,ZX,SV⟩
def Wn:Know Tryz.prog:=⟨11,fun I=>yE I (ZX I),zA SV⟩
end Go.Proofs.YtalfiafkeijijaaGreatDoor
namespace Go.Proofs.YtalfiafkeijijaaGreatDoor
open Go Go.Sep Go.Ab
set_option maxRecDepth 100000
theorem zcp {p:Prt} (hn:p.name.length≤10000) (hf:p.file.length≤10000) (ht:p.type.length≤10000):(xg p).1.length≤2∧∀ x ∈ (xg p).1,x.name.length≤100∧x.value.length≤70000:=by
  have h6:=zaP hn hf
  have h7:=Vh (w:=fdW) h6.1 h6.2
  have h8:fdW.length=9:=rfl
  have h9:cdS.length=19:=rfl
  have h10:ctS.length=12:=rfl
  have hd:(yL p).1.length≤70000:=by unfold yL;omega
  unfold xg
  split
  · exact⟨by simp,fun x h=>by cases h⟩
  split
  · exact⟨by simp,fun x h=>by cases h⟩
  · refine⟨by simp only [List.length_cons];split<;>simp,fun x h=> ?_⟩
    rcases List.mem_cons.1 h with rfl|h
    · exact⟨by show cdS.length≤_;omega,hd⟩
    · split at h
      · cases h
      · rw [List.mem_singleton.1 h];exact⟨by show ctS.length≤_;omega,by show p.type.length≤_;omega⟩
set_option maxHeartbeats 4000000 in
theorem zdf (b:Str) (l:List Prt) (hneed:b.length≤1000∧∀ p ∈ l,(p.name.length≤10000∧p.file.length≤10000)∧p.type.length≤10000∧p.bytes.length≤10000):Spc Tryz.prog 6 [.v (.one (.p (.str b))),.v (.one (.p (.list .prw l)))] [] (.ret (.tup [(.one (.row 0)),(.one (.p (.int .i64 ((vY b l).2))))])) [.row .byte 5 ((vY b l).1)]:=by
  obtain⟨hb,hp⟩:=hneed
  generalize hr:vY b l=r
  unfold vY at hr
  have m1:sV b=false→[]=r.1∧(5:Int)=r.2:=fun e=>by rw [if_pos e] at hr;subst hr;exact⟨rfl,rfl⟩
  have m2:sV b=true→(12:Int)<l.length→[]=r.1∧(8:Int)=r.2:=fun e h=>by rw [if_neg (by rw [e];decide),if_pos (by omega)] at hr;subst hr;exact⟨rfl,rfl⟩
  have m3:sV b=true→¬ (12:Int)<l.length→yC b l []=r∧l.length≤12:=fun e h=>by rw [if_neg (by rw [e];decide),if_neg (by omega)] at hr;exact⟨hr,by omega⟩
  clear hr
  refine spcG zJ mixed Tryz.func6 (by kernel_rfl) { nr:=[7],keep:=some [0,1,4,5,6,7,9,10,11,13,14,15,24,25,26,51,52,53]} [Uz,Uy,WI,WH,rC,ru,Wp,Wn] (by kernel_rfl) ?_
  intro I X hI hX
  refine zH (.need (I.hid (α:=(Prop)) (LE.le (List.length b) 140737488355328)) (.br (I.bnot (I.hid (α:=Bool) (sV b))) (.fin (.ret (.tup [(.one (.row 0)),(.one (.p (.int .i64 5)))])) [(.row .byte 5 ([]:Str))]) (.br (I.ilt 12 (I.len (α:=Go.Ab.Prt) l)) (.fin (.ret (.tup [(.one (.row 0)),(.one (.p (.int .i64 8)))])) [(.row .byte 5 ([]:Str))]) (.need (I.few (I.add (I.len (α:=UInt8) ([45,45]:Str)) (I.len (α:=UInt8) b)) 1000000000) (.code 0 [1,1,1,1,1,0,1,0] ⟨[(26,(.v (.one (.p (.int .i64 0))))),(25,(.v (.one (.p (.int .i64 (I.len (α:=Go.Ab.Prt) l)))))),(24,(.v (.one (.p (.list .prw l))))),(7,(.v (.one (.row 0)))),(6,(.v (.one (.p (.str (I.app (α:=UInt8) ([45,45]:Str) b)))))),(5,(.v (.one (.p (.int .i64 0))))),(4,(.v (.one .nilS))),(0,(.v (.one (.p (.str b))))),(1,(.v (.one (.p (.list .prw l)))))],[(.row .byte 5 ([]:Str))],83,none⟩))))) (by kernel_rfl) ?_
  simp only [zU]
  (repeat' (first|refine And.intro ?_ ?_|intro _))
  all_goals try(subst hI;(simp only [nrmA,nrmB,nrlB,reduceCtorEq] at *);first
    |done
    |exact True.intro
    |omega
    |(simp only [List.length_cons,List.length_nil];omega)
    |exact(m1 ‹_›).2
    |exact(m1 ‹_›).1
    |exact(m2 ‹_› ‹_›).2
    |exact(m2 ‹_› ‹_›).1)
  have hm3:yC b l []=r∧l.length≤12:=by
    subst hI
    simp only [nrmA,nrmB,nrlB,reduceCtorEq] at *
    exact m3 ‹_› ‹_›
  obtain⟨hr1,hl8⟩:=hm3
  clear m1 m2 m3
  rw [show I.app (α:=UInt8) [45,45] b=[45,45]++b by subst hI;rfl]
  have hmk:([45,45]++b).length≤1002:=by simp only [List.length_append,List.length_cons,List.length_nil];omega
  refine zQ hI zJ mixed [Uz,Uy,WI,WH,rC,ru,Wp,Wn] hX [6,7,24,25,26] (fun(g:Nat × Str)=>match g with|(i,a)=>i≤l.length∧yC b (l.drop i) a=r∧a.length≤i * 100000) (fun(g:Nat × Str)=>match g with|(i,a)=>⟨[(6,.v (.one (.p (.str (([45,45]++b)))))),(7,.v (.one (.row 0))),(24,.v (.one (.p (.list .prw l)))),(25,.v (.one (.p (.int .i64 ((I.len (α:=Prt) l)))))),(26,.v (.one (.p (.int .i64 i))))],[.row .byte 5 a],83,none⟩) (fun(g:Nat × Str)=>match g with|(i,a)=>l.length - i) (0,[]) (by kernel_rfl) (by kernel_rfl) ?_ ?_
  · exact⟨Nat.zero_le _,hr1,by simp⟩
  rintro⟨i,a⟩ ⟨h1,h2,h3⟩ A hA
  have hx:i<l.length→l.getD i ⟨[],[],[],[]⟩ ∈ l:=fun h=>by rw [show l.getD i ⟨[],[],[],[]⟩=l[i] by simp [h]];exact List.getElem_mem h
  have hpp:=fun h=>hp _ (hx h)
  have hx2:=fun(h:i<l.length)=>(Vf h ⟨[],[],[],[]⟩ a).symm.trans h2
  have hend: ¬ i<l.length→a++([45,45]++b++[45,45,13,10])=r.1∧(0:Int)=r.2:=fun h=>by
    rw [List.drop_of_length_le (by omega)] at h2
    subst h2;exact⟨rfl,rfl⟩
  have hA2:=fun(h:i<l.length) (c:Str) (e:yC b (l.drop (i+1)) c=r) (k:c.length≤(i+1) * 100000)=>hA (i+1,c) ⟨by show i+1≤l.length;omega,e,k⟩ (by show l.length - (i+1)<l.length - i;omega)
  simp only [Int.natCast_add,Int.natCast_one] at hA2
  have hgi:I.get (α:=Prt) l ⟨[],[],[],[]⟩ (i:Int)=l.getD i ⟨[],[],[],[]⟩:=by subst hI;rfl
  have hgi2:I.get (α:=Prt) l (dflt U.prw) (i:Int)=l.getD i ⟨[],[],[],[]⟩:=by subst hI;rfl
  clear hA hx hp h2
  refine zH (let y0:=I.get (α:=Go.Ab.Prt) l (Go.Ab.Prt.mk ([]:Str) ([]:Str) ([]:Str) ([]:Str)) (Nat.cast i);let y1:=I.hid (α:=Int) (Prod.snd (xg (Go.Ab.Prt.mk (Go.Ab.Prt.name y0) (Go.Ab.Prt.file y0) (Go.Ab.Prt.type y0) (Go.Ab.Prt.bytes y0))));let y2:=I.hid (α:=(List Fld)) (Prod.fst (xg (Go.Ab.Prt.mk (Go.Ab.Prt.name y0) (Go.Ab.Prt.file y0) (Go.Ab.Prt.type y0) (Go.Ab.Prt.bytes y0))));let y3:=I.len (α:=UInt8) (HAppend.hAppend ([45,45]:Str) b);let y4:=I.len (α:=UInt8) ([(I.i2b 13),(I.i2b 10)]:Str);let y5:=I.inb (Nat.cast i) (I.len (α:=Go.Ab.Prt) l);let y6:=I.len (α:=UInt8) ([13,10]:Str);.br (I.ilt (Nat.cast i) (I.len (α:=Go.Ab.Prt) l)) (.need y5 (.need y5 (.need (I.inr Go.IntKind.u8 13) (.need (I.inr Go.IntKind.u8 10) (.need (I.inb 0 y4) (.need (I.few (I.add y4 (I.len (α:=UInt8) (Go.Ab.Prt.bytes y0))) 140737488355328) (.need (I.few (I.add y6 y3) 1000000000) (.need (I.hid (α:=(Prop)) (And (And (Ne (I.app (α:=UInt8) ([(I.i2b 13),(I.i2b 10)]:Str) (Go.Ab.Prt.bytes y0)) ([]:Str)) (LE.le (List.length (I.app (α:=UInt8) ([(I.i2b 13),(I.i2b 10)]:Str) (Go.Ab.Prt.bytes y0))) 1000000)) (And (Ne (I.app (α:=UInt8) ([13,10]:Str) (HAppend.hAppend ([45,45]:Str) b)) ([]:Str)) (LE.le (List.length (I.app (α:=UInt8) ([13,10]:Str) (HAppend.hAppend ([45,45]:Str) b))) 1000000)))) (.br (I.hid (α:=Bool) (Go.Lib.contains (I.app (α:=UInt8) ([(I.i2b 13),(I.i2b 10)]:Str) (Go.Ab.Prt.bytes y0)) (I.app (α:=UInt8) ([13,10]:Str) (HAppend.hAppend ([45,45]:Str) b)))) (.fin (.ret (.tup [(.one (.row 0)),(.one (.p (.int .i64 15)))])) [(.row .byte 5 ([]:Str))]) (.need (I.hid (α:=(Prop)) (And (And (LE.le (List.length (Go.Ab.Prt.name y0)) 10000) (LE.le (List.length (Go.Ab.Prt.file y0)) 10000)) (LE.le (List.length (Go.Ab.Prt.type y0)) 10000))) (.br (I.bnot (I.ieq y1 0)) (.fin (.ret (.tup [(.one (.row 0)),(.one (.p (.int .i64 y1)))])) [(.row .byte 5 ([]:Str))]) (.need (I.few (I.add y3 y6) 1000000000) (.need (I.few (I.add (I.len (α:=UInt8) a) (I.len (α:=UInt8) (I.app (α:=UInt8) (HAppend.hAppend ([45,45]:Str) b) ([13,10]:Str)))) 140737488355328) (.code 0 [1,1,0,0,1,1,1,1,1,0,1,0] ⟨[(53,(.v (.one (.p (.int .i64 0))))),(52,(.v (.one (.p (.int .i64 (I.len (α:=Fld) y2)))))),(51,(.v (.one (.row 5)))),(7,(.v (.one (.row 6)))),(11,(.v (.one (.p (.int .i64 y1))))),(10,(.v (.one (.row 5)))),(9,(.v (.one (.ptr 1 0)))),(6,(.v (.one (.p (.str (HAppend.hAppend ([45,45]:Str) b)))))),(24,(.v (.one (.p (.list .prw l))))),(25,(.v (.one (.p (.int .i64 (I.len (α:=Go.Ab.Prt) l)))))),(26,(.v (.one (.p (.int .i64 (Nat.cast i))))))],[.gone,(.obj 31 [(.p (.str (Go.Ab.Prt.name y0))),(.p (.str (Go.Ab.Prt.file y0))),(.p (.str (Go.Ab.Prt.type y0))),(.p (.list .byte (Go.Ab.Prt.bytes y0)))]),.gone,(.row .byte 5 (I.app (α:=UInt8) ([(I.i2b 13),(I.i2b 10)]:Str) (Go.Ab.Prt.bytes y0))),(.row .byte 5 (I.app (α:=UInt8) ([13,10]:Str) (HAppend.hAppend ([45,45]:Str) b))),(.row .fld 37 y2),(.row .byte 5 (I.app (α:=UInt8) a (I.app (α:=UInt8) (HAppend.hAppend ([45,45]:Str) b) ([13,10]:Str))))],83,none⟩)))))))))))))) (.need (I.few (I.add y3 (I.len (α:=UInt8) ([45,45,13,10]:Str))) 1000000000) (.need (I.few (I.add (I.len (α:=UInt8) a) (I.len (α:=UInt8) (I.app (α:=UInt8) (HAppend.hAppend ([45,45]:Str) b) ([45,45,13,10]:Str)))) 140737488355328) (.fin (.ret (.tup [(.one (.row 0)),(.one (.p (.int .i64 0)))])) [(.row .byte 5 (I.app (α:=UInt8) a (I.app (α:=UInt8) (HAppend.hAppend ([45,45]:Str) b) ([45,45,13,10]:Str))))])))) (by kernel_rfl) ?_
  simp only [zU]
  simp only [hgi,hgi2]
  clear hgi hgi2
  generalize l.getD i ⟨[],[],[],[]⟩=p at *
  obtain⟨n,f,t,y⟩:=p
  simp only [] at hpp
  have hh1:I.hid (xg ⟨n,f,t,y⟩).1=(xg ⟨n,f,t,y⟩).1:=by subst hI;rfl
  have ha1:I.app (α:=UInt8) a (I.app (α:=UInt8) ([45,45]++b) [13,10])=a++([45,45]++b++[13,10]):=by subst hI;rfl
  simp only [hh1,ha1]
  clear hh1 ha1
  have hcl:vw b ⟨n,f,t,y⟩=Lib.contains ([13,10]++y) ([13,10]++([45,45]++b)):=rfl
  rw [hcl] at hx2
  clear hcl
  have hql:=fun(h:i<l.length)=>zcp (p:=⟨n,f,t,y⟩) (hpp h).1.1 (hpp h).1.2 (hpp h).2.1
  generalize xg ⟨n,f,t,y⟩=q at *
  generalize hz:yD q.1 (a++([45,45]++b++[13,10]))=z at *
  have o1:i<l.length→Lib.contains ([13,10]++y) ([13,10]++([45,45]++b))=true→[]=r.1∧(15:Int)=r.2:=fun h e=>by
    have h9:=hx2 h
    rw [if_pos e] at h9;subst h9;exact⟨rfl,rfl⟩
  have o2:i<l.length→Lib.contains ([13,10]++y) ([13,10]++([45,45]++b))=false→¬ q.2=0→[]=r.1∧q.2=r.2:=fun h e k=>by
    have h9:=hx2 h
    rw [if_neg (by rw [e];decide),if_pos k] at h9;subst h9;exact⟨rfl,rfl⟩
  have o3:i<l.length→Lib.contains ([13,10]++y) ([13,10]++([45,45]++b))=false→q.2=0→(if z.2≠0 then([],z.2) else yC b (l.drop (i+1)) (z.1++[13,10]++y++[13,10]))=r:=fun h e k=>by
    have h9:=hx2 h
    rwa [if_neg (by rw [e];decide),if_neg (fun j=>j k)] at h9
  clear hx2
  (repeat' (first|refine And.intro ?_ ?_|intro _))
  all_goals try(subst hI;(simp only [nrmA,nrmB,nrlB,reduceCtorEq] at *);first
    |done
    |exact True.intro
    |omega
    |(simp only [List.length_append,List.length_cons,List.length_nil];omega)
    |exact(hend (by omega)).1
    |exact(hend (by omega)).2
    |exact(o1 (by omega) ‹_›).1
    |exact(o1 (by omega) ‹_›).2
    |exact(o2 (by omega) ‹_› ‹_›).1
    |exact(o2 (by omega) ‹_› ‹_›).2
    | (have hpl:=hpp (by omega);first
      |omega
      |(simp only [List.length_append,List.length_cons,List.length_nil];omega)
      |exact⟨⟨by simp,by simp only [List.length_append,List.length_cons,List.length_nil];omega⟩,by simp,by simp only [List.length_append,List.length_cons,List.length_nil];omega⟩))
  have hfacts:i<l.length∧Lib.contains ([13,10]++y) ([13,10]++([45,45]++b))=false∧q.2=0:=by
    subst hI
    simp only [nrmA,nrmB,nrlB,reduceCtorEq] at *
    exact⟨by omega,‹_›,‹_›⟩
  obtain⟨hil,hcf,hq0⟩:=hfacts
  have hx4:=o3 hil hcf hq0
  have hpl:=hpp hil
  have hqb:=hql hil
  have hA3:=hA2 hil
  clear o1 o2 o3 hpp hql hA2 hend
  have hn0:([45,45]++b++[13,10]).length≤1010:=by simp only [List.length_append,List.length_cons,List.length_nil] at hmk ⊢;omega
  have ha0:(a++([45,45]++b++[13,10])).length≤i * 100000+1010:=by rw [List.length_append];omega
  generalize a++([45,45]++b++[13,10])=a0 at *
  refine zQ hI zJ mixed [Uz,Uy,WI,WH,rC,ru,Wp,Wn] hX [6,7,9,24,25,26,51,52,53] (fun(g:Nat × Str)=>match g with|(k,c)=>k≤q.1.length∧yD (q.1.drop k) c=z∧c.length≤i * 100000+1010+k * 210) (fun(g:Nat × Str)=>match g with|(k,c)=>⟨[(6,.v (.one (.p (.str (([45,45]++b)))))),(7,.v (.one (.row 0))),(9,.v (.one (.ptr 1 0))),(24,.v (.one (.p (.list .prw l)))),(25,.v (.one (.p (.int .i64 ((I.len (α:=Prt) l)))))),(26,.v (.one (.p (.int .i64 i)))),(51,.v (.one (.row 2))),(52,.v (.one (.p (.int .i64 ((I.len (α:=Fld) q.1)))))),(53,.v (.one (.p (.int .i64 k))))],[.row .byte 5 c,.pack [.obj 31 [(.p (.str n)),(.p (.str f)),(.p (.str t)),(.p (.list .byte y))]],.row .fld 37 q.1],83,none⟩) (fun(g:Nat × Str)=>match g with|(k,c)=>q.1.length - k) (0,a0) (by kernel_rfl) (by kernel_rfl) ?_ ?_
  · exact⟨Nat.zero_le _,hz,by omega⟩
  rintro⟨k,c⟩ ⟨g1,g2,g3⟩ B hB
  have hxk:k<q.1.length→q.1.getD k ⟨[],[]⟩ ∈ q.1:=fun h=>by rw [show q.1.getD k ⟨[],[]⟩=q.1[k] by simp [h]];exact List.getElem_mem h
  have hpk:=fun h=>hqb.2 _ (hxk h)
  have hs:=fun(h:k<q.1.length)=>(zaT h ⟨[],[]⟩ c).symm.trans g2
  have e4: ¬ k<q.1.length→yC b (l.drop (i+1)) (c++[13,10]++y++[13,10])=r:=fun h=>by
    rw [List.drop_of_length_le (by omega)] at g2
    have h9:(c,(0:Int))=z:=g2
    have h8:=hx4
    rw [← h9,if_neg (fun j=>j rfl)] at h8
    exact h8
  have hB2:=fun(h:k<q.1.length) (c':Str) (e:yD (q.1.drop (k+1)) c'=z) (j:c'.length≤i * 100000+1010+(k+1) * 210)=>hB (k+1,c') ⟨by show k+1≤q.1.length;omega,e,j⟩ (by show q.1.length - (k+1)<q.1.length - k;omega)
  simp only [Int.natCast_add,Int.natCast_one] at hB2
  have hgk:I.get (α:=Fld) q.1 ⟨[],[]⟩ (k:Int)=q.1.getD k ⟨[],[]⟩:=by subst hI;rfl
  have hgk2:I.get (α:=Fld) q.1 (dflt U.fld) (k:Int)=q.1.getD k ⟨[],[]⟩:=by subst hI;rfl
  clear hB hxk g2 hz
  refine zH (let y0:=I.get (α:=Fld) (Prod.fst q) (Fld.mk ([]:Str) ([]:Str)) (Nat.cast k);let y1:=I.hid (α:=Str) (Prod.fst (textF (Fld.mk (Fld.name y0) (Fld.value y0))));let y2:=I.hid (α:=Int) (Prod.snd (textF (Fld.mk (Fld.name y0) (Fld.value y0))));let y3:=I.len (α:=UInt8) ([13,10]:Str);let y4:=I.inb (Nat.cast k) (I.len (α:=Fld) (Prod.fst q));.br (I.ilt (Nat.cast k) (I.len (α:=Fld) (Prod.fst q))) (.need y4 (.need y4 (.need (I.hid (α:=(Prop)) (And (LE.le (List.length (Fld.name y0)) 1000000) (LE.le (List.length (Fld.value y0)) 1000000))) (.br (I.bnot (I.ieq y2 0)) (.fin (.ret (.tup [(.one (.row 0)),(.one (.p (.int .i64 y2)))])) [(.row .byte 5 ([]:Str))]) (.need (I.few (I.add (I.len (α:=UInt8) y1) y3) 1000000000) (.need (I.few (I.add (I.len (α:=UInt8) c) (I.len (α:=UInt8) (I.app (α:=UInt8) y1 ([13,10]:Str)))) 140737488355328) (.need (I.inr Go.IntKind.i64 (I.add (Nat.cast k) 1)) (.need (B ⟨[(6,(.v (.one (.p (.str (HAppend.hAppend ([45,45]:Str) b)))))),(7,(.v (.one (.row 0)))),(9,(.v (.one (.ptr 1 0)))),(24,(.v (.one (.p (.list .prw l))))),(25,(.v (.one (.p (.int .i64 (I.len (α:=Go.Ab.Prt) l)))))),(26,(.v (.one (.p (.int .i64 (Nat.cast i)))))),(51,(.v (.one (.row 2)))),(52,(.v (.one (.p (.int .i64 (I.len (α:=Fld) (Prod.fst q))))))),(53,(.v (.one (.p (.int .i64 (I.add (Nat.cast k) 1))))))],[(.row .byte 5 (I.app (α:=UInt8) c (I.app (α:=UInt8) y1 ([13,10]:Str)))),(.pack [(.obj 31 [(.p (.str n)),(.p (.str f)),(.p (.str t)),(.p (.list .byte y))])]),(.row .fld 37 (Prod.fst q))],83,none⟩) .qed)))))))) (.need (I.few (I.add (I.len (α:=UInt8) c) y3) 140737488355328) (.need (I.few (I.add (I.len (α:=UInt8) (I.app (α:=UInt8) c ([13,10]:Str))) (I.len (α:=UInt8) y)) 140737488355328) (.need (I.few (I.add (I.len (α:=UInt8) (I.app (α:=UInt8) (I.app (α:=UInt8) c ([13,10]:Str)) y)) y3) 140737488355328) (.need (I.inr Go.IntKind.i64 (I.add (Nat.cast i) 1)) (.need (A ⟨[(6,(.v (.one (.p (.str (HAppend.hAppend ([45,45]:Str) b)))))),(7,(.v (.one (.row 0)))),(24,(.v (.one (.p (.list .prw l))))),(25,(.v (.one (.p (.int .i64 (I.len (α:=Go.Ab.Prt) l)))))),(26,(.v (.one (.p (.int .i64 (I.add (Nat.cast i) 1))))))],[(.row .byte 5 (I.app (α:=UInt8) (I.app (α:=UInt8) (I.app (α:=UInt8) c ([13,10]:Str)) y) ([13,10]:Str)))],83,none⟩) .qed)))))) (by kernel_rfl) ?_
  simp only [zU]
  simp only [hgk,hgk2]
  clear hgk hgk2
  generalize q.1.getD k ⟨[],[]⟩=x at *
  obtain⟨xn,xv⟩:=x
  simp only [] at hpk
  have htl:=X3 ⟨xn,xv⟩
  generalize textF ⟨xn,xv⟩=T at *
  have e1:k<q.1.length→¬ T.2=0→[]=r.1∧T.2=r.2:=fun h e=>by
    have h9:=hs h
    rw [if_pos e] at h9
    have h8:=hx4
    rw [← h9,if_pos e] at h8
    subst h8;exact⟨rfl,rfl⟩
  have e2:k<q.1.length→T.2=0→yD (q.1.drop (k+1)) (c++(T.1++[13,10]))=z:=fun h e=>by
    have h9:=hs h
    rwa [if_neg (fun j=>j e)] at h9
  clear hs
  (repeat' (first|refine And.intro ?_ ?_|intro _))
  all_goals try(subst hI;(simp only [nrmA,nrmB,nrlB,reduceCtorEq] at *);first
    |done
    |exact True.intro
    |omega
    |(simp only [List.length_append,List.length_cons,List.length_nil];omega)
    |exact(e1 (by omega) ‹_›).1
    |exact(e1 (by omega) ‹_›).2
    |(have hp9:=hpk (by omega);exact⟨by omega,by omega⟩)
    |(refine hB2 (by omega) _ (e2 (by omega) ‹_›) ?_;simp only [List.length_append,List.length_cons,List.length_nil];omega)
    |(refine hA3 _ (e4 (by omega)) ?_;simp only [List.length_append,List.length_cons,List.length_nil];omega))
  all_goals trace_state
def rX (I:Alg) (args:List D) (hp:List HO):Option CT:=match args,hp with
  |[.v (.one (.p (.str b))),.v (.one (.p (.list .prw l)))],[]=>(fun(b:Str) (l:List Prt)=>(some (.one ⟨I.hid (b.length≤1000∧∀ p ∈ l,(p.name.length≤10000∧p.file.length≤10000)∧p.type.length≤10000∧p.bytes.length≤10000),(.ret (.tup [(.one (.row 0)),(.one (.p (.int .i64 (I.hid ((vY b l).2)))))])),[.row .byte 5 (I.hid ((vY b l).1))]⟩):Option CT)) b l
  |_,_=>none
theorem Vy:yh Tryz.prog 6 (rX alg):=by
  intro args hp r h
  unfold rX at h
  split at h
  · cases h;exact fun hn=>zdf _ _ hn
  · cases h
def Vx:Know Tryz.prog:=⟨6,rX,Vy⟩
def Vw:Know Tryz.prog:=⟨6,fun I=>yE I (rX I),zA Vy⟩
end Go.Proofs.YtalfiafkeijijaaGreatDoor
namespace Go.Proofs.YtalfiafkeijijaaGreatDoor
open Go Go.Sep Go.Ab
set_option maxRecDepth 100000
def sizQ (p:Prt):Nat:=p.bytes.length+p.name.length+p.file.length+p.type.length
def sumQ:List Prt→Nat
  |[]=>0
  |f::r=>sizQ f+sumQ r
theorem TN: ∀ {l:List Prt} {f:Prt},f ∈ l→sizQ f≤sumQ l
  | g::r,f,h=>by
    rcases List.mem_cons.1 h with rfl|h
    · exact Nat.le_add_right _ _
    · exact Nat.le_trans (TN h) (Nat.le_add_left _ _)
theorem Vk: ∀ {l:List Prt} {i:Nat} (d:Prt),i<l.length→sumQ (l.take (i+1))=sumQ (l.take i)+sizQ (l.getD i d)
  |g::r,0,d,_=>by simp [sumQ]
  | g::r,i+1,d,h=>by
    have:=Vk (l:=r) (i:=i) d (by simpa using h)
    rw [List.take_succ_cons,List.take_succ_cons,List.getD_cons_succ,sumQ,sumQ,this];omega
def XE (l:List Prt):Bool:=decide (40<l.length)||decide (6000<sumQ (l.take 50))
theorem za3 {l:List Prt} (h:XE l=false):l.length≤40∧∀ p ∈ l,(p.name.length≤10000∧p.file.length≤10000)∧p.type.length≤10000∧p.bytes.length≤10000:=by
  unfold XE at h
  simp only [Bool.or_eq_false_iff,decide_eq_false_iff_not] at h
  rw [List.take_of_length_le (by omega)] at h
  exact⟨by omega,fun f hf=>by have:=TN hf;unfold sizQ at this;omega⟩
set_option maxHeartbeats 1000000 in
theorem zdz (l:List Prt) (hneed: ∀ f ∈ l,(f.name.length≤140737488355328∧f.file.length≤140737488355328)∧f.type.length≤140737488355328∧f.bytes.length≤140737488355328):Spc Tryz.prog 5 [.v (.one (.p (.list .prw l)))] [] (.ret (.v (.one (.p (.bool ((XE l))))))) []:=by
  have hf:=hneed
  generalize hr:XE l=r
  have hcl:(decide (40<l.length)||decide (6000<sumQ (l.take 50)))=r:=hr
  clear hr hneed
  refine spcG zJ mixed Tryz.func5 (by kernel_rfl) { keep:=some [0,2,3,4]} [] (by kernel_rfl) ?_
  intro I X hI hX
  refine zH (.code 0 [1,1,0,1,0] ⟨[(4,(.v (.one (.p (.int .i64 0))))),(3,(.v (.one (.p (.int .i64 0))))),(2,(.v (.one (.p (.val (.bool .false)))))),(0,(.v (.one (.p (.list .prw l)))))],[],51,none⟩) (by kernel_rfl) ?_
  simp only [zU]
  refine zQ hI zJ mixed [] hX [0,3,4] (fun(g:Nat × Int)=>match g with|(i,n)=>i≤l.length∧i≤50∧n=(sumQ (l.take i):Int)∧sumQ (l.take i)≤i * 562949953421312) (fun(g:Nat × Int)=>match g with|(i,n)=>⟨[(0,.v (.one (.p (.list .prw l)))),(3,.v (.one (.p (.int .i64 n)))),(4,.v (.one (.p (.int .i64 i))))],[],51,none⟩) (fun(g:Nat × Int)=>match g with|(i,n)=>l.length - i) (0,0) (by kernel_rfl) (by kernel_rfl) ?_ ?_
  · exact⟨Nat.zero_le _,Nat.zero_le _,by simp [sumQ],by simp [sumQ]⟩
  rintro⟨i,n⟩ ⟨h1,h2,h3,h4⟩ A hA
  have hx:i<l.length→l.getD i ⟨[],[],[],[]⟩ ∈ l:=fun h=>by rw [show l.getD i ⟨[],[],[],[]⟩=l[i] by simp [h]];exact List.getElem_mem h
  have hff:=fun h=>hf _ (hx h)
  have hst:=fun(h:i<l.length)=>Vk (l:=l) (i:=i) ⟨[],[],[],[]⟩ h
  unfold sizQ at hst
  have hmo:=fun(h:i<l.length) (k:i<50) (n':Int) (e:n'=(sumQ (l.take (i+1)):Int))=>hA (i+1,n') ⟨by show i+1≤l.length;omega,by show i+1≤50;omega,e,by show sumQ (l.take (i+1))≤(i+1) * 562949953421312;have:=hff h;rw [hst h];omega⟩ (by show l.length - (i+1)<l.length - i;omega)
  simp only [Int.natCast_add,Int.natCast_one] at hmo
  have hend: ¬ (i<l.length∧i<50)→sumQ (l.take i)=sumQ (l.take 50):=fun h=>by
    by_cases k:i<50
    · rw [List.take_of_length_le (show l.length≤i by omega),List.take_of_length_le (show l.length≤50 by omega)]
    · rw [show i=50 by omega]
  have e1:(40:Int)<l.length→true=r:=fun h=>by rw [← hcl,decide_eq_true (show 40<l.length by omega)];rfl
  have e2: ¬ (i<l.length∧i<50)→¬ (40:Int)<l.length→decide (6000<n)=r:=fun h k=>by
    rw [← hcl,decide_eq_false (show ¬ 40<l.length by omega),Bool.false_or,h3,hend h,Bool.eq_iff_iff,decide_eq_true_iff,decide_eq_true_iff];omega
  clear hcl hend hA hx hf
  refine zH (let y0:=I.get (α:=Go.Ab.Prt) l (Go.Ab.Prt.mk ([]:Str) ([]:Str) ([]:Str) ([]:Str)) (Nat.cast i);let y1:=I.add (I.add (I.len (α:=UInt8) (Go.Ab.Prt.bytes y0)) (I.len (α:=UInt8) (Go.Ab.Prt.name y0))) (I.len (α:=UInt8) (Go.Ab.Prt.file y0));let y2:=I.inb (Nat.cast i) (I.len (α:=Go.Ab.Prt) l);let y3:=I.add y1 (I.len (α:=UInt8) (Go.Ab.Prt.type y0));let y4:=I.ilt 40 (I.len (α:=Go.Ab.Prt) l);.br (I.ilt (Nat.cast i) (I.len (α:=Go.Ab.Prt) l)) (.br (I.ilt (Nat.cast i) 50) (.need y2 (.need y2 (.need y2 (.need y2 (.need (I.inr Go.IntKind.i64 (I.add (I.len (α:=UInt8) (Go.Ab.Prt.bytes y0)) (I.len (α:=UInt8) (Go.Ab.Prt.name y0)))) (.need y2 (.need y2 (.need (I.inr Go.IntKind.i64 y1) (.need y2 (.need y2 (.need (I.inr Go.IntKind.i64 y3) (.need (I.inr Go.IntKind.i64 (I.add n y3)) (.need (I.inr Go.IntKind.i64 (I.add (Nat.cast i) 1)) (.need (A ⟨[(0,(.v (.one (.p (.list .prw l))))),(3,(.v (.one (.p (.int .i64 (I.add n y3)))))),(4,(.v (.one (.p (.int .i64 (I.add (Nat.cast i) 1))))))],[],51,none⟩) .qed)))))))))))))) (.br y4 (.fin (.ret (.v (.one (.p (.bool Bool.true))))) []) (.fin (.ret (.v (.one (.p (.bool (I.ilt 6000 n)))))) []))) (.br y4 (.fin (.ret (.v (.one (.p (.bool Bool.true))))) []) (.fin (.ret (.v (.one (.p (.bool (I.ilt 6000 n)))))) []))) (by kernel_rfl) ?_
  simp only [zU]
  subst hI
  simp only [nrmA,nrmB,nrlB,reduceCtorEq]
  generalize l.getD i ⟨[],[],[],[]⟩=f at *
  generalize l.take i=li at *
  (repeat' (first|refine And.intro ?_ ?_|intro _))<;>first|omega|exact True.intro|exact False.elim ‹False›|skip
  all_goals first
    |(have:=hff (by omega);omega)
    |omega
    |exact e1 ‹_›
    |exact e2 (by omega) ‹_›
    |(refine hmo (by omega) (by omega) _ ?_;rw [hst (by omega),h3];omega)
def ql (I:Alg) (args:List D) (hp:List HO):Option CT:=match args,hp with
  |[.v (.one (.p (.list .prw l)))],[]=>(fun(l:List Prt)=>(some (.one ⟨I.hid (∀ f ∈ l,(f.name.length≤140737488355328∧f.file.length≤140737488355328)∧f.type.length≤140737488355328∧f.bytes.length≤140737488355328),(.ret (.v (.one (.p (.bool (I.hid ((XE l)))))))),[]⟩):Option CT)) l
  |_,_=>none
theorem VY:yh Tryz.prog 5 (ql alg):=by
  intro args hp r h
  unfold ql at h
  split at h
  · cases h;exact fun hn=>zdz _ hn
  · cases h
def za5:Know Tryz.prog:=⟨5,ql,VY⟩
def za4:Know Tryz.prog:=⟨5,fun I=>yE I (ql I),zA VY⟩
end Go.Proofs.YtalfiafkeijijaaGreatDoor
namespace Go.Proofs.YtalfiafkeijijaaGreatDoor
open Go Go.Sep Go.Ab
set_option maxRecDepth 100000
theorem zaC:Spc Tryz.prog 4 [] [] (.ret (.v (.one (.p (.bool true))))) []:=by
  refine spcG zJ mixed Tryz.func4 (by kernel_rfl) { keep:=some [0,1,2]} [Vx,Vw] (by kernel_rfl) ?_
  intro I X hI hX
  refine zH (.need (I.inr Go.IntKind.u8 98) (.need (I.inb 0 (I.len (α:=UInt8) ([(I.i2b 98)]:List UInt8))) (.need (I.hid (α:=(Prop)) (And (LE.le (List.length (Array.toList (List.toArray ([88]:List UInt8)))) 1000) (∀ (p:Prt),
    p ∈ [Prt.mk (ByteArray.mk #[97]).data.toList (ByteArray.mk #[102]).data.toList [] [I.i2b 98]]→
      (List.length p.name≤10000∧List.length p.file≤10000)∧List.length p.type≤10000∧List.length p.bytes≤10000))) (.br (I.ieq (I.hid (α:=Int) (Prod.snd (Go.Proofs.YtalfiafkeijijaaGreatDoor.vY (Array.toList (List.toArray ([88]:List UInt8))) ([(Go.Ab.Prt.mk (Array.toList (List.toArray ([97]:List UInt8))) (Array.toList (List.toArray ([102]:List UInt8))) ([]:List UInt8) ([(I.i2b 98)]:List UInt8))]:List Go.Ab.Prt)))) 0) (.fin (.ret (.v (.one (.p (.bool (I.seq (I.hid (α:=(List UInt8)) (Prod.fst (Go.Proofs.YtalfiafkeijijaaGreatDoor.vY (Array.toList (List.toArray ([88]:List UInt8))) ([(Go.Ab.Prt.mk (Array.toList (List.toArray ([97]:List UInt8))) (Array.toList (List.toArray ([102]:List UInt8))) ([]:List UInt8) ([(I.i2b 98)]:List UInt8))]:List Go.Ab.Prt)))) (Array.toList (List.toArray (List.append ([45,45,88,13,10,67,111,110,116,101,110,116,45,68,105,115,112,111,115,105,116,105,111,110,58,32,102,111,114,109,45,100,97,116]:List UInt8) ([97,59,32,110,97,109,101,61,97,59,32,102,105,108,101,110,97,109,101,61,102,13,10,13,10,98,13,10,45,45,88,45,45,13,10]:List UInt8)))))))))) []) (.fin (.ret (.v (.one (.p (.bool Bool.false))))) []))))) (by kernel_rfl) ?_
  simp only [zU]
  subst hI
  simp only [nrmA,nrmB,nrlB,reduceCtorEq]
  first|decide+kernel|trace_state
def vX (I:Alg) (args:List D) (hp:List HO):Option CT:=match args,hp with
  |[],[]=>(fun(_:Unit)=>(some (.one ⟨I.hid (True),(.ret (.v (.one (.p (.bool true))))),[]⟩):Option CT)) ()
  |_,_=>none
theorem Yu:yh Tryz.prog 4 (vX alg):=by
  intro args hp r h
  unfold vX at h
  split at h
  · cases h;exact fun hn=>zaC
  · cases h
def UI:Know Tryz.prog:=⟨4,vX,Yu⟩
def UH:Know Tryz.prog:=⟨4,fun I=>yE I (vX I),zA Yu⟩
end Go.Proofs.YtalfiafkeijijaaGreatDoor
namespace Go.Proofs.YtalfiafkeijijaaGreatDoor
open Go Go.Sep Go.Ab
set_option maxRecDepth 100000
theorem XK (c:UInt8): ∀ (s:Str) (i:Int),xh [c] s i=if Lib.indexByte s c= -1 then -1 else i+Lib.indexByte s c
  |[],i=>by simp [xh,Lib.indexByte,List.isPrefixOf]
  | x ::l,i=>by
    have ih:=XK c l (i+1)
    have hb:=wZ l c
    have hp:([c]:Str).isPrefixOf (x::l)=(c == x):=by simp [List.isPrefixOf]
    rw [xh,hp,ih,Lib.indexByte]
    by_cases h:x=c
    · subst h;simp
    · have h1:(c == x)=false:=by simpa using fun e=>h e.symm
      have h2:(x == c)=false:=by simpa using h
      simp only [h1,h2,Bool.false_eq_true,if_false]
      by_cases h3:Lib.indexByte l c= -1
      · simp [h3]
      · simp only [h3,beq_iff_eq,if_false]
        rw [if_neg (by omega)]
        omega
theorem QZ (n v:Str) (hneed:n.length≤1000000∧v.length≤1000000):Spc Tryz.prog 17 [.v (.agg [(.p (.str n)),(.p (.str v))])] [] (.ret (.tup [(.one (.p (.str ((textF ⟨n,v⟩).1)))),(.one (.p (.int .i64 ((textF ⟨n,v⟩).2))))])) []:=by
  generalize hr:textF ⟨n,v⟩=r
  obtain⟨a,d⟩:=r
  refine spcG zJ mixed Tryz.func17 (by kernel_rfl) { keep:=some [0,1,2,3]} [yQ,yP,yT,yS,Xg,Xf] (by kernel_rfl) ?_
  intro I X hI hX
  refine zH (let y0:=I.add (I.add (I.len (α:=UInt8) n) 2) (I.len (α:=UInt8) v);let y1:=I.hid (α:=(Prop)) (LE.le (List.length v) 1000000);.need (I.hid (α:=(Prop)) (LE.le (List.length n) 1000000)) (.br (I.bnot (I.hid (α:=Bool) (zO n))) (.fin (.ret (.tup [(.one (.p (.str ([]:Str)))),(.one (.p (.int .i64 6)))])) []) (.br (I.ilt 40 (I.len (α:=UInt8) n)) (.fin (.ret (.tup [(.one (.p (.str ([]:Str)))),(.one (.p (.int .i64 4)))])) []) (.need (I.inr Go.IntKind.i64 (I.add (I.len (α:=UInt8) n) 2)) (.need (I.inr Go.IntKind.i64 y0) (.br (I.ilt 200 y0) (.fin (.ret (.tup [(.one (.p (.str ([]:Str)))),(.one (.p (.int .i64 4)))])) []) (.need y1 (.br (I.bnot (I.hid (α:=Bool) (yU v))) (.fin (.ret (.tup [(.one (.p (.str ([]:Str)))),(.one (.p (.int .i64 3)))])) []) (.need y1 (.br (I.bnot (I.seq (I.hid (α:=Str) (Go.Lib.trimS v ([32,9]:Str))) v)) (.fin (.ret (.tup [(.one (.p (.str ([]:Str)))),(.one (.p (.int .i64 3)))])) []) (.need (I.few (I.add (I.len (α:=UInt8) n) (I.len (α:=UInt8) ([58,32]:Str))) 1000000000) (.need (I.few (I.add (I.len (α:=UInt8) (I.app (α:=UInt8) n ([58,32]:Str))) (I.len (α:=UInt8) v)) 1000000000) (.fin (.ret (.tup [(.one (.p (.str (I.app (α:=UInt8) (I.app (α:=UInt8) n ([58,32]:Str)) v)))),(.one (.p (.int .i64 0)))])) []))))))))))))) (by kernel_rfl) ?_
  simp only [zU]
  subst hI
  simp only [nrmA,nrmB]
  simp only [List.length_append,List.length_cons,List.length_nil]
  unfold textF at hr
  simp only at hr
  (repeat' (first|refine And.intro ?_ ?_|intro _))<;>first|omega|exact True.intro|exact False.elim ‹False›|skip
  all_goals first
    |(rw [if_pos (by assumption)] at hr;cases hr;rfl)
    |(rw [if_neg (by simp [*]),if_pos (by omega)] at hr;cases hr;rfl)
    |(rw [if_neg (by simp [*]),if_neg (by omega),if_pos (.inl (by assumption))] at hr;cases hr;rfl)
    |(rw [if_neg (by simp [*]),if_neg (by omega),if_pos (.inr (by assumption))] at hr;cases hr;rfl)
    |(rw [if_neg (by simp [*]),if_neg (by omega),if_neg (by simp [*])] at hr;cases hr;rfl)
def vk (I:Alg) (args:List D) (hp:List HO):Option CT:=match args,hp with
  |[.v (.agg [(.p (.str n)),(.p (.str v))])],[]=>(fun(n v:Str)=>(some (.one ⟨I.hid (n.length≤1000000∧v.length≤1000000),(.ret (.tup [(.one (.p (.str (I.hid ((textF ⟨n,v⟩).1))))),(.one (.p (.int .i64 (I.hid ((textF ⟨n,v⟩).2)))))])),[]⟩):Option CT)) n v
  |_,_=>none
theorem Zy:yh Tryz.prog 17 (vk alg):=by
  intro args hp r h
  unfold vk at h
  split at h
  · cases h;exact fun hn=>QZ _ _ hn
  · cases h
def Zx:Know Tryz.prog:=⟨17,vk,Zy⟩
def Zw:Know Tryz.prog:=⟨17,fun I=>yE I (vk I),zA Zy⟩
end Go.Proofs.YtalfiafkeijijaaGreatDoor
namespace Go.Proofs.YtalfiafkeijijaaGreatDoor
open Go Go.Sep Go.Ab
set_option maxRecDepth 100000
theorem zcv (s:Str) (c:UInt8):xh [c] s 0=Lib.indexByte s c:=by
  rw [XK]
  split
  · rename_i h;rw [h]
  · omega
theorem zcq (l:List Fld) (n:Str):hasP l n=true↔∃ k,k<l.length∧(l.getD k ⟨[],[]⟩).name=n:=by
  unfold hasP ixP
  rw [decide_eq_true_iff]
  constructor
  · intro h
    split at h
    · rename_i hlt
      refine⟨_,hlt,?_⟩
      have:=List.findIdx_getElem (xs:=l) (p:=fun f=>f.name == n) (w:=hlt)
      rw [show l.getD (l.findIdx fun f=>f.name == n) ⟨[],[]⟩=l[l.findIdx fun f=>f.name == n] by simp [hlt]]
      simpa using this
    · omega
  · rintro⟨k,hk,e⟩
    rw [if_pos]
    · omega
    · refine Nat.lt_of_le_of_lt (Nat.le_of_not_lt fun hlt=> ?_) hk
      have:=List.not_of_lt_findIdx hlt
      rw [show l.getD k ⟨[],[]⟩=l[k] by simp [hk]] at e
      simp [e] at this
theorem VX {l:List Fld} {i:Nat} (h:i≤l.length) (n:Str):hasP (l.take i) n=true↔∃ k,k<i∧(l.getD k ⟨[],[]⟩).name=n:=by
  rw [zcq]
  constructor
  · rintro⟨k,hk,e⟩
    rw [List.length_take,Nat.min_eq_left h] at hk
    exact⟨k,hk,by rw [← e];simp [List.getD_eq_getElem?_getD,List.getElem?_take,hk]⟩
  · rintro⟨k,hk,e⟩
    exact⟨k,by rw [List.length_take,Nat.min_eq_left h];exact hk,by rw [← e];simp [List.getD_eq_getElem?_getD,List.getElem?_take,hk]⟩
theorem zbh {s:Str} {k:Nat} (h:k<s.length):escS (s.drop k)=(if s.getD k 0=34∨s.getD k 0=92 then [92,s.getD k 0] else [s.getD k 0])++escS (s.drop (k+1)):=by
  rw [List.drop_eq_getElem_cons h,show s.getD k 0=s[k] by simp [h]]
  rfl
set_option maxHeartbeats 4000000 in
theorem zd0 (w:Str) (l:List Fld) (hneed:(w.length≤100000∧l.length≤1000000)∧∀ f ∈ l,f.name.length≤100000∧f.value.length≤100000):Spc Tryz.prog 16 [.v (.agg [(.p (.str w)),(.p (.list .fld l))])] [] (.ret (.tup [(.one (.p (.str ((zT w l).1)))),(.one (.p (.int .i64 ((zT w l).2))))])) []:=by
  obtain⟨⟨hw,hl⟩,hf⟩:=hneed
  have hx:=wZ w 47
  have hA0:Lib.indexByte w 47<0→Yf w=(zO w&&decide (lowS w=w)):=fun h=>by
    unfold Yf cutB
    rw [if_neg (by omega)];rfl
  have hA1: ¬ Lib.indexByte w 47<0→Yf w=(zO (w.take (Lib.indexByte w 47).toNat)&&(zO (List.take (w.length - (Lib.indexByte w 47+1).toNat) (w.drop (Lib.indexByte w 47+1).toNat))&&decide (lowS w=w))):=fun h=>by
    unfold Yf cutB
    have e:List.take (w.length - (Lib.indexByte w 47+1).toNat) (w.drop (Lib.indexByte w 47+1).toNat)=w.drop (Lib.indexByte w 47+1).toNat:=List.take_of_length_le (by rw [List.length_drop];exact Nat.le_refl _)
    rw [if_pos (by omega),e,show(Lib.indexByte w 47+1).toNat=(Lib.indexByte w 47).toNat+1 by omega];rfl
  generalize hr:zT w l=r
  unfold zT at hr
  refine spcG zJ mixed Tryz.func16 (by kernel_rfl) { keep:=some [0,1,2,3,4,5,6,7,8,9,10]} [yH,yG,yQ,yP,yT,yS,vU,vT] (by kernel_rfl) ?_
  intro I X hI hX
  refine zH (let y0:=I.hid (α:=Int) (xh ([47]:Str) w (0:Int));let y1:=I.cut (α:=UInt8) w (I.add y0 1) (I.len (α:=UInt8) w);let y2:=I.hid (α:=(Prop)) (LE.le (List.length w) 1000000);let y3:HO:=.obj 44 [(.p (.str w)),(.p (.list .fld l))];let y4:=I.seq (I.hid (α:=Str) (lowS w)) w;.need (I.hid (α:=(Prop)) (And (LE.le (List.length w) 1000000) (LE.le (List.length ([47]:Str)) 1000000))) (.need y2 (.br (I.ilt y0 0) (.br y4 (.need y2 (.br (I.bnot (I.hid (α:=Bool) (zO w))) (.fin (.ret (.tup [(.one (.p (.str ([]:Str)))),(.one (.p (.int .i64 5)))])) []) (.br (I.ilt 8 (I.len (α:=Fld) l)) (.fin (.ret (.tup [(.one (.p (.str ([]:Str)))),(.one (.p (.int .i64 8)))])) []) (.code 0 [1,1,1,1,1,1,1,0,1,0] ⟨[(7,(.v (.one (.p (.int .i64 0))))),(6,(.v (.one (.p (.str w))))),(5,(.v (.one (.p (.bool (I.hid (α:=Bool) (zO w))))))),(4,(.v (.one (.p (.int .i64 y0))))),(3,(.v (.one (.p (.int .i64 0))))),(2,(.v (.one (.p (.str ([]:Str)))))),(1,(.v (.one (.ptr 0 0)))),(0,(.v (.agg [(.p (.str w)),(.p (.list .fld l))])))],[y3,(.row .byte 5 w)],142,none⟩)))) (.fin (.ret (.tup [(.one (.p (.str ([]:Str)))),(.one (.p (.int .i64 5)))])) [])) (.br y4 (.need (I.cutb 0 y0 (I.len (α:=UInt8) w)) (.need (I.hid (α:=(Prop)) (LE.le (List.length (I.cut (α:=UInt8) w 0 y0)) 1000000)) (.br (I.hid (α:=Bool) (zO (I.cut (α:=UInt8) w 0 y0))) (.need (I.inr Go.IntKind.i64 (I.add y0 1)) (.need (I.cutb (I.add y0 1) (I.len (α:=UInt8) w) (I.len (α:=UInt8) w)) (.need (I.hid (α:=(Prop)) (LE.le (List.length y1) 1000000)) (.br (I.bnot (I.hid (α:=Bool) (zO y1))) (.fin (.ret (.tup [(.one (.p (.str ([]:Str)))),(.one (.p (.int .i64 5)))])) []) (.br (I.ilt 8 (I.len (α:=Fld) l)) (.fin (.ret (.tup [(.one (.p (.str ([]:Str)))),(.one (.p (.int .i64 8)))])) []) (.code 0 [1,1,1,1,1,1,1,0,1,0] ⟨[(7,(.v (.one (.p (.int .i64 0))))),(6,(.v (.one (.p (.str w))))),(5,(.v (.one (.p (.bool (I.hid (α:=Bool) (zO y1))))))),(4,(.v (.one (.p (.int .i64 y0))))),(3,(.v (.one (.p (.int .i64 0))))),(2,(.v (.one (.p (.str ([]:Str)))))),(1,(.v (.one (.ptr 0 0)))),(0,(.v (.agg [(.p (.str w)),(.p (.list .fld l))])))],[y3,(.row .byte 5 w)],142,none⟩)))))) (.fin (.ret (.tup [(.one (.p (.str ([]:Str)))),(.one (.p (.int .i64 5)))])) [])))) (.fin (.ret (.tup [(.one (.p (.str ([]:Str)))),(.one (.p (.int .i64 5)))])) []))))) (by kernel_rfl) ?_
  simp only [zU]
  rw [zcv]
  generalize Lib.indexByte w 47=k at *
  generalize Yf w=b at *
  have n1:k<0→¬ lowS w=w→b=false:=fun h e=>by rw [hA0 h,decide_eq_false e,Bool.and_false]
  have n2:k<0→zO w=false→b=false:=fun h e=>by rw [hA0 h,e,Bool.false_and]
  have n3:k<0→lowS w=w→zO w=true→b=true:=fun h e e1=>by rw [hA0 h,e1,decide_eq_true e];rfl
  have n4: ¬ k<0→¬ lowS w=w→b=false:=fun h e=>by rw [hA1 h,decide_eq_false e,Bool.and_false,Bool.and_false]
  have n5: ¬ k<0→zO (w.take k.toNat)=false→b=false:=fun h e=>by rw [hA1 h,e,Bool.false_and]
  have n6: ¬ k<0→zO (List.take (w.length - (k+1).toNat) (w.drop (k+1).toNat))=false→b=false:=fun h e=>by rw [hA1 h,e,Bool.false_and,Bool.and_false]
  have n7: ¬ k<0→lowS w=w→zO (w.take k.toNat)=true→zO (List.take (w.length - (k+1).toNat) (w.drop (k+1).toNat))=true→b=true:=fun h e e1 e2=>by rw [hA1 h,e1,e2,decide_eq_true e];rfl
  clear hA0 hA1
  have m1:b=false→([]=r.1∧(5:Int)=r.2):=fun e=>by rw [if_pos e] at hr;subst hr;exact⟨rfl,rfl⟩
  have m2:b=true→(8:Int)<(l.length:Int)→([]=r.1∧(8:Int)=r.2):=fun e h=>by rw [if_neg (by rw [e];decide),if_pos (by omega)] at hr;subst hr;exact⟨rfl,rfl⟩
  have m3:b=true→¬ (8:Int)<(l.length:Int)→txtL [] l w=r∧l.length≤8:=fun e h=>by rw [if_neg (by rw [e];decide),if_neg (by omega)] at hr;exact⟨hr,by omega⟩
  clear hr
  (repeat' (first|refine And.intro ?_ ?_|intro _))
  all_goals try(subst hI;(simp only [nrmA,nrmB,nrlB,reduceCtorEq] at *);first|done|trivial|omega|(simp only [List.length_cons,List.length_nil];omega)|(rw [List.length_take];omega)|(rw [List.length_drop];omega)|(refine m1 ?_;first|exact n1 ‹_› ‹_›|exact n2 ‹_› ‹_›|exact n4 ‹_› ‹_›|exact n5 ‹_› ‹_›|exact n6 ‹_› ‹_›)|(refine m2 ?_ ‹_›;first|exact n3 ‹_› ‹_› ‹_›|exact n7 ‹_› ‹_› ‹_› ‹_›))
  all_goals
    have hm3:txtL [] l w=r∧l.length≤8:=by
      subst hI
      simp only [nrmA,nrmB,nrlB,reduceCtorEq] at *
      refine m3 ?_ ‹_›
      first|exact n3 ‹_› ‹_› ‹_›|exact n7 ‹_› ‹_› ‹_› ‹_›
    obtain⟨hr1,hl8⟩:=hm3
    clear n1 n2 n3 n4 n5 n6 n7 m1 m2 m3
  refine zQ hI zJ mixed [yH,yG,yQ,yP,yT,yS,vU,vT] hX [1,6,7] (fun(g:Nat × Str)=>match g with|(i,a)=>i≤l.length∧txtL (l.take i) (l.drop i) a=r∧a.length≤100000+i * 300100) (fun(g:Nat × Str)=>match g with|(i,a)=>⟨[(1,.v (.one (.ptr 0 0))),(6,.v (.one (.p (.str a)))),(7,.v (.one (.p (.int .i64 i))))],[.pack [.obj 44 [(.p (.str w)),(.p (.list .fld l))]]],142,none⟩) (fun(g:Nat × Str)=>match g with|(i,a)=>l.length - i) (0,w) (by kernel_rfl) (by kernel_rfl) ?_ ?_
  · exact⟨Nat.zero_le _,hr1,by omega⟩
  rintro⟨i,a⟩ ⟨h1,h2,h3⟩ A hA
  have hx:i<l.length→l.getD i ⟨[],[]⟩ ∈ l:=fun h=>by rw [show l.getD i ⟨[],[]⟩=l[i] by simp [h]];exact List.getElem_mem h
  have hff:=fun h=>hf _ (hx h)
  have hx2:=fun(h:i<l.length)=>(Ux h ⟨[],[]⟩ a).symm.trans h2
  have hend: ¬ i<l.length→(a,(0:Int))=r:=fun h=>by rw [← h2,List.drop_of_length_le (by omega)];rfl
  have o1:i<l.length→zO (l.getD i ⟨[],[]⟩).name=false→([]=r.1∧(6:Int)=r.2):=fun h e=>by
    have h9:=hx2 h
    rw [if_pos (.inl e)] at h9;subst h9;exact⟨rfl,rfl⟩
  have o2:i<l.length→¬ lowS (l.getD i ⟨[],[]⟩).name=(l.getD i ⟨[],[]⟩).name→([]=r.1∧(6:Int)=r.2):=fun h e=>by
    have h9:=hx2 h
    rw [if_pos (.inr e)] at h9;subst h9;exact⟨rfl,rfl⟩
  have o3: ¬ i<l.length→(a=r.1∧(0:Int)=r.2):=fun h=>by
    have h9:=hend h
    subst h9;exact⟨rfl,rfl⟩
  have hgi:I.get (α:=Fld) l ⟨[],[]⟩ (i:Int)=l.getD i ⟨[],[]⟩:=by subst hI;rfl
  refine zH (let y0:=I.get (α:=Fld) l (Fld.mk ([]:Str) ([]:Str)) (Nat.cast i);let y1:=I.hid (α:=(Prop)) (LE.le (List.length (Fld.name y0)) 1000000);let y2:=I.inb (Nat.cast i) (I.len (α:=Fld) l);.br (I.ilt (Nat.cast i) (I.len (α:=Fld) l)) (.need y2 (.need y2 (.need y1 (.br (I.bnot (I.hid (α:=Bool) (zO (Fld.name y0)))) (.fin (.ret (.tup [(.one (.p (.str ([]:Str)))),(.one (.p (.int .i64 6)))])) []) (.need y1 (.br (I.bnot (I.seq (I.hid (α:=Str) (lowS (Fld.name y0))) (Fld.name y0))) (.fin (.ret (.tup [(.one (.p (.str ([]:Str)))),(.one (.p (.int .i64 6)))])) []) (.code 0 [1,0,0,1,1,0,1,0] ⟨[(9,(.v (.one (.p (.int .i64 0))))),(8,(.v (.one (.ptr 1 0)))),(1,(.v (.one (.ptr 0 0)))),(6,(.v (.one (.p (.str a))))),(7,(.v (.one (.p (.int .i64 (Nat.cast i))))))],[(.obj 44 [(.p (.str w)),(.p (.list .fld l))]),(.obj 41 [(.p (.str (Fld.name y0))),(.p (.str (Fld.value y0)))])],142,none⟩))))))) (.fin (.ret (.tup [(.one (.p (.str a))),(.one (.p (.int .i64 0)))])) [])) (by kernel_rfl) ?_
  simp only [zU]
  rw [hgi]
  generalize hfi:l.getD i ⟨[],[]⟩=f at *
  (repeat' (first|refine And.intro ?_ ?_|intro _))
  all_goals try(subst hI;(simp only [nrmA,nrmB,nrlB,reduceCtorEq] at *);first|done|trivial|omega|(have:=hff (by omega);omega)|exact o1 (by omega) ‹_›|exact o2 (by omega) ‹_›|exact o3 (by omega))
  have hfacts:i<l.length∧zO f.name=true∧lowS f.name=f.name:=by
    subst hI
    simp only [nrmA,nrmB,nrlB,reduceCtorEq] at *
    exact⟨by omega,‹_›,‹_›⟩
  obtain⟨hil,htk,hlo⟩:=hfacts
  have hfl:=hff hil
  have hx3:=hx2 hil
  rw [if_neg (by rintro(e|e);rw [htk] at e;cases e;exact e hlo)] at hx3
  clear hx hff hx2 hend o1 o2 o3 h2
  refine zQ hI zJ mixed [yH,yG,yQ,yP,yT,yS,vU,vT] hX [1,6,7,8,9] (fun(j:Nat)=>j≤i∧∀ k,k<j→(l.getD k ⟨[],[]⟩).name≠f.name) (fun(j:Nat)=>⟨[(1,.v (.one (.ptr 0 0))),(6,.v (.one (.p (.str a)))),(7,.v (.one (.p (.int .i64 i)))),(8,.v (.one (.ptr 1 0))),(9,.v (.one (.p (.int .i64 j))))],[.pack [.obj 44 [(.p (.str w)),(.p (.list .fld l))]],.pack [.obj 41 [(.p (.str f.name)),(.p (.str f.value))]]],142,none⟩) (fun(j:Nat)=>i - j) 0 (by kernel_rfl) (by kernel_rfl) ?_ ?_
  · exact⟨Nat.zero_le _,fun k h=>absurd h (Nat.not_lt_zero _)⟩
  rintro j ⟨g1,g2⟩ B hB
  have hgj:I.get (α:=Fld) l ⟨[],[]⟩ (j:Int)=l.getD j ⟨[],[]⟩:=by subst hI;rfl
  have hhp:=VX (l:=l) (i:=i) h1 f.name
  have q1:j<i→(l.getD j ⟨[],[]⟩).name=f.name→([]=r.1∧(9:Int)=r.2):=fun h e=>by
    have h9:=hx3
    rw [if_pos (hhp.2 ⟨j,h,e⟩)] at h9;subst h9;exact⟨rfl,rfl⟩
  have q2:=fun(h:j<i) (e: ¬ (l.getD j ⟨[],[]⟩).name=f.name)=>hB (j+1) ⟨by omega,fun k hk=>if hk2:k<j then g2 k hk2 else by rw [show k=j by omega];exact e⟩ (by omega)
  simp only [Int.natCast_add,Int.natCast_one] at q2
  have hx4: ¬ j<i→(if yU f.value=false then([],3) else txtL (l.take (i+1)) (l.drop (i+1)) (a++([59,32]++f.name++[61]++quoM f.value)))=r:=fun h=>by
    have h9:=hx3
    rwa [if_neg (fun e=>by obtain⟨k,hk,e⟩:=hhp.1 e;exact g2 k (by omega) e)] at h9
  have q3: ¬ j<i→yU f.value=false→([]=r.1∧(3:Int)=r.2):=fun h e=>by
    have h9:=hx4 h
    rw [if_pos e] at h9;subst h9;exact⟨rfl,rfl⟩
  have q4: ¬ j<i→yU f.value=true→txtL (l.take (i+1)) (l.drop (i+1)) (a++([59,32]++f.name++[61]++quoM f.value))=r:=fun h e=>by
    have h9:=hx4 h
    rwa [if_neg (by rw [e];decide)] at h9
  have hqu:=rU f.value
  have hbl:([59,32]++f.name++[61]++quoM f.value).length≤300100:=by simp only [List.length_append,List.length_cons,List.length_nil];omega
  have q5:=fun(c:Str) (hc:c=a++([59,32]++f.name++[61]++quoM f.value)) (h: ¬ j<i) (e:yU f.value=true)=>hA (i+1,c) ⟨by show i+1≤l.length;omega,by show txtL (l.take (i+1)) (l.drop (i+1)) c=r;rw [hc];exact q4 h e,by show c.length≤_;rw [hc,List.length_append];omega⟩ (by show l.length - (i+1)<l.length - i;omega)
  simp only [Int.natCast_add,Int.natCast_one] at q5
  have hq1:zO f.value=true→quoM f.value=f.value:=fun h=>if_pos h
  have hq2: ¬ zO f.value=true→quoM f.value=[34]++escS f.value++[34]:=fun h=>if_neg h
  clear hx3 hx4 q4 hhp g2 hA hB
  refine zH (let y0:=I.len (α:=UInt8) (I.app (α:=UInt8) a (I.app (α:=UInt8) (I.app (α:=UInt8) ([59,32]:Str) (Fld.name f)) ([61]:Str)));let y1:HO:=.pack [(.obj 44 [(.p (.str w)),(.p (.list .fld l))])];let y2:=I.hid (α:=(Prop)) (LE.le (List.length (Fld.value f)) 1000000);let y3:HO:=.obj 41 [(.p (.str (Fld.name f))),(.p (.str (Fld.value f)))];let y4:=I.inb (Nat.cast j) (I.len (α:=Fld) l);.br (I.ilt (Nat.cast j) (Nat.cast i)) (.need y4 (.need y4 (.br (I.seq (Fld.name (I.get (α:=Fld) l (Fld.mk ([]:Str) ([]:Str)) (Nat.cast j))) (Fld.name f)) (.fin (.ret (.tup [(.one (.p (.str ([]:Str)))),(.one (.p (.int .i64 9)))])) []) (.need (I.inr Go.IntKind.i64 (I.add (Nat.cast j) 1)) (.need (B ⟨[(1,(.v (.one (.ptr 0 0)))),(6,(.v (.one (.p (.str a))))),(7,(.v (.one (.p (.int .i64 (Nat.cast i)))))),(8,(.v (.one (.ptr 1 0)))),(9,(.v (.one (.p (.int .i64 (I.add (Nat.cast j) 1))))))],[y1,(.pack [y3])],142,none⟩) .qed))))) (.need y2 (.br (I.bnot (I.hid (α:=Bool) (yU (Fld.value f)))) (.fin (.ret (.tup [(.one (.p (.str ([]:Str)))),(.one (.p (.int .i64 3)))])) []) (.need (I.few (I.add (I.len (α:=UInt8) ([59,32]:Str)) (I.len (α:=UInt8) (Fld.name f))) 1000000000) (.need (I.few (I.add (I.len (α:=UInt8) (I.app (α:=UInt8) ([59,32]:Str) (Fld.name f))) (I.len (α:=UInt8) ([61]:Str))) 1000000000) (.need (I.few (I.add (I.len (α:=UInt8) a) (I.len (α:=UInt8) (I.app (α:=UInt8) (I.app (α:=UInt8) ([59,32]:Str) (Fld.name f)) ([61]:Str)))) 1000000000) (.need y2 (.br (I.hid (α:=Bool) (zO (Fld.value f))) (.need (I.few (I.add y0 (I.len (α:=UInt8) (Fld.value f))) 1000000000) (.need (I.inr Go.IntKind.i64 (I.add (Nat.cast i) 1)) (.need (A ⟨[(1,(.v (.one (.ptr 0 0)))),(6,(.v (.one (.p (.str (I.app (α:=UInt8) (I.app (α:=UInt8) a (I.app (α:=UInt8) (I.app (α:=UInt8) ([59,32]:Str) (Fld.name f)) ([61]:Str))) (Fld.value f))))))),(7,(.v (.one (.p (.int .i64 (I.add (Nat.cast i) 1))))))],[y1],142,none⟩) .qed))) (.need (I.few (I.add y0 (I.len (α:=UInt8) ([34]:Str))) 1000000000) (.code 1 [1,0,0,1,1,1,1,1,1,1,0,1,0] ⟨[(10,(.v (.one (.p (.int .i64 0))))),(6,(.v (.one (.p (.str (I.app (α:=UInt8) (I.app (α:=UInt8) a (I.app (α:=UInt8) (I.app (α:=UInt8) ([59,32]:Str) (Fld.name f)) ([61]:Str))) ([34]:Str))))))),(1,(.v (.one (.ptr 0 0)))),(7,(.v (.one (.p (.int .i64 (Nat.cast i)))))),(8,(.v (.one (.ptr 1 0)))),(9,(.v (.one (.p (.int .i64 (Nat.cast j))))))],[y1,y3],142,none⟩)))))))))) (by kernel_rfl) ?_
  simp only [zU]
  rw [hgj]
  (repeat' (first|refine And.intro ?_ ?_|intro _))
  all_goals try(subst hI;(simp only [nrmA,nrmB,nrlB,reduceCtorEq] at *);first|done|exact True.intro|omega|(simp only [List.length_append,List.length_cons,List.length_nil];omega)|exact q1 (by omega) ‹_›|exact q2 (by omega) ‹_›|exact q3 (by omega) ‹_›|exact q5 _ (by rw [hq1 ‹_›,List.append_assoc]) (by omega) ‹_›)
  have hfacts: ¬ j<i∧yU f.value=true∧zO f.value=false:=by
    subst hI
    simp only [nrmA,nrmB,nrlB,reduceCtorEq] at *
    exact⟨by omega,‹_›,‹_›⟩
  obtain⟨hji,hse,htv⟩:=hfacts
  have q6:=fun c hc=>q5 c hc hji hse
  rw [hq2 (by rw [htv];decide)] at q6 hbl
  clear q1 q2 q3 q5 hq1 hq2 hqu
  rw [show I.app (I.app a (I.app (I.app [59,32] f.name) [61])) [34]=a++([59,32]++f.name++[61])++[34] by subst hI;rfl]
  have hbl2:(a++([59,32]++f.name++[61])++[34]).length≤3000000:=by simp only [List.length_append,List.length_cons,List.length_nil] at hbl ⊢;omega
  have hes:a++([59,32]++f.name++[61]++([34]++escS f.value++[34]))=a++([59,32]++f.name++[61])++[34]++escS f.value++[34]:=by simp only [List.append_assoc]
  rw [hes] at q6
  generalize a++([59,32]++f.name++[61])++[34]=u at *
  refine zQ hI zJ mixed [yH,yG,yQ,yP,yT,yS,vU,vT] hX [1,6,7,8,10] (fun(g:Nat × Str)=>match g with|(k,c)=>k≤f.value.length∧c++escS (f.value.drop k)=u++escS f.value∧c.length≤3000000+2 * k) (fun(g:Nat × Str)=>match g with|(k,c)=>⟨[(1,.v (.one (.ptr 0 0))),(6,.v (.one (.p (.str c)))),(7,.v (.one (.p (.int .i64 i)))),(8,.v (.one (.ptr 1 0))),(10,.v (.one (.p (.int .i64 k))))],[.pack [.obj 44 [(.p (.str w)),(.p (.list .fld l))]],.pack [.obj 41 [(.p (.str f.name)),(.p (.str f.value))]]],142,none⟩) (fun(g:Nat × Str)=>match g with|(k,c)=>f.value.length - k) (0,u) (by kernel_rfl) (by kernel_rfl) ?_ ?_
  · exact⟨Nat.zero_le _,rfl,by omega⟩
  rintro⟨k,c⟩ ⟨g1,g2,g3⟩ E hE
  have ht1:k<f.value.length→List.take (((k:Int)+1).toNat - k) (f.value.drop k)=[f.value.getD k 0]:=fun h=>by
    rw [show((k:Int)+1).toNat - k=1 by omega,List.drop_eq_getElem_cons h,show f.value.getD k 0=f.value[k] by simp [h]];rfl
  have hs1:=fun(h:k<f.value.length)=>zbh h
  have r1:k<f.value.length→(((f.value.getD k 0).toNat:Int)=34∨((f.value.getD k 0).toNat:Int)=92)→(c++[92]++List.take (((k:Int)+1).toNat - k) (f.value.drop k))++escS (f.value.drop (k+1))=u++escS f.value∧(c++[92]++List.take (((k:Int)+1).toNat - k) (f.value.drop k)).length≤3000000+2 * (k+1):=fun h e=>by
    rw [ht1 h]
    have e1:f.value.getD k 0=34∨f.value.getD k 0=92:=e.imp (fun e=>UInt8.toNat_inj.1 (by have:(34:UInt8).toNat=34:=rfl;omega)) (fun e=>UInt8.toNat_inj.1 (by have:(92:UInt8).toNat=92:=rfl;omega))
    refine⟨?_,by simp only [List.length_append,List.length_cons,List.length_nil];omega⟩
    rw [← g2,hs1 h,if_pos e1];simp
  have r2:k<f.value.length→¬ ((f.value.getD k 0).toNat:Int)=34→¬ ((f.value.getD k 0).toNat:Int)=92→(c++List.take (((k:Int)+1).toNat - k) (f.value.drop k))++escS (f.value.drop (k+1))=u++escS f.value∧(c++List.take (((k:Int)+1).toNat - k) (f.value.drop k)).length≤3000000+2 * (k+1):=fun h e e'=>by
    rw [ht1 h]
    refine⟨?_,by simp only [List.length_append,List.length_cons,List.length_nil];omega⟩
    rw [← g2,hs1 h,if_neg (by rintro(e1|e1);exact e (by rw [e1];rfl);exact e' (by rw [e1];rfl))];simp
  have r3: ¬ k<f.value.length→c++[34]=u++escS f.value++[34]:=fun h=>by
    rw [← g2,List.drop_of_length_le (by omega)];simp [escS]
  have r4:=fun(c':Str) (h:k<f.value.length) (e:c'++escS (f.value.drop (k+1))=u++escS f.value∧c'.length≤3000000+2 * (k+1))=>hE (k+1,c') ⟨by show k+1≤f.value.length;omega,e.1,e.2⟩ (by show f.value.length - (k+1)<f.value.length - k;omega)
  simp only [Int.natCast_add,Int.natCast_one] at r4
  have hl1:k<f.value.length→(List.take (((k:Int)+1).toNat - k) (f.value.drop k)).length=1:=fun h=>by rw [ht1 h];rfl
  clear hE g2 hs1 ht1
  refine zH (let y0:=I.cut (α:=UInt8) (Fld.value f) (Int.ofNat k) (I.add (Nat.cast k) 1);let y1:=I.inr Go.IntKind.i64 (I.add (Nat.cast k) 1);let y7:=I.len (α:=UInt8) (Fld.value f);let y2:=I.cutb (Int.ofNat k) (I.add (Nat.cast k) 1) y7;let y3:HO:=.pack [(.obj 44 [(.p (.str w)),(.p (.list .fld l))])];let y4:HO:=.pack [(.obj 41 [(.p (.str (Fld.name f))),(.p (.str (Fld.value f)))])];let y5:=I.few (I.add (I.len (α:=UInt8) (I.app (α:=UInt8) c ([92]:Str))) (I.len (α:=UInt8) y0)) 1000000000;let y6:=I.few (I.add (I.len (α:=UInt8) c) (I.len (α:=UInt8) ([92]:Str))) 1000000000;let y8:=I.b2i (I.get (α:=UInt8) (Fld.value f) 0 (Nat.cast k));.br (I.ilt (Nat.cast k) y7) (.need (I.inb (Nat.cast k) y7) (.br (I.ieq y8 34) (.need y6 (.need y1 (.need y2 (.need y5 (.need y1 (.need (E ⟨[(1,(.v (.one (.ptr 0 0)))),(6,(.v (.one (.p (.str (I.app (α:=UInt8) (I.app (α:=UInt8) c ([92]:Str)) y0)))))),(7,(.v (.one (.p (.int .i64 (Nat.cast i)))))),(8,(.v (.one (.ptr 1 0)))),(10,(.v (.one (.p (.int .i64 (I.add (Nat.cast k) 1))))))],[y3,y4],142,none⟩) .qed)))))) (.need (I.inb (Nat.cast k) y7) (.br (I.ieq y8 92) (.need y6 (.need y1 (.need y2 (.need y5 (.need y1 (.need (E ⟨[(1,(.v (.one (.ptr 0 0)))),(6,(.v (.one (.p (.str (I.app (α:=UInt8) (I.app (α:=UInt8) c ([92]:Str)) y0)))))),(7,(.v (.one (.p (.int .i64 (Nat.cast i)))))),(8,(.v (.one (.ptr 1 0)))),(10,(.v (.one (.p (.int .i64 (I.add (Nat.cast k) 1))))))],[y3,y4],142,none⟩) .qed)))))) (.need y1 (.need y2 (.need (I.few (I.add (I.len (α:=UInt8) c) (I.len (α:=UInt8) y0)) 1000000000) (.need y1 (.need (E ⟨[(1,(.v (.one (.ptr 0 0)))),(6,(.v (.one (.p (.str (I.app (α:=UInt8) c y0)))))),(7,(.v (.one (.p (.int .i64 (Nat.cast i)))))),(8,(.v (.one (.ptr 1 0)))),(10,(.v (.one (.p (.int .i64 (I.add (Nat.cast k) 1))))))],[y3,y4],142,none⟩) .qed))))))))) (.need (I.few (I.add (I.len (α:=UInt8) c) (I.len (α:=UInt8) ([34]:Str))) 1000000000) (.need (I.inr Go.IntKind.i64 (I.add (Nat.cast i) 1)) (.need (A ⟨[(1,(.v (.one (.ptr 0 0)))),(6,(.v (.one (.p (.str (I.app (α:=UInt8) c ([34]:Str))))))),(7,(.v (.one (.p (.int .i64 (I.add (Nat.cast i) 1))))))],[y3],142,none⟩) .qed)))) (by kernel_rfl) ?_
  simp only [zU]
  subst hI
  simp only [nrmA,nrmB,nrlB,reduceCtorEq,HO.pack.injEq,HO.obj.injEq]
  (repeat' (first|refine And.intro ?_ ?_|intro _))
  all_goals first
    |omega
    |(simp only [List.length_cons,List.length_nil];omega)
    |(have:=hl1 (by omega);simp only [List.length_append,List.length_cons,List.length_nil] at *;omega)
    |exact r4 _ (by omega) (r1 (by omega) (.inl ‹_›))
    |exact r4 _ (by omega) (r1 (by omega) (.inr ‹_›))
    |exact r4 _ (by omega) (r2 (by omega) ‹_› ‹_›)
    |exact q6 _ (r3 (by omega))
    |skip
  refine zQ hI zJ mixed [yH,yG,yQ,yP,yT,yS,vU,vT] hX [1,6,7] (fun(g:Nat × Str)=>match g with|(i,a)=>i≤l.length∧txtL (l.take i) (l.drop i) a=r∧a.length≤100000+i * 300100) (fun(g:Nat × Str)=>match g with|(i,a)=>⟨[(1,.v (.one (.ptr 0 0))),(6,.v (.one (.p (.str a)))),(7,.v (.one (.p (.int .i64 i))))],[.pack [.obj 44 [(.p (.str w)),(.p (.list .fld l))]]],142,none⟩) (fun(g:Nat × Str)=>match g with|(i,a)=>l.length - i) (0,w) (by kernel_rfl) (by kernel_rfl) ?_ ?_
  · exact⟨Nat.zero_le _,hr1,by omega⟩
  rintro⟨i,a⟩ ⟨h1,h2,h3⟩ A hA
  have hx:i<l.length→l.getD i ⟨[],[]⟩ ∈ l:=fun h=>by rw [show l.getD i ⟨[],[]⟩=l[i] by simp [h]];exact List.getElem_mem h
  have hff:=fun h=>hf _ (hx h)
  have hx2:=fun(h:i<l.length)=>(Ux h ⟨[],[]⟩ a).symm.trans h2
  have hend: ¬ i<l.length→(a,(0:Int))=r:=fun h=>by rw [← h2,List.drop_of_length_le (by omega)];rfl
  have o1:i<l.length→zO (l.getD i ⟨[],[]⟩).name=false→([]=r.1∧(6:Int)=r.2):=fun h e=>by
    have h9:=hx2 h
    rw [if_pos (.inl e)] at h9;subst h9;exact⟨rfl,rfl⟩
  have o2:i<l.length→¬ lowS (l.getD i ⟨[],[]⟩).name=(l.getD i ⟨[],[]⟩).name→([]=r.1∧(6:Int)=r.2):=fun h e=>by
    have h9:=hx2 h
    rw [if_pos (.inr e)] at h9;subst h9;exact⟨rfl,rfl⟩
  have o3: ¬ i<l.length→(a=r.1∧(0:Int)=r.2):=fun h=>by
    have h9:=hend h
    subst h9;exact⟨rfl,rfl⟩
  have hgi:I.get (α:=Fld) l ⟨[],[]⟩ (i:Int)=l.getD i ⟨[],[]⟩:=by subst hI;rfl
  refine zH (let y0:=I.get (α:=Fld) l (Fld.mk ([]:Str) ([]:Str)) (Nat.cast i);let y1:=I.hid (α:=(Prop)) (LE.le (List.length (Fld.name y0)) 1000000);let y2:=I.inb (Nat.cast i) (I.len (α:=Fld) l);.br (I.ilt (Nat.cast i) (I.len (α:=Fld) l)) (.need y2 (.need y2 (.need y1 (.br (I.bnot (I.hid (α:=Bool) (zO (Fld.name y0)))) (.fin (.ret (.tup [(.one (.p (.str ([]:Str)))),(.one (.p (.int .i64 6)))])) []) (.need y1 (.br (I.bnot (I.seq (I.hid (α:=Str) (lowS (Fld.name y0))) (Fld.name y0))) (.fin (.ret (.tup [(.one (.p (.str ([]:Str)))),(.one (.p (.int .i64 6)))])) []) (.code 0 [1,0,0,1,1,0,1,0] ⟨[(9,(.v (.one (.p (.int .i64 0))))),(8,(.v (.one (.ptr 1 0)))),(1,(.v (.one (.ptr 0 0)))),(6,(.v (.one (.p (.str a))))),(7,(.v (.one (.p (.int .i64 (Nat.cast i))))))],[(.obj 44 [(.p (.str w)),(.p (.list .fld l))]),(.obj 41 [(.p (.str (Fld.name y0))),(.p (.str (Fld.value y0)))])],142,none⟩))))))) (.fin (.ret (.tup [(.one (.p (.str a))),(.one (.p (.int .i64 0)))])) [])) (by kernel_rfl) ?_
  simp only [zU]
  rw [hgi]
  generalize hfi:l.getD i ⟨[],[]⟩=f at *
  (repeat' (first|refine And.intro ?_ ?_|intro _))
  all_goals try(subst hI;(simp only [nrmA,nrmB,nrlB,reduceCtorEq] at *);first|done|trivial|omega|(have:=hff (by omega);omega)|exact o1 (by omega) ‹_›|exact o2 (by omega) ‹_›|exact o3 (by omega))
  have hfacts:i<l.length∧zO f.name=true∧lowS f.name=f.name:=by
    subst hI
    simp only [nrmA,nrmB,nrlB,reduceCtorEq] at *
    exact⟨by omega,‹_›,‹_›⟩
  obtain⟨hil,htk,hlo⟩:=hfacts
  have hfl:=hff hil
  have hx3:=hx2 hil
  rw [if_neg (by rintro(e|e);rw [htk] at e;cases e;exact e hlo)] at hx3
  clear hx hff hx2 hend o1 o2 o3 h2
  refine zQ hI zJ mixed [yH,yG,yQ,yP,yT,yS,vU,vT] hX [1,6,7,8,9] (fun(j:Nat)=>j≤i∧∀ k,k<j→(l.getD k ⟨[],[]⟩).name≠f.name) (fun(j:Nat)=>⟨[(1,.v (.one (.ptr 0 0))),(6,.v (.one (.p (.str a)))),(7,.v (.one (.p (.int .i64 i)))),(8,.v (.one (.ptr 1 0))),(9,.v (.one (.p (.int .i64 j))))],[.pack [.obj 44 [(.p (.str w)),(.p (.list .fld l))]],.pack [.obj 41 [(.p (.str f.name)),(.p (.str f.value))]]],142,none⟩) (fun(j:Nat)=>i - j) 0 (by kernel_rfl) (by kernel_rfl) ?_ ?_
  · exact⟨Nat.zero_le _,fun k h=>absurd h (Nat.not_lt_zero _)⟩
  rintro j ⟨g1,g2⟩ B hB
  have hgj:I.get (α:=Fld) l ⟨[],[]⟩ (j:Int)=l.getD j ⟨[],[]⟩:=by subst hI;rfl
  have hhp:=VX (l:=l) (i:=i) h1 f.name
  have q1:j<i→(l.getD j ⟨[],[]⟩).name=f.name→([]=r.1∧(9:Int)=r.2):=fun h e=>by
    have h9:=hx3
    rw [if_pos (hhp.2 ⟨j,h,e⟩)] at h9;subst h9;exact⟨rfl,rfl⟩
  have q2:=fun(h:j<i) (e: ¬ (l.getD j ⟨[],[]⟩).name=f.name)=>hB (j+1) ⟨by omega,fun k hk=>if hk2:k<j then g2 k hk2 else by rw [show k=j by omega];exact e⟩ (by omega)
  simp only [Int.natCast_add,Int.natCast_one] at q2
  have hx4: ¬ j<i→(if yU f.value=false then([],3) else txtL (l.take (i+1)) (l.drop (i+1)) (a++([59,32]++f.name++[61]++quoM f.value)))=r:=fun h=>by
    have h9:=hx3
    rwa [if_neg (fun e=>by obtain⟨k,hk,e⟩:=hhp.1 e;exact g2 k (by omega) e)] at h9
  have q3: ¬ j<i→yU f.value=false→([]=r.1∧(3:Int)=r.2):=fun h e=>by
    have h9:=hx4 h
    rw [if_pos e] at h9;subst h9;exact⟨rfl,rfl⟩
  have q4: ¬ j<i→yU f.value=true→txtL (l.take (i+1)) (l.drop (i+1)) (a++([59,32]++f.name++[61]++quoM f.value))=r:=fun h e=>by
    have h9:=hx4 h
    rwa [if_neg (by rw [e];decide)] at h9
  have hqu:=rU f.value
  have hbl:([59,32]++f.name++[61]++quoM f.value).length≤300100:=by simp only [List.length_append,List.length_cons,List.length_nil];omega
  have q5:=fun(c:Str) (hc:c=a++([59,32]++f.name++[61]++quoM f.value)) (h: ¬ j<i) (e:yU f.value=true)=>hA (i+1,c) ⟨by show i+1≤l.length;omega,by show txtL (l.take (i+1)) (l.drop (i+1)) c=r;rw [hc];exact q4 h e,by show c.length≤_;rw [hc,List.length_append];omega⟩ (by show l.length - (i+1)<l.length - i;omega)
  simp only [Int.natCast_add,Int.natCast_one] at q5
  have hq1:zO f.value=true→quoM f.value=f.value:=fun h=>if_pos h
  have hq2: ¬ zO f.value=true→quoM f.value=[34]++escS f.value++[34]:=fun h=>if_neg h
  clear hx3 hx4 q4 hhp g2 hA hB
  refine zH (let y0:=I.len (α:=UInt8) (I.app (α:=UInt8) a (I.app (α:=UInt8) (I.app (α:=UInt8) ([59,32]:Str) (Fld.name f)) ([61]:Str)));let y1:HO:=.pack [(.obj 44 [(.p (.str w)),(.p (.list .fld l))])];let y2:=I.hid (α:=(Prop)) (LE.le (List.length (Fld.value f)) 1000000);let y3:HO:=.obj 41 [(.p (.str (Fld.name f))),(.p (.str (Fld.value f)))];let y4:=I.inb (Nat.cast j) (I.len (α:=Fld) l);.br (I.ilt (Nat.cast j) (Nat.cast i)) (.need y4 (.need y4 (.br (I.seq (Fld.name (I.get (α:=Fld) l (Fld.mk ([]:Str) ([]:Str)) (Nat.cast j))) (Fld.name f)) (.fin (.ret (.tup [(.one (.p (.str ([]:Str)))),(.one (.p (.int .i64 9)))])) []) (.need (I.inr Go.IntKind.i64 (I.add (Nat.cast j) 1)) (.need (B ⟨[(1,(.v (.one (.ptr 0 0)))),(6,(.v (.one (.p (.str a))))),(7,(.v (.one (.p (.int .i64 (Nat.cast i)))))),(8,(.v (.one (.ptr 1 0)))),(9,(.v (.one (.p (.int .i64 (I.add (Nat.cast j) 1))))))],[y1,(.pack [y3])],142,none⟩) .qed))))) (.need y2 (.br (I.bnot (I.hid (α:=Bool) (yU (Fld.value f)))) (.fin (.ret (.tup [(.one (.p (.str ([]:Str)))),(.one (.p (.int .i64 3)))])) []) (.need (I.few (I.add (I.len (α:=UInt8) ([59,32]:Str)) (I.len (α:=UInt8) (Fld.name f))) 1000000000) (.need (I.few (I.add (I.len (α:=UInt8) (I.app (α:=UInt8) ([59,32]:Str) (Fld.name f))) (I.len (α:=UInt8) ([61]:Str))) 1000000000) (.need (I.few (I.add (I.len (α:=UInt8) a) (I.len (α:=UInt8) (I.app (α:=UInt8) (I.app (α:=UInt8) ([59,32]:Str) (Fld.name f)) ([61]:Str)))) 1000000000) (.need y2 (.br (I.hid (α:=Bool) (zO (Fld.value f))) (.need (I.few (I.add y0 (I.len (α:=UInt8) (Fld.value f))) 1000000000) (.need (I.inr Go.IntKind.i64 (I.add (Nat.cast i) 1)) (.need (A ⟨[(1,(.v (.one (.ptr 0 0)))),(6,(.v (.one (.p (.str (I.app (α:=UInt8) (I.app (α:=UInt8) a (I.app (α:=UInt8) (I.app (α:=UInt8) ([59,32]:Str) (Fld.name f)) ([61]:Str))) (Fld.value f))))))),(7,(.v (.one (.p (.int .i64 (I.add (Nat.cast i) 1))))))],[y1],142,none⟩) .qed))) (.need (I.few (I.add y0 (I.len (α:=UInt8) ([34]:Str))) 1000000000) (.code 1 [1,0,0,1,1,1,1,1,1,1,0,1,0] ⟨[(10,(.v (.one (.p (.int .i64 0))))),(6,(.v (.one (.p (.str (I.app (α:=UInt8) (I.app (α:=UInt8) a (I.app (α:=UInt8) (I.app (α:=UInt8) ([59,32]:Str) (Fld.name f)) ([61]:Str))) ([34]:Str))))))),(1,(.v (.one (.ptr 0 0)))),(7,(.v (.one (.p (.int .i64 (Nat.cast i)))))),(8,(.v (.one (.ptr 1 0)))),(9,(.v (.one (.p (.int .i64 (Nat.cast j))))))],[y1,y3],142,none⟩)))))))))) (by kernel_rfl) ?_
  simp only [zU]
  rw [hgj]
  (repeat' (first|refine And.intro ?_ ?_|intro _))
  all_goals try(subst hI;(simp only [nrmA,nrmB,nrlB,reduceCtorEq] at *);first|done|exact True.intro|omega|(simp only [List.length_append,List.length_cons,List.length_nil];omega)|exact q1 (by omega) ‹_›|exact q2 (by omega) ‹_›|exact q3 (by omega) ‹_›|exact q5 _ (by rw [hq1 ‹_›,List.append_assoc]) (by omega) ‹_›)
  have hfacts: ¬ j<i∧yU f.value=true∧zO f.value=false:=by
    subst hI
    simp only [nrmA,nrmB,nrlB,reduceCtorEq] at *
    exact⟨by omega,‹_›,‹_›⟩
  obtain⟨hji,hse,htv⟩:=hfacts
  have q6:=fun c hc=>q5 c hc hji hse
  rw [hq2 (by rw [htv];decide)] at q6 hbl
  clear q1 q2 q3 q5 hq1 hq2 hqu
  rw [show I.app (I.app a (I.app (I.app [59,32] f.name) [61])) [34]=a++([59,32]++f.name++[61])++[34] by subst hI;rfl]
  have hbl2:(a++([59,32]++f.name++[61])++[34]).length≤3000000:=by simp only [List.length_append,List.length_cons,List.length_nil] at hbl ⊢;omega
  have hes:a++([59,32]++f.name++[61]++([34]++escS f.value++[34]))=a++([59,32]++f.name++[61])++[34]++escS f.value++[34]:=by simp only [List.append_assoc]
  rw [hes] at q6
  generalize a++([59,32]++f.name++[61])++[34]=u at *
  refine zQ hI zJ mixed [yH,yG,yQ,yP,yT,yS,vU,vT] hX [1,6,7,8,10] (fun(g:Nat × Str)=>match g with|(k,c)=>k≤f.value.length∧c++escS (f.value.drop k)=u++escS f.value∧c.length≤3000000+2 * k) (fun(g:Nat × Str)=>match g with|(k,c)=>⟨[(1,.v (.one (.ptr 0 0))),(6,.v (.one (.p (.str c)))),(7,.v (.one (.p (.int .i64 i)))),(8,.v (.one (.ptr 1 0))),(10,.v (.one (.p (.int .i64 k))))],[.pack [.obj 44 [(.p (.str w)),(.p (.list .fld l))]],.pack [.obj 41 [(.p (.str f.name)),(.p (.str f.value))]]],142,none⟩) (fun(g:Nat × Str)=>match g with|(k,c)=>f.value.length - k) (0,u) (by kernel_rfl) (by kernel_rfl) ?_ ?_
  · exact⟨Nat.zero_le _,rfl,by omega⟩
  rintro⟨k,c⟩ ⟨g1,g2,g3⟩ E hE
  have ht1:k<f.value.length→List.take (((k:Int)+1).toNat - k) (f.value.drop k)=[f.value.getD k 0]:=fun h=>by
    rw [show((k:Int)+1).toNat - k=1 by omega,List.drop_eq_getElem_cons h,show f.value.getD k 0=f.value[k] by simp [h]];rfl
  have hs1:=fun(h:k<f.value.length)=>zbh h
  have r1:k<f.value.length→(((f.value.getD k 0).toNat:Int)=34∨((f.value.getD k 0).toNat:Int)=92)→(c++[92]++List.take (((k:Int)+1).toNat - k) (f.value.drop k))++escS (f.value.drop (k+1))=u++escS f.value∧(c++[92]++List.take (((k:Int)+1).toNat - k) (f.value.drop k)).length≤3000000+2 * (k+1):=fun h e=>by
    rw [ht1 h]
    have e1:f.value.getD k 0=34∨f.value.getD k 0=92:=e.imp (fun e=>UInt8.toNat_inj.1 (by have:(34:UInt8).toNat=34:=rfl;omega)) (fun e=>UInt8.toNat_inj.1 (by have:(92:UInt8).toNat=92:=rfl;omega))
    refine⟨?_,by simp only [List.length_append,List.length_cons,List.length_nil];omega⟩
    rw [← g2,hs1 h,if_pos e1];simp
  have r2:k<f.value.length→¬ ((f.value.getD k 0).toNat:Int)=34→¬ ((f.value.getD k 0).toNat:Int)=92→(c++List.take (((k:Int)+1).toNat - k) (f.value.drop k))++escS (f.value.drop (k+1))=u++escS f.value∧(c++List.take (((k:Int)+1).toNat - k) (f.value.drop k)).length≤3000000+2 * (k+1):=fun h e e'=>by
    rw [ht1 h]
    refine⟨?_,by simp only [List.length_append,List.length_cons,List.length_nil];omega⟩
    rw [← g2,hs1 h,if_neg (by rintro(e1|e1);exact e (by rw [e1];rfl);exact e' (by rw [e1];rfl))];simp
  have r3: ¬ k<f.value.length→c++[34]=u++escS f.value++[34]:=fun h=>by
    rw [← g2,List.drop_of_length_le (by omega)];simp [escS]
  have r4:=fun(c':Str) (h:k<f.value.length) (e:c'++escS (f.value.drop (k+1))=u++escS f.value∧c'.length≤3000000+2 * (k+1))=>hE (k+1,c') ⟨by show k+1≤f.value.length;omega,e.1,e.2⟩ (by show f.value.length - (k+1)<f.value.length - k;omega)
  simp only [Int.natCast_add,Int.natCast_one] at r4
  have hl1:k<f.value.length→(List.take (((k:Int)+1).toNat - k) (f.value.drop k)).length=1:=fun h=>by rw [ht1 h];rfl
  clear hE g2 hs1 ht1
  refine zH (let y0:=I.cut (α:=UInt8) (Fld.value f) (Int.ofNat k) (I.add (Nat.cast k) 1);let y1:=I.inr Go.IntKind.i64 (I.add (Nat.cast k) 1);let y7:=I.len (α:=UInt8) (Fld.value f);let y2:=I.cutb (Int.ofNat k) (I.add (Nat.cast k) 1) y7;let y3:HO:=.pack [(.obj 44 [(.p (.str w)),(.p (.list .fld l))])];let y4:HO:=.pack [(.obj 41 [(.p (.str (Fld.name f))),(.p (.str (Fld.value f)))])];let y5:=I.few (I.add (I.len (α:=UInt8) (I.app (α:=UInt8) c ([92]:Str))) (I.len (α:=UInt8) y0)) 1000000000;let y6:=I.few (I.add (I.len (α:=UInt8) c) (I.len (α:=UInt8) ([92]:Str))) 1000000000;let y8:=I.b2i (I.get (α:=UInt8) (Fld.value f) 0 (Nat.cast k));.br (I.ilt (Nat.cast k) y7) (.need (I.inb (Nat.cast k) y7) (.br (I.ieq y8 34) (.need y6 (.need y1 (.need y2 (.need y5 (.need y1 (.need (E ⟨[(1,(.v (.one (.ptr 0 0)))),(6,(.v (.one (.p (.str (I.app (α:=UInt8) (I.app (α:=UInt8) c ([92]:Str)) y0)))))),(7,(.v (.one (.p (.int .i64 (Nat.cast i)))))),(8,(.v (.one (.ptr 1 0)))),(10,(.v (.one (.p (.int .i64 (I.add (Nat.cast k) 1))))))],[y3,y4],142,none⟩) .qed)))))) (.need (I.inb (Nat.cast k) y7) (.br (I.ieq y8 92) (.need y6 (.need y1 (.need y2 (.need y5 (.need y1 (.need (E ⟨[(1,(.v (.one (.ptr 0 0)))),(6,(.v (.one (.p (.str (I.app (α:=UInt8) (I.app (α:=UInt8) c ([92]:Str)) y0)))))),(7,(.v (.one (.p (.int .i64 (Nat.cast i)))))),(8,(.v (.one (.ptr 1 0)))),(10,(.v (.one (.p (.int .i64 (I.add (Nat.cast k) 1))))))],[y3,y4],142,none⟩) .qed)))))) (.need y1 (.need y2 (.need (I.few (I.add (I.len (α:=UInt8) c) (I.len (α:=UInt8) y0)) 1000000000) (.need y1 (.need (E ⟨[(1,(.v (.one (.ptr 0 0)))),(6,(.v (.one (.p (.str (I.app (α:=UInt8) c y0)))))),(7,(.v (.one (.p (.int .i64 (Nat.cast i)))))),(8,(.v (.one (.ptr 1 0)))),(10,(.v (.one (.p (.int .i64 (I.add (Nat.cast k) 1))))))],[y3,y4],142,none⟩) .qed))))))))) (.need (I.few (I.add (I.len (α:=UInt8) c) (I.len (α:=UInt8) ([34]:Str))) 1000000000) (.need (I.inr Go.IntKind.i64 (I.add (Nat.cast i) 1)) (.need (A ⟨[(1,(.v (.one (.ptr 0 0)))),(6,(.v (.one (.p (.str (I.app (α:=UInt8) c ([34]:Str))))))),(7,(.v (.one (.p (.int .i64 (I.add (Nat.cast i) 1))))))],[y3],142,none⟩) .qed)))) (by kernel_rfl) ?_
  simp only [zU]
  subst hI
  simp only [nrmA,nrmB,nrlB,reduceCtorEq,HO.pack.injEq,HO.obj.injEq]
  (repeat' (first|refine And.intro ?_ ?_|intro _))
  all_goals first
    |omega
    |(simp only [List.length_cons,List.length_nil];omega)
    |(have:=hl1 (by omega);simp only [List.length_append,List.length_cons,List.length_nil] at *;omega)
    |exact r4 _ (by omega) (r1 (by omega) (.inl ‹_›))
    |exact r4 _ (by omega) (r1 (by omega) (.inr ‹_›))
    |exact r4 _ (by omega) (r2 (by omega) ‹_› ‹_›)
    |exact q6 _ (r3 (by omega))
    |skip
def ZN (I:Alg) (args:List D) (hp:List HO):Option CT:=match args,hp with
  |[.v (.agg [(.p (.str w)),(.p (.list .fld l))])],[]=>(fun(w:Str) (l:List Fld)=>(some (.one ⟨I.hid ((w.length≤100000∧l.length≤1000000)∧∀ f ∈ l,f.name.length≤100000∧f.value.length≤100000),(.ret (.tup [(.one (.p (.str (I.hid ((zT w l).1))))),(.one (.p (.int .i64 (I.hid ((zT w l).2)))))])),[]⟩):Option CT)) w l
  |_,_=>none
theorem Sj:yh Tryz.prog 16 (ZN alg):=by
  intro args hp r h
  unfold ZN at h
  split at h
  · cases h;exact fun hn=>zd0 _ _ hn
  · cases h
def Si:Know Tryz.prog:=⟨16,ZN,Sj⟩
def TY:Know Tryz.prog:=⟨16,fun I=>yE I (ZN I),zA Sj⟩
end Go.Proofs.YtalfiafkeijijaaGreatDoor
namespace Go.Proofs.YtalfiafkeijijaaGreatDoor
open Go Go.Sep Go.Ab
set_option maxRecDepth 100000
def noSt (s:Str):Prop:=∀ c ∈ s,c≠47∧c≠92
def fS (c:UInt8):UInt8:=if c=9∨vN (c.toNat:Int)=false∨c=34∨c=58 then 95 else c
theorem X8: ∀ (t b:Str),noSt t→(b≠[]∨t.head?≠some 46)→t.foldl xI b=b++t.map fS
  |[],b,_,_=>by simp
  | c ::r,b,h,k=>by
    obtain⟨h1,h2⟩:=h c (List.mem_cons_self ..)
    have e:xI b c=b++[fS c]:=by
      unfold xI fS
      rw [if_neg (by rintro(e|e);exact h1 e;exact h2 e)]
      split
      · rfl
      · rw [if_neg]
        rintro⟨e,q⟩
        rcases k with k|k
        · exact k q
        · exact k (by rw [e];rfl)
    rw [List.foldl_cons,e,X8 r (b++[fS c]) (fun x hx=>h x (List.mem_cons_of_mem _ hx)) (.inl (by simp))]
    simp
theorem zb8 {t:Str} (h:t.head?=some 46):t.foldl xI []=(t.drop 1).foldl xI []:=by
  cases t with
  |nil=>cases h
  | cons c r=>
    have:c=46:=Option.some.inj h
    subst this
    rfl
theorem zet (c:UInt8):[fS c]=if(c.toNat:Int)=9 then [95] else if vN (c.toNat:Int)=false then [95] else if(c.toNat:Int)=34 then [95] else if(c.toNat:Int)=58 then [95] else [c]:=by
  have e3:(c.toNat:Int)=9↔c=9:=ZA c 9 (by decide)
  have e4:(c.toNat:Int)=34↔c=34:=ZA c 34 (by decide)
  have e5:(c.toNat:Int)=58↔c=58:=ZA c 58 (by decide)
  simp only [e3,e4,e5]
  unfold fS
  generalize vN (c.toNat:Int)=k
  repeat' split
  all_goals simp_all
theorem zc6 {s:Str} {i f:Nat} (h:i<s.length) (hf:f≤i) (hn:noSt ((s.take i).drop f)) (he:(s.take i).foldl xI []=((s.take i).drop f).foldl xI []):
    ((s.getD i 0=47∨s.getD i 0=92)→noSt ((s.take (i+1)).drop (i+1))∧(s.take (i+1)).foldl xI []=((s.take (i+1)).drop (i+1)).foldl xI [])∧
    (¬ (s.getD i 0=47∨s.getD i 0=92)→noSt ((s.take (i+1)).drop f)∧(s.take (i+1)).foldl xI []=((s.take (i+1)).drop f).foldl xI []):=by
  have hs:=Vq s i h
  have ht:s.take (i+1)=s.take i++[s.getD i 0]:=by rw [List.take_succ_eq_append_getElem h];simp [h]
  have hl:(s.take i).length=i:=by rw [List.length_take];omega
  refine⟨fun k=> ?_,fun k=> ?_⟩
  · have hd:(s.take (i+1)).drop (i+1)=[]:=List.drop_of_length_le (by rw [List.length_take];omega)
    rw [hd]
    refine⟨fun c hc=>absurd hc List.not_mem_nil,?_⟩
    rw [hs]
    unfold xI
    rw [if_pos k];rfl
  · have hd:(s.take (i+1)).drop f=(s.take i).drop f++[s.getD i 0]:=by rw [ht,List.drop_append_of_le_length (by omega)]
    rw [hd]
    refine⟨fun c hc=> ?_,?_⟩
    · rcases List.mem_append.1 hc with h5|h5
      · exact hn c h5
      · rw [List.mem_singleton.1 h5];exact⟨fun e=>k (.inl e),fun e=>k (.inr e)⟩
    · rw [hs,he,List.foldl_append];rfl
theorem zd1 (s:Str) (hneed:s.length≤1000000):Spc Tryz.prog 15 [.v (.one (.p (.str s)))] [] (.ret (.v (.one (.p (.str ((xM s))))))) []:=by
  generalize hr:xM s=r
  unfold xM at hr
  refine spcG zJ mixed Tryz.func15 (by kernel_rfl) { keep:=some [0,2,3,4,5,6]} [wI,wH] (by kernel_rfl) ?_
  intro I X hI hX
  refine zH (.code 0 [1,1,0,1,0] ⟨[(4,(.v (.one (.p (.int .i64 0))))),(3,(.v (.one (.p (.int .i64 0))))),(2,(.v (.one (.p (.str ([]:Str)))))),(0,(.v (.one (.p (.str s)))))],[],83,none⟩) (by kernel_rfl) ?_
  simp only [zU]
  refine zQ hI zJ mixed [wI,wH] hX [0,3,4] (fun(g:Nat × Nat)=>match g with|(i,f)=>i≤s.length∧f≤i∧noSt ((s.take i).drop f)∧(s.take i).foldl xI []=((s.take i).drop f).foldl xI []) (fun(g:Nat × Nat)=>match g with|(i,f)=>⟨[(0,.v (.one (.p (.str s)))),(3,.v (.one (.p (.int .i64 f)))),(4,.v (.one (.p (.int .i64 i))))],[],83,none⟩) (fun(g:Nat × Nat)=>match g with|(i,f)=>s.length - i) (0,0) (by kernel_rfl) (by kernel_rfl) ?_ ?_
  · exact⟨Nat.zero_le _,Nat.le_refl _,fun c hc=>absurd hc (by simp),rfl⟩
  rintro⟨i,f⟩ ⟨h1,h2,h3,h4⟩ A hA
  simp only at hA h1 h2 h3 h4
  refine zH (let y0:=I.inr Go.IntKind.i64 (I.add (Nat.cast i) 1);let y1:=I.b2i (I.get (α:=UInt8) s 0 (Nat.cast i));let y2:=I.inb (Nat.cast i) (I.len (α:=UInt8) s);.br (I.ilt (Nat.cast i) (I.len (α:=UInt8) s)) (.need y2 (.br (I.ieq y1 47) (.need y0 (.need y0 (.need (A ⟨[(0,(.v (.one (.p (.str s))))),(3,(.v (.one (.p (.int .i64 (I.add (Nat.cast i) 1)))))),(4,(.v (.one (.p (.int .i64 (I.add (Nat.cast i) 1))))))],[],83,none⟩) .qed))) (.need y2 (.br (I.ieq y1 92) (.need y0 (.need y0 (.need (A ⟨[(0,(.v (.one (.p (.str s))))),(3,(.v (.one (.p (.int .i64 (I.add (Nat.cast i) 1)))))),(4,(.v (.one (.p (.int .i64 (I.add (Nat.cast i) 1))))))],[],83,none⟩) .qed))) (.need y0 (.need (A ⟨[(0,(.v (.one (.p (.str s))))),(3,(.v (.one (.p (.int .i64 (Nat.cast f)))))),(4,(.v (.one (.p (.int .i64 (I.add (Nat.cast i) 1))))))],[],83,none⟩) .qed)))))) (.need (I.cutb (Int.ofNat f) (I.len (α:=UInt8) s) (I.len (α:=UInt8) s)) (.code 1 [1,1,1,1,0,0] ⟨[(0,(.v (.one (.p (.str (I.cut (α:=UInt8) s (Int.ofNat f) (I.len (α:=UInt8) s))))))),(3,(.v (.one (.p (.int .i64 (Nat.cast f)))))),(4,(.v (.one (.p (.int .i64 (Nat.cast i))))))],[],83,none⟩))) (by kernel_rfl) ?_
  simp only [zU]
  refine⟨fun c=> ?_,fun c=> ?_⟩
  · have hi:i<s.length:=by subst hI;(simp only [nrmA,nrmB,nrlB,reduceCtorEq] at *);omega
    obtain⟨g1,g2⟩:=zc6 hi h2 h3 h4
    have a1:=fun h=>hA (i+1,i+1) ⟨by simp only;omega,Nat.le_refl _,(g1 h).1,(g1 h).2⟩ (by simp only;omega)
    have a2:=fun h=>hA (i+1,f) ⟨by simp only;omega,by simp only;omega,(g2 h).1,(g2 h).2⟩ (by simp only;omega)
    subst hI
    simp only [nrmA,nrmB,nrlB,reduceCtorEq]
    simp only [Int.natCast_add,Int.natCast_one] at a1 a2
    have e1:((s.getD i 0).toNat:Int)=47↔s.getD i 0=47:=ZA _ 47 (by decide)
    have e2:((s.getD i 0).toNat:Int)=92↔s.getD i 0=92:=ZA _ 92 (by decide)
    generalize s.getD i 0=x at *
    (repeat' (first|refine And.intro ?_ ?_|intro _))<;>first|omega|exact True.intro|exact False.elim ‹False›|skip
    all_goals first
      |omega
      |exact a1 (.inl (e1.1 ‹_›))
      |exact a1 (.inr (e2.1 ‹_›))
      |exact a2 (fun h=>h.elim (fun h=>‹¬ (x.toNat:Int)=47› (e1.2 h)) (fun h=>‹¬ (x.toNat:Int)=92› (e2.2 h)))
  · have hi:i=s.length:=by subst hI;(simp only [nrmA,nrmB,nrlB,reduceCtorEq] at *);omega
    subst hi
    rw [List.take_length] at h3 h4
    refine⟨by subst hI;(simp only [nrmA,nrmB,nrlB,reduceCtorEq]);omega,?_⟩
    rw [show I.cut s (Int.ofNat f) (I.len s)=s.drop f by subst hI;rw [xH,yc,Int.toNat_natCast];exact List.take_of_length_le (by simp)]
    have ht:(s.drop f).length≤1000000:=by rw [List.length_drop];omega
    generalize s.foldl xI []=G at *
    generalize s.drop f=t at *
    clear hA
    refine zQ hI zJ mixed [wI,wH] hX [0] (fun(u:Str)=>noSt u∧u.foldl xI []=G∧u.length≤1000000) (fun(u:Str)=>⟨[(0,.v (.one (.p (.str u))))],[],83,none⟩) (fun(u:Str)=>u.length) t (by kernel_rfl) (by kernel_rfl) ?_ ?_
    · exact⟨h3,h4.symm,ht⟩
    rintro u ⟨g1,g2,g3⟩ A hA
    refine zH (.br (I.ilt 0 (I.len (α:=UInt8) u)) (.need (I.inb 0 (I.len (α:=UInt8) u)) (.br (I.ieq (I.b2i (I.get (α:=UInt8) u 0 0)) 46) (.need (I.cutb 1 (I.len (α:=UInt8) u) (I.len (α:=UInt8) u)) (.need (A ⟨[(0,(.v (.one (.p (.str (I.cut (α:=UInt8) u 1 (I.len (α:=UInt8) u)))))))],[],83,none⟩) .qed)) (.code 2 [1,1,1,1,1,1,0,1,0] ⟨[(6,(.v (.one (.p (.int .i64 0))))),(5,(.v (.one (.p (.str ([]:Str)))))),(0,(.v (.one (.p (.str u)))))],[],83,none⟩))) (.code 2 [1,1,1,1,1,1,0,1,0] ⟨[(6,(.v (.one (.p (.int .i64 0))))),(5,(.v (.one (.p (.str ([]:Str)))))),(0,(.v (.one (.p (.str u)))))],[],83,none⟩)) (by kernel_rfl) ?_
    simp only [zU]
    have hgo:u.head?=some 46→_:=fun h=>hA (u.drop 1) ⟨fun c hc=>g1 c (List.mem_of_mem_drop hc),by rw [← zb8 h];exact g2,by rw [List.length_drop];omega⟩ (by cases u with|nil=>cases h|cons a b=>simp)
    have hhd:0<u.length→((u.getD 0 0).toNat:Int)=46→u.head?=some 46:=fun h e=>by
      have e2:=(ZA (u.getD 0 0) 46 (by decide)).1 e
      cases u with
      |nil=>cases h
      |cons a r=>exact congrArg some e2
    (repeat' (first|refine And.intro ?_ ?_|intro _))
    all_goals try(subst hI;(simp only [nrmA,nrmB,nrlB,reduceCtorEq] at *);first
      |done
      |with_reducible exact True.intro
      |omega
      |(rw [drop1];with_reducible exact hgo (hhd (by omega) ‹_›)))
    · have hu:u=[]∨u.head?≠some 46:=by
        subst hI
        simp only [nrmA,nrmB,nrlB,reduceCtorEq] at *
        right
        intro e
        refine absurd ?_ ‹¬ ((u.getD 0 0).toNat:Int)=46›
        cases u with
        |nil=>cases e
        |cons a b=>rw [show a=46 from Option.some.inj e];rfl
      have hG:G=u.map fS:=by
        rw [← g2,X8 u [] g1 (hu.elim (fun h=>.inr (by rw [h];simp)) .inr)]
        simp
      clear hA g2 hu
      refine zQ hI zJ mixed [wI,wH] hX [0,5,6] (fun(g:Nat × Str)=>match g with|(i,o)=>i≤u.length∧i≤40∧o=(u.take i).map fS) (fun(g:Nat × Str)=>match g with|(i,o)=>⟨[(0,.v (.one (.p (.str u)))),(5,.v (.one (.p (.str o)))),(6,.v (.one (.p (.int .i64 i))))],[],83,none⟩) (fun(g:Nat × Str)=>match g with|(i,o)=>u.length - i) (0,[]) (by kernel_rfl) (by kernel_rfl) ?_ ?_
      · exact⟨Nat.zero_le _,by omega,rfl⟩
      rintro⟨i,o⟩ ⟨h1,h2,h3⟩ A hA
      simp only at hA h1 h2 h3
      refine zH (let y0:=I.few (I.add (I.len (α:=UInt8) o) (I.len (α:=UInt8) ([95]:Str))) 1000000000;let y1:=I.inr Go.IntKind.i64 (I.add (Nat.cast i) 1);let y2:=I.b2i (I.get (α:=UInt8) u 0 (Nat.cast i));let y3:=I.inb (Nat.cast i) (I.len (α:=UInt8) u);let y4:=I.cut (α:=UInt8) u (Int.ofNat i) (I.add (Nat.cast i) 1);.br (I.ilt (Nat.cast i) (I.len (α:=UInt8) u)) (.br (I.ilt (Nat.cast i) 40) (.need y3 (.br (I.ieq y2 9) (.need y0 (.need y1 (.need (A ⟨[(0,(.v (.one (.p (.str u))))),(5,(.v (.one (.p (.str (I.app (α:=UInt8) o ([95]:Str))))))),(6,(.v (.one (.p (.int .i64 (I.add (Nat.cast i) 1))))))],[],83,none⟩) .qed))) (.need y3 (.need (I.hid (α:=(Prop)) True) (.br (I.bnot (I.hid (α:=Bool) (vN y2))) (.need y0 (.need y1 (.need (A ⟨[(0,(.v (.one (.p (.str u))))),(5,(.v (.one (.p (.str (I.app (α:=UInt8) o ([95]:Str))))))),(6,(.v (.one (.p (.int .i64 (I.add (Nat.cast i) 1))))))],[],83,none⟩) .qed))) (.need y3 (.br (I.ieq y2 34) (.need y0 (.need y1 (.need (A ⟨[(0,(.v (.one (.p (.str u))))),(5,(.v (.one (.p (.str (I.app (α:=UInt8) o ([95]:Str))))))),(6,(.v (.one (.p (.int .i64 (I.add (Nat.cast i) 1))))))],[],83,none⟩) .qed))) (.need y3 (.br (I.ieq y2 58) (.need y0 (.need y1 (.need (A ⟨[(0,(.v (.one (.p (.str u))))),(5,(.v (.one (.p (.str (I.app (α:=UInt8) o ([95]:Str))))))),(6,(.v (.one (.p (.int .i64 (I.add (Nat.cast i) 1))))))],[],83,none⟩) .qed))) (.need y1 (.need (I.cutb (Int.ofNat i) (I.add (Nat.cast i) 1) (I.len (α:=UInt8) u)) (.need (I.few (I.add (I.len (α:=UInt8) o) (I.len (α:=UInt8) y4)) 1000000000) (.need y1 (.need (A ⟨[(0,(.v (.one (.p (.str u))))),(5,(.v (.one (.p (.str (I.app (α:=UInt8) o y4)))))),(6,(.v (.one (.p (.int .i64 (I.add (Nat.cast i) 1))))))],[],83,none⟩) .qed)))))))))))))) (.br (I.seq o ([]:Str)) (.fin (.ret (.v (.one (.p (.str ([102,105,108,101]:Str)))))) []) (.fin (.ret (.v (.one (.p (.str o))))) []))) (.br (I.seq o ([]:Str)) (.fin (.ret (.v (.one (.p (.str ([102,105,108,101]:Str)))))) []) (.fin (.ret (.v (.one (.p (.str o))))) []))) (by kernel_rfl) ?_
      simp only [zU]
      subst hI
      simp only [nrmA,nrmB,nrlB,reduceCtorEq]
      have hs:i<u.length→(u.take (i+1)).map fS=o++[fS (u.getD i 0)]:=fun h=>by
        rw [List.take_succ_eq_append_getElem h,List.map_append,h3];simp [h]
      have hgo:i<u.length→i<40→_:=fun h k=>hA (i+1,o++[fS (u.getD i 0)]) ⟨by simp only;omega,by simp only;omega,(hs h).symm⟩ (by simp only;omega)
      have hcut:i<u.length→List.take (((i:Int)+1).toNat - i) (u.drop i)=[u.getD i 0]:=fun h=>by
        rw [show((i:Int)+1).toNat - i=1 by omega,List.drop_eq_getElem_cons h,show u.getD i 0=u[i] by simp [h]];rfl
      have hol:o.length≤i:=by rw [h3,List.length_map,List.length_take];omega
      have hend: ¬ (i<u.length∧i<40)→G.take 40=o:=fun h=>by
        rw [hG,h3,← List.map_take]
        by_cases k:i=40
        · rw [k]
        · rw [List.take_of_length_le (show u.length≤40 by omega),List.take_of_length_le (show u.length≤i by omega)]
      have l0:=(u.getD i 0).toNat_lt
      rw [zet] at hgo
      simp only [Int.natCast_add,Int.natCast_one] at hgo
      generalize u.getD i 0=x at *
      (repeat' (first|refine And.intro ?_ ?_|intro _))<;>first|omega|exact True.intro|exact False.elim ‹False›|skip
      all_goals first
        |omega
        |(simp only [List.length_cons,List.length_nil];omega)
        |(rw [hcut (by omega)];simp only [List.length_cons,List.length_nil];omega)
        |(have h:=hgo (by omega) (by omega);(try rw [hcut (by omega)]);(repeat(first|rw [if_pos (by first|omega|assumption)] at h|rw [if_neg (by first|omega|assumption|simpa using ‹_=true›)] at h));with_reducible exact h)
        |(have h:=hend (by omega);rw [h] at hr;subst hr;first|rw [if_pos ‹o=[]›]|rw [if_neg ‹¬ o=[]›])
    · have hu:u=[]∨u.head?≠some 46:=by
        subst hI
        simp only [nrmA,nrmB,nrlB,reduceCtorEq] at *
        exact .inl (List.eq_nil_of_length_eq_zero (by omega))
      have hG:G=u.map fS:=by
        rw [← g2,X8 u [] g1 (hu.elim (fun h=>.inr (by rw [h];simp)) .inr)]
        simp
      clear hA g2 hu
      refine zQ hI zJ mixed [wI,wH] hX [0,5,6] (fun(g:Nat × Str)=>match g with|(i,o)=>i≤u.length∧i≤40∧o=(u.take i).map fS) (fun(g:Nat × Str)=>match g with|(i,o)=>⟨[(0,.v (.one (.p (.str u)))),(5,.v (.one (.p (.str o)))),(6,.v (.one (.p (.int .i64 i))))],[],83,none⟩) (fun(g:Nat × Str)=>match g with|(i,o)=>u.length - i) (0,[]) (by kernel_rfl) (by kernel_rfl) ?_ ?_
      · exact⟨Nat.zero_le _,by omega,rfl⟩
      rintro⟨i,o⟩ ⟨h1,h2,h3⟩ A hA
      simp only at hA h1 h2 h3
      refine zH (let y0:=I.few (I.add (I.len (α:=UInt8) o) (I.len (α:=UInt8) ([95]:Str))) 1000000000;let y1:=I.inr Go.IntKind.i64 (I.add (Nat.cast i) 1);let y2:=I.b2i (I.get (α:=UInt8) u 0 (Nat.cast i));let y3:=I.inb (Nat.cast i) (I.len (α:=UInt8) u);let y4:=I.cut (α:=UInt8) u (Int.ofNat i) (I.add (Nat.cast i) 1);.br (I.ilt (Nat.cast i) (I.len (α:=UInt8) u)) (.br (I.ilt (Nat.cast i) 40) (.need y3 (.br (I.ieq y2 9) (.need y0 (.need y1 (.need (A ⟨[(0,(.v (.one (.p (.str u))))),(5,(.v (.one (.p (.str (I.app (α:=UInt8) o ([95]:Str))))))),(6,(.v (.one (.p (.int .i64 (I.add (Nat.cast i) 1))))))],[],83,none⟩) .qed))) (.need y3 (.need (I.hid (α:=(Prop)) True) (.br (I.bnot (I.hid (α:=Bool) (vN y2))) (.need y0 (.need y1 (.need (A ⟨[(0,(.v (.one (.p (.str u))))),(5,(.v (.one (.p (.str (I.app (α:=UInt8) o ([95]:Str))))))),(6,(.v (.one (.p (.int .i64 (I.add (Nat.cast i) 1))))))],[],83,none⟩) .qed))) (.need y3 (.br (I.ieq y2 34) (.need y0 (.need y1 (.need (A ⟨[(0,(.v (.one (.p (.str u))))),(5,(.v (.one (.p (.str (I.app (α:=UInt8) o ([95]:Str))))))),(6,(.v (.one (.p (.int .i64 (I.add (Nat.cast i) 1))))))],[],83,none⟩) .qed))) (.need y3 (.br (I.ieq y2 58) (.need y0 (.need y1 (.need (A ⟨[(0,(.v (.one (.p (.str u))))),(5,(.v (.one (.p (.str (I.app (α:=UInt8) o ([95]:Str))))))),(6,(.v (.one (.p (.int .i64 (I.add (Nat.cast i) 1))))))],[],83,none⟩) .qed))) (.need y1 (.need (I.cutb (Int.ofNat i) (I.add (Nat.cast i) 1) (I.len (α:=UInt8) u)) (.need (I.few (I.add (I.len (α:=UInt8) o) (I.len (α:=UInt8) y4)) 1000000000) (.need y1 (.need (A ⟨[(0,(.v (.one (.p (.str u))))),(5,(.v (.one (.p (.str (I.app (α:=UInt8) o y4)))))),(6,(.v (.one (.p (.int .i64 (I.add (Nat.cast i) 1))))))],[],83,none⟩) .qed)))))))))))))) (.br (I.seq o ([]:Str)) (.fin (.ret (.v (.one (.p (.str ([102,105,108,101]:Str)))))) []) (.fin (.ret (.v (.one (.p (.str o))))) []))) (.br (I.seq o ([]:Str)) (.fin (.ret (.v (.one (.p (.str ([102,105,108,101]:Str)))))) []) (.fin (.ret (.v (.one (.p (.str o))))) []))) (by kernel_rfl) ?_
      simp only [zU]
      subst hI
      simp only [nrmA,nrmB,nrlB,reduceCtorEq]
      have hs:i<u.length→(u.take (i+1)).map fS=o++[fS (u.getD i 0)]:=fun h=>by
        rw [List.take_succ_eq_append_getElem h,List.map_append,h3];simp [h]
      have hgo:i<u.length→i<40→_:=fun h k=>hA (i+1,o++[fS (u.getD i 0)]) ⟨by simp only;omega,by simp only;omega,(hs h).symm⟩ (by simp only;omega)
      have hcut:i<u.length→List.take (((i:Int)+1).toNat - i) (u.drop i)=[u.getD i 0]:=fun h=>by
        rw [show((i:Int)+1).toNat - i=1 by omega,List.drop_eq_getElem_cons h,show u.getD i 0=u[i] by simp [h]];rfl
      have hol:o.length≤i:=by rw [h3,List.length_map,List.length_take];omega
      have hend: ¬ (i<u.length∧i<40)→G.take 40=o:=fun h=>by
        rw [hG,h3,← List.map_take]
        by_cases k:i=40
        · rw [k]
        · rw [List.take_of_length_le (show u.length≤40 by omega),List.take_of_length_le (show u.length≤i by omega)]
      have l0:=(u.getD i 0).toNat_lt
      rw [zet] at hgo
      simp only [Int.natCast_add,Int.natCast_one] at hgo
      generalize u.getD i 0=x at *
      (repeat' (first|refine And.intro ?_ ?_|intro _))<;>first|omega|exact True.intro|exact False.elim ‹False›|skip
      all_goals first
        |omega
        |(simp only [List.length_cons,List.length_nil];omega)
        |(rw [hcut (by omega)];simp only [List.length_cons,List.length_nil];omega)
        |(have h:=hgo (by omega) (by omega);(try rw [hcut (by omega)]);(repeat(first|rw [if_pos (by first|omega|assumption)] at h|rw [if_neg (by first|omega|assumption|simpa using ‹_=true›)] at h));with_reducible exact h)
        |(have h:=hend (by omega);rw [h] at hr;subst hr;first|rw [if_pos ‹o=[]›]|rw [if_neg ‹¬ o=[]›])
def ZO (I:Alg) (args:List D) (hp:List HO):Option CT:=match args,hp with
  |[.v (.one (.p (.str s)))],[]=>(fun(s:Str)=>(some (.one ⟨I.hid (s.length≤1000000),(.ret (.v (.one (.p (.str (I.hid ((xM s)))))))),[]⟩):Option CT)) s
  |_,_=>none
theorem Sr:yh Tryz.prog 15 (ZO alg):=by
  intro args hp r h
  unfold ZO at h
  split at h
  · cases h;exact fun hn=>zd1 _ hn
  · cases h
def Sm:Know Tryz.prog:=⟨15,ZO,Sr⟩
def Sl:Know Tryz.prog:=⟨15,fun I=>yE I (ZO I),zA Sr⟩
theorem zd2 (s:Str) (hneed:s.length≤140737488355328):Spc Tryz.prog 13 [.v (.one (.p (.str s)))] [] (.ret (.v (.one (.p (.bool ((sV s))))))) []:=by
  refine spcG zJ mixed Tryz.func13 (by kernel_rfl) { keep:=some [0,2]} [yT,yS,Xg,Xf] (by kernel_rfl) ?_
  intro I X hI hX
  refine zH (let y0:=I.hid (α:=(Prop)) (LE.le (List.length s) 1000000);.br (I.ilt 0 (I.len (α:=UInt8) s)) (.br (I.ile (I.len (α:=UInt8) s) 70) (.need y0 (.br (I.hid (α:=Bool) (yU s)) (.need y0 (.fin (.ret (.v (.one (.p (.bool (I.seq (I.hid (α:=Str) (Go.Lib.trimS s ([32,9]:Str))) s)))))) [])) (.fin (.ret (.v (.one (.p (.bool Bool.false))))) []))) (.fin (.ret (.v (.one (.p (.bool Bool.false))))) [])) (.fin (.ret (.v (.one (.p (.bool Bool.false))))) [])) (by kernel_rfl) ?_
  simp only [zU]
  subst hI
  simp only [nrmA,nrmB,nrlB,reduceCtorEq]
  unfold sV
  have h70:(70<s.length)↔((70:Int)<(s.length:Int)):=by omega
  simp only [h70]
  (repeat' (first|refine And.intro ?_ ?_|intro _))<;>first|omega|exact True.intro|exact False.elim ‹False›|skip
  all_goals first
    |omega
    | (have h0:s≠[]:=fun e=>by subst e;simp at *
       rw [decide_eq_false (by omega),‹yU s=true›,decide_eq_true h0,Bool.eq_iff_iff];simp;done)
    |(cases s<;>simp_all;done)
def ZP (I:Alg) (args:List D) (hp:List HO):Option CT:=match args,hp with
  |[.v (.one (.p (.str s)))],[]=>(fun(s:Str)=>(some (.one ⟨I.hid (s.length≤140737488355328),(.ret (.v (.one (.p (.bool (I.hid ((sV s)))))))),[]⟩):Option CT)) s
  |_,_=>none
theorem SA:yh Tryz.prog 13 (ZP alg):=by
  intro args hp r h
  unfold ZP at h
  split at h
  · cases h;exact fun hn=>zd2 _ hn
  · cases h
def Sz:Know Tryz.prog:=⟨13,ZP,SA⟩
def Sv:Know Tryz.prog:=⟨13,fun I=>yE I (ZP I),zA SA⟩
end Go.Proofs.YtalfiafkeijijaaGreatDoor
namespace Go.Proofs.YtalfiafkeijijaaGreatDoor
open Go Go.Sep Go.Ab
set_option maxRecDepth 100000
set_option maxHeartbeats 16000000 in
theorem zd3 (b:Str) (l:List Prt) (hneed:b.length≤1000∧∀ p ∈ l,(p.name.length≤10000∧p.file.length≤10000)∧p.type.length≤10000∧p.bytes.length≤10000):Spc Tryz.prog 7 [.v (.one (.p (.str b))),.v (.one (.p (.list .prw l)))] [] (.ret (.tup [(.one (.row 0)),(.one (.p (.int .i64 ((vY b l).2))))])) [.row .byte 5 ((vY b l).1)]:=by
  obtain⟨hb,hp⟩:=hneed
  generalize hr:vY b l=r
  unfold vY at hr
  refine spcG zJ mixed Tryz.func7 (by kernel_rfl) { nr:=[6],keep:=some [0,1,4,5,6,7,8,9,10,11,12,13,14]} [yH,yG,Zx,Zw,Si,TY,Sm,Sl,Sz,Sv] (by kernel_rfl) ?_
  intro I X hI hX
  refine zH (.need (I.hid (α:=(Prop)) (LE.le (List.length b) 140737488355328)) (.br (I.bnot (I.hid (α:=Bool) (sV b))) (.fin (.ret (.tup [(.one (.row 0)),(.one (.p (.int .i64 5)))])) [(.row .byte 5 ([]:Str))]) (.br (I.ilt 12 (I.len (α:=Go.Ab.Prt) l)) (.fin (.ret (.tup [(.one (.row 0)),(.one (.p (.int .i64 8)))])) [(.row .byte 5 ([]:Str))]) (.code 0 [1,1,1,1,0,1,0] ⟨[(7,(.v (.one (.p (.int .i64 0))))),(6,(.v (.one (.row 0)))),(5,(.v (.one (.p (.int .i64 0))))),(4,(.v (.one .nilS))),(0,(.v (.one (.p (.str b))))),(1,(.v (.one (.p (.list .prw l)))))],[(.row .byte 5 ([]:Str))],115,none⟩)))) (by kernel_rfl) ?_
  simp only [zU]
  have m1:sV b=false→[]=r.1∧(5:Int)=r.2:=fun e=>by rw [if_pos e] at hr;subst hr;exact⟨rfl,rfl⟩
  have m2:sV b=true→(12:Int)<l.length→[]=r.1∧(8:Int)=r.2:=fun e h=>by rw [if_neg (by rw [e];decide),if_pos (by omega)] at hr;subst hr;exact⟨rfl,rfl⟩
  have m3:sV b=true→¬ (12:Int)<l.length→yC b l []=r∧l.length≤12:=fun e h=>by rw [if_neg (by rw [e];decide),if_neg (by omega)] at hr;exact⟨hr,by omega⟩
  clear hr
  (repeat' (first|refine And.intro ?_ ?_|intro _))
  all_goals try(subst hI;(simp only [nrmA,nrmB,nrlB,reduceCtorEq] at *);first
    |done
    |exact True.intro
    |omega
    |exact(m1 ‹_›).2
    |exact(m1 ‹_›).1
    |exact(m2 ‹_› ‹_›).2
    |exact(m2 ‹_› ‹_›).1)
  have hm3:yC b l []=r∧l.length≤12:=by
    subst hI
    simp only [nrmA,nrmB,nrlB,reduceCtorEq] at *
    exact m3 ‹_› ‹_›
  obtain⟨hr1,hl8⟩:=hm3
  clear m1 m2 m3
  refine zQ hI zJ mixed [yH,yG,Zx,Zw,Si,TY,Sm,Sl,Sz,Sv] hX [0,1,6,7] (fun(g:Nat × Str)=>match g with|(i,a)=>i≤l.length∧yC b (l.drop i) a=r∧a.length≤i * 100000) (fun(g:Nat × Str)=>match g with|(i,a)=>⟨[(0,.v (.one (.p (.str b)))),(1,.v (.one (.p (.list .prw l)))),(6,.v (.one (.row 0))),(7,.v (.one (.p (.int .i64 i))))],[.row .byte 5 a],115,none⟩) (fun(g:Nat × Str)=>match g with|(i,a)=>l.length - i) (0,[]) (by kernel_rfl) (by kernel_rfl) ?_ ?_
  · exact⟨Nat.zero_le _,hr1,by simp⟩
  rintro⟨i,a⟩ ⟨h1,h2,h3⟩ A hA
  have hx:i<l.length→l.getD i ⟨[],[],[],[]⟩ ∈ l:=fun h=>by rw [show l.getD i ⟨[],[],[],[]⟩=l[i] by simp [h]];exact List.getElem_mem h
  have hpp:=fun h=>hp _ (hx h)
  have hst:=fun(h:i<l.length)=>Uw h a h2
  have hend: ¬ i<l.length→a++([45,45]++b++[45,45,13,10])=r.1∧(0:Int)=r.2:=fun h=>by
    rw [List.drop_of_length_le (by omega)] at h2
    subst h2;exact⟨rfl,rfl⟩
  have hA2:=fun(h:i<l.length) (c:Str) (e:yC b (l.drop (i+1)) c=r) (k:c.length≤(i+1) * 100000)=>hA (i+1,c) ⟨by show i+1≤l.length;omega,e,k⟩ (by show l.length - (i+1)<l.length - i;omega)
  simp only [Int.natCast_add,Int.natCast_one] at hA2
  have hgi:I.get (α:=Prt) l ⟨[],[],[],[]⟩ (i:Int)=l.getD i ⟨[],[],[],[]⟩:=by subst hI;rfl
  have hgi2:I.get (α:=Prt) l (dflt U.prw) (i:Int)=l.getD i ⟨[],[],[],[]⟩:=by subst hI;rfl
  clear hA hx hp h2
  refine zH (.br (I.ilt (Nat.cast i) (I.len (α:=Go.Ab.Prt) l)) (.need (I.inb (Nat.cast i) (I.len (α:=Go.Ab.Prt) l)) (.need (I.inb (Nat.cast i) (I.len (α:=Go.Ab.Prt) l)) (.need (I.inr Go.IntKind.u8 13) (.need (I.inr Go.IntKind.u8 10) (.need (I.inb 0 (I.len (α:=UInt8) ([(I.i2b 13),(I.i2b 10)]:List UInt8))) (.need (I.few (I.add (I.len (α:=UInt8) ([(I.i2b 13),(I.i2b 10)]:List UInt8)) (I.len (α:=UInt8) (Go.Ab.Prt.bytes (I.get (α:=Go.Ab.Prt) l (Go.Ab.Prt.mk ([]:List UInt8) ([]:List UInt8) ([]:List UInt8) ([]:List UInt8)) (Nat.cast i))))) 140737488355328) (.need (I.few (I.add (I.len (α:=UInt8) (Array.toList (List.toArray ([13,10,45,45]:List UInt8)))) (I.len (α:=UInt8) b)) 1000000000) (.need (I.hid (α:=(Prop)) (And (LE.le (List.length (I.app (α:=UInt8) ([(I.i2b 13),(I.i2b 10)]:List UInt8) (Go.Ab.Prt.bytes (I.get (α:=Go.Ab.Prt) l (Go.Ab.Prt.mk ([]:List UInt8) ([]:List UInt8) ([]:List UInt8) ([]:List UInt8)) (Nat.cast i))))) 1000000) (LE.le (List.length (I.app (α:=UInt8) (Array.toList (List.toArray ([13,10,45,45]:List UInt8))) b)) 1000000))) (.br (I.ile 0 (I.hid (α:=Int) (Go.Proofs.YtalfiafkeijijaaGreatDoor.xh (I.app (α:=UInt8) (Array.toList (List.toArray ([13,10,45,45]:List UInt8))) b) (I.app (α:=UInt8) ([(I.i2b 13),(I.i2b 10)]:List UInt8) (Go.Ab.Prt.bytes (I.get (α:=Go.Ab.Prt) l (Go.Ab.Prt.mk ([]:List UInt8) ([]:List UInt8) ([]:List UInt8) ([]:List UInt8)) (Nat.cast i)))) (0:Int)))) (.fin (.ret (.tup [(.one (.row 0)),(.one (.p (.int .i64 15)))])) [(.row .byte 5 ([]:List UInt8))]) (.br (I.bnot (I.seq (Go.Ab.Prt.file (I.get (α:=Go.Ab.Prt) l (Go.Ab.Prt.mk ([]:List UInt8) ([]:List UInt8) ([]:List UInt8) ([]:List UInt8)) (Nat.cast i))) (Array.toList (List.toArray ([]:List UInt8))))) (.need (I.hid (α:=(Prop)) (LE.le (List.length (Go.Ab.Prt.file (I.get (α:=Go.Ab.Prt) l (Go.Ab.Prt.mk ([]:List UInt8) ([]:List UInt8) ([]:List UInt8) ([]:List UInt8)) (Nat.cast i)))) 1000000)) (.br (I.bnot (I.seq (I.hid (α:=(List UInt8)) (Go.Proofs.YtalfiafkeijijaaGreatDoor.xM (Go.Ab.Prt.file (I.get (α:=Go.Ab.Prt) l (Go.Ab.Prt.mk ([]:List UInt8) ([]:List UInt8) ([]:List UInt8) ([]:List UInt8)) (Nat.cast i))))) (Go.Ab.Prt.file (I.get (α:=Go.Ab.Prt) l (Go.Ab.Prt.mk ([]:List UInt8) ([]:List UInt8) ([]:List UInt8) ([]:List UInt8)) (Nat.cast i))))) (.fin (.ret (.tup [(.one (.row 0)),(.one (.p (.int .i64 6)))])) [(.row .byte 5 ([]:List UInt8))]) (.need (I.few (I.add (I.len (α:=Go.Ab.Fld) ([(Go.Ab.Fld.mk (Array.toList (List.toArray ([110,97,109,101]:List UInt8))) (Go.Ab.Prt.name (I.get (α:=Go.Ab.Prt) l (Go.Ab.Prt.mk ([]:List UInt8) ([]:List UInt8) ([]:List UInt8) ([]:List UInt8)) (Nat.cast i))))]:List Go.Ab.Fld)) (I.len (α:=Go.Ab.Fld) ([(Go.Ab.Fld.mk (Array.toList (List.toArray ([102,105,108,101,110,97,109,101]:List UInt8))) (Go.Ab.Prt.file (I.get (α:=Go.Ab.Prt) l (Go.Ab.Prt.mk ([]:List UInt8) ([]:List UInt8) ([]:List UInt8) ([]:List UInt8)) (Nat.cast i))))]:List Go.Ab.Fld))) 100000000) (.need (I.hid (α:=(Prop)) (And (And (LE.le (List.length (Array.toList (List.toArray ([102,111,114,109,45,100,97,116,97]:List UInt8)))) 100000) (LE.le (List.length (I.app (α:=Go.Ab.Fld) ([(Go.Ab.Fld.mk (Array.toList (List.toArray ([110,97,109,101]:List UInt8))) (Go.Ab.Prt.name (I.get (α:=Go.Ab.Prt) l (Go.Ab.Prt.mk ([]:List UInt8) ([]:List UInt8) ([]:List UInt8) ([]:List UInt8)) (Nat.cast i))))]:List Go.Ab.Fld) ([(Go.Ab.Fld.mk (Array.toList (List.toArray ([102,105,108,101,110,97,109,101]:List UInt8))) (Go.Ab.Prt.file (I.get (α:=Go.Ab.Prt) l (Go.Ab.Prt.mk ([]:List UInt8) ([]:List UInt8) ([]:List UInt8) ([]:List UInt8)) (Nat.cast i))))]:List Go.Ab.Fld))) 1000000)) (∀ (f:Fld),
    f ∈
        I.app [Fld.mk (ByteArray.mk #[110,97,109,101]).data.toList (I.get l (dflt U.prw) ↑i).name]
          [Fld.mk (ByteArray.mk #[102,105,108,101,110,97,109,101]).data.toList (I.get l (dflt U.prw) ↑i).file]→
      List.length f.name≤100000∧List.length f.value≤100000))) (.br (I.bnot (I.ieq (I.hid (α:=Int) (Prod.snd (Go.Proofs.YtalfiafkeijijaaGreatDoor.zT (Array.toList (List.toArray ([102,111,114,109,45,100,97,116,97]:List UInt8))) (I.app (α:=Go.Ab.Fld) ([(Go.Ab.Fld.mk (Array.toList (List.toArray ([110,97,109,101]:List UInt8))) (Go.Ab.Prt.name (I.get (α:=Go.Ab.Prt) l (Go.Ab.Prt.mk ([]:List UInt8) ([]:List UInt8) ([]:List UInt8) ([]:List UInt8)) (Nat.cast i))))]:List Go.Ab.Fld) ([(Go.Ab.Fld.mk (Array.toList (List.toArray ([102,105,108,101,110,97,109,101]:List UInt8))) (Go.Ab.Prt.file (I.get (α:=Go.Ab.Prt) l (Go.Ab.Prt.mk ([]:List UInt8) ([]:List UInt8) ([]:List UInt8) ([]:List UInt8)) (Nat.cast i))))]:List Go.Ab.Fld))))) 0)) (.fin (.ret (.tup [(.one (.row 0)),(.one (.p (.int .i64 (I.hid (α:=Int) (Prod.snd (Go.Proofs.YtalfiafkeijijaaGreatDoor.zT (Array.toList (List.toArray ([102,111,114,109,45,100,97,116,97]:List UInt8))) (I.app (α:=Go.Ab.Fld) ([(Go.Ab.Fld.mk (Array.toList (List.toArray ([110,97,109,101]:List UInt8))) (Go.Ab.Prt.name (I.get (α:=Go.Ab.Prt) l (Go.Ab.Prt.mk ([]:List UInt8) ([]:List UInt8) ([]:List UInt8) ([]:List UInt8)) (Nat.cast i))))]:List Go.Ab.Fld) ([(Go.Ab.Fld.mk (Array.toList (List.toArray ([102,105,108,101,110,97,109,101]:List UInt8))) (Go.Ab.Prt.file (I.get (α:=Go.Ab.Prt) l (Go.Ab.Prt.mk ([]:List UInt8) ([]:List UInt8) ([]:List UInt8) ([]:List UInt8)) (Nat.cast i))))]:List Go.Ab.Fld))))))))])) [(.row .byte 5 ([]:List UInt8))]) (.need (I.hid (α:=(Prop)) (And (LE.le (List.length (Array.toList (List.toArray ([67,111,110,116,101,110,116,45,68,105,115,112,111,115,105,116,105,111,110]:List UInt8)))) 1000000) (LE.le (List.length (I.hid (α:=(List UInt8)) (Prod.fst (Go.Proofs.YtalfiafkeijijaaGreatDoor.zT (Array.toList (List.toArray ([102,111,114,109,45,100,97,116,97]:List UInt8))) (I.app (α:=Go.Ab.Fld) ([(Go.Ab.Fld.mk (Array.toList (List.toArray ([110,97,109,101]:List UInt8))) (Go.Ab.Prt.name (I.get (α:=Go.Ab.Prt) l (Go.Ab.Prt.mk ([]:List UInt8) ([]:List UInt8) ([]:List UInt8) ([]:List UInt8)) (Nat.cast i))))]:List Go.Ab.Fld) ([(Go.Ab.Fld.mk (Array.toList (List.toArray ([102,105,108,101,110,97,109,101]:List UInt8))) (Go.Ab.Prt.file (I.get (α:=Go.Ab.Prt) l (Go.Ab.Prt.mk ([]:List UInt8) ([]:List UInt8) ([]:List UInt8) ([]:List UInt8)) (Nat.cast i))))]:List Go.Ab.Fld)))))) 1000000))) (.br (I.bnot (I.ieq (I.hid (α:=Int) (Prod.snd (Go.Proofs.YtalfiafkeijijaaGreatDoor.textF (Go.Ab.Fld.mk (Array.toList (List.toArray ([67,111,110,116,101,110,116,45,68,105,115,112,111,115,105,116,105,111,110]:List UInt8))) (I.hid (α:=(List UInt8)) (Prod.fst (Go.Proofs.YtalfiafkeijijaaGreatDoor.zT (Array.toList (List.toArray ([102,111,114,109,45,100,97,116,97]:List UInt8))) (I.app (α:=Go.Ab.Fld) ([(Go.Ab.Fld.mk (Array.toList (List.toArray ([110,97,109,101]:List UInt8))) (Go.Ab.Prt.name (I.get (α:=Go.Ab.Prt) l (Go.Ab.Prt.mk ([]:List UInt8) ([]:List UInt8) ([]:List UInt8) ([]:List UInt8)) (Nat.cast i))))]:List Go.Ab.Fld) ([(Go.Ab.Fld.mk (Array.toList (List.toArray ([102,105,108,101,110,97,109,101]:List UInt8))) (Go.Ab.Prt.file (I.get (α:=Go.Ab.Prt) l (Go.Ab.Prt.mk ([]:List UInt8) ([]:List UInt8) ([]:List UInt8) ([]:List UInt8)) (Nat.cast i))))]:List Go.Ab.Fld))))))))) 0)) (.fin (.ret (.tup [(.one (.row 0)),(.one (.p (.int .i64 (I.hid (α:=Int) (Prod.snd (Go.Proofs.YtalfiafkeijijaaGreatDoor.textF (Go.Ab.Fld.mk (Array.toList (List.toArray ([67,111,110,116,101,110,116,45,68,105,115,112,111,115,105,116,105,111,110]:List UInt8))) (I.hid (α:=(List UInt8)) (Prod.fst (Go.Proofs.YtalfiafkeijijaaGreatDoor.zT (Array.toList (List.toArray ([102,111,114,109,45,100,97,116,97]:List UInt8))) (I.app (α:=Go.Ab.Fld) ([(Go.Ab.Fld.mk (Array.toList (List.toArray ([110,97,109,101]:List UInt8))) (Go.Ab.Prt.name (I.get (α:=Go.Ab.Prt) l (Go.Ab.Prt.mk ([]:List UInt8) ([]:List UInt8) ([]:List UInt8) ([]:List UInt8)) (Nat.cast i))))]:List Go.Ab.Fld) ([(Go.Ab.Fld.mk (Array.toList (List.toArray ([102,105,108,101,110,97,109,101]:List UInt8))) (Go.Ab.Prt.file (I.get (α:=Go.Ab.Prt) l (Go.Ab.Prt.mk ([]:List UInt8) ([]:List UInt8) ([]:List UInt8) ([]:List UInt8)) (Nat.cast i))))]:List Go.Ab.Fld))))))))))))])) [(.row .byte 5 ([]:List UInt8))]) (.need (I.few (I.add (I.len (α:=UInt8) (Array.toList (List.toArray ([45,45]:List UInt8)))) (I.len (α:=UInt8) b)) 1000000000) (.need (I.few (I.add (I.len (α:=UInt8) (I.app (α:=UInt8) (Array.toList (List.toArray ([45,45]:List UInt8))) b)) (I.len (α:=UInt8) (Array.toList (List.toArray ([13,10]:List UInt8))))) 1000000000) (.need (I.few (I.add (I.len (α:=UInt8) (I.app (α:=UInt8) (I.app (α:=UInt8) (Array.toList (List.toArray ([45,45]:List UInt8))) b) (Array.toList (List.toArray ([13,10]:List UInt8))))) (I.len (α:=UInt8) (I.hid (α:=(List UInt8)) (Prod.fst (Go.Proofs.YtalfiafkeijijaaGreatDoor.textF (Go.Ab.Fld.mk (Array.toList (List.toArray ([67,111,110,116,101,110,116,45,68,105,115,112,111,115,105,116,105,111,110]:List UInt8))) (I.hid (α:=(List UInt8)) (Prod.fst (Go.Proofs.YtalfiafkeijijaaGreatDoor.zT (Array.toList (List.toArray ([102,111,114,109,45,100,97,116,97]:List UInt8))) (I.app (α:=Go.Ab.Fld) ([(Go.Ab.Fld.mk (Array.toList (List.toArray ([110,97,109,101]:List UInt8))) (Go.Ab.Prt.name (I.get (α:=Go.Ab.Prt) l (Go.Ab.Prt.mk ([]:List UInt8) ([]:List UInt8) ([]:List UInt8) ([]:List UInt8)) (Nat.cast i))))]:List Go.Ab.Fld) ([(Go.Ab.Fld.mk (Array.toList (List.toArray ([102,105,108,101,110,97,109,101]:List UInt8))) (Go.Ab.Prt.file (I.get (α:=Go.Ab.Prt) l (Go.Ab.Prt.mk ([]:List UInt8) ([]:List UInt8) ([]:List UInt8) ([]:List UInt8)) (Nat.cast i))))]:List Go.Ab.Fld))))))))))) 1000000000) (.need (I.few (I.add (I.len (α:=UInt8) (I.app (α:=UInt8) (I.app (α:=UInt8) (I.app (α:=UInt8) (Array.toList (List.toArray ([45,45]:List UInt8))) b) (Array.toList (List.toArray ([13,10]:List UInt8)))) (I.hid (α:=(List UInt8)) (Prod.fst (Go.Proofs.YtalfiafkeijijaaGreatDoor.textF (Go.Ab.Fld.mk (Array.toList (List.toArray ([67,111,110,116,101,110,116,45,68,105,115,112,111,115,105,116,105,111,110]:List UInt8))) (I.hid (α:=(List UInt8)) (Prod.fst (Go.Proofs.YtalfiafkeijijaaGreatDoor.zT (Array.toList (List.toArray ([102,111,114,109,45,100,97,116,97]:List UInt8))) (I.app (α:=Go.Ab.Fld) ([(Go.Ab.Fld.mk (Array.toList (List.toArray ([110,97,109,101]:List UInt8))) (Go.Ab.Prt.name (I.get (α:=Go.Ab.Prt) l (Go.Ab.Prt.mk ([]:List UInt8) ([]:List UInt8) ([]:List UInt8) ([]:List UInt8)) (Nat.cast i))))]:List Go.Ab.Fld) ([(Go.Ab.Fld.mk (Array.toList (List.toArray ([102,105,108,101,110,97,109,101]:List UInt8))) (Go.Ab.Prt.file (I.get (α:=Go.Ab.Prt) l (Go.Ab.Prt.mk ([]:List UInt8) ([]:List UInt8) ([]:List UInt8) ([]:List UInt8)) (Nat.cast i))))]:List Go.Ab.Fld))))))))))) (I.len (α:=UInt8) (Array.toList (List.toArray ([13,10]:List UInt8))))) 1000000000) (.br (I.bnot (I.seq (Go.Ab.Prt.type (I.get (α:=Go.Ab.Prt) l (Go.Ab.Prt.mk ([]:List UInt8) ([]:List UInt8) ([]:List UInt8) ([]:List UInt8)) (Nat.cast i))) (Array.toList (List.toArray ([]:List UInt8))))) (.need (I.hid (α:=(Prop)) (And (LE.le (List.length (Array.toList (List.toArray ([67,111,110,116,101,110,116,45,84,121,112,101]:List UInt8)))) 1000000) (LE.le (List.length (Go.Ab.Prt.type (I.get (α:=Go.Ab.Prt) l (Go.Ab.Prt.mk ([]:List UInt8) ([]:List UInt8) ([]:List UInt8) ([]:List UInt8)) (Nat.cast i)))) 1000000))) (.br (I.bnot (I.ieq (I.hid (α:=Int) (Prod.snd (Go.Proofs.YtalfiafkeijijaaGreatDoor.textF (Go.Ab.Fld.mk (Array.toList (List.toArray ([67,111,110,116,101,110,116,45,84,121,112,101]:List UInt8))) (Go.Ab.Prt.type (I.get (α:=Go.Ab.Prt) l (Go.Ab.Prt.mk ([]:List UInt8) ([]:List UInt8) ([]:List UInt8) ([]:List UInt8)) (Nat.cast i))))))) 0)) (.fin (.ret (.tup [(.one (.row 0)),(.one (.p (.int .i64 (I.hid (α:=Int) (Prod.snd (Go.Proofs.YtalfiafkeijijaaGreatDoor.textF (Go.Ab.Fld.mk (Array.toList (List.toArray ([67,111,110,116,101,110,116,45,84,121,112,101]:List UInt8))) (Go.Ab.Prt.type (I.get (α:=Go.Ab.Prt) l (Go.Ab.Prt.mk ([]:List UInt8) ([]:List UInt8) ([]:List UInt8) ([]:List UInt8)) (Nat.cast i))))))))))])) [(.row .byte 5 ([]:List UInt8))]) (.need (I.few (I.add (I.len (α:=UInt8) (I.hid (α:=(List UInt8)) (Prod.fst (Go.Proofs.YtalfiafkeijijaaGreatDoor.textF (Go.Ab.Fld.mk (Array.toList (List.toArray ([67,111,110,116,101,110,116,45,84,121,112,101]:List UInt8))) (Go.Ab.Prt.type (I.get (α:=Go.Ab.Prt) l (Go.Ab.Prt.mk ([]:List UInt8) ([]:List UInt8) ([]:List UInt8) ([]:List UInt8)) (Nat.cast i)))))))) (I.len (α:=UInt8) (Array.toList (List.toArray ([13,10]:List UInt8))))) 1000000000) (.need (I.few (I.add (I.len (α:=UInt8) (I.app (α:=UInt8) (I.app (α:=UInt8) (I.app (α:=UInt8) (I.app (α:=UInt8) (Array.toList (List.toArray ([45,45]:List UInt8))) b) (Array.toList (List.toArray ([13,10]:List UInt8)))) (I.hid (α:=(List UInt8)) (Prod.fst (Go.Proofs.YtalfiafkeijijaaGreatDoor.textF (Go.Ab.Fld.mk (Array.toList (List.toArray ([67,111,110,116,101,110,116,45,68,105,115,112,111,115,105,116,105,111,110]:List UInt8))) (I.hid (α:=(List UInt8)) (Prod.fst (Go.Proofs.YtalfiafkeijijaaGreatDoor.zT (Array.toList (List.toArray ([102,111,114,109,45,100,97,116,97]:List UInt8))) (I.app (α:=Go.Ab.Fld) ([(Go.Ab.Fld.mk (Array.toList (List.toArray ([110,97,109,101]:List UInt8))) (Go.Ab.Prt.name (I.get (α:=Go.Ab.Prt) l (Go.Ab.Prt.mk ([]:List UInt8) ([]:List UInt8) ([]:List UInt8) ([]:List UInt8)) (Nat.cast i))))]:List Go.Ab.Fld) ([(Go.Ab.Fld.mk (Array.toList (List.toArray ([102,105,108,101,110,97,109,101]:List UInt8))) (Go.Ab.Prt.file (I.get (α:=Go.Ab.Prt) l (Go.Ab.Prt.mk ([]:List UInt8) ([]:List UInt8) ([]:List UInt8) ([]:List UInt8)) (Nat.cast i))))]:List Go.Ab.Fld)))))))))) (Array.toList (List.toArray ([13,10]:List UInt8))))) (I.len (α:=UInt8) (I.app (α:=UInt8) (I.hid (α:=(List UInt8)) (Prod.fst (Go.Proofs.YtalfiafkeijijaaGreatDoor.textF (Go.Ab.Fld.mk (Array.toList (List.toArray ([67,111,110,116,101,110,116,45,84,121,112,101]:List UInt8))) (Go.Ab.Prt.type (I.get (α:=Go.Ab.Prt) l (Go.Ab.Prt.mk ([]:List UInt8) ([]:List UInt8) ([]:List UInt8) ([]:List UInt8)) (Nat.cast i))))))) (Array.toList (List.toArray ([13,10]:List UInt8)))))) 1000000000) (.need (I.few (I.add (I.len (α:=UInt8) (I.app (α:=UInt8) (I.app (α:=UInt8) (I.app (α:=UInt8) (I.app (α:=UInt8) (I.app (α:=UInt8) (Array.toList (List.toArray ([45,45]:List UInt8))) b) (Array.toList (List.toArray ([13,10]:List UInt8)))) (I.hid (α:=(List UInt8)) (Prod.fst (Go.Proofs.YtalfiafkeijijaaGreatDoor.textF (Go.Ab.Fld.mk (Array.toList (List.toArray ([67,111,110,116,101,110,116,45,68,105,115,112,111,115,105,116,105,111,110]:List UInt8))) (I.hid (α:=(List UInt8)) (Prod.fst (Go.Proofs.YtalfiafkeijijaaGreatDoor.zT (Array.toList (List.toArray ([102,111,114,109,45,100,97,116,97]:List UInt8))) (I.app (α:=Go.Ab.Fld) ([(Go.Ab.Fld.mk (Array.toList (List.toArray ([110,97,109,101]:List UInt8))) (Go.Ab.Prt.name (I.get (α:=Go.Ab.Prt) l (Go.Ab.Prt.mk ([]:List UInt8) ([]:List UInt8) ([]:List UInt8) ([]:List UInt8)) (Nat.cast i))))]:List Go.Ab.Fld) ([(Go.Ab.Fld.mk (Array.toList (List.toArray ([102,105,108,101,110,97,109,101]:List UInt8))) (Go.Ab.Prt.file (I.get (α:=Go.Ab.Prt) l (Go.Ab.Prt.mk ([]:List UInt8) ([]:List UInt8) ([]:List UInt8) ([]:List UInt8)) (Nat.cast i))))]:List Go.Ab.Fld)))))))))) (Array.toList (List.toArray ([13,10]:List UInt8)))) (I.app (α:=UInt8) (I.hid (α:=(List UInt8)) (Prod.fst (Go.Proofs.YtalfiafkeijijaaGreatDoor.textF (Go.Ab.Fld.mk (Array.toList (List.toArray ([67,111,110,116,101,110,116,45,84,121,112,101]:List UInt8))) (Go.Ab.Prt.type (I.get (α:=Go.Ab.Prt) l (Go.Ab.Prt.mk ([]:List UInt8) ([]:List UInt8) ([]:List UInt8) ([]:List UInt8)) (Nat.cast i))))))) (Array.toList (List.toArray ([13,10]:List UInt8)))))) (I.len (α:=UInt8) (Array.toList (List.toArray ([13,10]:List UInt8))))) 1000000000) (.need (I.few (I.add (I.len (α:=UInt8) a) (I.len (α:=UInt8) (I.app (α:=UInt8) (I.app (α:=UInt8) (I.app (α:=UInt8) (I.app (α:=UInt8) (I.app (α:=UInt8) (I.app (α:=UInt8) (Array.toList (List.toArray ([45,45]:List UInt8))) b) (Array.toList (List.toArray ([13,10]:List UInt8)))) (I.hid (α:=(List UInt8)) (Prod.fst (Go.Proofs.YtalfiafkeijijaaGreatDoor.textF (Go.Ab.Fld.mk (Array.toList (List.toArray ([67,111,110,116,101,110,116,45,68,105,115,112,111,115,105,116,105,111,110]:List UInt8))) (I.hid (α:=(List UInt8)) (Prod.fst (Go.Proofs.YtalfiafkeijijaaGreatDoor.zT (Array.toList (List.toArray ([102,111,114,109,45,100,97,116,97]:List UInt8))) (I.app (α:=Go.Ab.Fld) ([(Go.Ab.Fld.mk (Array.toList (List.toArray ([110,97,109,101]:List UInt8))) (Go.Ab.Prt.name (I.get (α:=Go.Ab.Prt) l (Go.Ab.Prt.mk ([]:List UInt8) ([]:List UInt8) ([]:List UInt8) ([]:List UInt8)) (Nat.cast i))))]:List Go.Ab.Fld) ([(Go.Ab.Fld.mk (Array.toList (List.toArray ([102,105,108,101,110,97,109,101]:List UInt8))) (Go.Ab.Prt.file (I.get (α:=Go.Ab.Prt) l (Go.Ab.Prt.mk ([]:List UInt8) ([]:List UInt8) ([]:List UInt8) ([]:List UInt8)) (Nat.cast i))))]:List Go.Ab.Fld)))))))))) (Array.toList (List.toArray ([13,10]:List UInt8)))) (I.app (α:=UInt8) (I.hid (α:=(List UInt8)) (Prod.fst (Go.Proofs.YtalfiafkeijijaaGreatDoor.textF (Go.Ab.Fld.mk (Array.toList (List.toArray ([67,111,110,116,101,110,116,45,84,121,112,101]:List UInt8))) (Go.Ab.Prt.type (I.get (α:=Go.Ab.Prt) l (Go.Ab.Prt.mk ([]:List UInt8) ([]:List UInt8) ([]:List UInt8) ([]:List UInt8)) (Nat.cast i))))))) (Array.toList (List.toArray ([13,10]:List UInt8))))) (Array.toList (List.toArray ([13,10]:List UInt8)))))) 140737488355328) (.need (I.few (I.add (I.len (α:=UInt8) (I.app (α:=UInt8) a (I.app (α:=UInt8) (I.app (α:=UInt8) (I.app (α:=UInt8) (I.app (α:=UInt8) (I.app (α:=UInt8) (I.app (α:=UInt8) (Array.toList (List.toArray ([45,45]:List UInt8))) b) (Array.toList (List.toArray ([13,10]:List UInt8)))) (I.hid (α:=(List UInt8)) (Prod.fst (Go.Proofs.YtalfiafkeijijaaGreatDoor.textF (Go.Ab.Fld.mk (Array.toList (List.toArray ([67,111,110,116,101,110,116,45,68,105,115,112,111,115,105,116,105,111,110]:List UInt8))) (I.hid (α:=(List UInt8)) (Prod.fst (Go.Proofs.YtalfiafkeijijaaGreatDoor.zT (Array.toList (List.toArray ([102,111,114,109,45,100,97,116,97]:List UInt8))) (I.app (α:=Go.Ab.Fld) ([(Go.Ab.Fld.mk (Array.toList (List.toArray ([110,97,109,101]:List UInt8))) (Go.Ab.Prt.name (I.get (α:=Go.Ab.Prt) l (Go.Ab.Prt.mk ([]:List UInt8) ([]:List UInt8) ([]:List UInt8) ([]:List UInt8)) (Nat.cast i))))]:List Go.Ab.Fld) ([(Go.Ab.Fld.mk (Array.toList (List.toArray ([102,105,108,101,110,97,109,101]:List UInt8))) (Go.Ab.Prt.file (I.get (α:=Go.Ab.Prt) l (Go.Ab.Prt.mk ([]:List UInt8) ([]:List UInt8) ([]:List UInt8) ([]:List UInt8)) (Nat.cast i))))]:List Go.Ab.Fld)))))))))) (Array.toList (List.toArray ([13,10]:List UInt8)))) (I.app (α:=UInt8) (I.hid (α:=(List UInt8)) (Prod.fst (Go.Proofs.YtalfiafkeijijaaGreatDoor.textF (Go.Ab.Fld.mk (Array.toList (List.toArray ([67,111,110,116,101,110,116,45,84,121,112,101]:List UInt8))) (Go.Ab.Prt.type (I.get (α:=Go.Ab.Prt) l (Go.Ab.Prt.mk ([]:List UInt8) ([]:List UInt8) ([]:List UInt8) ([]:List UInt8)) (Nat.cast i))))))) (Array.toList (List.toArray ([13,10]:List UInt8))))) (Array.toList (List.toArray ([13,10]:List UInt8)))))) (I.len (α:=UInt8) (Go.Ab.Prt.bytes (I.get (α:=Go.Ab.Prt) l (Go.Ab.Prt.mk ([]:List UInt8) ([]:List UInt8) ([]:List UInt8) ([]:List UInt8)) (Nat.cast i))))) 140737488355328) (.need (I.few (I.add (I.len (α:=UInt8) (I.app (α:=UInt8) (I.app (α:=UInt8) a (I.app (α:=UInt8) (I.app (α:=UInt8) (I.app (α:=UInt8) (I.app (α:=UInt8) (I.app (α:=UInt8) (I.app (α:=UInt8) (Array.toList (List.toArray ([45,45]:List UInt8))) b) (Array.toList (List.toArray ([13,10]:List UInt8)))) (I.hid (α:=(List UInt8)) (Prod.fst (Go.Proofs.YtalfiafkeijijaaGreatDoor.textF (Go.Ab.Fld.mk (Array.toList (List.toArray ([67,111,110,116,101,110,116,45,68,105,115,112,111,115,105,116,105,111,110]:List UInt8))) (I.hid (α:=(List UInt8)) (Prod.fst (Go.Proofs.YtalfiafkeijijaaGreatDoor.zT (Array.toList (List.toArray ([102,111,114,109,45,100,97,116,97]:List UInt8))) (I.app (α:=Go.Ab.Fld) ([(Go.Ab.Fld.mk (Array.toList (List.toArray ([110,97,109,101]:List UInt8))) (Go.Ab.Prt.name (I.get (α:=Go.Ab.Prt) l (Go.Ab.Prt.mk ([]:List UInt8) ([]:List UInt8) ([]:List UInt8) ([]:List UInt8)) (Nat.cast i))))]:List Go.Ab.Fld) ([(Go.Ab.Fld.mk (Array.toList (List.toArray ([102,105,108,101,110,97,109,101]:List UInt8))) (Go.Ab.Prt.file (I.get (α:=Go.Ab.Prt) l (Go.Ab.Prt.mk ([]:List UInt8) ([]:List UInt8) ([]:List UInt8) ([]:List UInt8)) (Nat.cast i))))]:List Go.Ab.Fld)))))))))) (Array.toList (List.toArray ([13,10]:List UInt8)))) (I.app (α:=UInt8) (I.hid (α:=(List UInt8)) (Prod.fst (Go.Proofs.YtalfiafkeijijaaGreatDoor.textF (Go.Ab.Fld.mk (Array.toList (List.toArray ([67,111,110,116,101,110,116,45,84,121,112,101]:List UInt8))) (Go.Ab.Prt.type (I.get (α:=Go.Ab.Prt) l (Go.Ab.Prt.mk ([]:List UInt8) ([]:List UInt8) ([]:List UInt8) ([]:List UInt8)) (Nat.cast i))))))) (Array.toList (List.toArray ([13,10]:List UInt8))))) (Array.toList (List.toArray ([13,10]:List UInt8))))) (Go.Ab.Prt.bytes (I.get (α:=Go.Ab.Prt) l (Go.Ab.Prt.mk ([]:List UInt8) ([]:List UInt8) ([]:List UInt8) ([]:List UInt8)) (Nat.cast i))))) (I.len (α:=UInt8) (Array.toList (List.toArray ([13,10]:List UInt8))))) 140737488355328) (.need (I.inr Go.IntKind.i64 (I.add (Nat.cast i) 1)) (.need (A ⟨[(0,(.v (.one (.p (.str b))))),(1,(.v (.one (.p (.list .prw l))))),(6,(.v (.one (.row 0)))),(7,(.v (.one (.p (.int .i64 (I.add (Nat.cast i) 1))))))],[(.row .byte 5 (I.app (α:=UInt8) (I.app (α:=UInt8) (I.app (α:=UInt8) a (I.app (α:=UInt8) (I.app (α:=UInt8) (I.app (α:=UInt8) (I.app (α:=UInt8) (I.app (α:=UInt8) (I.app (α:=UInt8) (Array.toList (List.toArray ([45,45]:List UInt8))) b) (Array.toList (List.toArray ([13,10]:List UInt8)))) (I.hid (α:=(List UInt8)) (Prod.fst (Go.Proofs.YtalfiafkeijijaaGreatDoor.textF (Go.Ab.Fld.mk (Array.toList (List.toArray ([67,111,110,116,101,110,116,45,68,105,115,112,111,115,105,116,105,111,110]:List UInt8))) (I.hid (α:=(List UInt8)) (Prod.fst (Go.Proofs.YtalfiafkeijijaaGreatDoor.zT (Array.toList (List.toArray ([102,111,114,109,45,100,97,116,97]:List UInt8))) (I.app (α:=Go.Ab.Fld) ([(Go.Ab.Fld.mk (Array.toList (List.toArray ([110,97,109,101]:List UInt8))) (Go.Ab.Prt.name (I.get (α:=Go.Ab.Prt) l (Go.Ab.Prt.mk ([]:List UInt8) ([]:List UInt8) ([]:List UInt8) ([]:List UInt8)) (Nat.cast i))))]:List Go.Ab.Fld) ([(Go.Ab.Fld.mk (Array.toList (List.toArray ([102,105,108,101,110,97,109,101]:List UInt8))) (Go.Ab.Prt.file (I.get (α:=Go.Ab.Prt) l (Go.Ab.Prt.mk ([]:List UInt8) ([]:List UInt8) ([]:List UInt8) ([]:List UInt8)) (Nat.cast i))))]:List Go.Ab.Fld)))))))))) (Array.toList (List.toArray ([13,10]:List UInt8)))) (I.app (α:=UInt8) (I.hid (α:=(List UInt8)) (Prod.fst (Go.Proofs.YtalfiafkeijijaaGreatDoor.textF (Go.Ab.Fld.mk (Array.toList (List.toArray ([67,111,110,116,101,110,116,45,84,121,112,101]:List UInt8))) (Go.Ab.Prt.type (I.get (α:=Go.Ab.Prt) l (Go.Ab.Prt.mk ([]:List UInt8) ([]:List UInt8) ([]:List UInt8) ([]:List UInt8)) (Nat.cast i))))))) (Array.toList (List.toArray ([13,10]:List UInt8))))) (Array.toList (List.toArray ([13,10]:List UInt8))))) (Go.Ab.Prt.bytes (I.get (α:=Go.Ab.Prt) l (Go.Ab.Prt.mk ([]:List UInt8) ([]:List UInt8) ([]:List UInt8) ([]:List UInt8)) (Nat.cast i)))) (Array.toList (List.toArray ([13,10]:List UInt8)))))],115,none⟩) .qed)))))))))) (.need (I.few (I.add (I.len (α:=UInt8) (I.app (α:=UInt8) (I.app (α:=UInt8) (I.app (α:=UInt8) (I.app (α:=UInt8) (Array.toList (List.toArray ([45,45]:List UInt8))) b) (Array.toList (List.toArray ([13,10]:List UInt8)))) (I.hid (α:=(List UInt8)) (Prod.fst (Go.Proofs.YtalfiafkeijijaaGreatDoor.textF (Go.Ab.Fld.mk (Array.toList (List.toArray ([67,111,110,116,101,110,116,45,68,105,115,112,111,115,105,116,105,111,110]:List UInt8))) (I.hid (α:=(List UInt8)) (Prod.fst (Go.Proofs.YtalfiafkeijijaaGreatDoor.zT (Array.toList (List.toArray ([102,111,114,109,45,100,97,116,97]:List UInt8))) (I.app (α:=Go.Ab.Fld) ([(Go.Ab.Fld.mk (Array.toList (List.toArray ([110,97,109,101]:List UInt8))) (Go.Ab.Prt.name (I.get (α:=Go.Ab.Prt) l (Go.Ab.Prt.mk ([]:List UInt8) ([]:List UInt8) ([]:List UInt8) ([]:List UInt8)) (Nat.cast i))))]:List Go.Ab.Fld) ([(Go.Ab.Fld.mk (Array.toList (List.toArray ([102,105,108,101,110,97,109,101]:List UInt8))) (Go.Ab.Prt.file (I.get (α:=Go.Ab.Prt) l (Go.Ab.Prt.mk ([]:List UInt8) ([]:List UInt8) ([]:List UInt8) ([]:List UInt8)) (Nat.cast i))))]:List Go.Ab.Fld)))))))))) (Array.toList (List.toArray ([13,10]:List UInt8))))) (I.len (α:=UInt8) (Array.toList (List.toArray ([13,10]:List UInt8))))) 1000000000) (.need (I.few (I.add (I.len (α:=UInt8) a) (I.len (α:=UInt8) (I.app (α:=UInt8) (I.app (α:=UInt8) (I.app (α:=UInt8) (I.app (α:=UInt8) (I.app (α:=UInt8) (Array.toList (List.toArray ([45,45]:List UInt8))) b) (Array.toList (List.toArray ([13,10]:List UInt8)))) (I.hid (α:=(List UInt8)) (Prod.fst (Go.Proofs.YtalfiafkeijijaaGreatDoor.textF (Go.Ab.Fld.mk (Array.toList (List.toArray ([67,111,110,116,101,110,116,45,68,105,115,112,111,115,105,116,105,111,110]:List UInt8))) (I.hid (α:=(List UInt8)) (Prod.fst (Go.Proofs.YtalfiafkeijijaaGreatDoor.zT (Array.toList (List.toArray ([102,111,114,109,45,100,97,116,97]:List UInt8))) (I.app (α:=Go.Ab.Fld) ([(Go.Ab.Fld.mk (Array.toList (List.toArray ([110,97,109,101]:List UInt8))) (Go.Ab.Prt.name (I.get (α:=Go.Ab.Prt) l (Go.Ab.Prt.mk ([]:List UInt8) ([]:List UInt8) ([]:List UInt8) ([]:List UInt8)) (Nat.cast i))))]:List Go.Ab.Fld) ([(Go.Ab.Fld.mk (Array.toList (List.toArray ([102,105,108,101,110,97,109,101]:List UInt8))) (Go.Ab.Prt.file (I.get (α:=Go.Ab.Prt) l (Go.Ab.Prt.mk ([]:List UInt8) ([]:List UInt8) ([]:List UInt8) ([]:List UInt8)) (Nat.cast i))))]:List Go.Ab.Fld)))))))))) (Array.toList (List.toArray ([13,10]:List UInt8)))) (Array.toList (List.toArray ([13,10]:List UInt8)))))) 140737488355328) (.need (I.few (I.add (I.len (α:=UInt8) (I.app (α:=UInt8) a (I.app (α:=UInt8) (I.app (α:=UInt8) (I.app (α:=UInt8) (I.app (α:=UInt8) (I.app (α:=UInt8) (Array.toList (List.toArray ([45,45]:List UInt8))) b) (Array.toList (List.toArray ([13,10]:List UInt8)))) (I.hid (α:=(List UInt8)) (Prod.fst (Go.Proofs.YtalfiafkeijijaaGreatDoor.textF (Go.Ab.Fld.mk (Array.toList (List.toArray ([67,111,110,116,101,110,116,45,68,105,115,112,111,115,105,116,105,111,110]:List UInt8))) (I.hid (α:=(List UInt8)) (Prod.fst (Go.Proofs.YtalfiafkeijijaaGreatDoor.zT (Array.toList (List.toArray ([102,111,114,109,45,100,97,116,97]:List UInt8))) (I.app (α:=Go.Ab.Fld) ([(Go.Ab.Fld.mk (Array.toList (List.toArray ([110,97,109,101]:List UInt8))) (Go.Ab.Prt.name (I.get (α:=Go.Ab.Prt) l (Go.Ab.Prt.mk ([]:List UInt8) ([]:List UInt8) ([]:List UInt8) ([]:List UInt8)) (Nat.cast i))))]:List Go.Ab.Fld) ([(Go.Ab.Fld.mk (Array.toList (List.toArray ([102,105,108,101,110,97,109,101]:List UInt8))) (Go.Ab.Prt.file (I.get (α:=Go.Ab.Prt) l (Go.Ab.Prt.mk ([]:List UInt8) ([]:List UInt8) ([]:List UInt8) ([]:List UInt8)) (Nat.cast i))))]:List Go.Ab.Fld)))))))))) (Array.toList (List.toArray ([13,10]:List UInt8)))) (Array.toList (List.toArray ([13,10]:List UInt8)))))) (I.len (α:=UInt8) (Go.Ab.Prt.bytes (I.get (α:=Go.Ab.Prt) l (Go.Ab.Prt.mk ([]:List UInt8) ([]:List UInt8) ([]:List UInt8) ([]:List UInt8)) (Nat.cast i))))) 140737488355328) (.need (I.few (I.add (I.len (α:=UInt8) (I.app (α:=UInt8) (I.app (α:=UInt8) a (I.app (α:=UInt8) (I.app (α:=UInt8) (I.app (α:=UInt8) (I.app (α:=UInt8) (I.app (α:=UInt8) (Array.toList (List.toArray ([45,45]:List UInt8))) b) (Array.toList (List.toArray ([13,10]:List UInt8)))) (I.hid (α:=(List UInt8)) (Prod.fst (Go.Proofs.YtalfiafkeijijaaGreatDoor.textF (Go.Ab.Fld.mk (Array.toList (List.toArray ([67,111,110,116,101,110,116,45,68,105,115,112,111,115,105,116,105,111,110]:List UInt8))) (I.hid (α:=(List UInt8)) (Prod.fst (Go.Proofs.YtalfiafkeijijaaGreatDoor.zT (Array.toList (List.toArray ([102,111,114,109,45,100,97,116,97]:List UInt8))) (I.app (α:=Go.Ab.Fld) ([(Go.Ab.Fld.mk (Array.toList (List.toArray ([110,97,109,101]:List UInt8))) (Go.Ab.Prt.name (I.get (α:=Go.Ab.Prt) l (Go.Ab.Prt.mk ([]:List UInt8) ([]:List UInt8) ([]:List UInt8) ([]:List UInt8)) (Nat.cast i))))]:List Go.Ab.Fld) ([(Go.Ab.Fld.mk (Array.toList (List.toArray ([102,105,108,101,110,97,109,101]:List UInt8))) (Go.Ab.Prt.file (I.get (α:=Go.Ab.Prt) l (Go.Ab.Prt.mk ([]:List UInt8) ([]:List UInt8) ([]:List UInt8) ([]:List UInt8)) (Nat.cast i))))]:List Go.Ab.Fld)))))))))) (Array.toList (List.toArray ([13,10]:List UInt8)))) (Array.toList (List.toArray ([13,10]:List UInt8))))) (Go.Ab.Prt.bytes (I.get (α:=Go.Ab.Prt) l (Go.Ab.Prt.mk ([]:List UInt8) ([]:List UInt8) ([]:List UInt8) ([]:List UInt8)) (Nat.cast i))))) (I.len (α:=UInt8) (Array.toList (List.toArray ([13,10]:List UInt8))))) 140737488355328) (.need (I.inr Go.IntKind.i64 (I.add (Nat.cast i) 1)) (.need (A ⟨[(0,(.v (.one (.p (.str b))))),(1,(.v (.one (.p (.list .prw l))))),(6,(.v (.one (.row 0)))),(7,(.v (.one (.p (.int .i64 (I.add (Nat.cast i) 1))))))],[(.row .byte 5 (I.app (α:=UInt8) (I.app (α:=UInt8) (I.app (α:=UInt8) a (I.app (α:=UInt8) (I.app (α:=UInt8) (I.app (α:=UInt8) (I.app (α:=UInt8) (I.app (α:=UInt8) (Array.toList (List.toArray ([45,45]:List UInt8))) b) (Array.toList (List.toArray ([13,10]:List UInt8)))) (I.hid (α:=(List UInt8)) (Prod.fst (Go.Proofs.YtalfiafkeijijaaGreatDoor.textF (Go.Ab.Fld.mk (Array.toList (List.toArray ([67,111,110,116,101,110,116,45,68,105,115,112,111,115,105,116,105,111,110]:List UInt8))) (I.hid (α:=(List UInt8)) (Prod.fst (Go.Proofs.YtalfiafkeijijaaGreatDoor.zT (Array.toList (List.toArray ([102,111,114,109,45,100,97,116,97]:List UInt8))) (I.app (α:=Go.Ab.Fld) ([(Go.Ab.Fld.mk (Array.toList (List.toArray ([110,97,109,101]:List UInt8))) (Go.Ab.Prt.name (I.get (α:=Go.Ab.Prt) l (Go.Ab.Prt.mk ([]:List UInt8) ([]:List UInt8) ([]:List UInt8) ([]:List UInt8)) (Nat.cast i))))]:List Go.Ab.Fld) ([(Go.Ab.Fld.mk (Array.toList (List.toArray ([102,105,108,101,110,97,109,101]:List UInt8))) (Go.Ab.Prt.file (I.get (α:=Go.Ab.Prt) l (Go.Ab.Prt.mk ([]:List UInt8) ([]:List UInt8) ([]:List UInt8) ([]:List UInt8)) (Nat.cast i))))]:List Go.Ab.Fld)))))))))) (Array.toList (List.toArray ([13,10]:List UInt8)))) (Array.toList (List.toArray ([13,10]:List UInt8))))) (Go.Ab.Prt.bytes (I.get (α:=Go.Ab.Prt) l (Go.Ab.Prt.mk ([]:List UInt8) ([]:List UInt8) ([]:List UInt8) ([]:List UInt8)) (Nat.cast i)))) (Array.toList (List.toArray ([13,10]:List UInt8)))))],115,none⟩) .qed)))))))))))))))))) (.need (I.hid (α:=(Prop)) (And (And (LE.le (List.length (Array.toList (List.toArray ([102,111,114,109,45,100,97,116,97]:List UInt8)))) 100000) (LE.le (List.length ([(Go.Ab.Fld.mk (Array.toList (List.toArray ([110,97,109,101]:List UInt8))) (Go.Ab.Prt.name (I.get (α:=Go.Ab.Prt) l (Go.Ab.Prt.mk ([]:List UInt8) ([]:List UInt8) ([]:List UInt8) ([]:List UInt8)) (Nat.cast i))))]:List Go.Ab.Fld)) 1000000)) (∀ (f:Fld),
    f ∈ [Fld.mk (ByteArray.mk #[110,97,109,101]).data.toList (I.get l (dflt U.prw) ↑i).name]→
      List.length f.name≤100000∧List.length f.value≤100000))) (.br (I.bnot (I.ieq (I.hid (α:=Int) (Prod.snd (Go.Proofs.YtalfiafkeijijaaGreatDoor.zT (Array.toList (List.toArray ([102,111,114,109,45,100,97,116,97]:List UInt8))) ([(Go.Ab.Fld.mk (Array.toList (List.toArray ([110,97,109,101]:List UInt8))) (Go.Ab.Prt.name (I.get (α:=Go.Ab.Prt) l (Go.Ab.Prt.mk ([]:List UInt8) ([]:List UInt8) ([]:List UInt8) ([]:List UInt8)) (Nat.cast i))))]:List Go.Ab.Fld)))) 0)) (.fin (.ret (.tup [(.one (.row 0)),(.one (.p (.int .i64 (I.hid (α:=Int) (Prod.snd (Go.Proofs.YtalfiafkeijijaaGreatDoor.zT (Array.toList (List.toArray ([102,111,114,109,45,100,97,116,97]:List UInt8))) ([(Go.Ab.Fld.mk (Array.toList (List.toArray ([110,97,109,101]:List UInt8))) (Go.Ab.Prt.name (I.get (α:=Go.Ab.Prt) l (Go.Ab.Prt.mk ([]:List UInt8) ([]:List UInt8) ([]:List UInt8) ([]:List UInt8)) (Nat.cast i))))]:List Go.Ab.Fld)))))))])) [(.row .byte 5 ([]:List UInt8))]) (.need (I.hid (α:=(Prop)) (And (LE.le (List.length (Array.toList (List.toArray ([67,111,110,116,101,110,116,45,68,105,115,112,111,115,105,116,105,111,110]:List UInt8)))) 1000000) (LE.le (List.length (I.hid (α:=(List UInt8)) (Prod.fst (Go.Proofs.YtalfiafkeijijaaGreatDoor.zT (Array.toList (List.toArray ([102,111,114,109,45,100,97,116,97]:List UInt8))) ([(Go.Ab.Fld.mk (Array.toList (List.toArray ([110,97,109,101]:List UInt8))) (Go.Ab.Prt.name (I.get (α:=Go.Ab.Prt) l (Go.Ab.Prt.mk ([]:List UInt8) ([]:List UInt8) ([]:List UInt8) ([]:List UInt8)) (Nat.cast i))))]:List Go.Ab.Fld))))) 1000000))) (.br (I.bnot (I.ieq (I.hid (α:=Int) (Prod.snd (Go.Proofs.YtalfiafkeijijaaGreatDoor.textF (Go.Ab.Fld.mk (Array.toList (List.toArray ([67,111,110,116,101,110,116,45,68,105,115,112,111,115,105,116,105,111,110]:List UInt8))) (I.hid (α:=(List UInt8)) (Prod.fst (Go.Proofs.YtalfiafkeijijaaGreatDoor.zT (Array.toList (List.toArray ([102,111,114,109,45,100,97,116,97]:List UInt8))) ([(Go.Ab.Fld.mk (Array.toList (List.toArray ([110,97,109,101]:List UInt8))) (Go.Ab.Prt.name (I.get (α:=Go.Ab.Prt) l (Go.Ab.Prt.mk ([]:List UInt8) ([]:List UInt8) ([]:List UInt8) ([]:List UInt8)) (Nat.cast i))))]:List Go.Ab.Fld)))))))) 0)) (.fin (.ret (.tup [(.one (.row 0)),(.one (.p (.int .i64 (I.hid (α:=Int) (Prod.snd (Go.Proofs.YtalfiafkeijijaaGreatDoor.textF (Go.Ab.Fld.mk (Array.toList (List.toArray ([67,111,110,116,101,110,116,45,68,105,115,112,111,115,105,116,105,111,110]:List UInt8))) (I.hid (α:=(List UInt8)) (Prod.fst (Go.Proofs.YtalfiafkeijijaaGreatDoor.zT (Array.toList (List.toArray ([102,111,114,109,45,100,97,116,97]:List UInt8))) ([(Go.Ab.Fld.mk (Array.toList (List.toArray ([110,97,109,101]:List UInt8))) (Go.Ab.Prt.name (I.get (α:=Go.Ab.Prt) l (Go.Ab.Prt.mk ([]:List UInt8) ([]:List UInt8) ([]:List UInt8) ([]:List UInt8)) (Nat.cast i))))]:List Go.Ab.Fld)))))))))))])) [(.row .byte 5 ([]:List UInt8))]) (.need (I.few (I.add (I.len (α:=UInt8) (Array.toList (List.toArray ([45,45]:List UInt8)))) (I.len (α:=UInt8) b)) 1000000000) (.need (I.few (I.add (I.len (α:=UInt8) (I.app (α:=UInt8) (Array.toList (List.toArray ([45,45]:List UInt8))) b)) (I.len (α:=UInt8) (Array.toList (List.toArray ([13,10]:List UInt8))))) 1000000000) (.need (I.few (I.add (I.len (α:=UInt8) (I.app (α:=UInt8) (I.app (α:=UInt8) (Array.toList (List.toArray ([45,45]:List UInt8))) b) (Array.toList (List.toArray ([13,10]:List UInt8))))) (I.len (α:=UInt8) (I.hid (α:=(List UInt8)) (Prod.fst (Go.Proofs.YtalfiafkeijijaaGreatDoor.textF (Go.Ab.Fld.mk (Array.toList (List.toArray ([67,111,110,116,101,110,116,45,68,105,115,112,111,115,105,116,105,111,110]:List UInt8))) (I.hid (α:=(List UInt8)) (Prod.fst (Go.Proofs.YtalfiafkeijijaaGreatDoor.zT (Array.toList (List.toArray ([102,111,114,109,45,100,97,116,97]:List UInt8))) ([(Go.Ab.Fld.mk (Array.toList (List.toArray ([110,97,109,101]:List UInt8))) (Go.Ab.Prt.name (I.get (α:=Go.Ab.Prt) l (Go.Ab.Prt.mk ([]:List UInt8) ([]:List UInt8) ([]:List UInt8) ([]:List UInt8)) (Nat.cast i))))]:List Go.Ab.Fld)))))))))) 1000000000) (.need (I.few (I.add (I.len (α:=UInt8) (I.app (α:=UInt8) (I.app (α:=UInt8) (I.app (α:=UInt8) (Array.toList (List.toArray ([45,45]:List UInt8))) b) (Array.toList (List.toArray ([13,10]:List UInt8)))) (I.hid (α:=(List UInt8)) (Prod.fst (Go.Proofs.YtalfiafkeijijaaGreatDoor.textF (Go.Ab.Fld.mk (Array.toList (List.toArray ([67,111,110,116,101,110,116,45,68,105,115,112,111,115,105,116,105,111,110]:List UInt8))) (I.hid (α:=(List UInt8)) (Prod.fst (Go.Proofs.YtalfiafkeijijaaGreatDoor.zT (Array.toList (List.toArray ([102,111,114,109,45,100,97,116,97]:List UInt8))) ([(Go.Ab.Fld.mk (Array.toList (List.toArray ([110,97,109,101]:List UInt8))) (Go.Ab.Prt.name (I.get (α:=Go.Ab.Prt) l (Go.Ab.Prt.mk ([]:List UInt8) ([]:List UInt8) ([]:List UInt8) ([]:List UInt8)) (Nat.cast i))))]:List Go.Ab.Fld)))))))))) (I.len (α:=UInt8) (Array.toList (List.toArray ([13,10]:List UInt8))))) 1000000000) (.br (I.bnot (I.seq (Go.Ab.Prt.type (I.get (α:=Go.Ab.Prt) l (Go.Ab.Prt.mk ([]:List UInt8) ([]:List UInt8) ([]:List UInt8) ([]:List UInt8)) (Nat.cast i))) (Array.toList (List.toArray ([]:List UInt8))))) (.need (I.hid (α:=(Prop)) (And (LE.le (List.length (Array.toList (List.toArray ([67,111,110,116,101,110,116,45,84,121,112,101]:List UInt8)))) 1000000) (LE.le (List.length (Go.Ab.Prt.type (I.get (α:=Go.Ab.Prt) l (Go.Ab.Prt.mk ([]:List UInt8) ([]:List UInt8) ([]:List UInt8) ([]:List UInt8)) (Nat.cast i)))) 1000000))) (.br (I.bnot (I.ieq (I.hid (α:=Int) (Prod.snd (Go.Proofs.YtalfiafkeijijaaGreatDoor.textF (Go.Ab.Fld.mk (Array.toList (List.toArray ([67,111,110,116,101,110,116,45,84,121,112,101]:List UInt8))) (Go.Ab.Prt.type (I.get (α:=Go.Ab.Prt) l (Go.Ab.Prt.mk ([]:List UInt8) ([]:List UInt8) ([]:List UInt8) ([]:List UInt8)) (Nat.cast i))))))) 0)) (.fin (.ret (.tup [(.one (.row 0)),(.one (.p (.int .i64 (I.hid (α:=Int) (Prod.snd (Go.Proofs.YtalfiafkeijijaaGreatDoor.textF (Go.Ab.Fld.mk (Array.toList (List.toArray ([67,111,110,116,101,110,116,45,84,121,112,101]:List UInt8))) (Go.Ab.Prt.type (I.get (α:=Go.Ab.Prt) l (Go.Ab.Prt.mk ([]:List UInt8) ([]:List UInt8) ([]:List UInt8) ([]:List UInt8)) (Nat.cast i))))))))))])) [(.row .byte 5 ([]:List UInt8))]) (.need (I.few (I.add (I.len (α:=UInt8) (I.hid (α:=(List UInt8)) (Prod.fst (Go.Proofs.YtalfiafkeijijaaGreatDoor.textF (Go.Ab.Fld.mk (Array.toList (List.toArray ([67,111,110,116,101,110,116,45,84,121,112,101]:List UInt8))) (Go.Ab.Prt.type (I.get (α:=Go.Ab.Prt) l (Go.Ab.Prt.mk ([]:List UInt8) ([]:List UInt8) ([]:List UInt8) ([]:List UInt8)) (Nat.cast i)))))))) (I.len (α:=UInt8) (Array.toList (List.toArray ([13,10]:List UInt8))))) 1000000000) (.need (I.few (I.add (I.len (α:=UInt8) (I.app (α:=UInt8) (I.app (α:=UInt8) (I.app (α:=UInt8) (I.app (α:=UInt8) (Array.toList (List.toArray ([45,45]:List UInt8))) b) (Array.toList (List.toArray ([13,10]:List UInt8)))) (I.hid (α:=(List UInt8)) (Prod.fst (Go.Proofs.YtalfiafkeijijaaGreatDoor.textF (Go.Ab.Fld.mk (Array.toList (List.toArray ([67,111,110,116,101,110,116,45,68,105,115,112,111,115,105,116,105,111,110]:List UInt8))) (I.hid (α:=(List UInt8)) (Prod.fst (Go.Proofs.YtalfiafkeijijaaGreatDoor.zT (Array.toList (List.toArray ([102,111,114,109,45,100,97,116,97]:List UInt8))) ([(Go.Ab.Fld.mk (Array.toList (List.toArray ([110,97,109,101]:List UInt8))) (Go.Ab.Prt.name (I.get (α:=Go.Ab.Prt) l (Go.Ab.Prt.mk ([]:List UInt8) ([]:List UInt8) ([]:List UInt8) ([]:List UInt8)) (Nat.cast i))))]:List Go.Ab.Fld))))))))) (Array.toList (List.toArray ([13,10]:List UInt8))))) (I.len (α:=UInt8) (I.app (α:=UInt8) (I.hid (α:=(List UInt8)) (Prod.fst (Go.Proofs.YtalfiafkeijijaaGreatDoor.textF (Go.Ab.Fld.mk (Array.toList (List.toArray ([67,111,110,116,101,110,116,45,84,121,112,101]:List UInt8))) (Go.Ab.Prt.type (I.get (α:=Go.Ab.Prt) l (Go.Ab.Prt.mk ([]:List UInt8) ([]:List UInt8) ([]:List UInt8) ([]:List UInt8)) (Nat.cast i))))))) (Array.toList (List.toArray ([13,10]:List UInt8)))))) 1000000000) (.need (I.few (I.add (I.len (α:=UInt8) (I.app (α:=UInt8) (I.app (α:=UInt8) (I.app (α:=UInt8) (I.app (α:=UInt8) (I.app (α:=UInt8) (Array.toList (List.toArray ([45,45]:List UInt8))) b) (Array.toList (List.toArray ([13,10]:List UInt8)))) (I.hid (α:=(List UInt8)) (Prod.fst (Go.Proofs.YtalfiafkeijijaaGreatDoor.textF (Go.Ab.Fld.mk (Array.toList (List.toArray ([67,111,110,116,101,110,116,45,68,105,115,112,111,115,105,116,105,111,110]:List UInt8))) (I.hid (α:=(List UInt8)) (Prod.fst (Go.Proofs.YtalfiafkeijijaaGreatDoor.zT (Array.toList (List.toArray ([102,111,114,109,45,100,97,116,97]:List UInt8))) ([(Go.Ab.Fld.mk (Array.toList (List.toArray ([110,97,109,101]:List UInt8))) (Go.Ab.Prt.name (I.get (α:=Go.Ab.Prt) l (Go.Ab.Prt.mk ([]:List UInt8) ([]:List UInt8) ([]:List UInt8) ([]:List UInt8)) (Nat.cast i))))]:List Go.Ab.Fld))))))))) (Array.toList (List.toArray ([13,10]:List UInt8)))) (I.app (α:=UInt8) (I.hid (α:=(List UInt8)) (Prod.fst (Go.Proofs.YtalfiafkeijijaaGreatDoor.textF (Go.Ab.Fld.mk (Array.toList (List.toArray ([67,111,110,116,101,110,116,45,84,121,112,101]:List UInt8))) (Go.Ab.Prt.type (I.get (α:=Go.Ab.Prt) l (Go.Ab.Prt.mk ([]:List UInt8) ([]:List UInt8) ([]:List UInt8) ([]:List UInt8)) (Nat.cast i))))))) (Array.toList (List.toArray ([13,10]:List UInt8)))))) (I.len (α:=UInt8) (Array.toList (List.toArray ([13,10]:List UInt8))))) 1000000000) (.need (I.few (I.add (I.len (α:=UInt8) a) (I.len (α:=UInt8) (I.app (α:=UInt8) (I.app (α:=UInt8) (I.app (α:=UInt8) (I.app (α:=UInt8) (I.app (α:=UInt8) (I.app (α:=UInt8) (Array.toList (List.toArray ([45,45]:List UInt8))) b) (Array.toList (List.toArray ([13,10]:List UInt8)))) (I.hid (α:=(List UInt8)) (Prod.fst (Go.Proofs.YtalfiafkeijijaaGreatDoor.textF (Go.Ab.Fld.mk (Array.toList (List.toArray ([67,111,110,116,101,110,116,45,68,105,115,112,111,115,105,116,105,111,110]:List UInt8))) (I.hid (α:=(List UInt8)) (Prod.fst (Go.Proofs.YtalfiafkeijijaaGreatDoor.zT (Array.toList (List.toArray ([102,111,114,109,45,100,97,116,97]:List UInt8))) ([(Go.Ab.Fld.mk (Array.toList (List.toArray ([110,97,109,101]:List UInt8))) (Go.Ab.Prt.name (I.get (α:=Go.Ab.Prt) l (Go.Ab.Prt.mk ([]:List UInt8) ([]:List UInt8) ([]:List UInt8) ([]:List UInt8)) (Nat.cast i))))]:List Go.Ab.Fld))))))))) (Array.toList (List.toArray ([13,10]:List UInt8)))) (I.app (α:=UInt8) (I.hid (α:=(List UInt8)) (Prod.fst (Go.Proofs.YtalfiafkeijijaaGreatDoor.textF (Go.Ab.Fld.mk (Array.toList (List.toArray ([67,111,110,116,101,110,116,45,84,121,112,101]:List UInt8))) (Go.Ab.Prt.type (I.get (α:=Go.Ab.Prt) l (Go.Ab.Prt.mk ([]:List UInt8) ([]:List UInt8) ([]:List UInt8) ([]:List UInt8)) (Nat.cast i))))))) (Array.toList (List.toArray ([13,10]:List UInt8))))) (Array.toList (List.toArray ([13,10]:List UInt8)))))) 140737488355328) (.need (I.few (I.add (I.len (α:=UInt8) (I.app (α:=UInt8) a (I.app (α:=UInt8) (I.app (α:=UInt8) (I.app (α:=UInt8) (I.app (α:=UInt8) (I.app (α:=UInt8) (I.app (α:=UInt8) (Array.toList (List.toArray ([45,45]:List UInt8))) b) (Array.toList (List.toArray ([13,10]:List UInt8)))) (I.hid (α:=(List UInt8)) (Prod.fst (Go.Proofs.YtalfiafkeijijaaGreatDoor.textF (Go.Ab.Fld.mk (Array.toList (List.toArray ([67,111,110,116,101,110,116,45,68,105,115,112,111,115,105,116,105,111,110]:List UInt8))) (I.hid (α:=(List UInt8)) (Prod.fst (Go.Proofs.YtalfiafkeijijaaGreatDoor.zT (Array.toList (List.toArray ([102,111,114,109,45,100,97,116,97]:List UInt8))) ([(Go.Ab.Fld.mk (Array.toList (List.toArray ([110,97,109,101]:List UInt8))) (Go.Ab.Prt.name (I.get (α:=Go.Ab.Prt) l (Go.Ab.Prt.mk ([]:List UInt8) ([]:List UInt8) ([]:List UInt8) ([]:List UInt8)) (Nat.cast i))))]:List Go.Ab.Fld))))))))) (Array.toList (List.toArray ([13,10]:List UInt8)))) (I.app (α:=UInt8) (I.hid (α:=(List UInt8)) (Prod.fst (Go.Proofs.YtalfiafkeijijaaGreatDoor.textF (Go.Ab.Fld.mk (Array.toList (List.toArray ([67,111,110,116,101,110,116,45,84,121,112,101]:List UInt8))) (Go.Ab.Prt.type (I.get (α:=Go.Ab.Prt) l (Go.Ab.Prt.mk ([]:List UInt8) ([]:List UInt8) ([]:List UInt8) ([]:List UInt8)) (Nat.cast i))))))) (Array.toList (List.toArray ([13,10]:List UInt8))))) (Array.toList (List.toArray ([13,10]:List UInt8)))))) (I.len (α:=UInt8) (Go.Ab.Prt.bytes (I.get (α:=Go.Ab.Prt) l (Go.Ab.Prt.mk ([]:List UInt8) ([]:List UInt8) ([]:List UInt8) ([]:List UInt8)) (Nat.cast i))))) 140737488355328) (.need (I.few (I.add (I.len (α:=UInt8) (I.app (α:=UInt8) (I.app (α:=UInt8) a (I.app (α:=UInt8) (I.app (α:=UInt8) (I.app (α:=UInt8) (I.app (α:=UInt8) (I.app (α:=UInt8) (I.app (α:=UInt8) (Array.toList (List.toArray ([45,45]:List UInt8))) b) (Array.toList (List.toArray ([13,10]:List UInt8)))) (I.hid (α:=(List UInt8)) (Prod.fst (Go.Proofs.YtalfiafkeijijaaGreatDoor.textF (Go.Ab.Fld.mk (Array.toList (List.toArray ([67,111,110,116,101,110,116,45,68,105,115,112,111,115,105,116,105,111,110]:List UInt8))) (I.hid (α:=(List UInt8)) (Prod.fst (Go.Proofs.YtalfiafkeijijaaGreatDoor.zT (Array.toList (List.toArray ([102,111,114,109,45,100,97,116,97]:List UInt8))) ([(Go.Ab.Fld.mk (Array.toList (List.toArray ([110,97,109,101]:List UInt8))) (Go.Ab.Prt.name (I.get (α:=Go.Ab.Prt) l (Go.Ab.Prt.mk ([]:List UInt8) ([]:List UInt8) ([]:List UInt8) ([]:List UInt8)) (Nat.cast i))))]:List Go.Ab.Fld))))))))) (Array.toList (List.toArray ([13,10]:List UInt8)))) (I.app (α:=UInt8) (I.hid (α:=(List UInt8)) (Prod.fst (Go.Proofs.YtalfiafkeijijaaGreatDoor.textF (Go.Ab.Fld.mk (Array.toList (List.toArray ([67,111,110,116,101,110,116,45,84,121,112,101]:List UInt8))) (Go.Ab.Prt.type (I.get (α:=Go.Ab.Prt) l (Go.Ab.Prt.mk ([]:List UInt8) ([]:List UInt8) ([]:List UInt8) ([]:List UInt8)) (Nat.cast i))))))) (Array.toList (List.toArray ([13,10]:List UInt8))))) (Array.toList (List.toArray ([13,10]:List UInt8))))) (Go.Ab.Prt.bytes (I.get (α:=Go.Ab.Prt) l (Go.Ab.Prt.mk ([]:List UInt8) ([]:List UInt8) ([]:List UInt8) ([]:List UInt8)) (Nat.cast i))))) (I.len (α:=UInt8) (Array.toList (List.toArray ([13,10]:List UInt8))))) 140737488355328) (.need (I.inr Go.IntKind.i64 (I.add (Nat.cast i) 1)) (.need (A ⟨[(0,(.v (.one (.p (.str b))))),(1,(.v (.one (.p (.list .prw l))))),(6,(.v (.one (.row 0)))),(7,(.v (.one (.p (.int .i64 (I.add (Nat.cast i) 1))))))],[(.row .byte 5 (I.app (α:=UInt8) (I.app (α:=UInt8) (I.app (α:=UInt8) a (I.app (α:=UInt8) (I.app (α:=UInt8) (I.app (α:=UInt8) (I.app (α:=UInt8) (I.app (α:=UInt8) (I.app (α:=UInt8) (Array.toList (List.toArray ([45,45]:List UInt8))) b) (Array.toList (List.toArray ([13,10]:List UInt8)))) (I.hid (α:=(List UInt8)) (Prod.fst (Go.Proofs.YtalfiafkeijijaaGreatDoor.textF (Go.Ab.Fld.mk (Array.toList (List.toArray ([67,111,110,116,101,110,116,45,68,105,115,112,111,115,105,116,105,111,110]:List UInt8))) (I.hid (α:=(List UInt8)) (Prod.fst (Go.Proofs.YtalfiafkeijijaaGreatDoor.zT (Array.toList (List.toArray ([102,111,114,109,45,100,97,116,97]:List UInt8))) ([(Go.Ab.Fld.mk (Array.toList (List.toArray ([110,97,109,101]:List UInt8))) (Go.Ab.Prt.name (I.get (α:=Go.Ab.Prt) l (Go.Ab.Prt.mk ([]:List UInt8) ([]:List UInt8) ([]:List UInt8) ([]:List UInt8)) (Nat.cast i))))]:List Go.Ab.Fld))))))))) (Array.toList (List.toArray ([13,10]:List UInt8)))) (I.app (α:=UInt8) (I.hid (α:=(List UInt8)) (Prod.fst (Go.Proofs.YtalfiafkeijijaaGreatDoor.textF (Go.Ab.Fld.mk (Array.toList (List.toArray ([67,111,110,116,101,110,116,45,84,121,112,101]:List UInt8))) (Go.Ab.Prt.type (I.get (α:=Go.Ab.Prt) l (Go.Ab.Prt.mk ([]:List UInt8) ([]:List UInt8) ([]:List UInt8) ([]:List UInt8)) (Nat.cast i))))))) (Array.toList (List.toArray ([13,10]:List UInt8))))) (Array.toList (List.toArray ([13,10]:List UInt8))))) (Go.Ab.Prt.bytes (I.get (α:=Go.Ab.Prt) l (Go.Ab.Prt.mk ([]:List UInt8) ([]:List UInt8) ([]:List UInt8) ([]:List UInt8)) (Nat.cast i)))) (Array.toList (List.toArray ([13,10]:List UInt8)))))],115,none⟩) .qed)))))))))) (.need (I.few (I.add (I.len (α:=UInt8) (I.app (α:=UInt8) (I.app (α:=UInt8) (I.app (α:=UInt8) (I.app (α:=UInt8) (Array.toList (List.toArray ([45,45]:List UInt8))) b) (Array.toList (List.toArray ([13,10]:List UInt8)))) (I.hid (α:=(List UInt8)) (Prod.fst (Go.Proofs.YtalfiafkeijijaaGreatDoor.textF (Go.Ab.Fld.mk (Array.toList (List.toArray ([67,111,110,116,101,110,116,45,68,105,115,112,111,115,105,116,105,111,110]:List UInt8))) (I.hid (α:=(List UInt8)) (Prod.fst (Go.Proofs.YtalfiafkeijijaaGreatDoor.zT (Array.toList (List.toArray ([102,111,114,109,45,100,97,116,97]:List UInt8))) ([(Go.Ab.Fld.mk (Array.toList (List.toArray ([110,97,109,101]:List UInt8))) (Go.Ab.Prt.name (I.get (α:=Go.Ab.Prt) l (Go.Ab.Prt.mk ([]:List UInt8) ([]:List UInt8) ([]:List UInt8) ([]:List UInt8)) (Nat.cast i))))]:List Go.Ab.Fld))))))))) (Array.toList (List.toArray ([13,10]:List UInt8))))) (I.len (α:=UInt8) (Array.toList (List.toArray ([13,10]:List UInt8))))) 1000000000) (.need (I.few (I.add (I.len (α:=UInt8) a) (I.len (α:=UInt8) (I.app (α:=UInt8) (I.app (α:=UInt8) (I.app (α:=UInt8) (I.app (α:=UInt8) (I.app (α:=UInt8) (Array.toList (List.toArray ([45,45]:List UInt8))) b) (Array.toList (List.toArray ([13,10]:List UInt8)))) (I.hid (α:=(List UInt8)) (Prod.fst (Go.Proofs.YtalfiafkeijijaaGreatDoor.textF (Go.Ab.Fld.mk (Array.toList (List.toArray ([67,111,110,116,101,110,116,45,68,105,115,112,111,115,105,116,105,111,110]:List UInt8))) (I.hid (α:=(List UInt8)) (Prod.fst (Go.Proofs.YtalfiafkeijijaaGreatDoor.zT (Array.toList (List.toArray ([102,111,114,109,45,100,97,116,97]:List UInt8))) ([(Go.Ab.Fld.mk (Array.toList (List.toArray ([110,97,109,101]:List UInt8))) (Go.Ab.Prt.name (I.get (α:=Go.Ab.Prt) l (Go.Ab.Prt.mk ([]:List UInt8) ([]:List UInt8) ([]:List UInt8) ([]:List UInt8)) (Nat.cast i))))]:List Go.Ab.Fld))))))))) (Array.toList (List.toArray ([13,10]:List UInt8)))) (Array.toList (List.toArray ([13,10]:List UInt8)))))) 140737488355328) (.need (I.few (I.add (I.len (α:=UInt8) (I.app (α:=UInt8) a (I.app (α:=UInt8) (I.app (α:=UInt8) (I.app (α:=UInt8) (I.app (α:=UInt8) (I.app (α:=UInt8) (Array.toList (List.toArray ([45,45]:List UInt8))) b) (Array.toList (List.toArray ([13,10]:List UInt8)))) (I.hid (α:=(List UInt8)) (Prod.fst (Go.Proofs.YtalfiafkeijijaaGreatDoor.textF (Go.Ab.Fld.mk (Array.toList (List.toArray ([67,111,110,116,101,110,116,45,68,105,115,112,111,115,105,116,105,111,110]:List UInt8))) (I.hid (α:=(List UInt8)) (Prod.fst (Go.Proofs.YtalfiafkeijijaaGreatDoor.zT (Array.toList (List.toArray ([102,111,114,109,45,100,97,116,97]:List UInt8))) ([(Go.Ab.Fld.mk (Array.toList (List.toArray ([110,97,109,101]:List UInt8))) (Go.Ab.Prt.name (I.get (α:=Go.Ab.Prt) l (Go.Ab.Prt.mk ([]:List UInt8) ([]:List UInt8) ([]:List UInt8) ([]:List UInt8)) (Nat.cast i))))]:List Go.Ab.Fld))))))))) (Array.toList (List.toArray ([13,10]:List UInt8)))) (Array.toList (List.toArray ([13,10]:List UInt8)))))) (I.len (α:=UInt8) (Go.Ab.Prt.bytes (I.get (α:=Go.Ab.Prt) l (Go.Ab.Prt.mk ([]:List UInt8) ([]:List UInt8) ([]:List UInt8) ([]:List UInt8)) (Nat.cast i))))) 140737488355328) (.need (I.few (I.add (I.len (α:=UInt8) (I.app (α:=UInt8) (I.app (α:=UInt8) a (I.app (α:=UInt8) (I.app (α:=UInt8) (I.app (α:=UInt8) (I.app (α:=UInt8) (I.app (α:=UInt8) (Array.toList (List.toArray ([45,45]:List UInt8))) b) (Array.toList (List.toArray ([13,10]:List UInt8)))) (I.hid (α:=(List UInt8)) (Prod.fst (Go.Proofs.YtalfiafkeijijaaGreatDoor.textF (Go.Ab.Fld.mk (Array.toList (List.toArray ([67,111,110,116,101,110,116,45,68,105,115,112,111,115,105,116,105,111,110]:List UInt8))) (I.hid (α:=(List UInt8)) (Prod.fst (Go.Proofs.YtalfiafkeijijaaGreatDoor.zT (Array.toList (List.toArray ([102,111,114,109,45,100,97,116,97]:List UInt8))) ([(Go.Ab.Fld.mk (Array.toList (List.toArray ([110,97,109,101]:List UInt8))) (Go.Ab.Prt.name (I.get (α:=Go.Ab.Prt) l (Go.Ab.Prt.mk ([]:List UInt8) ([]:List UInt8) ([]:List UInt8) ([]:List UInt8)) (Nat.cast i))))]:List Go.Ab.Fld))))))))) (Array.toList (List.toArray ([13,10]:List UInt8)))) (Array.toList (List.toArray ([13,10]:List UInt8))))) (Go.Ab.Prt.bytes (I.get (α:=Go.Ab.Prt) l (Go.Ab.Prt.mk ([]:List UInt8) ([]:List UInt8) ([]:List UInt8) ([]:List UInt8)) (Nat.cast i))))) (I.len (α:=UInt8) (Array.toList (List.toArray ([13,10]:List UInt8))))) 140737488355328) (.need (I.inr Go.IntKind.i64 (I.add (Nat.cast i) 1)) (.need (A ⟨[(0,(.v (.one (.p (.str b))))),(1,(.v (.one (.p (.list .prw l))))),(6,(.v (.one (.row 0)))),(7,(.v (.one (.p (.int .i64 (I.add (Nat.cast i) 1))))))],[(.row .byte 5 (I.app (α:=UInt8) (I.app (α:=UInt8) (I.app (α:=UInt8) a (I.app (α:=UInt8) (I.app (α:=UInt8) (I.app (α:=UInt8) (I.app (α:=UInt8) (I.app (α:=UInt8) (Array.toList (List.toArray ([45,45]:List UInt8))) b) (Array.toList (List.toArray ([13,10]:List UInt8)))) (I.hid (α:=(List UInt8)) (Prod.fst (Go.Proofs.YtalfiafkeijijaaGreatDoor.textF (Go.Ab.Fld.mk (Array.toList (List.toArray ([67,111,110,116,101,110,116,45,68,105,115,112,111,115,105,116,105,111,110]:List UInt8))) (I.hid (α:=(List UInt8)) (Prod.fst (Go.Proofs.YtalfiafkeijijaaGreatDoor.zT (Array.toList (List.toArray ([102,111,114,109,45,100,97,116,97]:List UInt8))) ([(Go.Ab.Fld.mk (Array.toList (List.toArray ([110,97,109,101]:List UInt8))) (Go.Ab.Prt.name (I.get (α:=Go.Ab.Prt) l (Go.Ab.Prt.mk ([]:List UInt8) ([]:List UInt8) ([]:List UInt8) ([]:List UInt8)) (Nat.cast i))))]:List Go.Ab.Fld))))))))) (Array.toList (List.toArray ([13,10]:List UInt8)))) (Array.toList (List.toArray ([13,10]:List UInt8))))) (Go.Ab.Prt.bytes (I.get (α:=Go.Ab.Prt) l (Go.Ab.Prt.mk ([]:List UInt8) ([]:List UInt8) ([]:List UInt8) ([]:List UInt8)) (Nat.cast i)))) (Array.toList (List.toArray ([13,10]:List UInt8)))))],115,none⟩) .qed))))))))))))))))))))))))) (.need (I.few (I.add (I.len (α:=UInt8) (Array.toList (List.toArray ([45,45]:List UInt8)))) (I.len (α:=UInt8) b)) 1000000000) (.need (I.few (I.add (I.len (α:=UInt8) (I.app (α:=UInt8) (Array.toList (List.toArray ([45,45]:List UInt8))) b)) (I.len (α:=UInt8) (Array.toList (List.toArray ([45,45,13,10]:List UInt8))))) 1000000000) (.need (I.few (I.add (I.len (α:=UInt8) a) (I.len (α:=UInt8) (I.app (α:=UInt8) (I.app (α:=UInt8) (Array.toList (List.toArray ([45,45]:List UInt8))) b) (Array.toList (List.toArray ([45,45,13,10]:List UInt8)))))) 140737488355328) (.fin (.ret (.tup [(.one (.row 0)),(.one (.p (.int .i64 0)))])) [(.row .byte 5 (I.app (α:=UInt8) a (I.app (α:=UInt8) (I.app (α:=UInt8) (Array.toList (List.toArray ([45,45]:List UInt8))) b) (Array.toList (List.toArray ([45,45,13,10]:List UInt8))))))]))))) (by kernel_rfl) ?_
  simp only [zU]
  simp only [hgi,hgi2]
  clear hgi hgi2
  have F1:=fun h=>(hst h).f1
  have F2:=fun h=>(hst h).f2
  have F3:=fun h=>(hst h).f3
  have F4:=fun h=>(hst h).f4
  have F5:=fun h=>(hst h).f5
  have F6:=fun h=>(hst h).f6
  have F7:=fun h=>(hst h).f7
  clear hst
  generalize l.getD i ⟨[],[],[],[]⟩=p at *
  simp only [cdS,ctS] at F3 F4 F5 F6 F7
  have d0:p.file=[]→zT [102,111,114,109,45,100,97,116,97] [⟨[110,97,109,101],p.name⟩]=yL p:=fun e=>by unfold yL VE;rw [if_pos e];rfl
  have d1: ¬ p.file=[]→zT [102,111,114,109,45,100,97,116,97] ([⟨[110,97,109,101],p.name⟩]++[⟨[102,105,108,101,110,97,109,101],p.file⟩])=yL p:=fun e=>by unfold yL VE;rw [if_neg e];rfl
  have hdl:i<l.length→(yL p).1.length≤70000:=fun h=>by
    have h5:=hpp h
    have h6:=zaP h5.1.1 h5.1.2
    have h7:=Vh (w:=fdW) h6.1 h6.2
    have h8:fdW.length=9:=rfl
    unfold yL;omega
  have hs0:i<l.length→∀ x ∈ [(⟨[110,97,109,101],p.name⟩:Fld)],x.name.length≤100000∧x.value.length≤100000:=fun h x hx=>by
    have:=hpp h
    rw [List.mem_singleton.1 hx];exact⟨by show 4≤100000;omega,by show p.name.length≤100000;omega⟩
  have hs1:i<l.length→∀ x ∈ [(⟨[110,97,109,101],p.name⟩:Fld)]++[⟨[102,105,108,101,110,97,109,101],p.file⟩],x.name.length≤100000∧x.value.length≤100000:=fun h x hx=>by
    have:=hpp h
    rcases List.mem_append.1 hx with hx|hx
    · exact hs0 h x hx
    · rw [List.mem_singleton.1 hx];exact⟨by show 8≤100000;omega,by show p.file.length≤100000;omega⟩
  have ha:I.app (α:=Fld) [⟨[110,97,109,101],p.name⟩] [⟨[102,105,108,101,110,97,109,101],p.file⟩]=[⟨[110,97,109,101],p.name⟩]++[⟨[102,105,108,101,110,97,109,101],p.file⟩]:=by subst hI;rfl
  have hh0:I.hid (zT [102,111,114,109,45,100,97,116,97] [⟨[110,97,109,101],p.name⟩]).1=(zT [102,111,114,109,45,100,97,116,97] [⟨[110,97,109,101],p.name⟩]).1:=by subst hI;rfl
  have hh1:I.hid (zT [102,111,114,109,45,100,97,116,97] ([⟨[110,97,109,101],p.name⟩]++[⟨[102,105,108,101,110,97,109,101],p.file⟩])).1=(zT [102,111,114,109,45,100,97,116,97] ([⟨[110,97,109,101],p.name⟩]++[⟨[102,105,108,101,110,97,109,101],p.file⟩])).1:=by subst hI;rfl
  have k1:0≤xh ([13,10,45,45]++b) ([13,10]++p.bytes) 0↔vw b p=true:=zcu _ _
  have cf: ¬ 0≤xh ([13,10,45,45]++b) ([13,10]++p.bytes) 0→vw b p=false:=fun h=>by
    cases e:vw b p with
    |false=>rfl
    |true=>exact absurd (k1.2 e) h
  simp only [ha,hh0,hh1]
  clear ha hh0 hh1
  generalize yL p=T at *
  generalize zT [102,111,114,109,45,100,97,116,97] [⟨[110,97,109,101],p.name⟩]=T0 at *
  generalize zT [102,111,114,109,45,100,97,116,97] ([⟨[110,97,109,101],p.name⟩]++[⟨[102,105,108,101,110,97,109,101],p.file⟩])=T1 at *
  have c0:p.file=[]→T0=T∧textF ⟨[67,111,110,116,101,110,116,45,68,105,115,112,111,115,105,116,105,111,110],T0.1⟩=textF ⟨[67,111,110,116,101,110,116,45,68,105,115,112,111,115,105,116,105,111,110],T.1⟩:=fun e=>⟨d0 e,by rw [d0 e]⟩
  have c1: ¬ p.file=[]→T1=T∧textF ⟨[67,111,110,116,101,110,116,45,68,105,115,112,111,115,105,116,105,111,110],T1.1⟩=textF ⟨[67,111,110,116,101,110,116,45,68,105,115,112,111,115,105,116,105,111,110],T.1⟩:=fun e=>⟨d1 e,by rw [d1 e]⟩
  clear d0 d1
  have hc1:=X3 ⟨[67,111,110,116,101,110,116,45,68,105,115,112,111,115,105,116,105,111,110],T.1⟩
  have hc2:=X3 ⟨[67,111,110,116,101,110,116,45,84,121,112,101],p.type⟩
  generalize textF ⟨[67,111,110,116,101,110,116,45,84,121,112,101],p.type⟩=Y at *
  generalize textF ⟨[67,111,110,116,101,110,116,45,68,105,115,112,111,115,105,116,105,111,110],T0.1⟩=C0 at *
  generalize textF ⟨[67,111,110,116,101,110,116,45,68,105,115,112,111,115,105,116,105,111,110],T1.1⟩=C1 at *
  generalize textF ⟨[67,111,110,116,101,110,116,45,68,105,115,112,111,115,105,116,105,111,110],T.1⟩=Z at *
  generalize vw b p=cl at *
  (repeat' (first|refine And.intro ?_ ?_|intro _))
  all_goals try(subst hI;(simp only [nrmA,nrmB,nrlB,reduceCtorEq] at *);first
    |(have q0:=c0 ‹p.file=[]›;obtain⟨q1,q2⟩:=q0;subst q1;subst q2;(first|done|exact True.intro|omega|exact(hend (by omega)).1|exact(hend (by omega)).2|(simp only [List.length_append,List.length_cons,List.length_nil];omega)|(have hpl:=hpp (by omega);have hdl2:=hdl (by omega);first|omega|(simp only [List.length_append,List.length_cons,List.length_nil];omega)|exact⟨by simp only [List.length_append,List.length_cons,List.length_nil];omega,by simp only [List.length_append,List.length_cons,List.length_nil];omega⟩|exact⟨⟨by decide,by simp⟩,hs0 (by omega)⟩|exact⟨⟨by decide,by simp⟩,hs1 (by omega)⟩)|exact(F1 (by omega) (k1.1 ‹_›)).1|exact(F2 (by omega) (cf ‹_›) ‹_› ‹_›).1|exact(F3 (by omega) (cf ‹_›) (.inl ‹_›) ‹_›).1|exact(F4 (by omega) (cf ‹_›) (.inl ‹_›) ‹_› ‹_›).1|exact(F5 (by omega) (cf ‹_›) (.inl ‹_›) ‹_› ‹_› ‹_› ‹_›).1|exact(F3 (by omega) (cf ‹_›) (.inr ‹_›) ‹_›).1|exact(F4 (by omega) (cf ‹_›) (.inr ‹_›) ‹_› ‹_›).1|exact(F5 (by omega) (cf ‹_›) (.inr ‹_›) ‹_› ‹_› ‹_› ‹_›).1|exact(F1 (by omega) (k1.1 ‹_›)).2|exact(F2 (by omega) (cf ‹_›) ‹_› ‹_›).2|exact(F3 (by omega) (cf ‹_›) (.inl ‹_›) ‹_›).2|exact(F4 (by omega) (cf ‹_›) (.inl ‹_›) ‹_› ‹_›).2|exact(F5 (by omega) (cf ‹_›) (.inl ‹_›) ‹_› ‹_› ‹_› ‹_›).2|exact(F3 (by omega) (cf ‹_›) (.inr ‹_›) ‹_›).2|exact(F4 (by omega) (cf ‹_›) (.inr ‹_›) ‹_› ‹_›).2|exact(F5 (by omega) (cf ‹_›) (.inr ‹_›) ‹_› ‹_› ‹_› ‹_›).2|(refine hA2 (by omega) _ ((congrArg (yC b _) ?_).trans (F6 (by omega) (cf ‹_›) (.inl ‹_›) ‹_› ‹_› ‹_›)) ?_;simp only [List.append_assoc,List.cons_append,List.nil_append];simp only [List.length_append,List.length_cons,List.length_nil];omega)|(refine hA2 (by omega) _ ((congrArg (yC b _) ?_).trans (F7 (by omega) (cf ‹_›) (.inl ‹_›) ‹_› ‹_› ‹_› ‹_›)) ?_;simp only [List.append_assoc,List.cons_append,List.nil_append];simp only [List.length_append,List.length_cons,List.length_nil];omega)|(refine hA2 (by omega) _ ((congrArg (yC b _) ?_).trans (F6 (by omega) (cf ‹_›) (.inr ‹_›) ‹_› ‹_› ‹_›)) ?_;simp only [List.append_assoc,List.cons_append,List.nil_append];simp only [List.length_append,List.length_cons,List.length_nil];omega)|(refine hA2 (by omega) _ ((congrArg (yC b _) ?_).trans (F7 (by omega) (cf ‹_›) (.inr ‹_›) ‹_› ‹_› ‹_› ‹_›)) ?_;simp only [List.append_assoc,List.cons_append,List.nil_append];simp only [List.length_append,List.length_cons,List.length_nil];omega)))
    |(have q0:=c1 ‹¬ p.file=[]›;obtain⟨q1,q2⟩:=q0;subst q1;subst q2;(first|done|exact True.intro|omega|exact(hend (by omega)).1|exact(hend (by omega)).2|(simp only [List.length_append,List.length_cons,List.length_nil];omega)|(have hpl:=hpp (by omega);have hdl2:=hdl (by omega);first|omega|(simp only [List.length_append,List.length_cons,List.length_nil];omega)|exact⟨by simp only [List.length_append,List.length_cons,List.length_nil];omega,by simp only [List.length_append,List.length_cons,List.length_nil];omega⟩|exact⟨⟨by decide,by simp⟩,hs0 (by omega)⟩|exact⟨⟨by decide,by simp⟩,hs1 (by omega)⟩)|exact(F1 (by omega) (k1.1 ‹_›)).1|exact(F2 (by omega) (cf ‹_›) ‹_› ‹_›).1|exact(F3 (by omega) (cf ‹_›) (.inl ‹_›) ‹_›).1|exact(F4 (by omega) (cf ‹_›) (.inl ‹_›) ‹_› ‹_›).1|exact(F5 (by omega) (cf ‹_›) (.inl ‹_›) ‹_› ‹_› ‹_› ‹_›).1|exact(F3 (by omega) (cf ‹_›) (.inr ‹_›) ‹_›).1|exact(F4 (by omega) (cf ‹_›) (.inr ‹_›) ‹_› ‹_›).1|exact(F5 (by omega) (cf ‹_›) (.inr ‹_›) ‹_› ‹_› ‹_› ‹_›).1|exact(F1 (by omega) (k1.1 ‹_›)).2|exact(F2 (by omega) (cf ‹_›) ‹_› ‹_›).2|exact(F3 (by omega) (cf ‹_›) (.inl ‹_›) ‹_›).2|exact(F4 (by omega) (cf ‹_›) (.inl ‹_›) ‹_› ‹_›).2|exact(F5 (by omega) (cf ‹_›) (.inl ‹_›) ‹_› ‹_› ‹_› ‹_›).2|exact(F3 (by omega) (cf ‹_›) (.inr ‹_›) ‹_›).2|exact(F4 (by omega) (cf ‹_›) (.inr ‹_›) ‹_› ‹_›).2|exact(F5 (by omega) (cf ‹_›) (.inr ‹_›) ‹_› ‹_› ‹_› ‹_›).2|(refine hA2 (by omega) _ ((congrArg (yC b _) ?_).trans (F6 (by omega) (cf ‹_›) (.inl ‹_›) ‹_› ‹_› ‹_›)) ?_;simp only [List.append_assoc,List.cons_append,List.nil_append];simp only [List.length_append,List.length_cons,List.length_nil];omega)|(refine hA2 (by omega) _ ((congrArg (yC b _) ?_).trans (F7 (by omega) (cf ‹_›) (.inl ‹_›) ‹_› ‹_› ‹_› ‹_›)) ?_;simp only [List.append_assoc,List.cons_append,List.nil_append];simp only [List.length_append,List.length_cons,List.length_nil];omega)|(refine hA2 (by omega) _ ((congrArg (yC b _) ?_).trans (F6 (by omega) (cf ‹_›) (.inr ‹_›) ‹_› ‹_› ‹_›)) ?_;simp only [List.append_assoc,List.cons_append,List.nil_append];simp only [List.length_append,List.length_cons,List.length_nil];omega)|(refine hA2 (by omega) _ ((congrArg (yC b _) ?_).trans (F7 (by omega) (cf ‹_›) (.inr ‹_›) ‹_› ‹_› ‹_› ‹_›)) ?_;simp only [List.append_assoc,List.cons_append,List.nil_append];simp only [List.length_append,List.length_cons,List.length_nil];omega)))
    |(first|done|exact True.intro|omega|exact(hend (by omega)).1|exact(hend (by omega)).2|(simp only [List.length_append,List.length_cons,List.length_nil];omega)|(have hpl:=hpp (by omega);have hdl2:=hdl (by omega);first|omega|(simp only [List.length_append,List.length_cons,List.length_nil];omega)|exact⟨by simp only [List.length_append,List.length_cons,List.length_nil];omega,by simp only [List.length_append,List.length_cons,List.length_nil];omega⟩|exact⟨⟨by decide,by simp⟩,hs0 (by omega)⟩|exact⟨⟨by decide,by simp⟩,hs1 (by omega)⟩)|exact(F1 (by omega) (k1.1 ‹_›)).1|exact(F2 (by omega) (cf ‹_›) ‹_› ‹_›).1|exact(F3 (by omega) (cf ‹_›) (.inl ‹_›) ‹_›).1|exact(F4 (by omega) (cf ‹_›) (.inl ‹_›) ‹_› ‹_›).1|exact(F5 (by omega) (cf ‹_›) (.inl ‹_›) ‹_› ‹_› ‹_› ‹_›).1|exact(F3 (by omega) (cf ‹_›) (.inr ‹_›) ‹_›).1|exact(F4 (by omega) (cf ‹_›) (.inr ‹_›) ‹_› ‹_›).1|exact(F5 (by omega) (cf ‹_›) (.inr ‹_›) ‹_› ‹_› ‹_› ‹_›).1|exact(F1 (by omega) (k1.1 ‹_›)).2|exact(F2 (by omega) (cf ‹_›) ‹_› ‹_›).2|exact(F3 (by omega) (cf ‹_›) (.inl ‹_›) ‹_›).2|exact(F4 (by omega) (cf ‹_›) (.inl ‹_›) ‹_› ‹_›).2|exact(F5 (by omega) (cf ‹_›) (.inl ‹_›) ‹_› ‹_› ‹_› ‹_›).2|exact(F3 (by omega) (cf ‹_›) (.inr ‹_›) ‹_›).2|exact(F4 (by omega) (cf ‹_›) (.inr ‹_›) ‹_› ‹_›).2|exact(F5 (by omega) (cf ‹_›) (.inr ‹_›) ‹_› ‹_› ‹_› ‹_›).2|(refine hA2 (by omega) _ ((congrArg (yC b _) ?_).trans (F6 (by omega) (cf ‹_›) (.inl ‹_›) ‹_› ‹_› ‹_›)) ?_;simp only [List.append_assoc,List.cons_append,List.nil_append];simp only [List.length_append,List.length_cons,List.length_nil];omega)|(refine hA2 (by omega) _ ((congrArg (yC b _) ?_).trans (F7 (by omega) (cf ‹_›) (.inl ‹_›) ‹_› ‹_› ‹_› ‹_›)) ?_;simp only [List.append_assoc,List.cons_append,List.nil_append];simp only [List.length_append,List.length_cons,List.length_nil];omega)|(refine hA2 (by omega) _ ((congrArg (yC b _) ?_).trans (F6 (by omega) (cf ‹_›) (.inr ‹_›) ‹_› ‹_› ‹_›)) ?_;simp only [List.append_assoc,List.cons_append,List.nil_append];simp only [List.length_append,List.length_cons,List.length_nil];omega)|(refine hA2 (by omega) _ ((congrArg (yC b _) ?_).trans (F7 (by omega) (cf ‹_›) (.inr ‹_›) ‹_› ‹_› ‹_› ‹_›)) ?_;simp only [List.append_assoc,List.cons_append,List.nil_append];simp only [List.length_append,List.length_cons,List.length_nil];omega)))
  all_goals trace_state
def ZQ (I:Alg) (args:List D) (hp:List HO):Option CT:=match args,hp with
  |[.v (.one (.p (.str b))),.v (.one (.p (.list .prw l)))],[]=>(fun(b:Str) (l:List Prt)=>(some (.one ⟨I.hid (b.length≤1000∧∀ p ∈ l,(p.name.length≤10000∧p.file.length≤10000)∧p.type.length≤10000∧p.bytes.length≤10000),(.ret (.tup [(.one (.row 0)),(.one (.p (.int .i64 (I.hid ((vY b l).2)))))])),[.row .byte 5 (I.hid ((vY b l).1))]⟩):Option CT)) b l
  |_,_=>none
theorem SB:yh Tryz.prog 7 (ZQ alg):=by
  intro args hp r h
  unfold ZQ at h
  split at h
  · cases h;exact fun hn=>zd3 _ _ hn
  · cases h
def zcg:Know Tryz.prog:=⟨7,ZQ,SB⟩
def zcf:Know Tryz.prog:=⟨7,fun I=>yE I (ZQ I),zA SB⟩
end Go.Proofs.YtalfiafkeijijaaGreatDoor
namespace Go.Proofs.YtalfiafkeijijaaGreatDoor
open Go Go.Sep Go.Ab
set_option maxRecDepth 100000
theorem Qv (x y:Str):Spc Tryz.prog 8 [.v (.one (.p (.list .byte x))),.v (.one (.p (.list .byte y)))] [] (.ret (.v (.one (.p (.bool (x == y)))))) []:=by
  refine spcG zJ mixed Tryz.func8 (by kernel_rfl) { keep:=some [0,1,4]} [] (by kernel_rfl) ?_
  intro I X hI hX
  refine zH (.fin (.ret (.v (.one (.p (.bool (I.seq x y)))))) []) (by kernel_rfl) ?_
  simp only [zU]
  subst hI
  exact⟨rfl,trivial⟩
def wO (I:Alg) (args:List D) (hp:List HO):Option CT:=match args,hp with
  |[.v (.one (.p (.list .byte x))),.v (.one (.p (.list .byte y)))],[]=>(fun(x y:Str)=>(some (.one ⟨I.hid (True),(.ret (.v (.one (.p (.bool (I.hid (x == y))))))),[]⟩):Option CT)) x y
  |_,_=>none
theorem Zh:yh Tryz.prog 8 (wO alg):=by
  intro args hp r h
  unfold wO at h
  split at h
  · cases h;exact fun hn=>Qv _ _
  · cases h
def Vp:Know Tryz.prog:=⟨8,wO,Zh⟩
def Vo:Know Tryz.prog:=⟨8,fun I=>yE I (wO I),zA Zh⟩
end Go.Proofs.YtalfiafkeijijaaGreatDoor
namespace Go.Proofs.YtalfiafkeijijaaGreatDoor
open Go Go.Sep Go.Ab
set_option maxRecDepth 100000
set_option maxHeartbeats 1000000 in
theorem pkDoes_ (b:Str) (l:List Prt) (hneed: ∀ f ∈ l,(f.name.length≤140737488355328∧f.file.length≤140737488355328)∧f.type.length≤140737488355328∧f.bytes.length≤140737488355328):Spc Tryz.prog 3 [.v (.one (.p (.str b))),.v (.one (.p (.list .prw l)))] [] (.ret (.v (.one (.p (.bool true))))) []:=by
  have hg:=fun h=>za3 (l:=l) h
  refine spcG zJ mixed Tryz.func3 (by kernel_rfl) { keep:=some [0,1,4,5,6,7,8]} [Vx,Vw,za5,za4,UI,UH,zcg,zcf,Vp,Vo] (by kernel_rfl) ?_
  intro I X hI hX
  refine zH (.need (I.hid (α:=(Prop)) True) (.br (I.bnot Bool.true) (.fin (.ret (.v (.one (.p (.bool Bool.false))))) []) (.need (I.hid (α:=(Prop)) (∀ (f:Prt),
    f ∈ l→
      (List.length f.name≤140737488355328∧List.length f.file≤140737488355328)∧
        List.length f.type≤140737488355328∧List.length f.bytes≤140737488355328)) (.br (I.hid (α:=Bool) (Go.Proofs.YtalfiafkeijijaaGreatDoor.XE l)) (.fin (.ret (.v (.one (.p (.bool Bool.true))))) []) (.br (I.ilt 300 (I.len (α:=UInt8) b)) (.fin (.ret (.v (.one (.p (.bool Bool.true))))) []) (.need (I.hid (α:=(Prop)) (And (LE.le (List.length b) 1000) (∀ (p:Prt),
    p ∈ l→
      (List.length p.name≤10000∧List.length p.file≤10000)∧List.length p.type≤10000∧List.length p.bytes≤10000))) (.need (I.hid (α:=(Prop)) (And (LE.le (List.length b) 1000) (∀ (p:Prt),
    p ∈ l→
      (List.length p.name≤10000∧List.length p.file≤10000)∧List.length p.type≤10000∧List.length p.bytes≤10000))) (.need (I.hid (α:=(Prop)) True) (.br (I.hid (α:=Bool) (BEq.beq (I.hid (α:=(List UInt8)) (Prod.fst (Go.Proofs.YtalfiafkeijijaaGreatDoor.vY b l))) (I.hid (α:=(List UInt8)) (Prod.fst (Go.Proofs.YtalfiafkeijijaaGreatDoor.vY b l))))) (.fin (.ret (.v (.one (.p (.bool (I.ieq (I.hid (α:=Int) (Prod.snd (Go.Proofs.YtalfiafkeijijaaGreatDoor.vY b l))) (I.hid (α:=Int) (Prod.snd (Go.Proofs.YtalfiafkeijijaaGreatDoor.vY b l))))))))) []) (.fin (.ret (.v (.one (.p (.bool Bool.false))))) [])))))))))) (by kernel_rfl) ?_
  simp only [zU]
  generalize vY b l=z at *
  (repeat' (first|refine And.intro ?_ ?_|intro _))
  all_goals try(subst hI;(simp only [nrmA,nrmB,nrlB,reduceCtorEq] at *);first
    |done
    |exact True.intro
    |omega
    |exact hneed
    |exact⟨by omega,(hg ‹_›).2⟩
    |(simp_all;done))
  all_goals trace_state
end Go.Proofs.YtalfiafkeijijaaGreatDoor
