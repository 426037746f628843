/- Texts of this proof, one behind the other: RpcE Quo ParT PakW PakX PakV ReqO PakQ. -/
import Derived.Handy
import Derived.Test.YtjdbannldbgpeaaGreatDoorMf
set_option linter.all false
namespace Go.Proofs.YtjdbannldbgpeaaGreatDoor
open Go Go.RowKit Go.Sep
set_option maxRecDepth 100000
set_option maxHeartbeats 4000000 in
theorem ziX (B : Nat) (z : Value) (ao:Option Addr) (cap:Nat) (s:List UInt8) (hs:s.length≤1000000) (l:List Chunk) (w:World) (H:At w (objC B 133 [.int .u32 0,.int .i32 0,z,.nilIface,.slice ao 4 cap]::rowC 9 1 (.slice ao 4 cap) 4 X4::l)):
  Calls Tryz.prog 67 #[.pointer (some ⟨B,0,none⟩),.string (S s)] w fun e w'=>e=.returned (.string (S (escS s)))∧At w' l:=by
 have hmf: ∀ (fn:Fn) (first cap:Array Value) (w:World),(Instr.makeFunc fn first cap).run Tryz.prog w=.ok (.func fn first cap) w:=fun _ _ _ _=>rfl
 go_enter Tryz.func67,Tryz.ntmps67
 go_wp2_with (first | ((with_reducible show wpList _ _ _ (⟨_,.load _ _,_,_,_,_⟩::_) _ _);refine zf rfl (zh Tryz.underlying131 rfl rfl (by first|(with_reducible refine(H.cell _).trans ?_);exact rfl|(with_reducible refine(H.p1.cell _).trans ?_);exact rfl|(with_reducible refine(H.p2.cell _).trans ?_);exact rfl|(with_reducible refine(H.p3.cell _).trans ?_);exact rfl|(with_reducible refine(H.p4.cell _).trans ?_);exact rfl|(with_reducible refine(H.p5.cell _).trans ?_);exact rfl|(with_reducible refine(H.p6.cell _).trans ?_);exact rfl)) ?_;simp only [Act.put,List.setIfInBounds_toArray,List.set_cons_succ,List.set_cons_zero]) |(go_at_call 77;refine Calls.mono (do_c B z ao cap l _ (by first|with_reducible exact H|with_reducible exact H.p1|with_reducible exact H.p2|with_reducible exact H.p3|with_reducible exact H.p4|with_reducible exact H.p5|with_reducible exact H.p6|exact H|exact H.p1|exact H.p2|exact H.p3|exact H.p4|exact H.p5|exact H.p6)) ?_;rintro e w1 ⟨b,aoT,cT,ao1,c1,ao2,c2,rfl,H'⟩;replace H:=H';clear H') |(go_at_call 172;refine Calls.mono (zlR b aoT cT ao1 c1 ao2 c2 s hs l _ H.tail) ?_;rintro e w2 ⟨rfl,H'⟩;replace H:=H';clear H'))
 go_ret
 exact⟨rfl,H⟩
end Go.Proofs.YtjdbannldbgpeaaGreatDoor
namespace Go.Proofs.YtjdbannldbgpeaaGreatDoor
open Go Go.RowKit Go.Sep Go.Ab
set_option maxRecDepth 100000
theorem zmI: ∀ v ∈ X4,v.oneCell'=true:=by
 intro v h;simp only [X4,List.mem_cons,List.mem_nil_iff,or_false] at h
 rcases h with rfl|rfl|rfl|rfl<;>rfl
def Wp (I:Alg):KU
 |[.v (.one (.p (.str s)))],[]=>(fun(s:Str)=>(some (.one ⟨I.hid (s.length≤200000),(.ret (.v (.one (.p (.str (I.hid (quoM s))))))),[]⟩):Option CT)) s
 |_,_=>none
set_option maxHeartbeats 4000000 in
theorem zdi:zO Tryz.prog 48 (Wp alg):=by
 intro args hp r h;unfold Wp at h;split at h<;>cases h
 rename_i s;simp only [CT.Good,zI];intro hneed
 refine⟨⟨_,Tryz.func48,by kernel_rfl,by kernel_rfl⟩,fun Sf K fr w vs hH hM hA=> ?_⟩
 have hM0:=hM
 obtain⟨v,r,rfl⟩: ∃ v r,vs=v::r:=by cases vs with|nil=>exact hM.elim|cons v r=>exact⟨v,r,rfl⟩
 obtain⟨h1,hM⟩:=hM
 obtain rfl:r=[]:=by cases r with|nil=>rfl|cons v r=>exact hM.elim
 cases h1 with
 | str _ hl1=>
   have ht:Calls Tryz.prog 27 #[.string (S s)] w fun e w'=>∃ S' K',e=.returned (.bool (xk s))∧Sf.le S'∧Ext (K.map CO.base) (K'.map CO.base)∧HR S' (K'.map CO.base) [] K'∧At w' (frzC S'::(CO.zl K'++fr)):=by
    refine((zdT s (by omega)).2 Sf K fr w _ hH hM0 hA).mono ?_
    rintro e w1 ⟨S1,K1,hle,hext,hH1,hA1,ho⟩
    cases e with
    |returned v=>cases ho;exact⟨S1,K1,rfl,hle,hext,hH1,hA1⟩
    |panicked c=>exact ho.elim
    |outgrown=>exact ho.elim
   have hq:=RD s;have hes:=zcv s
   by_cases htk:xk s=true
   · rw [htk] at ht
     rw [show quoM s=s from if_pos htk];have H:=hA
     go_enter Tryz.func48,Tryz.ntmps48
     go_wp2_with (first|((with_reducible show wpList _ _ _ (⟨some 6,.buildSlice _ _ _,_,_,_,_⟩::_) _ _);refine y5 Tryz.underlying118 in_9 [.string _,.string _,.string _,.string _] rfl rfl (SV rfl rfl rfl rfl) (by simp) H rfl ?_;intro ao6 cap6 w6 hc6 H1;replace H:=H1;clear H1;simp only [Act.put,List.setIfInBounds_toArray,List.set_cons_succ,List.set_cons_zero]) |(go_at_call 27;refine Calls.mono (ht) ?_;rintro e w1 ⟨S1,K1,rfl,hle,hext,hH1,H'⟩;replace H:=H';clear H'))
     go_ret
     exact⟨S1,K1,hle,hext,hH1,H,.str _ hl1⟩
   · have htf : xk s = false := by simpa using htk
     rw [htf] at ht;have H:=hA
     go_enter Tryz.func48,Tryz.ntmps48
     go_wp2_with (first|((with_reducible show wpList _ _ _ (⟨some 6,.buildSlice _ _ _,_,_,_,_⟩::_) _ _);refine y5 Tryz.underlying118 in_9 [.string _,.string _,.string _,.string _] rfl rfl (SV rfl rfl rfl rfl) (by simp) H rfl ?_;intro ao6 cap6 w6 hc6 H1;replace H:=H1;clear H1;simp only [Act.put,List.setIfInBounds_toArray,List.set_cons_succ,List.set_cons_zero]) |(go_at_call 27;refine Calls.mono (ht) ?_;rintro e w1 ⟨S1,K1,rfl,hle,hext,hH1,H'⟩;replace H:=H';clear H') |(go_at_call 66;refine Calls.mono (zjh _ _ X4 zmI _ _ (by first|with_reducible exact H|with_reducible exact H.p1|with_reducible exact H.p2|with_reducible exact H.p3|with_reducible exact H.p4|with_reducible exact H.p5|with_reducible exact H.p6|exact H|exact H.p1|exact H.p2|exact H.p3|exact H.p4|exact H.p5|exact H.p6)) ?_;rintro e w2 ⟨b,ao1,c1,rfl,H'⟩;replace H:=H';clear H') |(go_at_call 67;refine Calls.mono (ziX b _ _ _ s (by omega) _ _ (by first|with_reducible exact H|with_reducible exact H.p1|with_reducible exact H.p2|with_reducible exact H.p3|with_reducible exact H.p4|with_reducible exact H.p5|with_reducible exact H.p6|exact H|exact H.p1|exact H.p2|exact H.p3|exact H.p4|exact H.p5|exact H.p6)) ?_;rintro e w3 ⟨rfl,H'⟩;replace H:=H';clear H'))
     all_goals try(exfalso;omega)
     go_ret
     have e:quoM s=34::(escS s++[34]):=by unfold quoM;rw [if_neg htk];simp
     have hb:(quoM s).length≤maxLen:=Nat.le_trans hq (by unfold maxLen;omega)
     generalize quoM s=q at *;subst e;exact⟨S1,K1,hle,hext,hH1,H,.str _ hb⟩
def zdh:Know Tryz.prog:=⟨48,Wp,zdi⟩
def zdg:Know Tryz.prog:=⟨48,fun I=>zT I (Wp I),zi zdi⟩
end Go.Proofs.YtjdbannldbgpeaaGreatDoor
namespace Go.Proofs.YtjdbannldbgpeaaGreatDoor
open Go Go.Sep Go.Ab
set_option maxRecDepth 100000
def Wu (I:Alg):KU
 |[.v (.one (.p (.str s)))],[]=>(fun(s:Str)=>(some (.one ⟨I.hid (s.length≤1000000),(.ret (.v (.one (.p (.bool (I.hid (zbM s))))))),[]⟩):Option CT)) s
 |_,_=>none
theorem zdu:zO Tryz.prog 44 (Wu alg):=by
 intro args hp r h;unfold Wu at h;split at h<;>cases h
 rename_i s;simp only [CT.Good,zI];intro hneed;have hc:=QC s 47
 have hbq:(lowS s == s)=decide (lowS s=s):=by rw [Bool.eq_iff_iff];simp
 generalize hr:zbM s=r;unfold zbM at hr
 refine spH Tryz.func44 (by kernel_rfl) { keep:=some [0,2,3,4,5]} [sG,sF,xC,xB,zgc,zgb] (by kernel_rfl) ?_
 intro I X hI hX
 refine orcL ?_;go_invoke;refine orcS (by kernel_rfl) ?_
 simp only [zJ,Nat.reduceAdd];subst hI;simp only [nrmA,nrmB,nrlB,reduceCtorEq]
 (repeat' (first|refine ja ?_ ?_|intro _))<;>first|omega|exact jb|exact jc ‹False›|skip
 all_goals first
  |omega
  |(subst hr;simp_all;done)
  |(rw [hbq,← hr];simp only [*];done)
  |(rw [hbq,← hr];simp [*];done)
def zds:Know Tryz.prog:=⟨44,Wu,zdu⟩
def zdr:Know Tryz.prog:=⟨44,fun I=>zT I (Wu I),zi zdu⟩
def Wx (I:Alg):KU
 |[.v (.agg [.p (.str a),.p (.str b)]),.v (.one (.ptr 0 0))],[.pack [.obj 70 [.p (.str n),.p (.str v)]]]=>(fun(a b n v:Str)=>(some (.one ⟨I.hid (True),(.ret (.v (.one (.p (.bool (I.hid (a == n))))))),[.pack [.obj 70 [.p (.str n),.p (.str v)]]]⟩):Option CT)) a b n v
 |_,_=>none
theorem zdw:zO Tryz.prog 47 (Wx alg):=by
 intro args hp r h;unfold Wx at h;split at h<;>cases h
 rename_i a b n v;simp only [CT.Good,zI];intro _
 refine spH Tryz.func47 (by kernel_rfl) { keep:=some [0,1,2,3]} [] (by kernel_rfl) ?_
 intro I X hI hX
 refine orcL ?_;go_invoke;refine orcS (by kernel_rfl) ?_
 simp only [zJ,Nat.reduceAdd];subst hI;simp only [nrmA,nrmB,nrlB,reduceCtorEq,HO.pack.injEq,HO.obj.injEq]
 try trivial
def Wv:Know Tryz.prog:=⟨47,Wx,zdw⟩
def zdv:Know Tryz.prog:=⟨47,fun I=>zT I (Wx I),zi zdw⟩
def RV (I:Alg):KU
 |[.v (.one (.p (.list .fld l))),.v (.one (.fn 47 [.ptr 0 0]))],[.pack [.obj 70 [.p (.str n),.p (.str v)]]]=>(fun(l:List Fld) (n v:Str)=>(some (.one ⟨I.hid (l.length≤1000000),(.ret (.v (.one (.p (.int .i64 (I.hid (ixP l n))))))),[.pack [.obj 70 [.p (.str n),.p (.str v)]]]⟩):Option CT)) l n v
 |_,_=>none
theorem zgD:zO Tryz.prog 65 (RV alg):=by
 intro args hp r h;unfold RV at h;split at h<;>cases h
 rename_i l n v
 revert l;intro(l:List Fld)
 simp only [CT.Good,zI];intro hneed
 refine spH Tryz.func65 (by kernel_rfl) { keep:=some [0,1,4,5,7,8]} [Wv] (by kernel_rfl) ?_
 intro I X hI hX
 refine orcL ?_;go_invoke;refine orcS (by kernel_rfl) ?_
 simp only [zJ,Nat.reduceAdd]
 refine lpH hI [Wv] hX [0,1,7,8] (fun(i:Nat)=>i≤l.length∧i≤l.findIdx (fun f=>f.name == n)) (fun(i:Nat)=>⟨[(0,.v (.one (.p (.list .fld l)))),(1,.v (.one (.fn 47 [.ptr 0 0]))),(7,.v (.one (.p (.int .i64 ((I.len (α:=Fld) l)))))),(8,.v (.one (.p (.int .i64 i))))],[.pack [.obj 70 [.p (.str n),.p (.str v)]]],19,none⟩) (fun(i:Nat)=>l.length - i) 0 (by kernel_rfl) (by kernel_rfl) ?_ ?_
 · exact⟨jL _,jL _⟩
 rintro i ⟨h1,h2⟩ A hA
 refine orcL ?_;go_invoke;refine orcS (by kernel_rfl) ?_
 simp only [zJ,Nat.reduceAdd];subst hI;simp only [nrmA,nrmB,nrlB,reduceCtorEq,HO.pack.injEq,HO.obj.injEq];have hfl:l.findIdx (fun f=>f.name == n)≤l.length:=List.findIdx_le_length
 have hyes:i<l.length→(l.getD i ⟨[],[]⟩).name=n→ixP l n=i:=fun h hid=>by
  have h0:l.findIdx (fun f=>f.name == n)≤i:=by
   refine Nat.le_of_not_lt fun hlt=> ?_;have:=List.not_of_lt_findIdx hlt;rw [jG,ji h] at hid;simp only [Option.getD_some] at hid;rw [hid] at this;simp at this
  unfold ixP
  rw [if_pos (by omega)];omega
 have hno:i<l.length→¬ (l.getD i ⟨[],[]⟩).name=n→i+1≤l.findIdx (fun f=>f.name == n):=fun h hid=>by
  refine Nat.lt_of_le_of_ne h2 fun e=>hid ?_
  have hlt:l.findIdx (fun f=>f.name == n)<l.length:=by omega
  have:=List.findIdx_getElem (xs:=l) (p:=fun f=>f.name == n) (w:=hlt)
  have h9:l.getD i ⟨[],[]⟩=l[l.findIdx (fun f=>f.name == n)]:=by simp [e,jG,hlt]
  rw [h9];simpa using this
 have hend: ¬ i<l.length→ixP l n= -1:=fun h=>by unfold ixP;rw [if_neg (by omega)]
 generalize l.getD i ⟨[],[]⟩=x at *
 (repeat' (first|refine ja ?_ ?_|intro _))<;>first|omega|exact jb|exact jc ‹False›|skip
 all_goals first
  |omega
  |(exact(hyes (by omega) ‹_›).symm)
  |(exact hA (i+1) ⟨by omega,hno (by omega) ‹_›⟩ (by omega))
  |(exact(hend (by omega)).symm)
def zkR:Know Tryz.prog:=⟨65,RV,zgD⟩
def zkQ:Know Tryz.prog:=⟨65,fun I=>zT I (RV I),zi zgD⟩
def Qb (I:Alg):KU
 |[.v (.one (.p (.list .fld l))),.v (.one (.fn 47 [.ptr 0 0]))],[.pack [.obj 70 [.p (.str n),.p (.str v)]]]=>(fun(l:List Fld) (n v:Str)=>(some (.one ⟨I.hid (l.length≤1000000),(.ret (.v (.one (.p (.bool (I.hid (hasP l n))))))),[.pack [.obj 70 [.p (.str n),.p (.str v)]]]⟩):Option CT)) l n v
 |_,_=>none
theorem zgH:zO Tryz.prog 46 (Qb alg):=by
 intro args hp r h;unfold Qb at h;split at h<;>cases h
 rename_i l n v
 revert l;intro(l:List Fld)
 simp only [CT.Good,zI];intro hneed
 refine spH Tryz.func46 (by kernel_rfl) { keep:=some [0,1,4]} [zkR,zkQ] (by kernel_rfl) ?_
 intro I X hI hX
 refine orcL ?_;go_invoke;refine orcS (by kernel_rfl) ?_
 simp only [zJ,Nat.reduceAdd];subst hI;simp only [nrmA,nrmB,nrlB,reduceCtorEq,HO.pack.injEq,HO.obj.injEq];unfold hasP
 (repeat' (first|refine ja ?_ ?_|intro _))<;>first|omega|exact jb|exact jc ‹False›|skip
 all_goals first|exact hneed|trivial|(simp;done)|trace_state
def zgG:Know Tryz.prog:=⟨46,Qb,zgH⟩
def zgF:Know Tryz.prog:=⟨46,fun I=>zT I (Qb I),zi zgH⟩
def Wy (I:Alg):KU
 |[.v (.agg [.p (.str w),.p (.list .fld l)])],[]=>(fun(w:Str) (l:List Fld)=>(some (.one ⟨I.hid ((w.length≤100000∧l.length≤1000000)∧∀ f ∈ l,f.name.length≤100000∧f.value.length≤100000),(.ret (.tup [.one (.p (.str (I.hid ((Xd w l).1)))),.one (.p (.int .i64 (I.hid ((Xd w l).2))))])),[]⟩):Option CT)) w l
 |_,_=>none
set_option maxHeartbeats 1000000 in
theorem zdx:zO Tryz.prog 26 (Wy alg):=by
 intro args hp r h;unfold Wy at h;split at h<;>cases h
 rename_i w l
 revert l;intro(l:List Fld)
 simp only [CT.Good,zI];intro hneed;obtain⟨⟨hw,hl⟩,hf⟩:=hneed;generalize hr:Xd w l=r;unfold Xd at hr
 refine spH Tryz.func26 (by kernel_rfl) { keep:=some [0,1,2,3,4,5,6,18,19,20]} [sG,sF,wG,wF,xC,xB,zdh,zdg,zds,zdr,Wv,zdv,zgG,zgF] (by kernel_rfl) ?_
 intro I X hI hX
 refine orcL ?_;go_invoke;refine orcS (by kernel_rfl) ?_
 simp only [zJ,Nat.reduceAdd]
 (repeat' (first|refine ja ?_ ?_|intro _))
 · subst hI
   simp only [nrmA,nrmB,nrlB,reduceCtorEq];omega
 · subst hI
   simp only [nrmA,nrmB,nrlB,reduceCtorEq] at *
   rw [if_pos (by simp_all)] at hr
   subst hr;exact⟨rfl,rfl⟩
 · trivial
 · subst hI
   simp only [nrmA,nrmB,nrlB,reduceCtorEq] at *
   rw [if_neg (by simp_all),if_pos (by omega)] at hr
   subst hr;exact⟨rfl,rfl⟩
 · trivial
 have hl8:l.length≤8:=by
  subst hI;simp only [nrmA,nrmB,nrlB,reduceCtorEq] at *;omega
 have hr1:txtL [] l w=r:=by
  subst hI;simp only [nrmA,nrmB,nrlB,reduceCtorEq] at *
  rw [if_neg (by simp_all),if_neg (by omega)] at hr
  exact hr
 clear hr
 refine lpH hI [sG,sF,wG,wF,xC,xB,zdh,zdg,zds,zdr,Wv,zdv,zgG,zgF] hX [1,4,18,19,20] (fun(g:Nat × Str)=>match g with|(i,a)=>i≤l.length∧txtL (l.take i) (l.drop i) a=r∧a.length≤100000+i * 300100) (fun(g:Nat × Str)=>match g with|(i,a)=>⟨[(1,.v (.one (.ptr 0 0))),(4,.v (.one (.p (.str a)))),(18,.v (.one (.p (.list .fld l)))),(19,.v (.one (.p (.int .i64 ((I.len (α:=Fld) l)))))),(20,.v (.one (.p (.int .i64 i))))],[.pack [.obj 73 [.p (.str w),.p (.list .fld l)]]],62,none⟩) (fun(g:Nat × Str)=>match g with|(i,a)=>l.length - i) (0,w) (by kernel_rfl) (by kernel_rfl) ?_ ?_
 · exact⟨jL _,hr1,by omega⟩
 rintro⟨i,a⟩ ⟨h1,h2,h3⟩ A hA
 refine orcL ?_;go_invoke;refine orcS (by kernel_rfl) ?_
 simp only [zJ,Nat.reduceAdd];subst hI;simp only [nrmA,nrmB,nrlB,reduceCtorEq,HO.pack.injEq,HO.obj.injEq]
 have hx:i<l.length→l.getD i ⟨[],[]⟩ ∈ l:=fun h=>by rw [show l.getD i ⟨[],[]⟩=l[i] by simp [h]];exact List.getElem_mem h
 have hff:=fun h=>hf _ (hx h);have hx2:=fun(h:i<l.length)=>(zkx h ⟨[],[]⟩ a).symm.trans h2
 have hend: ¬ i<l.length→(a,(0:Int))=r:=fun h=>by rw [← h2,jE (by omega)];rfl
 have hta:(l.take i).length≤8:=by rw [jq];omega
 have hmo:=fun(h:i<l.length) (b:Str) e k=>hA (i+1,a++b) ⟨by show i+1≤l.length;omega,e,k⟩ (by show l.length - (i+1)<l.length - i;omega)
 simp only [Int.natCast_add,Int.natCast_one] at hmo;generalize l.getD i ⟨[],[]⟩=f at *;clear hA hx hf;have hq:=RD f.value
 have hno:xk f.name=true→lowS f.name=f.name→¬ (xk f.name=false∨lowS f.name≠f.name):=fun e1 e2=>by rintro(e|e);rw [e1] at e;cases e;exact e e2
 have hbl:(quoM f.value).length≤200002→f.name.length≤100000→([59,32]++f.name++[61]++quoM f.value).length≤300100:=fun _ _=>by simp only [jg,je,jf];omega
 (repeat' (first|refine ja ?_ ?_|intro _))<;>first|omega|exact jb|exact jc ‹False›|skip
 all_goals first
  |(have h9:=hend (by omega);subst h9;rfl)
  | (have h8 :=hff (by omega);first
   |omega
   |(simp only [jg,je,jf];omega)
   |(have h9:=hx2 (by omega);first
    |(rw [if_pos (.inl ‹_›)] at h9;subst h9;rfl)
    |(rw [if_pos (.inr ‹_›)] at h9;subst h9;rfl)
    |(rw [if_neg (hno ‹_› ‹_›),if_pos ‹_›] at h9;subst h9;rfl)
    |(rw [if_neg (hno ‹_› ‹_›),if_neg (by rw [‹hasP (List.take i l) f.name=false›];decide),if_pos ‹_›] at h9;subst h9;rfl)
    | (rw [if_neg (hno ‹_› ‹_›),if_neg (by rw [‹hasP (List.take i l) f.name=false›];decide),if_neg (by rw [‹yG f.value=true›];decide)] at h9
       have hb:=hbl (by omega) (by omega)
       exact hmo (by omega) _ h9 (by rw [jg];omega))))
  |omega
def zi8:Know Tryz.prog:=⟨26,Wy,zdx⟩
def zi7:Know Tryz.prog:=⟨26,fun I=>zT I (Wy I),zi zdx⟩
end Go.Proofs.YtjdbannldbgpeaaGreatDoor
namespace Go.Proofs.YtjdbannldbgpeaaGreatDoor
open Go Go.Sep Go.Ab
set_option maxRecDepth 100000
def WB (I:Alg):KU
 |[.v (.agg [.p (.str n),.p (.str f),.p (.str t),.p (.list .byte b)])],[]=>(fun(n f t b:Str)=>(some (.one ⟨I.hid ((n.length≤10000∧f.length≤10000)∧t.length≤10000),(.ret (.tup [.one (.row 0),.one (.p (.int .i64 (I.hid ((xJ ⟨n,f,t,b⟩).2))))])),[.row .fld 53 (I.hid ((xJ ⟨n,f,t,b⟩).1))]⟩):Option CT)) n f t b
 |_,_=>none
set_option maxHeartbeats 4000000 in
theorem zdA:zO Tryz.prog 15 (WB alg):=by
 intro args hp r h;unfold WB at h;split at h<;>cases h
 rename_i n f t b;simp only [CT.Good,zI];intro hneed;obtain⟨⟨hn,hf⟩,ht⟩:=hneed
 have d0:f=[]→Xd [102,111,114,109,45,100,97,116,97] [⟨[110,97,109,101],n⟩]=uz ⟨n,f,t,b⟩:=fun e=>by unfold uz Xn;rw [if_pos (show(Prt.mk n f t b).file=[] from e)];rfl
 have d1: ¬ f=[]→Xd [102,111,114,109,45,100,97,116,97] ([⟨[110,97,109,101],n⟩]++[⟨[102,105,108,101,110,97,109,101],f⟩])=uz ⟨n,f,t,b⟩:=fun e=>by unfold uz Xn;rw [if_neg (show ¬ (Prt.mk n f t b).file=[] from e)];rfl
 have hs0: ∀ x ∈ [(⟨[110,97,109,101],n⟩:Fld)],x.name.length≤100000∧x.value.length≤100000:=fun x h=>by rw [List.mem_singleton.1 h];exact⟨by show 4≤100000;omega,by show n.length≤100000;omega⟩
 have hs1: ∀ x ∈ [(⟨[110,97,109,101],n⟩:Fld)]++[⟨[102,105,108,101,110,97,109,101],f⟩],x.name.length≤100000∧x.value.length≤100000:=fun x h=>by
  rcases List.mem_append.1 h with h|h
  · exact hs0 x h
  · rw [List.mem_singleton.1 h];exact⟨by show 8≤100000;omega,by show f.length≤100000;omega⟩
 generalize hr:xJ ⟨n,f,t,b⟩=r;have hh:(f=[]∨Xg f=f)→¬ (f≠[]∧Xg f≠f):=fun k ⟨e1,e2⟩=>k.elim e1 e2
 have g1: ¬ f=[]→¬ Xg f=f→[]=r.1∧(6:Int)=r.2:=fun k1 k2=>by
  rw [← hr];unfold xJ;rw [if_pos (show(Prt.mk n f t b).file≠[]∧_ from⟨k1,k2⟩)];exact⟨rfl,rfl⟩
 have g2:(f=[]∨Xg f=f)→¬ (uz ⟨n,f,t,b⟩).2=0→[]=r.1∧(uz ⟨n,f,t,b⟩).2=r.2:=fun k e=>by
  rw [← hr];unfold xJ;rw [if_neg (hh k),if_pos e];exact⟨rfl,rfl⟩
 have g3:(f=[]∨Xg f=f)→(uz ⟨n,f,t,b⟩).2=0→t=[]→[(⟨[67,111,110,116,101,110,116,45,68,105,115,112,111,115,105,116,105,111,110],(uz ⟨n,f,t,b⟩).1⟩:Fld)]=r.1∧(0:Int)=r.2:=fun k e k2=>by
  rw [← hr];unfold xJ;rw [if_neg (hh k),if_neg (fun q=>q e),if_pos (show(Prt.mk n f t b).type=[] from k2)];exact⟨rfl,rfl⟩
 have g4:(f=[]∨Xg f=f)→(uz ⟨n,f,t,b⟩).2=0→¬ t=[]→[(⟨[67,111,110,116,101,110,116,45,68,105,115,112,111,115,105,116,105,111,110],(uz ⟨n,f,t,b⟩).1⟩:Fld)]++[⟨[67,111,110,116,101,110,116,45,84,121,112,101],t⟩]=r.1∧(0:Int)=r.2:=fun k e k2=>by
  rw [← hr];unfold xJ;rw [if_neg (hh k),if_neg (fun q=>q e),if_neg (show ¬ (Prt.mk n f t b).type=[] from k2)];exact⟨rfl,rfl⟩
 clear hr hh;generalize uz ⟨n,f,t,b⟩=d at *
 refine spH Tryz.func15 (by kernel_rfl) { keep:=some [0,1,2,3,4,5,6,7]} [zeg,zef,zi8,zi7] (by kernel_rfl) ?_
 intro I X hI hX
 refine orcL ?_;go_invoke;refine orcS (by kernel_rfl) ?_
 simp only [zJ,Nat.reduceAdd]
 (repeat' (first|refine ja ?_ ?_|intro _))
 all_goals try(subst hI;(simp only [nrmA,nrmB,nrlB,reduceCtorEq] at *);first
  |(first|done|exact jb|omega|(simp only [je,jf];omega)|exact(g1 ‹_› ‹_›).1|exact(g2 (.inl ‹_›) ‹_›).1|exact(g3 (.inl ‹_›) ‹_› ‹_›).1|exact(g4 (.inl ‹_›) ‹_› ‹_›).1|exact(g2 (.inr ‹_›) ‹_›).1|exact(g3 (.inr ‹_›) ‹_› ‹_›).1|exact(g4 (.inr ‹_›) ‹_› ‹_›).1|exact(g1 ‹_› ‹_›).2|exact(g2 (.inl ‹_›) ‹_›).2|exact(g3 (.inl ‹_›) ‹_› ‹_›).2|exact(g4 (.inl ‹_›) ‹_› ‹_›).2|exact(g2 (.inr ‹_›) ‹_›).2|exact(g3 (.inr ‹_›) ‹_› ‹_›).2|exact(g4 (.inr ‹_›) ‹_› ‹_›).2)
  |exact⟨⟨by decide,by simp⟩,hs0⟩
  |exact⟨⟨by decide,by simp⟩,hs1⟩
  |(have q:=d0 ‹_›;simp only [q] at *;(first|done|exact jb|omega|(simp only [je,jf];omega)|exact(g1 ‹_› ‹_›).1|exact(g2 (.inl ‹_›) ‹_›).1|exact(g3 (.inl ‹_›) ‹_› ‹_›).1|exact(g4 (.inl ‹_›) ‹_› ‹_›).1|exact(g2 (.inr ‹_›) ‹_›).1|exact(g3 (.inr ‹_›) ‹_› ‹_›).1|exact(g4 (.inr ‹_›) ‹_› ‹_›).1|exact(g1 ‹_› ‹_›).2|exact(g2 (.inl ‹_›) ‹_›).2|exact(g3 (.inl ‹_›) ‹_› ‹_›).2|exact(g4 (.inl ‹_›) ‹_› ‹_›).2|exact(g2 (.inr ‹_›) ‹_›).2|exact(g3 (.inr ‹_›) ‹_› ‹_›).2|exact(g4 (.inr ‹_›) ‹_› ‹_›).2))
  |(have q:=d1 ‹_›;simp only [q] at *;(first|done|exact jb|omega|(simp only [je,jf];omega)|exact(g1 ‹_› ‹_›).1|exact(g2 (.inl ‹_›) ‹_›).1|exact(g3 (.inl ‹_›) ‹_› ‹_›).1|exact(g4 (.inl ‹_›) ‹_› ‹_›).1|exact(g2 (.inr ‹_›) ‹_›).1|exact(g3 (.inr ‹_›) ‹_› ‹_›).1|exact(g4 (.inr ‹_›) ‹_› ‹_›).1|exact(g1 ‹_› ‹_›).2|exact(g2 (.inl ‹_›) ‹_›).2|exact(g3 (.inl ‹_›) ‹_› ‹_›).2|exact(g4 (.inl ‹_›) ‹_› ‹_›).2|exact(g2 (.inr ‹_›) ‹_›).2|exact(g3 (.inr ‹_›) ‹_› ‹_›).2|exact(g4 (.inr ‹_›) ‹_› ‹_›).2)))
 all_goals trace_state
def RY:Know Tryz.prog:=⟨15,WB,zdA⟩
def RX:Know Tryz.prog:=⟨15,fun I=>zT I (WB I),zi zdA⟩
end Go.Proofs.YtjdbannldbgpeaaGreatDoor
namespace Go.Proofs.YtjdbannldbgpeaaGreatDoor
open Go Go.Sep Go.Ab
set_option maxRecDepth 100000
theorem zjt {p:Prt} (hn:p.name.length≤10000) (hf:p.file.length≤10000) (ht:p.type.length≤10000):(xJ p).1.length≤2∧∀ x ∈ (xJ p).1,x.name.length≤100∧x.value.length≤70000:=by
 have h6:=zk1 hn hf;have h7:=zfW (w:=fdW) h6.1 h6.2;have h8:fdW.length=9:=rfl;have h9:cdS.length=19:=rfl;have h10:ctS.length=12:=rfl
 have hd:(uz p).1.length≤70000:=by unfold uz;omega
 unfold xJ
 split
 · exact⟨by simp,fun x h=>by cases h⟩
 split
 · exact⟨by simp,fun x h=>by cases h⟩
 · refine⟨by simp only [je];split<;>simp,fun x h=> ?_⟩
   rcases List.mem_cons.1 h with rfl|h
   · exact⟨by show cdS.length≤_;omega,hd⟩
   · split at h
     · cases h
     · rw [List.mem_singleton.1 h];exact⟨by show ctS.length≤_;omega,by show p.type.length≤_;omega⟩
set_option maxHeartbeats 4000000 in
theorem zgu (b:Str) (l:List Prt) (hneed:b.length≤1000∧∀ p ∈ l,(p.name.length≤10000∧p.file.length≤10000)∧p.type.length≤10000∧p.bytes.length≤10000):Spc Tryz.prog 6 [.v (.one (.p (.str b))),.v (.one (.p (.list .prw l)))] [] (.ret (.tup [.one (.row 0),.one (.p (.int .i64 ((xX b l).2)))])) [.row .byte 5 ((xX b l).1)]:=by
 obtain⟨hb,hp⟩:=hneed;generalize hr:xX b l=r;unfold xX at hr
 have m1:wH b=false→[]=r.1∧(5:Int)=r.2:=fun e=>by rw [if_pos e] at hr;subst hr;exact⟨rfl,rfl⟩
 have m2:wH b=true→(12:Int)<l.length→[]=r.1∧(8:Int)=r.2:=fun e h=>by rw [if_neg (by rw [e];decide),if_pos (by omega)] at hr;subst hr;exact⟨rfl,rfl⟩
 have m3:wH b=true→¬ (12:Int)<l.length→wV b l []=r∧l.length≤12:=fun e h=>by rw [if_neg (by rw [e];decide),if_neg (by omega)] at hr;exact⟨hr,by omega⟩
 clear hr
 refine spH Tryz.func6 (by kernel_rfl) { nr:=[7],keep:=some [0,1,4,5,6,7,9,10,11,13,14,15,24,25,26,51,52,53]} [zbS,zbR,YT,YS,ZM,ZL,RY,RX] (by kernel_rfl) ?_
 intro I X hI hX
 refine orcL ?_;go_invoke;refine orcS (by kernel_rfl) ?_
 simp only [zJ,Nat.reduceAdd]
 (repeat' (first|refine ja ?_ ?_|intro _))
 all_goals try(subst hI;(simp only [nrmA,nrmB,nrlB,reduceCtorEq] at *);first
  |done
  |exact jb
  |omega
  |(simp only [je,jf];omega)
  |exact(m1 ‹_›).2
  |exact(m1 ‹_›).1
  |exact(m2 ‹_› ‹_›).2
  |exact(m2 ‹_› ‹_›).1)
 have hm3:wV b l []=r∧l.length≤12:=by
  subst hI;simp only [nrmA,nrmB,nrlB,reduceCtorEq] at *;exact m3 ‹_› ‹_›
 obtain⟨hr1,hl8⟩:=hm3;clear m1 m2 m3
 rw [show I.app (α:=UInt8) [45,45] b=[45,45]++b by subst hI;rfl]
 have hmk:([45,45]++b).length≤1002:=by simp only [jg,je,jf];omega
 refine lpH hI [zbS,zbR,YT,YS,ZM,ZL,RY,RX] hX [6,7,24,25,26] (fun(g:Nat × Str)=>match g with|(i,a)=>i≤l.length∧wV b (l.drop i) a=r∧a.length≤i * 100000) (fun(g:Nat × Str)=>match g with|(i,a)=>⟨[(6,.v (.one (.p (.str (([45,45]++b)))))),(7,.v (.one (.row 0))),(24,.v (.one (.p (.list .prw l)))),(25,.v (.one (.p (.int .i64 ((I.len (α:=Prt) l)))))),(26,.v (.one (.p (.int .i64 i))))],[.row .byte 5 a],83,none⟩) (fun(g:Nat × Str)=>match g with|(i,a)=>l.length - i) (0,[]) (by kernel_rfl) (by kernel_rfl) ?_ ?_
 · exact⟨jL _,hr1,by simp⟩
 rintro⟨i,a⟩ ⟨h1,h2,h3⟩ A hA
 have hx:i<l.length→l.getD i ⟨[],[],[],[]⟩ ∈ l:=fun h=>by rw [show l.getD i ⟨[],[],[],[]⟩=l[i] by simp [h]];exact List.getElem_mem h
 have hpp:=fun h=>hp _ (hx h);have hx2:=fun(h:i<l.length)=>(zfJ h ⟨[],[],[],[]⟩ a).symm.trans h2
 have hend: ¬ i<l.length→a++([45,45]++b++[45,45,13,10])=r.1∧(0:Int)=r.2:=fun h=>by
  rw [jE (by omega)] at h2
  subst h2;exact⟨rfl,rfl⟩
 have hA2:=fun(h:i<l.length) (c:Str) (e:wV b (l.drop (i+1)) c=r) (k:c.length≤(i+1) * 100000)=>hA (i+1,c) ⟨by show i+1≤l.length;omega,e,k⟩ (by show l.length - (i+1)<l.length - i;omega)
 simp only [Int.natCast_add,Int.natCast_one] at hA2
 have hgi:I.get (α:=Prt) l ⟨[],[],[],[]⟩ (i:Int)=l.getD i ⟨[],[],[],[]⟩:=by subst hI;rfl
 have hgi2:I.get (α:=Prt) l (dflt U.prw) (i:Int)=l.getD i ⟨[],[],[],[]⟩:=by subst hI;rfl
 clear hA hx hp h2
 refine orcL ?_;go_invoke;refine orcS (by kernel_rfl) ?_
 simp only [zJ,Nat.reduceAdd];simp only [hgi,hgi2];clear hgi hgi2;generalize l.getD i ⟨[],[],[],[]⟩=p at *;obtain⟨n,f,t,y⟩:=p;simp only [] at hpp
 have hh1:I.hid (xJ ⟨n,f,t,y⟩).1=(xJ ⟨n,f,t,y⟩).1:=by subst hI;rfl
 have ha1:I.app (α:=UInt8) a (I.app (α:=UInt8) ([45,45]++b) [13,10])=a++([45,45]++b++[13,10]):=by subst hI;rfl
 simp only [hh1,ha1];clear hh1 ha1;have hcl:Us b ⟨n,f,t,y⟩=Lib.contains ([13,10]++y) ([13,10]++([45,45]++b)):=rfl;rw [hcl] at hx2;clear hcl;have hql:=fun(h:i<l.length)=>zjt (p:=⟨n,f,t,y⟩) (hpp h).1.1 (hpp h).1.2 (hpp h).2.1;generalize xJ ⟨n,f,t,y⟩=q at *;generalize hz:wB q.1 (a++([45,45]++b++[13,10]))=z at *
 have o1:i<l.length→Lib.contains ([13,10]++y) ([13,10]++([45,45]++b))=true→[]=r.1∧(15:Int)=r.2:=fun h e=>by
  have h9:=hx2 h;rw [if_pos e] at h9;subst h9;exact⟨rfl,rfl⟩
 have o2:i<l.length→Lib.contains ([13,10]++y) ([13,10]++([45,45]++b))=false→¬ q.2=0→[]=r.1∧q.2=r.2:=fun h e k=>by
  have h9:=hx2 h
  rw [if_neg (by rw [e];decide),if_pos k] at h9;subst h9;exact⟨rfl,rfl⟩
 have o3:i<l.length→Lib.contains ([13,10]++y) ([13,10]++([45,45]++b))=false→q.2=0→(if z.2≠0 then([],z.2) else wV b (l.drop (i+1)) (z.1++[13,10]++y++[13,10]))=r:=fun h e k=>by
  have h9:=hx2 h
  rwa [if_neg (by rw [e];decide),if_neg (fun j=>j k)] at h9
 clear hx2
 (repeat' (first|refine ja ?_ ?_|intro _))
 all_goals try(subst hI;(simp only [nrmA,nrmB,nrlB,reduceCtorEq] at *);first
  |done
  |exact jb
  |omega
  |(simp only [jg,je,jf];omega)
  |exact(hend (by omega)).1
  |exact(hend (by omega)).2
  |exact(o1 (by omega) ‹_›).1
  |exact(o1 (by omega) ‹_›).2
  |exact(o2 (by omega) ‹_› ‹_›).1
  |exact(o2 (by omega) ‹_› ‹_›).2
  | (have hpl:=hpp (by omega);first
    |omega
    |(simp only [jg,je,jf];omega)
    |exact⟨⟨by simp,by simp only [jg,je,jf];omega⟩,by simp,by simp only [jg,je,jf];omega⟩))
 have hfacts:i<l.length∧Lib.contains ([13,10]++y) ([13,10]++([45,45]++b))=false∧q.2=0:=by
  subst hI;simp only [nrmA,nrmB,nrlB,reduceCtorEq] at *
  exact⟨by omega,‹_›,‹_›⟩
 obtain⟨hil,hcf,hq0⟩:=hfacts;have hx4:=o3 hil hcf hq0;have hpl:=hpp hil;have hqb:=hql hil;have hA3:=hA2 hil;clear o1 o2 o3 hpp hql hA2 hend
 have hn0:([45,45]++b++[13,10]).length≤1010:=by simp only [jg,je,jf] at hmk ⊢;omega
 have ha0:(a++([45,45]++b++[13,10])).length≤i * 100000+1010:=by rw [jg];omega
 generalize a++([45,45]++b++[13,10])=a0 at *
 refine lpH hI [zbS,zbR,YT,YS,ZM,ZL,RY,RX] hX [6,7,9,24,25,26,51,52,53] (fun(g:Nat × Str)=>match g with|(k,c)=>k≤q.1.length∧wB (q.1.drop k) c=z∧c.length≤i * 100000+1010+k * 210) (fun(g:Nat × Str)=>match g with|(k,c)=>⟨[(6,.v (.one (.p (.str (([45,45]++b)))))),(7,.v (.one (.row 0))),(9,.v (.one (.ptr 1 0))),(24,.v (.one (.p (.list .prw l)))),(25,.v (.one (.p (.int .i64 ((I.len (α:=Prt) l)))))),(26,.v (.one (.p (.int .i64 i)))),(51,.v (.one (.row 2))),(52,.v (.one (.p (.int .i64 ((I.len (α:=Fld) q.1)))))),(53,.v (.one (.p (.int .i64 k))))],[.row .byte 5 c,.pack [.obj 43 [.p (.str n),.p (.str f),.p (.str t),.p (.list .byte y)]],.row .fld 53 q.1],83,none⟩) (fun(g:Nat × Str)=>match g with|(k,c)=>q.1.length - k) (0,a0) (by kernel_rfl) (by kernel_rfl) ?_ ?_
 · exact⟨jL _,hz,by omega⟩
 rintro⟨k,c⟩ ⟨g1,g2,g3⟩ B hB
 have hxk:k<q.1.length→q.1.getD k ⟨[],[]⟩ ∈ q.1:=fun h=>by rw [show q.1.getD k ⟨[],[]⟩=q.1[k] by simp [h]];exact List.getElem_mem h
 have hpk:=fun h=>hqb.2 _ (hxk h);have hs:=fun(h:k<q.1.length)=>(zg7 h ⟨[],[]⟩ c).symm.trans g2
 have e4: ¬ k<q.1.length→wV b (l.drop (i+1)) (c++[13,10]++y++[13,10])=r:=fun h=>by
  rw [jE (by omega)] at g2
  have h9:(c,(0:Int))=z:=g2;have h8:=hx4;rw [← h9,if_neg (fun j=>j rfl)] at h8;exact h8
 have hB2:=fun(h:k<q.1.length) (c':Str) (e:wB (q.1.drop (k+1)) c'=z) (j:c'.length≤i * 100000+1010+(k+1) * 210)=>hB (k+1,c') ⟨by show k+1≤q.1.length;omega,e,j⟩ (by show q.1.length - (k+1)<q.1.length - k;omega)
 simp only [Int.natCast_add,Int.natCast_one] at hB2
 have hgk:I.get (α:=Fld) q.1 ⟨[],[]⟩ (k:Int)=q.1.getD k ⟨[],[]⟩:=by subst hI;rfl
 have hgk2:I.get (α:=Fld) q.1 (dflt U.fld) (k:Int)=q.1.getD k ⟨[],[]⟩:=by subst hI;rfl
 clear hB hxk g2 hz
 refine orcL ?_;go_invoke;refine orcS (by kernel_rfl) ?_
 simp only [zJ,Nat.reduceAdd];simp only [hgk,hgk2];clear hgk hgk2;generalize q.1.getD k ⟨[],[]⟩=x at *;obtain⟨xn,xv⟩:=x;simp only [] at hpk;have htl:=zc3 ⟨xn,xv⟩;generalize textF ⟨xn,xv⟩=T at *
 have e1:k<q.1.length→¬ T.2=0→[]=r.1∧T.2=r.2:=fun h e=>by
  have h9:=hs h;rw [if_pos e] at h9;have h8:=hx4;rw [← h9,if_pos e] at h8;subst h8;exact⟨rfl,rfl⟩
 have e2:k<q.1.length→T.2=0→wB (q.1.drop (k+1)) (c++(T.1++[13,10]))=z:=fun h e=>by
  have h9:=hs h
  rwa [if_neg (fun j=>j e)] at h9
 clear hs
 (repeat' (first|refine ja ?_ ?_|intro _))
 all_goals try(subst hI;(simp only [nrmA,nrmB,nrlB,reduceCtorEq] at *);first
  |done
  |exact jb
  |omega
  |(simp only [jg,je,jf];omega)
  |exact(e1 (by omega) ‹_›).1
  |exact(e1 (by omega) ‹_›).2
  |(have hp9:=hpk (by omega);exact⟨by omega,by omega⟩)
  |(refine hB2 (by omega) _ (e2 (by omega) ‹_›) ?_;simp only [jg,je,jf];omega)
  |(refine hA3 _ (e4 (by omega)) ?_;simp only [jg,je,jf];omega))
 all_goals trace_state
def Yv (I:Alg):KU
 |[.v (.one (.p (.str b))),.v (.one (.p (.list .prw l)))],[]=>(fun(b:Str) (l:List Prt)=>(some (.one ⟨I.hid (b.length≤1000∧∀ p ∈ l,(p.name.length≤10000∧p.file.length≤10000)∧p.type.length≤10000∧p.bytes.length≤10000),(.ret (.tup [.one (.row 0),.one (.p (.int .i64 (I.hid ((xX b l).2))))])),[.row .byte 5 (I.hid ((xX b l).1))]⟩):Option CT)) b l
 |_,_=>none
theorem zau:zO Tryz.prog 6 (Yv alg):=by
 intro args hp r h;unfold Yv at h
 split at h
 · cases h;exact fun hn=>zgu _ _ hn
 · cases h
def Yu:Know Tryz.prog:=⟨6,Yv,zau⟩
def Yt:Know Tryz.prog:=⟨6,fun I=>zT I (Yv I),zi zau⟩
end Go.Proofs.YtjdbannldbgpeaaGreatDoor
namespace Go.Proofs.YtjdbannldbgpeaaGreatDoor
open Go Go.Sep Go.Ab
set_option maxRecDepth 100000
theorem zmd {S:Frz} {l:List Prt} {v:Value} (h:MP S (.list .prt l) v):MP S (.list .prw l) v:=by
 cases h with
 | list u l ao cap vs hlen hr hx=>
   refine .list .prw l ao cap vs hlen hr fun i x j p v hi hj hv=> ?_
   rcases j with _|_|_|_|j
   · exact hx i x 0 p v hi hj hv
   · exact hx i x 1 p v hi hj hv
   · exact hx i x 2 p v hi hj hv
   · cases hj
     have:=hx i x 3 _ v hi rfl hv
     cases this with
     |nl _ _ _ h=>exact h
   · cases hj
def qR (I:Alg):KU
 |[.v (.one (.p (.str b))),.v (.one (.p (.list .prt l)))],[]=>(fun(b:Str) (l:List Prt)=>(some (.one ⟨I.hid (b.length≤1000∧∀ p ∈ l,(p.name.length≤10000∧p.file.length≤10000)∧p.type.length≤10000∧p.bytes.length≤10000),(.ret (.tup [.one (.row 0),.one (.p (.int .i64 (I.hid ((xX b l).2))))])),[.row .byte 5 (I.hid ((xX b l).1))]⟩):Option CT)) b l
 |_,_=>none
theorem U8:zO Tryz.prog 6 (qR alg):=by
 intro args hp r h;unfold qR at h;split at h<;>cases h
 rename_i b l
 revert l;intro(l:List Prt)
 simp only [CT.Good,zI];intro hneed;obtain⟨h1,h2⟩:=zgu b l hneed;refine⟨h1,fun S K fr w vs hr hm hat=>h2 S K fr w vs hr ?_ hat⟩
 match vs,hm with
 |[v1,v2],hm=>exact⟨hm.1,zmd hm.2.1,hm.2.2⟩
def qQ:Know Tryz.prog:=⟨6,qR,U8⟩
def qP:Know Tryz.prog:=⟨6,fun I=>zT I (qR I),zi U8⟩
def sV (I:Alg):KU
 |[],[]=>some (.one ⟨I.hid (True),(.ret (.v (.one (.p (.bool true))))),[]⟩)
 |_,_=>none
theorem VA:zO Tryz.prog 4 (sV alg):=by
 intro args hp r h;unfold sV at h;split at h<;>cases h
 simp only [CT.Good,zI];intro _
 refine spH Tryz.func4 (by kernel_rfl) { keep:=some [0,1,2]} [Yu,Yt,qQ,qP] (by kernel_rfl) ?_
 intro I X hI hX
 refine orcL ?_;go_invoke;refine orcS (by kernel_rfl) ?_
 simp only [zJ,Nat.reduceAdd];subst hI;simp only [nrmA,nrmB,nrlB,reduceCtorEq]
 first|decide+kernel|trace_state
def ZF:Know Tryz.prog:=⟨4,sV,VA⟩
def ZE:Know Tryz.prog:=⟨4,fun I=>zT I (sV I),zi VA⟩
end Go.Proofs.YtjdbannldbgpeaaGreatDoor
namespace Go.Proofs.YtjdbannldbgpeaaGreatDoor
open Go Go.Sep Go.Ab
set_option maxRecDepth 100000
def pcK (n:Nat) (c:Int):Nat:=((c % 18446744073709551616) % ((n:Int)+1)).toNat
theorem zlW (n:Nat) (c:Int):pcK n c≤n:=by
 unfold pcK
 have:=Int.emod_lt_of_pos (c % 18446744073709551616) (show(0:Int)<(n:Int)+1 by omega)
 omega
def pcs:Str→List Int→List Str
 |b,[]=>[b]
 |b,c::r=>b.take (pcK b.length c)::pcs (b.drop (pcK b.length c)) r
theorem zdn: ∀ (cs:List Int) (b:Str),(pcs b cs).flatten=b
 |[],b=>by simp [pcs]
 |c::r,b=>by simp [pcs,zdn r]
theorem zgn: ∀ (cs:List Int) (b:Str),(pcs b cs).length=cs.length+1
 |[],b=>rfl
 |c::r,b=>by simp [pcs,zgn r]
theorem pcW (c:Int) {n k:Nat} (h:k≤n) (hn:n≤1000000):IntKind.i64.wrap ((IntKind.u64.wrap c).tmod (IntKind.u64.wrap ((n:Int) - k+1)))=(pcK (n - k) c:Int):=by
 have e1:IntKind.u64.wrap c=c % 18446744073709551616:=by simp [IntKind.wrap_u64]
 have e2:IntKind.u64.wrap ((n:Int) - k+1)=((n - k:Nat):Int)+1:=by rw [IntKind.wrap_u64];omega
 rw [e1,e2,Int.tmod_eq_emod_of_nonneg (by omega)]
 unfold pcK
 have h1:=Int.emod_lt_of_pos (c % 18446744073709551616) (show(0:Int)<((n - k:Nat):Int)+1 by omega)
 have h2:=Int.emod_nonneg (c % 18446744073709551616) (show((n - k:Nat):Int)+1≠0 by omega)
 generalize c % 18446744073709551616 % (((n - k:Nat):Int)+1)=z at *;rw [IntKind.wrap_i64];omega
theorem pcU {n k:Nat} (h:k≤n) (hn:n≤1000000): ¬ IntKind.u64.wrap ((n:Int) - k+1)=0:=by rw [IntKind.wrap_u64];omega
def Yq (I:Alg):KU
 |[.v (.one (.p (.list .byte b))),.v (.one (.p (.list .int cs)))],[]=>(fun(b:Str) (cs:List Int)=>(some (.one ⟨I.hid (cs.length≤1000000∧b.length≤1000000),(.ret (.v (.one (.row 0)))),[.row .bytes 26 (I.hid (pcs b cs))]⟩):Option CT)) b cs
 |_,_=>none
theorem zaq:zO Tryz.prog 10 (Yq alg):=by
 intro args hp r h;unfold Yq at h;split at h<;>cases h
 rename_i b cs
 revert cs;intro(cs:List Int)
 simp only [CT.Good,zI];intro hneed
 refine spH Tryz.func10 (by kernel_rfl) { nr:=[5],keep:=some [0,1,4,5,6,7,8]} [] (by kernel_rfl) ?_
 intro I X hI hX
 refine orcL ?_;go_invoke;refine orcS (by kernel_rfl) ?_
 simp only [zJ,Nat.reduceAdd]
 refine lpH hI [] hX [0,1,5,6,7] (fun(g:Nat × Nat × List Str)=>match g with|(i,k,o)=>i≤cs.length∧k≤b.length∧o.length=i∧pcs b cs=o++pcs (b.drop k) (cs.drop i)) (fun(g:Nat × Nat × List Str)=>match g with|(i,k,o)=>⟨[(0,.v (.one (.p (.list .byte b)))),(1,.v (.one (.p (.list .int cs)))),(5,.v (.one (.row 0))),(6,.v (.one (.p (.int .i64 k)))),(7,.v (.one (.p (.int .i64 i))))],[.row .bytes 26 o],44,none⟩) (fun(g:Nat × Nat × List Str)=>match g with|(i,k,o)=>cs.length - i) (0,0,[]) (by kernel_rfl) (by kernel_rfl) ?_ ?_
 · exact⟨jL _,jL _,rfl,rfl⟩
 rintro⟨i,k,o⟩ ⟨h1,h2,h3,h4⟩ A hA;simp only at hA h1 h2 h3 h4
 refine orcL ?_;go_invoke;refine orcS (by kernel_rfl) ?_
 simp only [zJ,Nat.reduceAdd];subst hI;simp only [nrmA,nrmB,nrlB,reduceCtorEq];have hU:=pcU h2 hneed.2;have hK:=zlW (b.length - k) (cs.getD i 0);have hW:=pcW (cs.getD i 0) h2 hneed.2;rw [hW]
 have hgo:i<cs.length→_:=fun h=>hA (i+1,k+pcK (b.length - k) (cs.getD i 0),o++[(b.drop k).take (pcK (b.length - k) (cs.getD i 0))]) ⟨by simp only;omega,by simp only;omega,by simp [h3],by simp only;rw [h4,show cs.drop i=cs.getD i 0::cs.drop (i+1) by rw [jD h];simp [h]];simp [pcs,List.drop_drop]⟩ (by simp only;omega)
 have hend: ¬ i<cs.length→pcs b cs=o++[b.drop k]:=fun h=>by rw [h4,jE (l:=cs) (by omega)];rfl
 have hte:(b.drop k).take (b.length - k)=b.drop k:=jl (by rw [jB];omega)
 have htk:((k:Int)+(pcK (b.length - k) (cs.getD i 0):Int)).toNat - k=pcK (b.length - k) (cs.getD i 0):=by omega
 rw [htk];generalize pcK (b.length - k) (cs.getD i 0)=z at *
 (repeat' (first|refine ja ?_ ?_|intro _))<;>first|omega|exact jb|exact jc ‹False›|skip
 all_goals first
  |omega
  |exact hU
  |(simp only [je,jf];omega)
  |exact hgo (by omega)
  |(rw [hend (by omega),hte])
def Vz:Know Tryz.prog:=⟨10,Yq,zaq⟩
def Vy:Know Tryz.prog:=⟨10,fun I=>zT I (Yq I),zi zaq⟩
end Go.Proofs.YtjdbannldbgpeaaGreatDoor
namespace Go.Proofs.YtjdbannldbgpeaaGreatDoor
open Go Go.Sep Go.Ab
set_option maxRecDepth 100000
theorem zlg (s:Str) (hneed:s.length≤140737488355328∧wH s=true):Spc Tryz.prog 9 [.v (.one (.p (.str s)))] [] (.ret (.tup [.one (.ptr 0 0),.one (.p (.int .i64 0))])) [.abs (.fm ((fm0 s)))]:=zhD s hneed
def YK (I:Alg):KU
 |[.v (.one (.p (.str s)))],[]=>(fun(s:Str)=>(some (.one ⟨I.hid (s.length≤140737488355328∧wH s=true),(.ret (.tup [.one (.ptr 0 0),.one (.p (.int .i64 0))])),[.abs (.fm (I.hid (fm0 s)))]⟩):Option CT)) s
 |_,_=>none
theorem zbc:zO Tryz.prog 9 (YK alg):=by
 intro args hp r h;unfold YK at h
 split at h
 · cases h;exact fun hn=>zlg _ hn
 · cases h
def V9:Know Tryz.prog:=⟨9,YK,zbc⟩
def V8:Know Tryz.prog:=⟨9,fun I=>zT I (YK I),zi zbc⟩
def cfgB:Cfg:= { cfgF with rn:=[13],rb:=5}
set_option maxHeartbeats 8000000 in
theorem pkBack_ (b:Str) (l:List Prt) (cs:List Int) (hneed:b.length≤140737488355328∧∀ f ∈ l,(f.name.length≤140737488355328∧f.file.length≤140737488355328)∧f.type.length≤140737488355328∧f.bytes.length≤140737488355328):Spc Tryz.prog 3 [.v (.one (.p (.str b))),.v (.one (.p (.list .prw l))),.v (.one (.p (.list .int cs)))] [] (.ret (.v (.one (.p (.bool true))))) []:=by
 obtain⟨hb0,hf0⟩:=hneed
 refine spH Tryz.func3 (by kernel_rfl) { cfgB with fz:=[7,8],keep:=some [0,1,2,6,7,8,9,10,11,13,14,15,16,17]} [sJ,sH,Zg,Zf,ug,uf,V9,V8,VW,VU,Qq,Qp,qj,qi,Vp,Vo,Yu,Yt,qQ,qP,ZF,ZE,Vz,Vy] (by kernel_rfl) ?_
 intro I X hI hX
 refine orcL ?_;go_invoke;refine orcS (by kernel_rfl) ?_
 simp only [zJ,Nat.reduceAdd]
 have hh: ∀ {α:Type} (y:α),I.hid y=y:=fun y=>by subst hI;rfl
 have hn: ∀ {x:Bool},I.bnot x=true↔x=false:=fun {x}=>by subst hI;cases x<;>simp [vX]
 have hn2: ∀ {x:Bool},I.bnot x=false↔x=true:=fun {x}=>by subst hI;cases x<;>simp [vX]
 have hb: ∀ {x:Int},I.ieq x 0=true↔x=0:=fun {x}=>by subst hI;rw [qI,beq_iff_eq]
 have hb2: ∀ {x:Int},I.ieq x 0=false↔x≠0:=fun {x}=>by subst hI;rw [qI,beq_eq_false_iff_ne]
 have hl1: ∀ {x y:Int},I.ilt x y=true↔x<y:=fun {x y}=>by subst hI;rw [XD,decide_eq_true_eq]
 have hl2: ∀ {x y:Int},I.ilt x y=false↔¬ x<y:=fun {x y}=>by subst hI;rw [XD,decide_eq_false_iff_not]
 have hle: ∀ {α:Type} (y:List α),I.len y=y.length:=fun y=>by subst hI;rfl
 simp only [hh,hn,hn2,hb,hb2,hl1,hl2,hle,decide_eq_true_eq,decide_eq_false_iff_not]
 refine⟨trivial,(fun h=>by cases h),fun _=>⟨hf0,fun _=>⟨trivial,trivial⟩,fun hg=>⟨fun _=>⟨trivial,trivial⟩,fun h300=>⟨fun _=>⟨trivial,trivial⟩,fun h50=>⟨⟨by omega,(zhk hg).2⟩,fun hc=>⟨?_,trivial⟩,fun hc=> ?_⟩⟩⟩⟩⟩
 · rw [zi6 hc,show I.ieq (([]:Str).length:Int) 0=true from by rw [hb];rfl]
 obtain⟨hT,h12⟩:=zb3 hc hg;have hr:=zgg hc;obtain⟨hm,hj,hcl⟩:=Yr hc
 have e1:(Ym b (xX b l).1).1=l:=by rw [hr]
 have e2:(Ym b (xX b l).1).2=0:=by rw [hr]
 rw [e1,e2];clear e1 e2 hr
 refine⟨⟨by omega,by omega⟩,(fun h=>absurd rfl h),fun _=>⟨⟨by omega,by omega⟩,(fun h=>absurd rfl h),fun _=>⟨⟨hb0,hm⟩,⟨by omega,by omega⟩,?_⟩⟩⟩
 have hf:=zdn cs (xX b l).1;have hpl:=zgn cs (xX b l).1;have hend:=fun(f:Fm) (al:List Evt) (h:FcI b (xX b l).1 (pcs (xX b l).1 cs) (pcs (xX b l).1 cs).length f al)=>zhQ h hf hc rfl
 have h70:b.length≤70:=by unfold wH at hm;simp at hm;omega
 have hI0:=zm1 h70 (xX b l).1 (pcs (xX b l).1 cs);generalize pcs (xX b l).1 cs=L at *;generalize(xX b l).1=T at *;generalize fm0 b=F0 at *
 refine lpH hI [sJ,sH,Zg,Zf,ug,uf,V9,V8,VW,VU,Qq,Qp,qj,qi,Vp,Vo,Yu,Yt,qQ,qP,ZF,ZE,Vz,Vy] hX [1,11,13,14,15] (fun(g:Nat × Fm × List Evt × List Prt)=>match g with|(i,f,al,g)=>FcI b T L i f al∧EvU al∧g=al.foldl prtS []) (fun(g:Nat × Fm × List Evt × List Prt)=>match g with|(i,f,al,g)=>⟨[(1,.v (.one (.p (.list .prw l)))),(11,.v (.one (.ptr 0 0))),(13,.v (.one (.row 1))),(14,.v (.one (.row 2))),(15,.v (.one (.p (.int .i64 i))))],[.abs (.fm f),.rws .prw 43 5 g none,.row .bytes 26 L],135,none⟩) (fun(g:Nat × Fm × List Evt × List Prt)=>match g with|(i,f,al,g)=>L.length - i) (0,F0,[],[]) (by kernel_rfl) (by kernel_rfl) ?_ ?_
 · exact⟨hI0,(fun e m=>by cases m),rfl⟩
 rintro⟨i,f,al,g⟩ ⟨h1,h2,h3⟩ A hA;simp only at hA h1 h2 h3
 refine orcL ?_;go_invoke;refine orcS (by kernel_rfl) ?_
 simp only [zJ,Nat.reduceAdd]
 have e1:I.get L ([]:Str) (i:Int)=L.getD i []:=by subst hI;rfl
 have hin:i<L.length→I.inb (i:Int) (L.length:Int):=fun h=>by subst hI;exact⟨by omega,by omega⟩
 simp only [hh,hl1,hl2,hle,hb,hb2,e1];refine And.symm ⟨fun hge=> ?_,fun hlt=> ?_⟩
 · have hil:i=L.length:=by have:=h1.le;omega
   subst hil;obtain⟨q1,q2⟩:=hend f al h1;rw [q1] at h3;subst h3
   refine⟨trivial,fun _=>⟨⟨by omega,by omega⟩,?_,trivial⟩,fun h=>absurd q2 h⟩
   rw [decide_eq_true rfl]
 have hlt:i<L.length:=by omega
 have hnd:=zjQ h1 hf hlt hT;have hnx:=zm0 h1 hf hlt hT;have hu:=Uk h2 (zjH f (L.getD i []));refine⟨hin hlt,hin hlt,hnd,?_⟩;generalize zQ f (L.getD i [])=F1 at *;generalize hE:zV F1.out=E at *
 have hlen:al.length+E.length≤4080000:=by
  have h5:=hnx.ln;rw [jg] at h5
  have h6:(i+1) * (4 * T.length)≤51 * 80000:=Nat.mul_le_mul (by omega) (by omega)
  omega
 have hsum:zX al+zX E≤41000:=by
  have h5:=hnx.su;rw [xg] at h5;have h6:=zea L (i+1);rw [hf] at h6;omega
 have hue:EvU E:=fun e m=>hu e (List.mem_append_right _ m);subst h3
 refine lpH hI [sJ,sH,Zg,Zf,ug,uf,V9,V8,VW,VU,Qq,Qp,qj,qi,Vp,Vo,Yu,Yt,qQ,qP,ZF,ZE,Vz,Vy] hX [1,11,13,14,15,16,17] (fun(g:Nat × List Prt)=>match g with|(k,g)=>GtI E al k g) (fun(g:Nat × List Prt)=>match g with|(k,g)=>⟨[(1,.v (.one (.p (.list .prw l)))),(11,.v (.one (.ptr 0 0))),(13,.v (.one (.row 1))),(14,.v (.one (.row 2))),(15,.v (.one (.p (.int .i64 i)))),(16,.v (.one (.row 3))),(17,.v (.one (.p (.int .i64 k))))],[.abs (.fm F1),.rws .prw 43 5 g none,.row .bytes 26 L,.row .evt 45 E],135,none⟩) (fun(g:Nat × List Prt)=>match g with|(k,g)=>E.length - k) (0,al.foldl prtS []) (by kernel_rfl) (by kernel_rfl) ?_ ?_
 · exact gt_0 E al
 rintro⟨k,g⟩ hk B hB;simp only at hB hk
 refine orcL ?_;go_invoke;refine orcS (by kernel_rfl) ?_
 simp only [zJ,Nat.reduceAdd];subst hI;simp only [nrmA,nrmB,nrlB,reduceCtorEq]
 have hgo:k<E.length→_:=fun h=>hB (k+1,prtS g (E.getD k ⟨0,⟨[],[],0,[],0⟩,[],⟨[],[],[],[]⟩,0⟩)) (gt_s hk _ h) (by simp only;omega)
 have hx5:k<E.length→(E.getD k ⟨0,⟨[],[],0,[],0⟩,[],⟨[],[],[],[]⟩,0⟩).part.bytes=[]:=fun h=>hue _ (by rw [show E.getD k ⟨0,⟨[],[],0,[],0⟩,[],⟨[],[],[],[]⟩,0⟩=E[k] by simp [h]];exact List.getElem_mem h)
 have hxs:k<E.length→(E.getD k ⟨0,⟨[],[],0,[],0⟩,[],⟨[],[],[],[]⟩,0⟩).bytes.length≤zX E:=fun h=>YV (by rw [show E.getD k ⟨0,⟨[],[],0,[],0⟩,[],⟨[],[],[],[]⟩,0⟩=E[k] by simp [h]];exact List.getElem_mem h)
 have hgl:=zms hk;have hgb:=zmV hk h2 hue;have hkl:=hk.le
 have hfin: ¬ k<E.length→_:=fun h=>hA (i+1,F1,al++E,g) ⟨hnx,hu,zmt (show GtI E al E.length g by rw [show E.length=k by omega];exact hk)⟩ (by simp only;omega)
 simp only [Int.natCast_add,Int.natCast_one] at hgo hfin;clear hA hB hk hh hn hn2 hb hb2 hl1 hl2 hle hI0 hend;generalize E.getD k ⟨0,⟨[],[],0,[],0⟩,[],⟨[],[],[],[]⟩,0⟩=x at *;simp only [show ∀ p:Prt,(⟨p.name,p.file,p.type,p.bytes⟩:Prt)=p from fun _=>rfl];have hil:=h1.le
 refine And.symm ⟨fun c=>⟨by omega,hfin (by omega)⟩,fun c=> ?_⟩
 have c:k<E.length:=by omega
 have hx5:=hx5 c;have hxs:=hxs c;have hgo:=hgo c
 by_cases k5:x.kind=5
 · rw [zgm k5] at hgo
   refine⟨⟨by omega,by omega⟩,⟨by omega,by omega⟩,fun _=>⟨⟨by omega,by omega⟩,⟨by omega,by omega⟩,by rw [hx5];rfl,by omega,⟨by omega,by omega⟩,⟨by omega,by omega⟩,fun q=>absurd q (by omega),fun _=>⟨by omega,hgo⟩⟩,fun q=>absurd k5 q⟩
 by_cases k2:x.kind=2
 · rcases List.eq_nil_or_concat g with rfl|⟨z,p,rfl⟩
   · rw [zan k2] at hgo
     simp only [jf] at *
     (repeat' (first|refine ja ?_ ?_|intro _))<;>first|omega|exact jb|exact jc ‹False›|skip
     all_goals first
      |omega
      |exact hgo
      |exact absurd ‹x.kind=5› k5
      |exact absurd k2 ‹¬ x.kind=2›
   · rw [List.concat_eq_append] at *
     rw [U4 k2] at hgo
     have e1:(((z++[p]).length:Int) - 1).toNat=z.length:=by rw [jg,jm];omega
     have e2:(z++[p]).getD z.length ⟨[],[],[],[]⟩=p:=by simp
     have e3: ∀ q,(z++[p]).set z.length q=z++[q]:=fun q=>by simp
     have hp:=hgb p (List.mem_append_right _ (List.mem_singleton.2 rfl))
     simp only [e1,e2,e3,show ownB .prw p=p.bytes from rfl,show ∀ q,Rh .prw p q=({ p with bytes:=q}:Prt) from fun _=>rfl]
     clear e1 e2 e3 hgb;rw [jg,jm] at *
     (repeat' (first|refine ja ?_ ?_|intro _))<;>first|omega|exact jb|exact jc ‹False›|skip
     all_goals first
      |omega
      |exact hgo
      |exact absurd ‹x.kind=5› k5
      |exact absurd k2 ‹¬ x.kind=2›
 · rw [zdk k5 k2] at hgo
   (repeat' (first|refine ja ?_ ?_|intro _))<;>first|omega|exact jb|exact jc ‹False›|skip
   all_goals first
    |omega
    |exact hgo
    |exact absurd ‹x.kind=5› k5
    |exact absurd ‹x.kind=2› k2
end Go.Proofs.YtjdbannldbgpeaaGreatDoor
