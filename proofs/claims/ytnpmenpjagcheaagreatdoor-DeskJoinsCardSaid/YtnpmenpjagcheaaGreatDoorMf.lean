/- Texts of this proof, one behind the other: DskP DskU DskT DskV DskY DskZ DskA DskR DskJ. -/
import Derived.Test.YtnpmenpjagcheaaGreatDoorMe
set_option linter.all false
namespace Go.Proofs.YtnpmenpjagcheaaGreatDoor
open Go Go.Sep Go.Ab Go.Jrn
def CdI (c:Int):Prop:=0≤c∧c≤100
theorem ztX (q:Sto) (e:Ent):CdI (wsC q e):=by
 have hp:CdI (zdR q.l q.n e):=by
  unfold zdR creC appC decC droC begC endC CdI
  repeat' split
  all_goals exact⟨by omega,by omega⟩
 unfold wsC wrtC
 split
 · exact hp
 unfold encC wrC CdI
 repeat' split
 all_goals exact⟨by omega,by omega⟩
theorem zrk: ∀ fs:List Fld,CdI (badF fs)
 |[]=>⟨Int.le_refl _,by decide⟩
 | f ::l=>by
   unfold badF
   split
   · exact zrk l
   · unfold textF CdI
     repeat' split
     all_goals exact⟨by dsimp only;omega,by dsimp only;omega⟩
theorem zyb (g:GS) (x:Stp):CdI (doO g x).c:=by
 have hr: ∀ m t fs b,CdI (rqwC m t fs b):=fun m t fs b=>by
  unfold rqwC
  repeat' split
  all_goals first|exact⟨by omega,by omega⟩|exact zrk fs
 have hs:CdI (Ux g.q x.n).c:=by
  unfold Ux
  by_cases h:wsC g.q (begE x.n)≠0
  · rw [if_pos h];exact ztX _ _
  · rw [if_neg h];dsimp only;exact hr _ _ _ _
 unfold doO
 repeat' split
 all_goals first
  |exact ztX _ _
  |exact hs
  |(unfold fdK CdI;dsimp only;split<;>exact⟨by omega,by omega⟩)
  |exact⟨by(try dsimp only);omega,by(try dsimp only);omega⟩
def zuR:Str:=[98,121,116,101,115]
def zx9:Str:=[100,114,111,112]
def zw7:Str:=[115,101,110,100]
def zwP:Str:=[116,111,108,100]
def zuP:Str:=[99,114,97,115,104]
def zpz:Str:=[108,105,115,116]
def logW:Str:=[108,111,103]
def Um (w:Str):Int:=if w=zuR then 1 else if w=zx9 then 2 else if w=zw7 then 3 else if w=zwP then 4 else if w=zuP then 5 else 0
def numD (s:Str):Int × Bool:=((numA s 10 9).1,(numA s 10 9).2&&decide (decS (numA s 10 9).1=s))
def stepD (s:Str):Stp × Bool:=
 if(cutB s 32).2.2=false∨Um (cutB s 32).1=0 then(⟨Um (cutB s 32).1,0,0,[]⟩,false)
 else if(numD (cutB (cutB s 32).2.1 32).1).2=false∨(cutB (cutB s 32).2.1 32).2.2≠decide (Um (cutB s 32).1=1) then(⟨Um (cutB s 32).1,0,0,[]⟩,false)
 else(⟨Um (cutB s 32).1,if Um (cutB s 32).1≤2 then(numD (cutB (cutB s 32).2.1 32).1).1 else 0,if Um (cutB s 32).1≤2 then 0 else(numD (cutB (cutB s 32).2.1 32).1).1,
  if(cutB (cutB s 32).2.1 32).2.2 then(wW (cutB (cutB s 32).2.1 32).2.1).getD [] else []⟩,
  if(cutB (cutB s 32).2.1 32).2.2 then(wW (cutB (cutB s 32).2.1 32).2.1).isSome else true)
theorem Ws (s:Str):(stepD s).1.bytes.length≤s.length:=by
 have h1:=(ZA s 32).2;have h2:=(ZA (cutB s 32).2.1 32).2;unfold stepD
 split
 · exact jM _
 split
 · exact jM _
 dsimp only
 split
 · cases hm:wW (cutB (cutB s 32).2.1 32).2.1 with
   |none=>exact jM _
   |some b=>have:=zsO hm;simp only [Option.getD_some];omega
 · exact jM _
def sayD (l:List Str):Str:=Yi l++[10]
def noW:Str:=[110,111]
def upW:Str:=[117,112]
def outW:Str:=[111,117,116]
def okW:Str:=[111,107]
def zuY:Str:=[119,104,97,116]
def endW:Str:=[101,110,100]
def znk:Str:=[117,112,108,111,97,100]
def Xy (o:PO):Str:=
 if o.c≠0 then sayD [noW,decS o.c] else if o.u≠[] then sayD [upW,showS o.u] else if o.b≠[] then sayD [outW,showS o.b] else sayD [okW]
def numI (n:Int):Str:=if n= -1 then [45,49] else decS n
def uplD (u:Upl):Str:=sayD [znk,numI u.id,numI u.size,numI (u.bytes.length:Int),numI u.sent,showS u.note]
def Vl:List Upl→Str
 |[]=>sayD [endW]
 |u::l=>uplD u++Vl l
def logD (q:Sto):Str:=sayD [logW,decS (q.b.length:Int),decS q.s]
def vT (p:PS) (s:Str):PS:=
 if s=[]∨s=zpz∨s=logW then p else if(stepD s).2=false then p else doP p (stepD s).1
def rM (p:PS) (s:Str):Str:=
 if s=[] then [] else if s=zpz then Vl p.g.q.l else if s=logW then logD p.g.q else if(stepD s).2=false then sayD [zuY] else Xy (doO p.g (stepD s).1)
def Yg (p:PS) (l:List Str):PS:=l.foldl vT p
def linesT:PS→List Str→Str
 |_,[]=>[]
 |p,s::l=>rM p s++linesT (vT p s) l
theorem zmB (p:PS) (a b:List Str):Yg p (a++b)=Yg (Yg p a) b:=List.foldl_append
theorem UI: ∀ (a b:List Str) (p:PS),linesT p (a++b)=linesT p a++linesT (Yg p a) b
 |[],b,p=>rfl
 | s::a,b,p=>by
   rw [List.cons_append,linesT,linesT,UI a b (vT p s),jo];rfl
def sumL:List Str→Nat
 |[]=>0
 |s::l=>s.length+sumL l
theorem Ze: ∀ a b:List Str,sumL (a++b)=sumL a+sumL b
 |[],b=>by simp [sumL]
 |s::a,b=>by have:=Ze a b;simp only [List.cons_append,sumL];omega
theorem xh (n:Int):(numI n).length≤9:=by unfold numI;split;decide;exact yE n
theorem zjn {u:Upl} (h:ztV u):(uplD u).length≤500:=by
 have h1:=xh u.id;have h2:=xh u.size;have h3:=xh (u.bytes.length:Int);have h4:=xh u.sent;have h5:=rQ u.note;have h6:=h.nl;unfold uplD sayD Yi Yi Yi Yi Yi Yi;simp only [jk,jh,ji,znk];omega
theorem zf4: ∀ {l:List Upl},(∀ u ∈ l,ztV u)→(Vl l).length≤500 * l.length+4
 |[],_=>by decide
 | u::l,h=>by
   have h1:=zjn (h u List.mem_cons_self);have h2:=zf4 fun v hv=>h v (List.mem_cons_of_mem _ hv);rw [Vl,jk,jh];omega
theorem znt (g:GS) (x:Stp):(Xy (doO g x)).length≤20000 * x.bytes.length+32020:=by
 obtain⟨h1,h2⟩:=zqK g x;have h3:=rQ (doO g x).u;have h4:=rQ (doO g x).b;have h5:=yE (doO g x).c;unfold Xy sayD
 repeat' split
 all_goals simp only [Yi,jk,jh,ji,noW,upW,outW,okW]
 all_goals omega
theorem zpB {p:PS} (h:zI p.g.q.l p.g.q.n) (s:Str):(rM p s).length≤20000 * s.length+32020:=by
 have h1:=Ws s;have h2:=znt p.g (stepD s).1;have h3:=zf4 h.each;have h4:=h.cnt;have h5:=yE (p.g.q.b.length:Int);have h6:=yE p.g.q.s;unfold rM
 repeat' split
 · exact jM _
 · omega
 · unfold logD sayD
   simp only [Yi,jk,jh,ji,logW];omega
 · unfold sayD
   simp only [Yi,jk,jh,ji,zuY];omega
 · omega
theorem zvu {p:PS} {m:Int} {N k:Nat} (h:PsI p m N k) (hm:25000≤m) (s:Str) (hb:N+s.length≤1000000):PsI (vT p s) (m+12 * s.length+1) (N+s.length) (k+1):=by
 have h0:PsI p (m+12 * s.length+1) (N+s.length) (k+1):=zdP h (by omega) (by omega) (by omega)
 have hl:=Ws s;unfold vT
 repeat' split
 · exact h0
 · exact h0
 · exact zdP (zyU h hm (stepD s).1 (by omega)) (by omega) (by omega) (jL _)
theorem zsC {p:PS} {m:Int} {N k:Nat} (h:PsI p m N k) (hm:25000≤m) (s:Str) (hb:N+s.length≤30000) (hc:m+12 * s.length≤199980) (hk:k≤1000000):PdN p.g p.t (stepD s).1:=by
 have hl:=Ws s
 exact zvt h hm _ (by omega) (by omega) hk
structure DkI (p0:PS) (m:Int) (N k:Nat) (l:List Str) (i:Nat) (p:PS) (o:Str):Prop where
 le:i≤l.length
 hp:p=Yg p0 (l.take i)
 ho:o=linesT p0 (l.take i)
 ps:PsI p (m+12 * sumL (l.take i)+i) (N+sumL (l.take i)) (k+i)
 ol:o.length≤20000 * sumL (l.take i)+32020 * i
theorem dk_0 {p0:PS} {m:Int} {N k:Nat} (h:PsI p0 m N k) (l:List Str):DkI p0 m N k l 0 p0 []:=⟨jM _,rfl,rfl,zdP h (by simp only [List.take_zero,sumL];omega) (by simp only [List.take_zero,sumL];omega) (jL _),jM _⟩
theorem qQ (l:List Str) (i:Nat):sumL (l.take i)≤sumL l:=by
 have h:=Ze (l.take i) (l.drop i);rw [List.take_append_drop] at h;omega
theorem zik (p:PS) (a:List Str) (s:Str):linesT p (a++[s])=linesT p a++rM (Yg p a) s:=by
 rw [UI]
 simp [linesT]
theorem zil (p:PS) (a:List Str) (s:Str):Yg p (a++[s])=vT (Yg p a) s:=by
 rw [zmB];rfl
theorem dk_s {p0:PS} {m:Int} {N k:Nat} {l:List Str} {i:Nat} {p:PS} {o:Str} (h:DkI p0 m N k l i p o) (hm:25000≤m) (hi:i<l.length) (hN:N+sumL l≤30000):DkI p0 m N k l (i+1) (vT p (l.getD i [])) (o++rM p (l.getD i [])):=by
 have e:l.getD i []=l[i]:=by simp [hi]
 have e2:l.take (i+1)=l.take i++[l[i]]:=jB hi
 have e3:sumL (l.take (i+1))=sumL (l.take i)+l[i].length:=by rw [e2,Ze];simp [sumL]
 have h1:=qQ l (i+1);have h2:=zpB h.ps.g.q.1 l[i];rw [e];refine⟨hi,?_,?_,?_,?_⟩
 · rw [e2,zil,← h.hp]
 · rw [e2,zik,← h.hp,← h.ho]
 · exact zdP (zvu h.ps (by omega) l[i] (by omega)) (by rw [e3];omega) (by rw [e3];omega) (by omega)
 · have:=h.ol
   rw [jk,e3];omega
end Go.Proofs.YtnpmenpjagcheaaGreatDoor
namespace Go.Proofs.YtnpmenpjagcheaaGreatDoor
open Go Go.Sep Go.Ab Go.RowKit
set_option maxRecDepth 100000
theorem zxK {n:Int} (h: -1≤n∧n<1000000000):Lib.itoa n=numI n:=by
 unfold numI
 by_cases h1:n= -1
 · subst h1;rw [if_pos rfl];unfold Lib.itoa;rw [if_pos (by decide)];show 45::Lib.decDigits 1=_;rw [Lib.decDigits,dif_pos (by omega)];rfl
 · rw [if_neg h1];exact zkP (by omega) h.2
def Ql (I:Alg):KU
 |[.v (.one (.p (.int .i64 n)))],[]=>some (.one ⟨I.hid (-1≤n∧n<1000000000),(.ret (.v (.one (.p (.str (I.hid (numI n))))))),[]⟩)
 |_,_=>none
theorem zkQ:zu Tryz.prog 54 (Ql alg):=by
 intro args hp r h;unfold Ql at h;split at h<;>cases h
 rename_i n;simp only [CT.Good,zh];intro hneed
 refine Spc.of_below ⟨_,Tryz.func54,by kernel_rfl,by kernel_rfl⟩ fun S bs w vs hW hM=> ?_
 obtain⟨v,r,rfl⟩: ∃ v r,vs=v::r:=by cases vs with|nil=>exact hM.elim|cons v r=>exact⟨v,r,rfl⟩
 obtain⟨h1,hM⟩:=hM
 obtain rfl:r=[]:=by cases r with|nil=>rfl|cons v r=>exact hM.elim
 cases h1 with
 | int _ _=>
   refine⟨.string (Sep.S (numI n)),.str _ (by have:=xh n;unfold maxLen;omega),?_⟩
   rw [← zxK hneed]
   refine(Tryz.strconv_Itoa n (by omega) (by omega) w (by first|exact hW|exact hW.1)).mono fun e w' h=> ?_
   obtain⟨he,k,os,rfl⟩:=h;refine⟨he,?_⟩
   exact⟨rfl,rfl,rfl,(show w.heap.size≤(w.heap++os).size by rw [Array.size_append];omega),fun j hj=>show(w.heap++os)[j]? =w.heap[j]? from Array.getElem?_append_left hj⟩
def zs5:Know Tryz.prog:=⟨54,Ql,zkQ⟩
def zs4:Know Tryz.prog:=⟨54,fun I=>zx I (Ql I),zf zkQ⟩
def zeD (I:Alg):KU
 |[.v (.one (.p (.int .i64 n)))],[]=>some (.one ⟨I.hid (-1≤n∧n<1000000000),(.ret (.v (.one (.p (.str (I.hid (numI n))))))),[]⟩)
 |_,_=>none
theorem zqP:zu Tryz.prog 40 (zeD alg):=by
 intro args hp r h;unfold zeD at h;split at h<;>cases h
 rename_i n;simp only [CT.Good,zh];intro hneed
 refine spH Tryz.func40 (by kernel_rfl) { keep:=some [0,2]} [zs5,zs4] (by kernel_rfl) ?_
 intro I X hI hX
 refine orcL ?_;go_invoke;refine orcS (by kernel_rfl) ?_
 simp only [zi,Nat.reduceAdd];subst hI;simp only [nrmA,nrmB,nrlB,reduceCtorEq];exact hneed
def U9:Know Tryz.prog:=⟨40,zeD,zqP⟩
def U8:Know Tryz.prog:=⟨40,fun I=>zx I (zeD I),zf zqP⟩
theorem zpG: ∀ x:List Str,(Yi x).length≤sumS x+x.length
 |[]=>jL _
 |a::l=>by rw [ziv,jk,X6];simp only [sumS,jh];omega
def zjS (I:Alg):KU
 |[.v (.one (.ptr 0 0)),.v (.one (.p (.list .str x)))],[.abs (.dk ⟨o,w,true,l,n,b,s,c0,c1,c2,c3,t⟩)]=>(fun(o:Str) (l:List Upl) (b:Str) (t:List Int) (x:List Str)=>(some (.one ⟨I.hid ((w=false→o=[])∧x≠[]∧x.length≤100∧sumS x≤700000000∧o.length≤290000000),(.ret (.tup [])),[.abs (.dk ⟨(I.hid (o++sayD x)),true,true,l,n,b,s,c0,c1,c2,c3,t⟩)]⟩):Option CT)) o l b t x
 |_,_=>none
set_option maxHeartbeats 4000000 in
theorem zt4:zu Tryz.prog 29 (zjS alg):=by
 intro args hp r h;unfold zjS at h;split at h<;>cases h
 rename_i x o w l n b s c0 c1 c2 c3 t
 revert x l t;intro(x:List Str) (l:List Upl) (t:List Int)
 simp only [CT.Good,zh];intro hneed;obtain⟨h1,h2,h3,h4,h5⟩:=hneed;have hl:=zpG x
 refine spH Tryz.func29 (by kernel_rfl) { keep:=some [0,1]} [Uk,Uj,Q5,QZ,zc6,zc5,zvW,zvV] (by kernel_rfl) ?_
 intro I X hI hX;cases w
 · have h1:=h1 rfl
   subst h1
   refine orcL ?_;go_invoke;refine orcS (by kernel_rfl) ?_
   simp only [zi,Nat.reduceAdd];subst hI;simp only [nrmA,nrmB,nrlB,reduceCtorEq]
   exact⟨⟨h2,h3,h4⟩,by simp only [jh,ji];omega,⟨by simp,by simp only [jk,jh,ji];omega⟩,rfl⟩
 · clear h1
   refine orcL ?_;go_invoke;refine orcS (by kernel_rfl) ?_
   simp only [zi,Nat.reduceAdd];subst hI;simp only [nrmA,nrmB,nrlB,reduceCtorEq]
   exact⟨⟨h2,h3,h4⟩,by simp only [jh,ji];omega,⟨by simp,by simp only [jk,jh,ji];omega⟩,rfl⟩
def zbZ:Know Tryz.prog:=⟨29,zjS,zt4⟩
def zbY:Know Tryz.prog:=⟨29,fun I=>zx I (zjS I),zf zt4⟩
end Go.Proofs.YtnpmenpjagcheaaGreatDoor
namespace Go.Proofs.YtnpmenpjagcheaaGreatDoor
open Go Go.Sep Go.Ab
set_option maxRecDepth 100000
def Xi (I:Alg):KU
 |[.v (.one (.p (.str s)))],[]=>(fun(s:Str)=>(some (.one ⟨I.hid (s.length≤1000000),(.ret (.tup [.one (.p (.int .i64 (I.hid ((numD s).1)))),.one (.p (.bool (I.hid ((numD s).2))))])),[]⟩):Option CT)) s
 |_,_=>none
theorem zcX:zu Tryz.prog 44 (Xi alg):=by
 intro args hp r h;unfold Xi at h;split at h<;>cases h
 rename_i s;simp only [CT.Good,zh];intro hneed;have h0:=wR s
 have hn:numI (numA s 10 9).1=decS (numA s 10 9).1:=by unfold numI;rw [if_neg (by omega)]
 generalize hr:numD s=r;unfold numD at hr
 refine spH Tryz.func44 (by kernel_rfl) { keep:=some [0,2,3,4,5]} [uf,vZ,U9,U8] (by kernel_rfl) ?_
 intro I X hI hX
 refine orcL ?_;go_invoke;refine orcS (by kernel_rfl) ?_
 simp only [zi,Nat.reduceAdd];subst hI;simp only [nrmA,nrmB,nrlB,reduceCtorEq];subst hr
 (repeat' (first|refine ja ?_ ?_|intro _))<;>first|omega|exact jb|exact jc ‹False›|skip
 all_goals first
  |omega
  |rfl
  |(show _=((numA s 10 9).2&&decide (decS (numA s 10 9).1=s));rw [‹(numA s 10 9).snd=true›,hn,Bool.true_and,Bool.eq_iff_iff];simp)
  |(show _=((numA s 10 9).2&&decide (decS (numA s 10 9).1=s));rw [‹(numA s 10 9).snd=false›];rfl)
def zmZ:Know Tryz.prog:=⟨44,Xi,zcX⟩
def zmY:Know Tryz.prog:=⟨44,fun I=>zx I (Xi I),zf zcX⟩
def zsX:List Str:=[zuR,zx9,zw7,zwP,zuP]
theorem zvU {w:Str} {i:Nat} (h:i<5) (hp: ∀ j,j<i→zsX.getD j []≠w) (e:zsX.getD i []=w):(i:Int)+1=Um w:=by
 subst e
 match i,h with
 |0,_=>decide
 |1,_=>decide
 |2,_=>decide
 |3,_=>decide
 |4,_=>decide
theorem zvT {w:Str} (hp: ∀ j,j<5→zsX.getD j []≠w):0=Um w:=by
 have h0:=hp 0 (by decide)
 have h1:=hp 1 (by decide)
 have h2:=hp 2 (by decide)
 have h3:=hp 3 (by decide)
 have h4:=hp 4 (by decide)
 unfold Um;rw [if_neg (fun e=>h0 e.symm),if_neg (fun e=>h1 e.symm),if_neg (fun e=>h2 e.symm),if_neg (fun e=>h3 e.symm),if_neg (fun e=>h4 e.symm)]
def QI (I:Alg):KU
 |[.v (.one (.p (.str w)))],[]=>(fun(w:Str)=>(some (.one ⟨I.hid (True),(.ret (.v (.one (.p (.int .i64 (I.hid (Um w))))))),[]⟩):Option CT)) w
 |_,_=>none
theorem zlC:zu Tryz.prog 43 (QI alg):=by
 intro args hp r h;unfold QI at h;split at h<;>cases h
 rename_i w;simp only [CT.Good,zh];intro _;have h1:=fun(i:Nat)=>zvU (w:=w) (i:=i);have h2:=zvT (w:=w);generalize Um w=r at h1 h2 ⊢;obtain⟨L,hL⟩: ∃ L,L=zsX:=⟨_,rfl⟩;rw [← hL] at h1 h2
 have hlen:L.length=5:=by rw [hL];rfl
 refine spH Tryz.func43 (by kernel_rfl) { keep:=some [0,2,3,4,5,6,7]} [] (by kernel_rfl) ?_
 intro I X hI hX
 refine orcL ?_;go_invoke;refine orcS (by kernel_rfl) ?_
 simp only [zi,Nat.reduceAdd];rw [show([[98,121,116,101,115],[100,114,111,112],[115,101,110,100],[116,111,108,100],[99,114,97,115,104]]:List Str)=L from hL.symm];clear hL
 refine lpH hI [] hX [0,5,6,7] (fun(i:Nat)=>i≤5∧(∀ j,j<i→L.getD j []≠w)) (fun(i:Nat)=>⟨[(0,.v (.one (.p (.str w)))),(5,.v (.one (.row 0))),(6,.v (.one (.p (.int .i64 ((I.len (α:=Str) L)))))),(7,.v (.one (.p (.int .i64 i))))],[.row .str 9 L],18,none⟩) (fun(i:Nat)=>5 - i) 0 (by kernel_rfl) (by kernel_rfl) ?_ ?_
 · exact⟨jM _,fun j hj=>absurd hj (Nat.not_lt_zero _)⟩
 rintro i ⟨g1,g2⟩ A hA
 refine orcL ?_;go_invoke;refine orcS (by kernel_rfl) ?_
 simp only [zi,Nat.reduceAdd];subst hI;simp only [nrmA,nrmB,nrlB,reduceCtorEq]
 have hgo:=fun(h:i<5) (k:L.getD i []≠w)=>hA (i+1) ⟨by omega,fun j hj=>by
  rcases Nat.lt_or_ge j i with q|q
  · exact g2 j q
  · rw [show j=i by omega];exact k⟩ (by omega)
 clear hA
 (repeat' (first|refine ja ?_ ?_|intro _))<;>first|omega|exact jb|exact jc ‹False›|skip
 all_goals first
  |omega
  |exact h1 i (by omega) g2 ‹_›
  |exact hgo (by omega) ‹_›
  |exact h2 (fun j hj=>g2 j (by omega))
def ztN:Know Tryz.prog:=⟨43,QI,zlC⟩
def ztM:Know Tryz.prog:=⟨43,fun I=>zx I (QI I),zf zlC⟩
def QF (I:Alg):KU
 |[.v (.one (.p (.str s)))],[]=>(fun(s:Str)=>(some (.one ⟨I.hid (s.length≤1000000),(.ret (.tup [.agg [.p (.int .i64 (I.hid ((stepD s).1.kind))),.p (.int .i64 (I.hid ((stepD s).1.conn))),.p (.int .i64 (I.hid ((stepD s).1.n))),.p (.list .byte (I.hid ((stepD s).1.bytes)))],.one (.p (.bool (I.hid ((stepD s).2))))])),[]⟩):Option CT)) s
 |_,_=>none
set_option maxHeartbeats 4000000 in
theorem zlz:zu Tryz.prog 28 (QF alg):=by
 intro args hp r h;unfold QF at h;split at h<;>cases h
 rename_i s;simp only [CT.Good,zh];intro hneed;generalize hr:stepD s=r;have hl:=ZA s 32;have hl2:=ZA (cutB s 32).2.1 32;unfold stepD at hr
 refine spH Tryz.func28 (by kernel_rfl) { raw:=false,keep:=some [0,2,3,4,5,6,7,8,9,10,11]} [zvP,zvO,zhY,zhX,zmZ,zmY,ztN,ztM] (by kernel_rfl) ?_
 intro I X hI hX
 refine orcL ?_;go_invoke;refine orcS (by kernel_rfl) ?_
 simp only [zi,Nat.reduceAdd];subst hI;simp only [nrmA,nrmB,nrlB,reduceCtorEq,V0.agg.injEq];generalize cutB s 32=a at *;obtain⟨a1,a2,a3⟩:=a;simp only at hr hl hl2 ⊢;generalize cutB a2 32=c at *;obtain⟨b1,b2,b3⟩:=c;simp only at hr hl2 ⊢;generalize Um a1=k at *;generalize numD b1=d at *;obtain⟨d1,d2⟩:=d;generalize wW b2=M at *;simp only at hr ⊢;rw [show(k == 1)=decide (k=1) from rfl];subst hr
 (repeat' (first|refine ja ?_ ?_|intro _))<;>first|omega|exact jb|exact jc ‹False›|skip
 all_goals first
  |omega
  |(simp_all;done)
  | (have hk: ¬ k=1:=by omega
     have hk2: ¬ k≤2:=by omega
     have hk3: ¬ k=0:=by omega
     cases ‹a3=true›;cases ‹d2=true›;cases ‹b3=false›
     simp [hk,hk2,hk3];done)
def ztJ:Know Tryz.prog:=⟨28,QF,zlz⟩
def ztI:Know Tryz.prog:=⟨28,fun I=>zx I (QF I),zf zlz⟩
end Go.Proofs.YtnpmenpjagcheaaGreatDoor
namespace Go.Proofs.YtnpmenpjagcheaaGreatDoor
open Go Go.Sep Go.Ab
set_option maxRecDepth 100000
def cfgD:Cfg:= { sl:=cfgP.sl++[⟨58,1000001,.byte,none⟩],fz:=[29]}
def zlD (I:Alg):KU
 |[.v (.one (.ptr 0 0)),.v (.agg [.p (.int .i64 k),.p (.int .i64 j),.p (.int .i64 m),.p (.list .byte x)])],[.abs (.dk ⟨o,w,true,l,n,b,s,c0,c1,c2,c3,t⟩)]=>(fun(o:Str) (l:List Upl) (b:Str) (t:List Int) (x:Str)=>(some (.one ⟨I.hid ((w=false→o=[])∧PdN ⟨⟨l,n,b,s⟩,c0,c1,c2,c3⟩ t ⟨k,j,m,x⟩∧x.length≤12100∧o.length≤290000000),(.ret (.tup [])),[.abs (.dk ⟨(I.hid (o++Xy (doO ⟨⟨l,n,b,s⟩,c0,c1,c2,c3⟩ ⟨k,j,m,x⟩))),true,true,(I.hid ((doP ⟨⟨⟨l,n,b,s⟩,c0,c1,c2,c3⟩,t⟩ ⟨k,j,m,x⟩).g.q.l)),(I.hid ((doP ⟨⟨⟨l,n,b,s⟩,c0,c1,c2,c3⟩,t⟩ ⟨k,j,m,x⟩).g.q.n)),(I.hid ((doP ⟨⟨⟨l,n,b,s⟩,c0,c1,c2,c3⟩,t⟩ ⟨k,j,m,x⟩).g.q.b)),(I.hid ((doP ⟨⟨⟨l,n,b,s⟩,c0,c1,c2,c3⟩,t⟩ ⟨k,j,m,x⟩).g.q.s)),(I.hid ((doP ⟨⟨⟨l,n,b,s⟩,c0,c1,c2,c3⟩,t⟩ ⟨k,j,m,x⟩).g.c0)),(I.hid ((doP ⟨⟨⟨l,n,b,s⟩,c0,c1,c2,c3⟩,t⟩ ⟨k,j,m,x⟩).g.c1)),(I.hid ((doP ⟨⟨⟨l,n,b,s⟩,c0,c1,c2,c3⟩,t⟩ ⟨k,j,m,x⟩).g.c2)),(I.hid ((doP ⟨⟨⟨l,n,b,s⟩,c0,c1,c2,c3⟩,t⟩ ⟨k,j,m,x⟩).g.c3)),(I.hid ((doP ⟨⟨⟨l,n,b,s⟩,c0,c1,c2,c3⟩,t⟩ ⟨k,j,m,x⟩).t))⟩)]⟩):Option CT)) o l b t x
 |_,_=>none
set_option maxHeartbeats 8000000 in
theorem zuN:zu Tryz.prog 30 (zlD alg):=by
 intro args hp r h;unfold zlD at h;split at h<;>cases h
 rename_i k j m x o w l n b s c0 c1 c2 c3 t
 revert l t;intro(l:List Upl) (t:List Int)
 simp only [CT.Good,zh];intro hneed;obtain⟨hw,hneed,hx,ho⟩:=hneed;have hcd:=zyb ⟨⟨l,n,b,s⟩,c0,c1,c2,c3⟩ ⟨k,j,m,x⟩;have hfw:=zqK ⟨⟨l,n,b,s⟩,c0,c1,c2,c3⟩ ⟨k,j,m,x⟩
 refine spH Tryz.func30 (by kernel_rfl) { cfgD with keep:=some [0,1,3,4]} [zdA,zdz,zxx,zxw,U9,U8,zbZ,zbY] (by kernel_rfl) ?_
 intro I X hI hX;generalize hO:doO ⟨⟨l,n,b,s⟩,c0,c1,c2,c3⟩ ⟨k,j,m,x⟩=O at *;generalize hP:doP ⟨⟨⟨l,n,b,s⟩,c0,c1,c2,c3⟩,t⟩ ⟨k,j,m,x⟩=P at *;obtain⟨oc,ob,ou⟩:=O;obtain⟨⟨⟨l',n',b',s'⟩,d0,d1,d2,d3⟩,t'⟩:=P;unfold CdI at hcd;simp only at hcd hfw;have hb:=rQ ob;have hu:=rQ ou;have hni:=xh oc
 have t1:oc≠0→sayD [noW,numI oc]=Xy ⟨oc,ob,ou⟩:=fun h=>by unfold Xy;rw [if_pos h];unfold numI;rw [if_neg (by omega)]
 have t2:oc=0→ou≠[]→sayD [upW,showS ou]=Xy ⟨oc,ob,ou⟩:=fun h k=>by unfold Xy;rw [if_neg (fun q=>q h),if_pos k]
 have t3:oc=0→ou=[]→ob≠[]→sayD [outW,showS ob]=Xy ⟨oc,ob,ou⟩:=fun h k q=>by unfold Xy;rw [if_neg (fun q=>q h),if_neg (fun q=>q k),if_pos q]
 have t4:oc=0→ou=[]→ob=[]→sayD [okW]=Xy ⟨oc,ob,ou⟩:=fun h k q=>by unfold Xy;rw [if_neg (fun q=>q h),if_neg (fun q=>q k),if_neg (fun r=>r q)]
 generalize Xy ⟨oc,ob,ou⟩=T at t1 t2 t3 t4 ⊢
 have z: ∀ {y:Str},(y.length:Int)≤0→y=[]:=fun h=>List.eq_nil_of_length_eq_zero (by omega)
 have nz: ∀ {y:Str},0<(y.length:Int)→y≠[]:=fun h e=>by subst e;simp at h
 have q1:=fun h=>congrArg (fun z=>o++z) (t1 h);have q2:=fun h k=>congrArg (fun z=>o++z) (t2 h k);have q3:=fun h k l=>congrArg (fun z=>o++z) (t3 h k l);have q4:=fun h k l=>congrArg (fun z=>o++z) (t4 h k l);clear t1 t2 t3 t4;cases w
 all_goals
  try(have hw:=hw rfl;subst hw)
  refine orcL ?_;go_invoke;refine orcS (by kernel_rfl) ?_
  simp only [zi,Nat.reduceAdd];subst hI;simp only [zh,hO,hP];simp only [nrmA,nrmB,nrlB,reduceCtorEq,HO.pack.injEq,HO.abs.injEq,Gh.dk.injEq,Dk.mk.injEq,sumS,jh,ji,implies_true]
  (repeat' (first|refine ja ?_ ?_|intro _))<;>first|omega|exact jb|exact jc ‹False›|skip
  all_goals first
   |omega
   |exact hneed
   |exact q1 (by omega)
   |exact q2 (by omega) (nz (by omega))
   |exact q3 (by omega) (z (by omega)) (nz (by omega))
   |exact q4 (by omega) (z (by omega)) (z (by omega))
def zyh:Know Tryz.prog:=⟨30,zlD,zuN⟩
def zyg:Know Tryz.prog:=⟨30,fun I=>zx I (zlD I),zf zuN⟩
def zeF (I:Alg):KU
 |[.v (.one (.ptr 0 0))],[.abs (.dk ⟨o,w,true,l,n,b,s,c0,c1,c2,c3,t⟩)]=>(fun(o:Str) (l:List Upl) (b:Str) (t:List Int)=>(some (.one ⟨I.hid ((w=false→o=[])∧b.length≤100000∧0≤s∧s≤b.length∧o.length≤290000000),(.ret (.tup [])),[.abs (.dk ⟨(I.hid (o++logD ⟨l,n,b,s⟩)),true,true,l,n,b,s,c0,c1,c2,c3,t⟩)]⟩):Option CT)) o l b t
 |_,_=>none
set_option maxHeartbeats 8000000 in
theorem zqT:zu Tryz.prog 27 (zeF alg):=by
 intro args hp r h;unfold zeF at h;split at h<;>cases h
 rename_i o w l n b s c0 c1 c2 c3 t
 revert l t;intro(l:List Upl) (t:List Int)
 simp only [CT.Good,zh];intro hneed;obtain⟨hw,hb,hs0,hs1,ho⟩:=hneed
 refine spH Tryz.func27 (by kernel_rfl) { cfgD with keep:=some [0,2,3]} [znR,znQ,U9,U8,zbZ,zbY] (by kernel_rfl) ?_
 intro I X hI hX;cases w
 all_goals
  try(have hw:=hw rfl;subst hw)
  refine orcL ?_;go_invoke;refine orcS (by kernel_rfl) ?_
  simp only [zi,Nat.reduceAdd];subst hI;simp only [nrmA,nrmB,nrlB,reduceCtorEq,HO.pack.injEq,HO.abs.injEq,Gh.dk.injEq,Dk.mk.injEq,sumS,jh,ji,implies_true];have h1:=xh (b.length:Int);have h2:=xh s
  have h3:numI (b.length:Int)=decS (b.length:Int):=by unfold numI;rw [if_neg (by omega)]
  have h4:numI s=decS s:=by unfold numI;rw [if_neg (by omega)]
  (repeat' (first|refine ja ?_ ?_|intro _))<;>first|omega|exact jb|exact jc ‹False›|skip
  all_goals first
   |omega
   |(rw [h3,h4];rfl)
def zwz:Know Tryz.prog:=⟨27,zeF,zqT⟩
def zwy:Know Tryz.prog:=⟨27,fun I=>zx I (zeF I),zf zqT⟩
theorem zpx {l:List Upl} {i:Nat} {a r:Str} (h:a++Vl (l.drop i)=r):(i<l.length→(a++uplD (l.getD i ⟨0,0,[],[],0⟩))++Vl (l.drop (i+1))=r)∧(¬ i<l.length→a++sayD [endW]=r):=by
 refine⟨fun k=> ?_,fun k=> ?_⟩
 · rw [← h,jE k,Vl,show l.getD i ⟨0,0,[],[],0⟩=l[i] by simp [k],jo]
 · rw [← h,jF (by omega)];rfl
theorem znl {l:List Upl} {n:Int} (h:zI l n) {u:Upl} (hu:u ∈ l):1≤u.id∧u.id≤n∧(-1≤u.size∧u.size≤2000)∧u.bytes.length≤2000∧(0≤u.sent∧u.sent≤2)∧(u.note.length≤100∧(showS u.note).length≤400)∧(uplD u).length≤500:=by
 have h1:=h.ids u hu;have h2:=h.each u hu;have h3:=rQ u.note;have h4:=h2.nl
 exact⟨h1.1,h1.2,⟨h2.s1,h2.s2⟩,h2.bl,⟨h2.t0,h2.t2⟩,⟨h4,by omega⟩,zjn h2⟩
def QG (I:Alg):KU
 |[.v (.one (.ptr 0 0))],[.abs (.dk ⟨o,w,true,l,n,b,s,c0,c1,c2,c3,t⟩)]=>(fun(o:Str) (l:List Upl) (b:Str) (t:List Int)=>(some (.one ⟨I.hid ((w=false→o=[])∧zI l n∧n≤200000∧o.length≤280000000),(.ret (.tup [])),[.abs (.dk ⟨(I.hid (o++Vl l)),true,true,l,n,b,s,c0,c1,c2,c3,t⟩)]⟩):Option CT)) o l b t
 |_,_=>none
set_option maxHeartbeats 8000000 in
theorem zlA:zu Tryz.prog 26 (QG alg):=by
 intro args hp r h;unfold QG at h;split at h<;>cases h
 rename_i o w l n b s c0 c1 c2 c3 t
 revert l t;intro(l:List Upl) (t:List Int)
 simp only [CT.Good,zh];intro hneed;obtain⟨hw,hs,hn,ho⟩:=hneed
 refine spH Tryz.func26 (by kernel_rfl) { cfgD with keep:=some [0,3,17,18,19]} [zdA,zdz,WC,WB,Rz,Ry,U9,U8,zbZ,zbY] (by kernel_rfl) ?_
 intro I X hI hX;cases w
 · have hw:=hw rfl
   subst hw
   refine orcL ?_;go_invoke;refine orcS (by kernel_rfl) ?_
   simp only [zi,Nat.reduceAdd]
   refine⟨by subst hI;exact hs,?_⟩
   refine lpH hI [zdA,zdz,WC,WB,Rz,Ry,U9,U8,zbZ,zbY] hX [0,17,18,19] (fun(g:Nat × Str × Bool)=>match g with|(i,a,v)=>i≤l.length∧(v=false→a=[])∧a.length≤280000000+500 * i∧a++Vl (l.drop i)=[]++Vl l) (fun(g:Nat × Str × Bool)=>match g with|(i,a,v)=>⟨[(0,.v (.one (.ptr 0 0))),(17,.v (.one (.row 1))),(18,.v (.one (.p (.int .i64 ((I.len (α:=Upl) l)))))),(19,.v (.one (.p (.int .i64 i))))],[.abs (.dk ⟨a,v,true,l,n,b,s,c0,c1,c2,c3,t⟩),.row .upl 82 l],47,none⟩) (fun(g:Nat × Str × Bool)=>match g with|(i,a,v)=>l.length - i) (0,[],false) (by kernel_rfl) (by kernel_rfl) ?_ ?_
   · exact⟨jM _,(fun h=>by first|rfl|(cases h)),ho,rfl⟩
   rintro⟨i,a,v⟩ ⟨k1,k2,k3,k4⟩ A hA
   try simp only at hA
   refine orcL ?_;go_invoke;refine orcS (by kernel_rfl) ?_
   simp only [zi,Nat.reduceAdd];subst hI;simp only [nrmA,nrmB,nrlB,reduceCtorEq,HO.pack.injEq,HO.abs.injEq,Gh.dk.injEq,Dk.mk.injEq,sumS,jh,ji,implies_true];have hk:=zpx (a:=a) k4
   have hu:=fun(h:i<l.length)=>znl hs (show l.getD i ⟨0,0,[],[],0⟩ ∈ l by rw [show l.getD i ⟨0,0,[],[],0⟩=l[i] by simp [h]];exact List.getElem_mem h)
   have hgo:=fun(h:i<l.length)=>hA (i+1,a++uplD (l.getD i ⟨0,0,[],[],0⟩),true) ⟨by show i+1≤l.length;omega,(fun e=>Bool.noConfusion e),(by have:=(hu h).2.2.2.2.2.2;simp only [jk];omega),hk.1 h⟩ (by show l.length - (i+1)<l.length - i;omega)
   clear hA;have hcn:=hs.cnt;generalize l.getD i ⟨0,0,[],[],0⟩=u at *
   (repeat' (first|refine ja ?_ ?_|intro _))<;>first|omega|exact jb|exact jc ‹False›|skip
   all_goals first
    |omega
    |(have:=hu (by omega);omega)
    |(have:=hu (by omega);have:=xh u.id;have:=xh u.size;have:=xh (u.bytes.length:Int);have:=xh u.sent;omega)
    |(exact k2 ‹_›)
    |exact hgo (by omega)
    |exact hk.2 (by omega)
 · clear hw
   refine orcL ?_;go_invoke;refine orcS (by kernel_rfl) ?_
   simp only [zi,Nat.reduceAdd]
   refine⟨by subst hI;exact hs,?_⟩
   refine lpH hI [zdA,zdz,WC,WB,Rz,Ry,U9,U8,zbZ,zbY] hX [0,17,18,19] (fun(g:Nat × Str × Bool)=>match g with|(i,a,v)=>i≤l.length∧(v=false→a=[])∧a.length≤280000000+500 * i∧a++Vl (l.drop i)=o++Vl l) (fun(g:Nat × Str × Bool)=>match g with|(i,a,v)=>⟨[(0,.v (.one (.ptr 0 0))),(17,.v (.one (.row 1))),(18,.v (.one (.p (.int .i64 ((I.len (α:=Upl) l)))))),(19,.v (.one (.p (.int .i64 i))))],[.abs (.dk ⟨a,v,true,l,n,b,s,c0,c1,c2,c3,t⟩),.row .upl 82 l],47,none⟩) (fun(g:Nat × Str × Bool)=>match g with|(i,a,v)=>l.length - i) (0,o,true) (by kernel_rfl) (by kernel_rfl) ?_ ?_
   · exact⟨jM _,(fun h=>by first|rfl|(cases h)),ho,rfl⟩
   rintro⟨i,a,v⟩ ⟨k1,k2,k3,k4⟩ A hA
   try simp only at hA
   refine orcL ?_;go_invoke;refine orcS (by kernel_rfl) ?_
   simp only [zi,Nat.reduceAdd];subst hI;simp only [nrmA,nrmB,nrlB,reduceCtorEq,HO.pack.injEq,HO.abs.injEq,Gh.dk.injEq,Dk.mk.injEq,sumS,jh,ji,implies_true];have hk:=zpx (a:=a) k4
   have hu:=fun(h:i<l.length)=>znl hs (show l.getD i ⟨0,0,[],[],0⟩ ∈ l by rw [show l.getD i ⟨0,0,[],[],0⟩=l[i] by simp [h]];exact List.getElem_mem h)
   have hgo:=fun(h:i<l.length)=>hA (i+1,a++uplD (l.getD i ⟨0,0,[],[],0⟩),true) ⟨by show i+1≤l.length;omega,(fun e=>Bool.noConfusion e),(by have:=(hu h).2.2.2.2.2.2;simp only [jk];omega),hk.1 h⟩ (by show l.length - (i+1)<l.length - i;omega)
   clear hA;have hcn:=hs.cnt;generalize l.getD i ⟨0,0,[],[],0⟩=u at *
   (repeat' (first|refine ja ?_ ?_|intro _))<;>first|omega|exact jb|exact jc ‹False›|skip
   all_goals first
    |omega
    |(have:=hu (by omega);omega)
    |(have:=hu (by omega);have:=xh u.id;have:=xh u.size;have:=xh (u.bytes.length:Int);have:=xh u.sent;omega)
    |(exact k2 ‹_›)
    |exact hgo (by omega)
    |exact hk.2 (by omega)
def ztL:Know Tryz.prog:=⟨26,QG,zlA⟩
def ztK:Know Tryz.prog:=⟨26,fun I=>zx I (QG I),zf zlA⟩
end Go.Proofs.YtnpmenpjagcheaaGreatDoor
namespace Go.Proofs.YtnpmenpjagcheaaGreatDoor
open Go Go.Sep Go.Ab
set_option maxRecDepth 100000
structure LnN (p:PS) (x:Str):Prop where
 s:zI p.g.q.l p.g.q.n
 n:p.g.q.n≤200000
 b:p.g.q.b.length≤100000
 s0:0≤p.g.q.s
 s1:p.g.q.s≤p.g.q.b.length
 d:PdN p.g p.t (stepD x).1
 x:x.length≤12000
theorem zpy (o:Str) (p:PS) {x:Str} (h:x=zpz):o++Vl p.g.q.l=o++rM p x∧vT p x=p:=by
 subst h
 exact⟨by unfold rM;rw [if_neg (by decide),if_pos rfl],by unfold vT;rw [if_pos (.inr (.inl rfl))]⟩
theorem zsQ (o:Str) (p:PS) {x:Str} (h:x=logW):o++logD p.g.q=o++rM p x∧vT p x=p:=by
 subst h
 exact⟨by unfold rM;rw [if_neg (by decide),if_neg (by decide),if_pos rfl],by unfold vT;rw [if_pos (.inr (.inr rfl))]⟩
theorem zrL (o:Str) (p:PS) {x:Str} (h0: ¬ x=[]) (h1: ¬ x=zpz) (h2: ¬ x=logW) (h3:(stepD x).2=false):o++sayD [zuY]=o++rM p x∧vT p x=p:=by
 exact⟨by unfold rM;rw [if_neg h0,if_neg h1,if_neg h2,if_pos h3],by unfold vT;rw [if_neg (fun h=>h.elim h0 fun h=>h.elim h1 h2),if_pos h3]⟩
theorem zrW (o:Str) (p:PS) {x:Str} (h0: ¬ x=[]) (h1: ¬ x=zpz) (h2: ¬ x=logW) (h3:(stepD x).2=true):o++Xy (doO p.g (stepD x).1)=o++rM p x∧vT p x=doP p (stepD x).1:=by
 exact⟨by unfold rM;rw [if_neg h0,if_neg h1,if_neg h2,if_neg (by rw [h3];decide)],by unfold vT;rw [if_neg (fun h=>h.elim h0 fun h=>h.elim h1 h2),if_neg (by rw [h3];decide)]⟩
theorem zvJ (o:Str) (p:PS) {x:Str} (h:x=[]):o=o++rM p x∧vT p x=p:=by
 subst h
 exact⟨by unfold rM;rw [if_pos rfl,List.append_nil],by unfold vT;rw [if_pos (.inl rfl)]⟩
def QH (I:Alg):KU
 |[.v (.one (.ptr 0 0)),.v (.one (.p (.str x)))],[.abs (.dk ⟨o,w,true,l,n,b,s,c0,c1,c2,c3,t⟩)]=>(fun(o:Str) (l:List Upl) (b:Str) (t:List Int) (x:Str)=>(some (.one ⟨I.hid ((w=false→o=[])∧LnN ⟨⟨⟨l,n,b,s⟩,c0,c1,c2,c3⟩,t⟩ x∧o.length≤280000000),(.ret (.tup [])),[.abs (.dk ⟨(I.hid (o++rM ⟨⟨⟨l,n,b,s⟩,c0,c1,c2,c3⟩,t⟩ x)),(I.hid (or w (decide (¬ x=[])))),true,(I.hid ((vT ⟨⟨⟨l,n,b,s⟩,c0,c1,c2,c3⟩,t⟩ x).g.q.l)),(I.hid ((vT ⟨⟨⟨l,n,b,s⟩,c0,c1,c2,c3⟩,t⟩ x).g.q.n)),(I.hid ((vT ⟨⟨⟨l,n,b,s⟩,c0,c1,c2,c3⟩,t⟩ x).g.q.b)),(I.hid ((vT ⟨⟨⟨l,n,b,s⟩,c0,c1,c2,c3⟩,t⟩ x).g.q.s)),(I.hid ((vT ⟨⟨⟨l,n,b,s⟩,c0,c1,c2,c3⟩,t⟩ x).g.c0)),(I.hid ((vT ⟨⟨⟨l,n,b,s⟩,c0,c1,c2,c3⟩,t⟩ x).g.c1)),(I.hid ((vT ⟨⟨⟨l,n,b,s⟩,c0,c1,c2,c3⟩,t⟩ x).g.c2)),(I.hid ((vT ⟨⟨⟨l,n,b,s⟩,c0,c1,c2,c3⟩,t⟩ x).g.c3)),(I.hid ((vT ⟨⟨⟨l,n,b,s⟩,c0,c1,c2,c3⟩,t⟩ x).t))⟩)]⟩):Option CT)) o l b t x
 |_,_=>none
set_option maxHeartbeats 8000000 in
theorem zlB:zu Tryz.prog 17 (QH alg):=by
 intro args hp r h;unfold QH at h;split at h<;>cases h
 rename_i x o w l n b s c0 c1 c2 c3 t
 revert l t;intro(l:List Upl) (t:List Int)
 simp only [CT.Good,zh];intro hneed;obtain⟨hw,hn,ho⟩:=hneed;have e0:=zvJ o ⟨⟨⟨l,n,b,s⟩,c0,c1,c2,c3⟩,t⟩ (x:=x);have e1:=zpy o ⟨⟨⟨l,n,b,s⟩,c0,c1,c2,c3⟩,t⟩ (x:=x);have e2:=zsQ o ⟨⟨⟨l,n,b,s⟩,c0,c1,c2,c3⟩,t⟩ (x:=x);have e3:=zrL o ⟨⟨⟨l,n,b,s⟩,c0,c1,c2,c3⟩,t⟩ (x:=x);have e4:=zrW o ⟨⟨⟨l,n,b,s⟩,c0,c1,c2,c3⟩,t⟩ (x:=x);have hsl:=Ws x;generalize rM ⟨⟨⟨l,n,b,s⟩,c0,c1,c2,c3⟩,t⟩ x=T at *;generalize vT ⟨⟨⟨l,n,b,s⟩,c0,c1,c2,c3⟩,t⟩ x=Z at *
 refine spH Tryz.func17 (by kernel_rfl) { cfgD with keep:=some [0,1,4,5,6]} [zbZ,zbY,ztJ,ztI,zyh,zyg,zwz,zwy,ztL,ztK] (by kernel_rfl) ?_
 intro I X hI hX
 refine orcL ?_;go_invoke;refine orcS (by kernel_rfl) ?_
 simp only [zi,Nat.reduceAdd];subst hI;simp only [nrmA,nrmB,nrlB,reduceCtorEq,HO.pack.injEq,HO.abs.injEq,Gh.dk.injEq,Dk.mk.injEq,sumS,jh,ji,implies_true];obtain⟨g1,g2,g3,g4,g5,g6,g7⟩:=hn;simp only at g1 g2 g3 g4 g5 g6
 have hor: ¬ x=[]→true=(w||decide (¬ x=[])):=fun h=>by rw [decide_eq_true h,Bool.or_true]
 refine⟨fun h=> ?_,fun h0=>⟨fun h=> ?_,fun h1=>⟨fun h=> ?_,fun h2=>⟨by omega,fun h=> ?_,fun h=> ?_⟩⟩⟩⟩
 · obtain⟨a,rfl⟩:=e0 h
   exact⟨a,by subst h;cases w<;>rfl,rfl,rfl,rfl,rfl,rfl,rfl,rfl,rfl,rfl⟩
 · obtain⟨a,rfl⟩:=e1 h
   exact⟨⟨hw,g1,g2,ho⟩,a,hor h0,rfl,rfl,rfl,rfl,rfl,rfl,rfl,rfl,rfl⟩
 · obtain⟨a,rfl⟩:=e2 h
   exact⟨⟨hw,g3,g4,g5,by omega⟩,a,hor h0,rfl,rfl,rfl,rfl,rfl,rfl,rfl,rfl,rfl⟩
 · obtain⟨a,rfl⟩:=e3 h0 h1 h2 h
   exact⟨⟨hw,by omega,by omega,by omega⟩,a,hor h0,rfl,rfl,rfl,rfl,rfl,rfl,rfl,rfl,rfl⟩
 · obtain⟨a,rfl⟩:=e4 h0 h1 h2 h
   exact⟨⟨hw,g6,by omega,by omega⟩,a,hor h0,rfl,rfl,rfl,rfl,rfl,rfl,rfl,rfl,rfl⟩
def zeH:Know Tryz.prog:=⟨17,QH,zlB⟩
def zeG:Know Tryz.prog:=⟨17,fun I=>zx I (QH I),zf zlB⟩
def zeE (I:Alg):KU
 |[],[]=>some (.one ⟨I.hid (True),(.ret (.v (.one (.ptr 0 0)))),[.abs (.dk ⟨(I.hid ([])),false,true,(I.hid ([])),0,(I.hid ([])),0,cn0,cn0,cn0,cn0,(I.hid ([]))⟩)]⟩)
 |_,_=>none
theorem zqS:zu Tryz.prog 7 (zeE alg):=by
 intro args hp r h;unfold zeE at h;split at h<;>cases h
 simp only [CT.Good,zh];intro _
 refine spH Tryz.func7 (by kernel_rfl) { cfgD with keep:=some [0]} [zvy,zvx] (by kernel_rfl) ?_
 intro I X hI hX
 refine orcL ?_;go_invoke;refine orcS (by kernel_rfl) ?_
 simp only [zi,Nat.reduceAdd];subst hI;simp only [nrmA,nrmB,nrlB,reduceCtorEq,HO.pack.injEq,HO.abs.injEq,Gh.dk.injEq,Dk.mk.injEq]
def zqR:Know Tryz.prog:=⟨7,zeE,zqS⟩
def zqQ:Know Tryz.prog:=⟨7,fun I=>zx I (zeE I),zf zqS⟩
end Go.Proofs.YtnpmenpjagcheaaGreatDoor
namespace Go.Proofs.YtnpmenpjagcheaaGreatDoor
open Go Go.Sep Go.Ab
set_option maxRecDepth 100000
def zdI (I:Alg):KU
 |[.v (.one (.ptr 0 0))],[.abs (.dk ⟨([]),false,v,l,n,b,s1,c0,c1,c2,c3,t⟩)]=>(fun(l:List Upl) (b:Str) (t:List Int)=>(some (.one ⟨I.hid (True),(.ret (.tup [])),[.abs (.dk ⟨(I.hid ([])),false,true,l,n,b,s1,c0,c1,c2,c3,t⟩)]⟩):Option CT)) l b t
 |_,_=>none
theorem zoj:zu Tryz.prog 16 (zdI alg):=by
 intro args hp r h;unfold zdI at h;split at h<;>cases h
 rename_i v l n b s1 c0 c1 c2 c3 t
 revert l t;intro(l:List Upl) (t:List Int)
 simp only [CT.Good,zh];intro _;cases v
 · exact zyO ..
 · exact zxb ..
def zh4:Know Tryz.prog:=⟨16,zdI,zoj⟩
def zh3:Know Tryz.prog:=⟨16,fun I=>zx I (zdI I),zf zoj⟩
def zdr (I:Alg):KU
 |[.v (.one (.ptr 0 0))],[.abs (.dk ⟨o,v,true,l,n,b,s,c0,c1,c2,c3,t⟩)]=>(fun(o:Str) (l:List Upl) (b:Str) (t:List Int)=>(some (.one ⟨I.hid ((v=false→o=[])∧(v=true→o≠[])),(.ret (.v (.one (.p (.str o))))),[.abs (.dk ⟨(I.hid ([])),false,false,l,n,b,s,c0,c1,c2,c3,t⟩)]⟩):Option CT)) o l b t
 |_,_=>none
theorem znM:zu Tryz.prog 18 (zdr alg):=by
 intro args hp r h;unfold zdr at h;split at h<;>cases h
 rename_i o v l n b s c0 c1 c2 c3 t
 revert l t;intro(l:List Upl) (t:List Int)
 simp only [CT.Good,zh];intro hneed;cases v
 · rw [hneed.1 rfl];exact zyH ..
 · exact zw1 _ _ _ _ _ _ _ _ _ _ (hneed.2 rfl)
def zhJ:Know Tryz.prog:=⟨18,zdr,znM⟩
def zhI:Know Tryz.prog:=⟨18,fun I=>zx I (zdr I),zf znM⟩
def badB (s:Str):Bool:=decide (0≤Lib.indexByte s 10)
def badI (x:List Str):Nat:=x.findIdx badB
def fltC (x:List Str):Int:=if 300<x.length then 8 else if badI x<x.length then 2 else 0
def fltA (x:List Str):Int:=if 300<x.length then -1 else if badI x<x.length then(badI x:Int) else 0
def doQ (p:PS) (x:List Str):PS:=if fltC x≠0 then p else Yg p x
def doS (p:PS) (x:List Str):Str:=if fltC x≠0 then [] else linesT p x
def DoN (p:PS) (x:List Str):Prop:=∃ m N k,PsI p m N k∧25000≤m∧N+sumL x≤30000∧m+12 * sumL x+400≤199980∧k≤100000∧sumL x≤12000
theorem zyv {x:List Str} {i:Nat} (hi:i<x.length) (hp: ∀ j,j<i→badB (x.getD j [])=false) (h:badB (x.getD i [])=true):badI x=i:=by
 unfold badI
 have e:x.getD i []=x[i]:=by simp [hi]
 rw [List.findIdx_eq hi];rw [e] at h;refine⟨h,fun j hj=> ?_⟩;have h2:=hp j hj
 rwa [show x.getD j []=x[j]'(by omega) by simp [show j<x.length by omega]] at h2
theorem zyu {x:List Str} (hp: ∀ j,j<x.length→badB (x.getD j [])=false):badI x=x.length:=by
 unfold badI;rw [List.findIdx_eq_length];intro s hs;obtain⟨j,hj⟩:=List.getElem?_of_mem hs;have hl:=(jl.1 hj).1;have h2:=hp j hl
 rw [show x.getD j []=s by rw [jH,hj];rfl] at h2
 exact h2
theorem zft (x:List Str):sayD x≠[]:=by unfold sayD;simp
theorem zsV {p:PS} {x:Str} (h: ¬ x=[]):rM p x≠[]:=by
 unfold rM;rw [if_neg h]
 repeat' split
 · cases p.g.q.l with
   |nil=>exact zft _
   |cons u l=>unfold Vl;intro e;exact zft _ (List.append_eq_nil_iff.1 e).1
 · exact zft _
 · exact zft _
 · unfold Xy
   repeat' split
   all_goals exact zft _
theorem zpA (p:PS) {x:Str} (h:x=[]):rM p x=[]:=by unfold rM;rw [if_pos h]
theorem zrV {x:List Str} {i:Nat} (h:i<x.length):sumL (x.take i)+(x.getD i []).length≤sumL x:=by
 have:=qQ x (i+1);rw [jB h,Ze] at this
 rw [show x.getD i []=x[i] by simp [h]]
 simpa [sumL] using this
theorem zwx {p0 p:PS} {m:Int} {N k i:Nat} {x:List Str} {o:Str} (h:DkI p0 m N k x i p o) (hi:i<x.length) (h1:25000≤m) (h2:N+sumL x≤30000) (h3:m+12 * sumL x+400≤199980) (h4:k≤100000) (h5:sumL x≤12000) (h6:x.length≤300):LnN p (x.getD i [])∧o.length≤280000000:=by
 have hg:=zrV hi;have hq:=h.ps.g.q;have ho:=h.ol
 have hd:=zsC h.ps (by omega) (x.getD i []) (by omega) (by omega) (by omega)
 exact⟨⟨hq.1,by have:=hq.2.2.1;omega,hq.2.1,hq.2.2.2.1,hq.2.2.2.2,hd,by omega⟩,by omega⟩
def zeI (I:Alg):KU
 |[.v (.one (.ptr 0 0)),.v (.one (.p (.list .str x)))],[.abs (.dk ⟨o,false,v,l,n,b,s,c0,c1,c2,c3,t⟩)]=>(fun(o:Str) (l:List Upl) (b:Str) (t:List Int) (x:List Str)=>(some (.one ⟨I.hid (o=[]∧DoN ⟨⟨⟨l,n,b,s⟩,c0,c1,c2,c3⟩,t⟩ x),(.ret (.tup [.one (.p (.str (I.hid (doS ⟨⟨⟨l,n,b,s⟩,c0,c1,c2,c3⟩,t⟩ x)))),.agg [.p (.int .i64 (I.hid (fltC x))),.p (.int .i64 (I.hid (fltA x)))]])),[.abs (.dk ⟨(I.hid ([])),false,(I.hid (and v (decide (fltC x≠0)))),(I.hid ((doQ ⟨⟨⟨l,n,b,s⟩,c0,c1,c2,c3⟩,t⟩ x).g.q.l)),(I.hid ((doQ ⟨⟨⟨l,n,b,s⟩,c0,c1,c2,c3⟩,t⟩ x).g.q.n)),(I.hid ((doQ ⟨⟨⟨l,n,b,s⟩,c0,c1,c2,c3⟩,t⟩ x).g.q.b)),(I.hid ((doQ ⟨⟨⟨l,n,b,s⟩,c0,c1,c2,c3⟩,t⟩ x).g.q.s)),(I.hid ((doQ ⟨⟨⟨l,n,b,s⟩,c0,c1,c2,c3⟩,t⟩ x).g.c0)),(I.hid ((doQ ⟨⟨⟨l,n,b,s⟩,c0,c1,c2,c3⟩,t⟩ x).g.c1)),(I.hid ((doQ ⟨⟨⟨l,n,b,s⟩,c0,c1,c2,c3⟩,t⟩ x).g.c2)),(I.hid ((doQ ⟨⟨⟨l,n,b,s⟩,c0,c1,c2,c3⟩,t⟩ x).g.c3)),(I.hid ((doQ ⟨⟨⟨l,n,b,s⟩,c0,c1,c2,c3⟩,t⟩ x).t))⟩)]⟩):Option CT)) o l b t x
 |_,_=>none
set_option maxHeartbeats 8000000 in
theorem zqW:zu Tryz.prog 8 (zeI alg):=by
 intro args hp r h;unfold zeI at h;split at h<;>cases h
 rename_i x o v l n b s c0 c1 c2 c3 t
 revert x l t;intro(x:List Str) (l:List Upl) (t:List Int)
 simp only [CT.Good,zh];intro hneed;obtain⟨rfl,M,N,K,hP,hM,h2,h3,h4,h5⟩:=hneed;obtain⟨p0,hp0⟩: ∃ p0:PS,p0=⟨⟨⟨l,n,b,s⟩,c0,c1,c2,c3⟩,t⟩:=⟨_,rfl⟩;rw [← hp0] at hP ⊢
 have r1:fltC x≠0→doS p0 x=[]∧doQ p0 x=p0:=fun h=>by unfold doS doQ;rw [if_pos h,if_pos h];exact⟨rfl,rfl⟩
 have r2:fltC x=0→doS p0 x=linesT p0 x∧doQ p0 x=Yg p0 x:=fun h=>by unfold doS doQ;rw [if_neg (fun k=>k h),if_neg (fun k=>k h)];exact⟨rfl,rfl⟩
 have f8:300<x.length→fltC x=8∧fltA x= -1:=fun h=>by unfold fltC fltA;rw [if_pos h,if_pos h];exact⟨rfl,rfl⟩
 have f2: ∀ i,¬ 300<x.length→i<x.length→(∀ j,j<i→badB (x.getD j [])=false)→badB (x.getD i [])=true→fltC x=2∧fltA x=i:=fun i h h1 h2 h3=>by
  unfold fltC fltA;rw [zyv h1 h2 h3,if_neg h,if_neg h,if_pos h1,if_pos h1];exact⟨rfl,rfl⟩
 have f0: ¬ 300<x.length→(∀ j,j<x.length→badB (x.getD j [])=false)→fltC x=0∧fltA x=0:=fun h h1=>by
  unfold fltC fltA;rw [zyu h1,if_neg h,if_neg h,if_neg (Nat.lt_irrefl _),if_neg (Nat.lt_irrefl _)];exact⟨rfl,rfl⟩
 generalize fltC x=fc at *;generalize fltA x=fa at *;generalize doS p0 x=ss at *;generalize doQ p0 x=Z at *
 refine spH Tryz.func8 (by kernel_rfl) { cfgD with keep:=some [0,1,4,5,6,7,9,14,15,16,30,31,32]} [zh4,zh3,uS,uQ,zeH,zeG,zhJ,zhI] (by kernel_rfl) ?_
 intro I X hI hX
 refine orcL ?_;go_invoke;refine orcS (by kernel_rfl) ?_
 simp only [zi,Nat.reduceAdd];refine⟨fun h=> ?_,fun h=> ?_⟩
 · subst hI
   simp only [nrmA,nrmB,nrlB,reduceCtorEq] at *
   obtain⟨rfl,rfl⟩:=f8 (by omega)
   obtain⟨rfl,rfl⟩:=r1 (by decide)
   subst hp0
   cases v<;>exact⟨⟨rfl,rfl⟩,rfl⟩
 have hlen: ¬ 300<x.length:=by subst hI;simp only [nrmA,nrmB] at *;omega
 refine lpH hI [zh4,zh3,uS,uQ,zeH,zeG,zhJ,zhI] hX [0,1,4,5,14,15,16] (fun(i:Nat)=>i≤x.length∧∀ j,j<i→badB (x.getD j [])=false) (fun(i:Nat)=>⟨[(0,.v (.one (.ptr 0 0))),(1,.v (.one (.p (.list .str x)))),(4,.v (.one (.p (.str ([]))))),(5,.v (.one (.ptr 1 0))),(14,.v (.one (.p (.list .str x)))),(15,.v (.one (.p (.int .i64 ((I.len (α:=Str) x)))))),(16,.v (.one (.p (.int .i64 i))))],[.abs (.dk ⟨([]),false,v,l,n,b,s,c0,c1,c2,c3,t⟩),.pack [.obj 29 [.p (.int .i64 0),.p (.int .i64 0)]]],45,none⟩) (fun(i:Nat)=>x.length - i) 0 (by kernel_rfl) (by kernel_rfl) ?_ ?_
 · exact⟨jM _,fun j hj=>absurd hj (Nat.not_lt_zero _)⟩
 rintro i ⟨k1,k2⟩ A hA
 have hz: ∀ {y:Bool},fc≠0→(y&&decide (fc≠0))=y:=fun h=>by rw [decide_eq_true h,Bool.and_true]
 refine orcL ?_;go_invoke;refine orcS (by kernel_rfl) ?_
 simp only [zi,Nat.reduceAdd];refine⟨fun h=> ?_,fun h=> ?_⟩
 · subst hI
   rw [ZN,zN,decide_eq_true_eq] at h
   have hi:i<x.length:=by omega
   have hin:(0:Int)≤i∧(i:Int)<x.length:=by omega
   refine⟨hin,hin,trivial,fun hb=> ?_,fun hb=>⟨⟨by rw [Yl];show(-9223372036854775808:Int)≤(i:Int)+1;omega,by rw [Ym];show(i:Int)+1≤9223372036854775807;omega⟩,hA (i+1) ⟨by omega,fun j hj=> ?_⟩ (by omega),trivial⟩⟩
   · obtain⟨rfl,rfl⟩:=f2 i hlen hi k2 hb
     obtain⟨rfl,rfl⟩:=r1 (by decide)
     subst hp0
     cases v<;>exact⟨rfl,rfl⟩
   · rcases Nat.lt_or_ge j i with q|q
     · exact k2 j q
     · rw [show j=i by omega];exact hb
 have hi: ¬ i<x.length:=by subst hI;rw [ZN,zN,decide_eq_false_iff_not] at h;omega
 obtain⟨e0,rfl⟩:=f0 hlen (fun j hj=>k2 j (by omega))
 subst e0;obtain⟨rfl,rfl⟩:=r2 rfl
 have hh: ∀ {α:Type} (x:α),I.hid x=x:=by subst hI;intros;rfl
 refine⟨by subst hI;trivial,?_⟩
 simp only [hh];clear hA f8 f2 f0 r1 r2 k2 hz;have hd0:=dk_0 hP x
 refine lpH hI [zh4,zh3,uS,uQ,zeH,zeG,zhJ,zhI] hX [0,5,30,31,32] (fun(g:Nat × Str × Bool × List Upl × Int × Str × Int × Cn × Cn × Cn × Cn × List Int)=>match g with|(i,a,u,l',n',b',s',d0,d1,d2,d3,t')=>DkI p0 M N K x i ⟨⟨⟨l',n',b',s'⟩,d0,d1,d2,d3⟩,t'⟩ a∧(u=false→a=[])∧(u=true→a≠[])) (fun(g:Nat × Str × Bool × List Upl × Int × Str × Int × Cn × Cn × Cn × Cn × List Int)=>match g with|(i,a,u,l',n',b',s',d0,d1,d2,d3,t')=>⟨[(0,.v (.one (.ptr 0 0))),(5,.v (.one (.ptr 1 0))),(30,.v (.one (.p (.list .str x)))),(31,.v (.one (.p (.int .i64 ((I.len (α:=Str) x)))))),(32,.v (.one (.p (.int .i64 i))))],[.abs (.dk ⟨a,u,true,(l'),(n'),(b'),(s'),d0,d1,d2,d3,(t')⟩),.pack [.obj 29 [.p (.int .i64 0),.p (.int .i64 0)]]],45,none⟩) (fun(g:Nat × Str × Bool × List Upl × Int × Str × Int × Cn × Cn × Cn × Cn × List Int)=>match g with|(i,a,u,l',n',b',s',d0,d1,d2,d3,t')=>x.length - i) (0,[],false,l,n,b,s,c0,c1,c2,c3,t) (by kernel_rfl) (by kernel_rfl) ?_ ?_
 · exact⟨by rw [← hp0];exact hd0,fun _=>rfl,fun h=>by cases h⟩
 rintro⟨i,a,u,l',n',b',s',d0,d1,d2,d3,t'⟩ ⟨k1,k2,k3⟩ A hA
 try simp only at k1 k2 k3
 refine orcL ?_;go_invoke;refine orcS (by kernel_rfl) ?_
 simp only [zi,Nat.reduceAdd]
 have hnx:=fun(h:i<x.length)=>zwx k1 h hM h2 h3 h4 h5 (by omega)
 have hsx:=fun(h:i<x.length)=>dk_s k1 hM h h2;refine⟨fun h=> ?_,fun h=> ?_⟩
 · subst hI
   rw [ZN,zN,decide_eq_true_eq] at h
   have hi:i<x.length:=by omega
   have hin:(0:Int)≤i∧(i:Int)<x.length:=by omega
   obtain⟨g1,g2⟩:=hnx hi;have e1:alg.get x ([]:Str) (i:Int)=x.getD i []:=rfl;rw [e1];have e2:=fun h=>zsV (p:=⟨⟨⟨l',n',b',s'⟩,d0,d1,d2,d3⟩,t'⟩) (x:=x.getD i []) h;have e3:=fun h=>zpA ⟨⟨⟨l',n',b',s'⟩,d0,d1,d2,d3⟩,t'⟩ (x:=x.getD i []) h;have hs:=hsx hi;clear hnx hsx e1;generalize x.getD i []=y at *
   refine⟨hin,hin,⟨k2,g1,g2⟩,⟨by rw [Yl];show(-9223372036854775808:Int)≤(i:Int)+1;omega,by rw [Ym];show(i:Int)+1≤9223372036854775807;omega⟩,hA (i+1,a++rM ⟨⟨⟨l',n',b',s'⟩,d0,d1,d2,d3⟩,t'⟩ y,u||decide (¬ y=[]),_,_,_,_,_,_,_,_,_) ⟨hs,fun e=> ?_,fun e=> ?_⟩ (by show x.length - (i+1)<x.length - i;omega),trivial⟩
   · rw [Bool.or_eq_false_iff,decide_eq_false_iff_not,Decidable.not_not] at e
     show a++_=[]
     rw [k2 e.1,e3 e.2];rfl
   · show a++_≠[]
     intro q;have q:=List.append_eq_nil_iff.1 q;rw [Bool.or_eq_true,decide_eq_true_eq] at e
     rcases e with e|e
     · exact k3 e q.1
     · exact e2 e q.2
 · subst hI
   rw [ZN,zN,decide_eq_false_iff_not] at h;refine⟨⟨k2,k3⟩,?_⟩;have e1:=k1.hp;have e2:=k1.ho
   rw [jq (by omega)] at e1 e2
   rw [← e1,← e2]
   cases v<;>exact⟨rfl,rfl⟩
def zqV:Know Tryz.prog:=⟨8,zeI,zqW⟩
def zqU:Know Tryz.prog:=⟨8,fun I=>zx I (zeI I),zf zqW⟩
end Go.Proofs.YtnpmenpjagcheaaGreatDoor
namespace Go.Proofs.YtnpmenpjagcheaaGreatDoor
open Go Go.Sep Go.Ab
set_option maxRecDepth 100000
def dkbL:List Str:=[[98,121,116,101,115,32,48,32,71,69,84,32,47,32,72,84,84,80,47,49,46,49,92,114,92,110,72,111,115,116,58,32,97,92,114,92,110,92,114,92,110],[108,105,115,116],[108,111,103],[115,101,110,100,32,49],[100,114,111,112,32,52],[120]]
def dkbO:Str:=[111,117,116,32,72,84,84,80,47,49,46,49,32,52,48,52,32,78,111,116,32,70,111,117,110,100,92,114,92,110,67,111,110,116,101,110,116,45,76,101,110,103,116,104,58,32,48,92,114,92,110,92,114,92,110,10,101,110,100,10,108,111,103,32,48,32,48,10,110,111,32,49,48,10,110,111,32,49,10,119,104,97,116,10]
theorem ztG:fltC dkbL=0:=by decide+kernel
theorem zww:doS ps0 dkbL=dkbO:=by decide+kernel
theorem zyc:DoN ps0 dkbL:=⟨25000,0,0,ps_0,by decide,by decide+kernel,by decide+kernel,by decide,by decide+kernel⟩
def qp (I:Alg):KU
 |[],[]=>some (.one ⟨I.hid (True),(.ret (.v (.one (.p (.bool true))))),[]⟩)
 |_,_=>none
set_option maxHeartbeats 4000000 in
theorem Sj:zu Tryz.prog 5 (qp alg):=by
 intro args hp r h;unfold qp at h;split at h<;>cases h
 simp only [CT.Good,zh];intro _
 refine spH Tryz.func5 (by kernel_rfl) { cfgD with fz:=[8],keep:=some [0,1,2]} [zqR,zqQ,zqV,zqU] (by kernel_rfl) ?_
 intro I X hI hX
 refine orcL ?_;go_invoke;refine orcS (by kernel_rfl) ?_
 simp only [zi,Nat.reduceAdd];rw [show([[98,121,116,101,115,32,48,32,71,69,84,32,47,32,72,84,84,80,47,49,46,49,92,114,92,110,72,111,115,116,58,32,97,92,114,92,110,92,114,92,110],[108,105,115,116],[108,111,103],[115,101,110,100,32,49],[100,114,111,112,32,52],[120]]:List Str)=dkbL from rfl];subst hI;simp only [zh];rw [show(⟨⟨⟨[],0,[],0⟩,cn0,cn0,cn0,cn0⟩,[]⟩:PS)=ps0 from rfl,ztG,zww]
 trace_state
 exact⟨trivial,⟨trivial,zyc⟩,fun _=>⟨rfl,trivial⟩,fun h=>absurd h (by decide)⟩
def zhh:Know Tryz.prog:=⟨5,qp,Sj⟩
def zhg:Know Tryz.prog:=⟨5,fun I=>zx I (qp I),zf Sj⟩
end Go.Proofs.YtnpmenpjagcheaaGreatDoor
namespace Go.Proofs.YtnpmenpjagcheaaGreatDoor
open Go Go.Sep Go.Ab
set_option maxRecDepth 100000
theorem zvc {x:List Str} {i:Nat} (h:i<x.length):sumL (x.take (i+1))=sumL (x.take i)+(x.getD i []).length:=by
 rw [jB h,Ze,show x.getD i []=x[i] by simp [h]]
 simp [sumL]
theorem zrU {x:List Str} {i:Nat}:sumL (x.take i)≤sumL x:=qQ x i
def zdx (I:Alg):KU
 |[.v (.one (.p (.list .str l)))],[]=>(fun(l:List Str)=>(some (.one ⟨I.hid (l.length≤1000∧∀ x ∈ l,x.length≤140737488355328),(.ret (.v (.one (.p (.bool (I.hid (decide (12000<sumL l)))))))),[]⟩):Option CT)) l
 |_,_=>none
set_option maxHeartbeats 4000000 in
theorem znW:zu Tryz.prog 6 (zdx alg):=by
 intro args hp r h;unfold zdx at h;split at h<;>cases h
 rename_i l
 revert l;intro(l:List Str)
 simp only [CT.Good,zh];intro hneed;generalize hr:decide (12000<sumL l)=r
 refine spH Tryz.func6 (by kernel_rfl) { keep:=some [0,2,3,4]} [] (by kernel_rfl) ?_
 intro I X hI hX
 refine orcL ?_;go_invoke;refine orcS (by kernel_rfl) ?_
 simp only [zi,Nat.reduceAdd]
 refine lpH hI [] hX [0,3,4] (fun(g:Nat × Int)=>match g with|(i,n)=>(i≤l.length∧n=sumL (l.take i))∧sumL (l.take i)≤12000) (fun(g:Nat × Int)=>match g with|(i,n)=>⟨[(0,.v (.one (.p (.list .str l)))),(3,.v (.one (.p (.int .i64 n)))),(4,.v (.one (.p (.int .i64 i))))],[],20,none⟩) (fun(g:Nat × Int)=>match g with|(i,n)=>l.length - i) (0,0) (by kernel_rfl) (by kernel_rfl) ?_ ?_
 · exact⟨⟨jM _,rfl⟩,jM _⟩
 rintro⟨i,n⟩ ⟨⟨h1,rfl⟩,h2⟩ A hA;simp only at hA
 refine orcL ?_;go_invoke;refine orcS (by kernel_rfl) ?_
 simp only [zi,Nat.reduceAdd];subst hI;simp only [nrmA,nrmB,nrlB,reduceCtorEq];have hs:=fun h:i<l.length=>zvc h
 have hx:i<l.length→(l.getD i []).length≤140737488355328:=fun h=>hneed.2 _ (by simp [h])
 have hend: ¬ i<l.length→r=false:=fun h=>by rw [← hr,decide_eq_false_iff_not];rw [jq (by omega)] at h2;omega
 have hov:i<l.length→12000<sumL (l.take (i+1))→r=true:=fun h h3=>by rw [← hr,decide_eq_true_eq];have:=zrU (x:=l) (i:=i+1);omega
 have hgo:i<l.length→sumL (l.take (i+1))≤12000→_:=fun h h3=>hA (i+1,(sumL (l.take (i+1)):Nat)) ⟨⟨by show i+1≤l.length;omega,rfl⟩,h3⟩ (by show l.length - (i+1)<l.length - i;omega)
 clear hA;generalize l.getD i []=x at *;generalize sumL (l.take i)=a at *;generalize sumL (l.take (i+1))=b at *;have hlen:=hneed.1
 (repeat' (first|refine ja ?_ ?_|intro _))<;>first|omega|exact jb|exact jc ‹False›|skip
 all_goals first
  |omega
  |exact(hend (by omega)).symm
  |(rw [hov (by omega) (by have:=hs (by omega);omega)];done)
  |(rw [show(a:Int)+x.length=((b:Nat):Int) by have:=hs (by omega);omega];exact hgo (by omega) (by have:=hs (by omega);omega))
  |(have:=hs (by omega);have:=hx (by omega);omega)
def zvh:Know Tryz.prog:=⟨6,zdx,znW⟩
def zvg:Know Tryz.prog:=⟨6,fun I=>zx I (zdx I),zf znW⟩
end Go.Proofs.YtnpmenpjagcheaaGreatDoor
namespace Go.Proofs.YtnpmenpjagcheaaGreatDoor
open Go Go.Sep Go.Ab
set_option maxRecDepth 100000
theorem ziJ {x:List Str} (h:x.length≤300):fltC x=0↔∀ s ∈ x,badB s=false:=by
 unfold fltC badI
 rw [if_neg (by omega)]
 by_cases q:x.findIdx badB<x.length
 · rw [if_pos q]
   obtain⟨s,hs,hb⟩:=List.findIdx_lt_length.1 q
   refine⟨fun h1=>absurd h1 (by decide),fun h1=> ?_⟩
   rw [h1 s hs] at hb;cases hb
 · rw [if_neg q]
   refine⟨fun _ s hs=> ?_,fun _=>rfl⟩
   cases hb:badB s with
   |false=>rfl
   |true=>exact absurd (List.findIdx_lt_length.2 ⟨s,hs,hb⟩) q
theorem zqL {p0:PS} {m:Int} {N k:Nat} {l:List Str} (h:PsI p0 m N k) (hm:25000≤m) (hN:N+sumL l≤30000): ∀ i,i≤l.length→DkI p0 m N k l i (Yg p0 (l.take i)) (linesT p0 (l.take i))
 |0,_=>by rw [List.take_zero];exact dk_0 h l
 | i+1,hi=>by
   have h2:=dk_s (zqL h hm hN i (by omega)) hm (by omega) hN
   have e1:=h2.hp;have e2:=h2.ho;rw [← e1,← e2];exact h2
structure JnF (l:List Str) (k:Nat):Prop where
 n0:DoN ps0 l
 na:DoN ps0 (l.take k)
 nb:DoN (doQ ps0 (l.take k)) (l.drop k)
 e1:fltC l≠0→fltC (l.take k)=0→fltC (l.drop k)≠0
 e2:fltC l=0→fltC (l.take k)=0∧fltC (l.drop k)=0∧doS ps0 (l.take k)++doS (doQ ps0 (l.take k)) (l.drop k)=doS ps0 l
 e3:fltC l=0→(doS ps0 l).length≤300000000
theorem don0 {l:List Str} (h2:sumL l≤12000):DoN ps0 l:=⟨25000,0,0,ps_0,by decide,by omega,by omega,by decide,h2⟩
theorem jn_f {l:List Str} {k:Nat} (h1:l.length≤300) (h2:sumL l≤12000):JnF l k:=by
 have ha:=qQ l k
 have hb:sumL (l.drop k)≤sumL l:=by
  have h:=Ze (l.take k) (l.drop k);rw [List.take_append_drop] at h;omega
 have la:(l.take k).length≤300:=by rw [jv];omega
 have lb:(l.drop k).length≤300:=by rw [jC];omega
 have hD:=zqL (l:=l) ps_0 (by decide) (by omega)
 have hA:=zqL (l:=l.take k) ps_0 (by decide) (by omega) (l.take k).length (jL _)
 rw [List.take_length] at hA;have hL:=hD l.length (jL _);rw [List.take_length] at hL;have f0:=ziJ h1;have fa:=ziJ la;have fb:=ziJ lb
 have hin:(∀ s ∈ l,badB s=false)↔(∀ s ∈ l.take k,badB s=false)∧∀ s ∈ l.drop k,badB s=false:=by
  constructor
  · exact fun h=>⟨fun s hs=>h s (List.mem_of_mem_take hs),fun s hs=>h s (List.mem_of_mem_drop hs)⟩
  · intro h s hs
    rw [← List.take_append_drop k l,List.mem_append] at hs;exact hs.elim (h.1 s) (h.2 s)
 refine⟨don0 h2,don0 (by omega),?_,fun q1 q2 q3=>q1 (f0.2 (hin.2 ⟨fa.1 q2,fb.1 q3⟩)),fun q=> ?_,fun q=> ?_⟩
 · unfold doQ
   split
   · exact don0 (by omega)
   · have:=hA.ps
     have hx:=Ze (l.take k) (l.drop k);rw [List.take_append_drop] at hx;have hy:=qQ (l.take k) (l.take k).length
     exact⟨_,_,_,this,by omega,by omega,by omega,by omega,by omega⟩
 · obtain⟨q1,q2⟩:=hin.1 (f0.1 q)
   have q1:=fa.2 q1;have q2:=fb.2 q2;refine⟨q1,q2,?_⟩;unfold doS doQ;rw [if_neg (fun h=>h q1),if_neg (fun h=>h q2),if_neg (fun h=>h q1),if_neg (fun h=>h q),← UI,List.take_append_drop]
 · unfold doS
   rw [if_neg (fun h=>h q)];have:=hL.ol;have hy:=qQ l l.length;omega
theorem zwM {n:Nat} (hn:n≤140737488355328):IntKind.u64.wrap ((n:Int)+1)=(n:Int)+1:=
 Ul (k:=.u64) (show IntKind.u64.min≤(n:Int)+1∧(n:Int)+1≤IntKind.u64.max by rw [show IntKind.u64.min=0 from rfl,show IntKind.u64.max=18446744073709551615 by decide];omega)
theorem k_of {n:Nat} {cut:Int} (hn:n≤140737488355328): ∃ k:Nat,k≤n∧IntKind.i64.wrap ((IntKind.u64.wrap cut).tmod (IntKind.u64.wrap ((n:Int)+1)))=k:=by
 have e1:=zwM hn
 have e2:0≤IntKind.u64.wrap cut:=by
  show 0≤cut % _
  exact Int.emod_nonneg _ (by decide)
 rw [e1];generalize IntKind.u64.wrap cut=u at *
 have h3:0≤u.tmod ((n:Int)+1):=by rw [Int.tmod_eq_emod_of_nonneg e2];exact Int.emod_nonneg _ (by omega)
 have h4:u.tmod ((n:Int)+1)<(n:Int)+1:=by rw [Int.tmod_eq_emod_of_nonneg e2];exact Int.emod_lt_of_pos _ (by omega)
 generalize u.tmod ((n:Int)+1)=v at *
 rw [Ul (k:=.i64) (show IntKind.i64.min≤v∧v≤IntKind.i64.max by rw [Yl,Ym];omega)]
 exact⟨v.toNat,by omega,by omega⟩
theorem zxg (p:PS):(⟨⟨⟨p.g.q.l,p.g.q.n,p.g.q.b,p.g.q.s⟩,p.g.c0,p.g.c1,p.g.c2,p.g.c3⟩,p.t⟩:PS)=p:=rfl
set_option maxHeartbeats 8000000 in
theorem deskJoins_ (l:List Str) (cut:Int) (hneed:(l.length≤140737488355328∧∀ x ∈ l,x.length≤140737488355328)∧ -9223372036854775808≤cut∧cut≤9223372036854775807):Spc Tryz.prog 3 [.v (.one (.p (.list .str l))),.v (.one (.p (.int .i64 cut)))] [] (.ret (.v (.one (.p (.bool true))))) []:=by
 obtain⟨⟨hz,hw⟩,hc1,hc2⟩:=hneed
 refine spH Tryz.func3 (by kernel_rfl) { cfgD with fz:=[8],keep:=some [0,1,4,5,6,7,8,9,10,11,12,13,14]} [zqR,zqQ,zqV,zqU,zhh,zhg,zvh,zvg] (by kernel_rfl) ?_
 intro I X hI hX
 refine orcL ?_;go_invoke;refine orcS (by kernel_rfl) ?_
 simp only [zi,Nat.reduceAdd];subst hI;simp only [zh,show(⟨⟨⟨[],0,[],0⟩,cn0,cn0,cn0,cn0⟩,[]⟩:PS)=ps0 from rfl,zxg,zeZ,zjc,uh,zN];obtain⟨k,hk,ek⟩:=k_of (cut:=cut) hz;rw [ek]
 simp only [ug,show(0:Int).toNat=0 from rfl,jJ,List.drop_zero,Nat.sub_zero,show(l.drop k).take (l.length - k)=l.drop k from jq (by rw [jC];omega)]
 have hf: ∀ (_: ¬ 300<(l.length:Int)) (_: ¬ 12000<sumL l),JnF l k:=fun h1 h2=>jn_f (by omega) (by omega)
 have hb: ∀ {x:Int},alg.ieq x 0=true↔x=0:=fun {x}=>by rw [YA,beq_iff_eq]
 have hb2: ∀ {x:Int},alg.ieq x 0=false↔x≠0:=fun {x}=>by rw [YA,beq_eq_false_iff_ne]
 have hn: ∀ {b:Bool},alg.bnot b=true↔b=false:=fun {b}=>by cases b<;>simp [su]
 have hn2: ∀ {b:Bool},alg.bnot b=false↔b=true:=fun {b}=>by cases b<;>simp [su]
 simp only [hn,hn2,hb,hb2,ZN,decide_eq_true_eq,decide_eq_false_iff_not,Ti,ZP,beq_iff_eq,beq_eq_false_iff_ne]
 refine⟨trivial,(fun h=>by cases h),fun _=>⟨fun _=>⟨trivial,trivial⟩,fun h3=>⟨⟨by omega,hw⟩,fun _=>⟨trivial,trivial⟩,fun h4=> ?_⟩⟩⟩
 obtain⟨n0,na,nb,e1,e2,e3⟩:=hf h3 h4;generalize fltC l=fl at *;generalize fltC (l.take k)=fa at *;generalize fltC (l.drop k)=fb at *;generalize doS ps0 l=S0 at *;generalize doS ps0 (l.take k)=Sa at *;generalize doS (doQ ps0 (l.take k)) (l.drop k)=Sb at *
 refine⟨by rw [XV,Yl,Ym];omega,by rw [zwM hz];show(l.length:Int)+1≠0;omega,trivial,trivial,⟨by omega,by omega,by omega⟩,⟨trivial,na⟩,⟨trivial,n0⟩,⟨by omega,by omega,by omega⟩,⟨trivial,nb⟩,fun h=>⟨fun _=>⟨trivial,trivial⟩,fun h5=>⟨?_,trivial⟩⟩,fun h=>⟨trivial,⟨trivial,n0⟩,fun _=>⟨fun _=>⟨?_,fun _=>⟨?_,trivial⟩,fun h6=>absurd (e2 h).2.2 h6⟩,fun h5=>absurd (e2 h).2.1 h5⟩,fun h5=>absurd (e2 h).1 h5⟩⟩
 · rw [hn.2 (hb2.2 (e1 h h5))]
 · have:=e3 h
   rw [← (e2 h).2.2,jk] at this
   show _≤_
   omega
 · rw [show(S0 == S0)=true by simp]
end Go.Proofs.YtnpmenpjagcheaaGreatDoor
