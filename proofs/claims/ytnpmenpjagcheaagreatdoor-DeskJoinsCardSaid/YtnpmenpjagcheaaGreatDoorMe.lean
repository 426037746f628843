/- Texts of this proof, one behind the other: GatP GatA GatB ChkA ChkI ReqB ReqA Splt ReqC ReqD ReqE ReqF ReqR ReqPc TusG TusH TusI GatQ GatC GatD GatF GatG RqwL StoP PrtL StoQ TusJ TusK PrtH PrtJ PrtK GatE GatI GatH GatJ ShlA RqwA PrtA PrtB GatK PrtC PrtD PrtI PrtE DskB. -/
import Derived.Lib.Split
import Derived.Lib.SplitLaws
import Derived.Shelf.Strings.Builder1
import Derived.Shelf.Strings.Builder2
import Derived.Shelf.Strings.OnBuilder
import Derived.Shelf.Strings.Trim
import Derived.Shelf.Small.Utf8
import Derived.Shelf.Small.Strs
import Derived.Shelf.Small.Wraps
import Derived.Shelf.Strings.BuilderF
import Derived.Shelf.Strings.BuilderK
import Derived.Shelf.Utf8.RuneCount
import Derived.Shelf.Strings.Builder2Cap
import Derived.Shelf.Strconv.Itoa0
import Derived.Shelf.Strconv.Itoa1
import Derived.Shelf.LaysM
import Derived.Shelf.Strconv.Itoa2
import Derived.Shelf.Strconv.Itoa3
import Derived.Shelf.Strings.Search1
import Derived.Shelf.Strings.Search2
import Derived.Shelf.Strings.Search3
import Derived.Shelf.Strings.Cut
import Derived.Shelf.Strings.Count
import Derived.Shelf.Strings.Shaped
import Derived.Shelf.Strings.Prefix
import Derived.Shelf.Strings.Split
import Derived.Shelf.Strings.SplitShaped
import Derived.Shelf.Unicode.Decode
import Derived.Shelf.Strings.Runes
import Derived.Shelf.Strings.RuneCount
import Derived.Shelf.Strings.IndexAny
import Derived.Shelf.Strings.AsciiSet
import Derived.Shelf.Strings.IndexAnyAll
import Derived.Shelf.Strings.Explode
import Derived.Shelf.Unicode.DecodeSlow
import Derived.Shelf.Unicode.DecodeAny
import Derived.Shelf.Unicode.DecodeLast
import Derived.Shelf.Strings.BuilderCap
import Derived.Test.YtnpmenpjagcheaaGreatDoorProg
import Derived.Test.YtnpmenpjagcheaaGreatDoorMd
set_option linter.all false
namespace Go.Proofs.YtnpmenpjagcheaaGreatDoor
open Go Go.Sep Go.Ab
def k5 (e:Evt):Bool:=decide (e.kind=5)
theorem zsc (s:Str):(zhS s).length≤40:=by
 unfold zhS
 split
 · decide
 · rw [jv];omega
theorem zmp (l:List Fld):(Zn l).1.file.length≤40:=by
 unfold Zn zsG zvw
 repeat' split
 all_goals first|exact zsc _|(simp [prt0];done)|decide
def P5 (f:Fm):Prop:=((f.out.filter k5).length:Int)≤f.parts∧∀ e ∈ f.out,e.kind=5→e.part.file.length≤40
theorem TI {f:Fm} (h:P5 f) {m:Str} {hd p co sk:Int} {bs:List Int} {ln:Option Ln} {fs:List Fld}:P5 ⟨m,hd,bs,p,ln,fs,f.parts,sk,co,f.out⟩:=h
theorem zch {f:Fm} (h:P5 f) (e:Evt) (he:e.kind≠5) {m:Str} {hd p co sk:Int} {bs:List Int} {ln:Option Ln} {fs:List Fld}:P5 ⟨m,hd,bs,p,ln,fs,f.parts,sk,co,f.out++[e]⟩:=by
 refine⟨?_,fun x hx k=> ?_⟩
 · show(((f.out++[e]).filter k5).length:Int)≤f.parts
   rw [List.filter_append]
   have:[e].filter k5=[]:=by simp [k5,he]
   rw [this,List.append_nil];exact h.1
 · rcases List.mem_append.1 hx with hx|hx
   · exact h.2 x hx k
   · rw [List.mem_singleton.1 hx] at k;exact absurd k he
theorem XG {f:Fm} (h:P5 f) (c:Int):P5 (xg f c):=zch h (evF c) (show(4:Int)≠5 by decide)
theorem zsK {f:Fm} (h:P5 f):P5 (wE f):=by
 unfold wE
 split
 · exact XG h _
 · split
   · exact XG h _
   · refine⟨?_,fun x hx k=> ?_⟩
     · show(((f.out++[evP (Zn f.fields).1]).filter k5).length:Int)≤f.parts+1
       rw [List.filter_append,jk];have:[evP (Zn f.fields).1].filter k5=[evP (Zn f.fields).1]:=rfl;rw [this,jr];have:=h.1;omega
     · rcases List.mem_append.1 (show x ∈ f.out++[evP (Zn f.fields).1] from hx) with hx|hx
       · exact h.2 x hx k
       · rw [List.mem_singleton.1 hx];exact zmp _
theorem zvD {f:Fm} (h:P5 f) (s:Str):P5 (uN f s):=by
 unfold uN
 split
 · exact zsK h
 · split
   · exact XG h _
   · split
     · exact XG h _
     · exact TI h
theorem p5_f {f:Fm} (h:P5 f) (c:UInt8):P5 (fmF f c):=by
 have hB:evB (uV f c)=⟨2,hd0,uV f c,prt0,0⟩:=rfl;unfold fmF
 split
 · unfold vI fmSk
   split
   · dsimp only
     split
     · exact zch h _ (show(2:Int)≠5 by decide)
     · exact TI h
   · dsimp only
     split
     · split
       · have:=zch (zch h (evB (uV f c)) (show(2:Int)≠5 by decide) (m:=f.mark) (hd:=f.held) (p:=f.pos) (co:=f.code) (sk:=f.skip) (bs:=f.bs) (ln:=f.ln) (fs:=f.fields)) evO (show(6:Int)≠5 by decide) (m:=f.mark) (hd:=((rE f.mark f.held.toNat c).2.1:Int)) (p:=1) (co:=f.code) (sk:=0) (bs:=f.bs) (ln:=f.ln) (fs:=f.fields)
         simpa using this
       · exact zch h _ (show(6:Int)≠5 by decide)
     · exact TI h
 · split
   · unfold wu
     repeat' split
     all_goals first
      |exact TI h
      |exact zch h _ (show(3:Int)≠5 by decide)
      |exact XG h _
   · split
     · split
       · exact XG h _
       · exact TI h
     · split
       · split
         · exact XG (TI h) _
         · split
           · exact zvD (TI h) _
           · exact TI h
       · exact h
theorem zuj: ∀ (b:Str) {f:Fm},P5 f→P5 (VA f b)
 |[],_,h=>h
 |c::b,_,h=>zuj b (p5_f h c)
theorem zsY (o:List Evt) (e:Evt):(uH o e).filter k5=o.filter k5++[e].filter k5:=by
 rcases List.eq_nil_or_concat o with rfl|⟨z,x,rfl⟩
 · rfl
 · rw [List.concat_eq_append,xq]
   split
   · rename_i h
     simp [k5,h.1,h.2,evB]
   · rw [List.filter_append]
theorem zkM: ∀ (l o:List Evt),(l.foldl uH o).filter k5=o.filter k5++l.filter k5
 |[],o=>by simp
 |e::l,o=>by rw [List.foldl_cons,zkM l,zsY,jo,← List.filter_append];rfl
theorem zs3 (l:List Evt):(yI l).filter k5=l.filter k5:=zkM l []
def prtZ (l:List Prt):Nat:=(l.map fun p=>p.bytes.length).sum
theorem zkk (a b:List Prt):prtZ (a++b)=prtZ a+prtZ b:=by simp [prtZ]
theorem zsD {l:List Prt} {p:Prt} (h:p ∈ l):p.bytes.length≤prtZ l:=by
 induction l with
 |nil=>cases h
 | cons x r ih=>
   simp only [prtZ,List.map_cons,List.sum_cons]
   rcases List.mem_cons.1 h with rfl|h
   · omega
   · have:=ih h;unfold prtZ at this;omega
theorem zxh (o:List Prt) (e:Evt) (he:k5 e=true→e.part.bytes=[]):prtZ (prtS o e)≤prtZ o+e.bytes.length:=by
 unfold prtS
 split
 · rename_i h
   rw [zkk]
   have:prtZ [e.part]=0:=by simp [prtZ,he (by simp [k5,h])]
   omega
 · split
   · rcases List.eq_nil_or_concat o with rfl|⟨z,x,rfl⟩
     · simp
     · rw [List.concat_eq_append]
       simp only [List.getLast?_append,List.getLast?_singleton,Option.some_or,List.dropLast_concat,zkk]
       simp [prtZ];omega
   · omega
theorem zuf: ∀ (l:List Evt) (o:List Prt),(∀ e ∈ l,k5 e=true→e.part.bytes=[])→prtZ (l.foldl prtS o)≤prtZ o+zF l
 |[],o,_=>by simp [zF]
 | e::l,o,h=>by
   have h1:=zuf l (prtS o e) fun x hx=>h x (List.mem_cons_of_mem _ hx);have h2:=zxh o e (h e List.mem_cons_self);rw [List.foldl_cons];simp only [zF,List.map_cons,List.sum_cons] at h1 ⊢;omega
theorem zxi (o:List Prt) (e:Evt):(prtS o e).map Prt.file=o.map Prt.file++([e].filter k5).map fun x=>x.part.file:=by
 unfold prtS
 split
 · rename_i h;simp [k5,h]
 · rename_i h
   have hk:k5 e=false:=by simp [k5,h]
   split
   · rcases List.eq_nil_or_concat o with rfl|⟨z,x,rfl⟩
     · simp [hk]
     · simp [hk]
   · simp [hk]
theorem zug: ∀ (l:List Evt) (o:List Prt),(l.foldl prtS o).map Prt.file=o.map Prt.file++(l.filter k5).map fun x=>x.part.file
 |[],o=>by simp
 | e::l,o=>by
   rw [List.foldl_cons,zug l,zxi,jo,← List.map_append,← List.filter_append];rfl
theorem zh9 (s b:Str):(Yb s b).1.length≤12∧(∀ p ∈ (Yb s b).1,p.file.length≤40)∧prtZ (Yb s b).1≤1000+2 * b.length:=by
 have h0:([]:List Prt).length≤12∧(∀ p ∈ ([]:List Prt),p.file.length≤40)∧prtZ ([]:List Prt)≤1000+2 * b.length:=⟨by decide,(fun p h=>by cases h),by simp [prtZ]⟩
 unfold Yb
 split
 · exact h0
 · rename_i hm
   split
   · exact h0
   · have hs:s.length≤70:=by
      unfold Vf at hm
      simp at hm
      omega
     have h5:P5 (y9 (fm0 s) b):=zuj b ⟨Int.le_refl 0,fun e h=>by cases h⟩
     have hp:=(ziE b _ 0 (zwj hs)).p0;have hle:=zg0 (b:=b) hs;have hf:=zug (yI (y9 (fm0 s) b).out) [];rw [zs3] at hf;simp only [List.map_nil,List.nil_append] at hf;dsimp only;refine⟨?_,fun p h=> ?_,?_⟩
     · have:=congrArg List.length hf
       rw [List.length_map,List.length_map] at this;have h1:=h5.1;have h2:(y9 (fm0 s) b).parts≤12:=hp.2;omega
     · have h1:p.file ∈ ((y9 (fm0 s) b).out.filter k5).map fun x=>x.part.file:=by rw [← hf];exact List.mem_map_of_mem h
       obtain⟨e,he,e2⟩:=List.mem_map.1 h1;rw [← e2]
       exact h5.2 e (List.mem_filter.1 he).1 (by simpa [k5] using (List.mem_filter.1 he).2)
     · have:=zuf (yI (y9 (fm0 s) b).out) [] fun e he hk=> ?_
       · have h1:=hle.2
         have h2:prtZ []=0:=rfl;omega
       · obtain⟨i,hi,rfl⟩:=List.getElem_of_mem he
         have h1:=(zoV s b ⟨0,hd0,[],prt0,0⟩ i hi).2;rw [jH,jm hi] at h1
         exact h1 (by simpa [k5] using hk)
end Go.Proofs.YtnpmenpjagcheaaGreatDoor
namespace Go.Proofs.YtnpmenpjagcheaaGreatDoor
open Go Go.Sep Go.Ab
set_option maxRecDepth 100000
def cfgG:Cfg:= { sl:=XT.sl++[⟨72,1000003,.byte,none⟩,⟨104,4,.fld,none⟩,⟨104,6,.byte,some 5⟩]}
def Vs (I:Alg):KU
 |[.v (.one (.p (.int .i64 st))),.v (.one (.p (.str b)))],[]=>(fun(b:Str)=>(some (.one ⟨I.hid (b.length≤1000000),(.ret (.v (.agg [.p (.int .i64 st),.p (.list .fld (I.hid ([]:List Fld))),.p (.list .byte b)]))),[]⟩):Option CT)) b
 |_,_=>none
theorem zgo:zu Tryz.prog 97 (Vs alg):=by
 intro args hp r h;unfold Vs at h;split at h<;>cases h
 rename_i st b;simp only [CT.Good,zh];intro hneed
 refine spH Tryz.func97 (by kernel_rfl) { cfgG with keep:=some [0,1,4]} [] (by kernel_rfl) ?_
 intro I X hI hX
 refine orcL ?_;go_invoke;refine orcS (by kernel_rfl) ?_
 simp only [zi,Nat.reduceAdd];subst hI;simp only [nrmA,nrmB,nrlB,reduceCtorEq,V0.agg.injEq]
def qY:Know Tryz.prog:=⟨97,Vs,zgo⟩
def qX:Know Tryz.prog:=⟨97,fun I=>zx I (Vs I),zf zgo⟩
def Vw (I:Alg):KU
 |[.v (.agg [.p (.str m),.p (.str t),.p (.int .i64 mi),.p (.list .fld f),.p (.int .i64 le)]),.v (.one (.p (.list .byte body)))],[]=>(fun(m t:Str) (f:List Fld) (body:Str)=>(some (.one ⟨I.hid (FOk f∧body.length≤100000),(.ret (.tup [.one (.p (.list .prt (I.hid ((sQ f body).1)))),.one (.p (.int .i64 (I.hid ((sQ f body).2))))])),[]⟩):Option CT)) m t f body
 |_,_=>none
set_option maxHeartbeats 1000000 in
theorem zgp:zu Tryz.prog 166 (Vw alg):=by
 intro args hp r h;unfold Vw at h;split at h<;>cases h
 rename_i m t mi f le body
 revert f;intro(f:List Fld)
 simp only [CT.Good,zh];intro hneed;obtain⟨hf,hb⟩:=hneed;have hv:=zd4 hf ZB;have hp:=zfO (oneT f ZB).1;have hg:=zkY hp.2 bndT;have hpl:=hp.1;clear hp;generalize hr:sQ f body=r;unfold sQ at hr;unfold oneT at hr hv hg hpl
 refine spH Tryz.func166 (by kernel_rfl) { cfgG with rl:=[0],keep:=some [0,1,2,4,5,6,7,8,9,10,11]} [UG,UF,wM,wL,Yt,Yr,ztx,ztw] (by kernel_rfl) ?_
 intro I X hI hX
 refine orcL ?_;go_invoke;refine orcS (by kernel_rfl) ?_
 simp only [zi,Nat.reduceAdd];rw [show([99,111,110,116,101,110,116,45,116,121,112,101]:Str)=ZB from rfl,show([98,111,117,110,100,97,114,121]:Str)=bndT from rfl,show([109,117,108,116,105,112,97,114,116,47,102,111,114,109,45,100,97,116,97]:Str)=zxE from rfl]
 have hc:ZB.length≤1000000:=by decide
 have hh: ∀ {α:Type} (y:α),I.hid y=y:=fun y=>by subst hI;rfl
 simp only [hh];generalize oneF (valsF f ZB)=o at *;generalize xI o.1=M at *;generalize getP M.1.params bndT=g at *;generalize Yb g.1 body=Y at *;subst hI;simp only [nrmA,nrmB,nrlB,reduceCtorEq,V0.agg.injEq]
 (repeat' (first|refine ja ?_ ?_|intro _))<;>first|omega|exact jb|exact jc ‹False›|skip
 all_goals first
  |omega
  |assumption
  |exact hf.1
  |(exact(hf.2 _ ‹_›).1)
  |(exact(hf.2 _ ‹_›).2)
  |(((repeat(first|rewrite [if_pos (by first|omega|assumption|(simp only [*,or_self,or_true,true_or,or_false,false_or,jf,jg,jd,je,and_self,and_true,true_and];done)|(simp only [*];omega)|(simp [*];done)|(simp [*];omega))] at hr|rewrite [if_neg (by first|omega|assumption|(simp only [*,or_self,or_true,true_or,or_false,false_or,jf,jg,jd,je,and_self,and_true,true_and];done)|(simp only [*];omega)|(simp [*];done)|(simp [*];omega))] at hr)));subst hr;rfl)
  |(simp_all;done)
def Vu:Know Tryz.prog:=⟨166,Vw,zgp⟩
def Vt:Know Tryz.prog:=⟨166,fun I=>zx I (Vw I),zf zgp⟩
theorem zur (q:Sto) (e:Ent):q.n≤(wsS q e).n∧(wsS q e).n≤q.n+1:=znb _ _ _ _
def Qr (I:Alg):KU
 |[.v (.one (.ptr 0 0)),.v (.agg [.p (.str pn),.p (.str pf),.p (.str pt),.p (.nl pb)])],[.obj 72 [.ptr 1 0,.ptr 2 0,.ptr 3 0,.ptr 4 0,.ptr 5 0],.pack [.obj 78 [.ptr 1 0,.ptr 2 0],.pack [.obj 106 [.row 1,.p (.int .i64 n)],.row .upl 82 l],.pack [.obj 108 [.row 1,.p (.int .i64 s)],.row .byte 5 b]],.abs (.cn c0),.abs (.cn c1),.abs (.cn c2),.abs (.cn c3)]=>(fun(l:List Upl) (b pn pf pt pb:Str)=>(some (.one ⟨I.hid (zI l n∧n≤200000 - 1∧b.length≤100000∧pf.length≤100000∧pb.length≤100000),(.ret (.tup [(.one (.p (.int .i64 (I.hid (if zea ⟨l,n,b,s⟩ ⟨pn,pf,pt,pb⟩=0 then n+1 else 0))))),.one (.p (.int .i64 (I.hid (zea ⟨l,n,b,s⟩ ⟨pn,pf,pt,pb⟩))))])),[.obj 72 [.ptr 1 0,.ptr 2 0,.ptr 3 0,.ptr 4 0,.ptr 5 0],.pack [.obj 78 [.ptr 1 0,.ptr 2 0],.pack [.obj 106 [.row 1,.p (.int .i64 (I.hid ((qF ⟨l,n,b,s⟩ ⟨pn,pf,pt,pb⟩).n)))],.row .upl 82 (I.hid ((qF ⟨l,n,b,s⟩ ⟨pn,pf,pt,pb⟩).l))],.pack [.obj 108 [.row 1,.p (.int .i64 (I.hid ((qF ⟨l,n,b,s⟩ ⟨pn,pf,pt,pb⟩).s)))],.row .byte 5 (I.hid ((qF ⟨l,n,b,s⟩ ⟨pn,pf,pt,pb⟩).b))]],.abs (.cn c0),.abs (.cn c1),.abs (.cn c2),.abs (.cn c3)]⟩):Option CT)) l b pn pf pt pb
 |_,_=>none
set_option maxHeartbeats 1000000 in
theorem zk0:zu Tryz.prog 168 (Qr alg):=by
 intro args hp r h;unfold Qr at h;split at h<;>cases h
 rename_i pn pf pt pb n l s b c0 c1 c2 c3
 revert l;intro(l:List Upl)
 simp only [CT.Good,zh];intro hneed;obtain⟨hs,hn,hb,hf,hp⟩:=hneed
 have hl:(zmM++pf).length≤1000000:=by rw [jk];simp [zmM];omega
 have h1:=QY hs b (tV ⟨l,n,b,s⟩ ⟨pn,pf,pt,pb⟩);have h2:=znb l n b (tV ⟨l,n,b,s⟩ ⟨pn,pf,pt,pb⟩);have h3:=Zb (l:=l) (n:=n) (tV ⟨l,n,b,s⟩ ⟨pn,pf,pt,pb⟩) hb;generalize hc:zea ⟨l,n,b,s⟩ ⟨pn,pf,pt,pb⟩=c;generalize hq:qF ⟨l,n,b,s⟩ ⟨pn,pf,pt,pb⟩=q';unfold zea apCd wsC wsS tV creE apE at hc;unfold qF apCd apQ wsC wsS tV creE apE zbL at hq;unfold tV creE at h1 h2 h3
 refine spH Tryz.func168 (by kernel_rfl) { cfgG with keep:=some [0,1,3,4,5,6,7,8]} [Tq,Tn,yS,yR,xN,xM] (by kernel_rfl) ?_
 intro I X hI hX
 refine orcL ?_;go_invoke;refine orcS (by kernel_rfl) ?_
 simp only [zi,Nat.reduceAdd];rw [show([102,105,108,101,110,97,109,101,32]:Str)=zmM from rfl];subst hI;simp only [nrmA,nrmB,nrlB,reduceCtorEq,V0.agg.injEq,HO.pack.injEq,HO.obj.injEq];dsimp only at hc hq h1 h2 h3
 have hlf:(zmM.length:Int)+pf.length≤1000000:=by rw [jk] at hl;omega
 obtain⟨nm,hnm⟩: ∃ nm,nm=zmM++pf:=⟨_,rfl⟩;simp only [← hnm] at hc hq h1 h2 h3 hl ⊢;clear hnm
 by_cases hw:wrtC l n b ⟨1,n+1,(pb.length:Int),nm⟩=0
 · simp only [hw,ne_eq,jf,jg,if_true,if_false] at hc hq ⊢
   generalize wrtL l n b ⟨1,n+1,(pb.length:Int),nm⟩=l1 at *;generalize wrtN l n b ⟨1,n+1,(pb.length:Int),nm⟩=n1 at *;generalize wrtB l n b ⟨1,n+1,(pb.length:Int),nm⟩=b1 at *
   by_cases hg:apG l1 (n+1) 0=true
   · simp only [hg,if_true,je,jf,jg,if_false,show ¬ (17:Int)=0 by decide] at hc hq ⊢
     subst hc hq
     (repeat' (first|refine ja ?_ ?_|intro _))<;>first|omega|exact jb|exact jc ‹False›|skip
     all_goals first|omega|assumption|rfl|trace_state
   · simp only [hg,if_false,jd] at hc hq ⊢
     have h4:=QY h1 b1 ⟨2,n+1,0,pb⟩
     have h5:=qM (l:=l1) (n:=n1) (b:=b1) (e:=⟨2,n+1,0,pb⟩) (show(2:Int)≠1 by decide)
     have h6:=Zb (l:=l1) (n:=n1) (b:=b1) ⟨2,n+1,0,pb⟩ h3
     by_cases ha:wrtC l1 n1 b1 ⟨2,n+1,0,pb⟩=0
     · simp only [ha,jf,if_false,if_true] at hc hq ⊢
       subst hc hq
       (repeat' (first|refine ja ?_ ?_|intro _))<;>first|omega|exact jb|exact jc ‹False›|skip
       all_goals first|omega|assumption|rfl|trace_state
     · simp only [ha,jg,if_false,if_true] at hc hq ⊢
       subst hc hq
       (repeat' (first|refine ja ?_ ?_|intro _))<;>first|omega|exact jb|exact jc ‹False›|skip
       all_goals first|omega|assumption|rfl|trace_state
 · simp only [hw,ne_eq,jf,jg,if_true,if_false] at hc hq ⊢
   subst hc hq
   (repeat' (first|refine ja ?_ ?_|intro _))<;>first|omega|exact jb|exact jc ‹False›|skip
   all_goals first|omega|assumption|rfl|contradiction|trace_state
def Qq:Know Tryz.prog:=⟨168,Qr,zk0⟩
def Qp:Know Tryz.prog:=⟨168,fun I=>zx I (Qr I),zf zk0⟩
end Go.Proofs.YtnpmenpjagcheaaGreatDoor
namespace Go.Proofs.YtnpmenpjagcheaaGreatDoor
open Go Go.Sep Go.Ab
set_option maxRecDepth 100000
theorem rX (f:List Fld) (body:Str):(sQ f body).1.length≤12∧(∀ p ∈ (sQ f body).1,p.file.length≤40)∧prtZ (sQ f body).1≤1000+2 * body.length:=by
 have h0:([]:List Prt).length≤12∧(∀ p ∈ ([]:List Prt),p.file.length≤40)∧prtZ ([]:List Prt)≤1000+2 * body.length:=⟨by decide,(fun p h=>by cases h),by simp [prtZ]⟩
 unfold sQ
 split
 · exact h0
 · split
   · exact h0
   · split
     · exact h0
     · exact zh9 _ _
theorem zml {ps:List Prt} {i:Nat} (h:i<ps.length):XD (ps.drop i)=(((ps.getD i ⟨[],[],[],[]⟩).bytes.length:Int)+200)+XD (ps.drop (i+1)):=by
 rw [jE h,XD];simp [h]
theorem ziK {q:Sto} {ids:List Int} {t:Str} {ps:List Prt} {i:Nat} (h:i<ps.length):rD q ids t (ps.drop i)=(if(ps.getD i ⟨[],[],[],[]⟩).file=[] then rD q ids t (ps.drop (i+1)) else if zea q (ps.getD i ⟨[],[],[],[]⟩)≠0 then⟨Xq (if zea q (ps.getD i ⟨[],[],[],[]⟩)=4 then 413 else 507),syS (VQ (qF q (ps.getD i ⟨[],[],[],[]⟩)) ids)⟩ else rD (qF q (ps.getD i ⟨[],[],[],[]⟩)) (ids++[q.n+1]) (znr t (q.n+1) (ps.getD i ⟨[],[],[],[]⟩)) (ps.drop (i+1))):=by
 have e:ps.getD i ⟨[],[],[],[]⟩=ps[i]:=by simp [h]
 rw [e,jE h,rD]
theorem ziQ {q:Sto} {ids:List Int} {j:Nat} (h:j<ids.length):VQ q (ids.drop j)=VQ (wsS q (zbL (ids.getD j 0))) (ids.drop (j+1)):=by
 have e:ids.getD j 0=ids[j]:=by simp [h]
 rw [e,jE h,VQ]
theorem zsW {q:Sto} (hs:zI q.l q.n) (hb:q.b.length≤100000) (p:Prt):zI (qF q p).l (qF q p).n∧(qF q p).b.length≤100000∧q.n≤(qF q p).n∧(qF q p).n≤q.n+1∧(qF q p).s=q.s:=by
 have hw: ∀ {x:Sto} (e:Ent),zI x.l x.n→x.b.length≤100000→zI (wsS x e).l (wsS x e).n∧(wsS x e).b.length≤100000:=fun e h1 h2=>⟨QY h1 _ _,Zb _ h2⟩;have h1:=hw (tV q p) hs hb;have n1:=zur q (tV q p)
 have h2:zI (apQ (wsS q (tV q p)) (q.n+1) 0 p.bytes).l (apQ (wsS q (tV q p)) (q.n+1) 0 p.bytes).n∧(apQ (wsS q (tV q p)) (q.n+1) 0 p.bytes).b.length≤100000:=by
  unfold apQ
  split
  · exact h1
  · exact hw _ h1.1 h1.2
 have n2:(apQ (wsS q (tV q p)) (q.n+1) 0 p.bytes).n=(wsS q (tV q p)).n:=by
  unfold apQ
  split
  · rfl
  · exact qM (show(2:Int)≠1 by decide)
 have s2:(apQ (wsS q (tV q p)) (q.n+1) 0 p.bytes).s=q.s:=by unfold apQ;split<;>rfl
 unfold qF
 split
 · exact⟨h1.1,h1.2,n1.1,n1.2,rfl⟩
 · split
   · have n3:(wsS (apQ (wsS q (tV q p)) (q.n+1) 0 p.bytes) (zbL (q.n+1))).n=(apQ (wsS q (tV q p)) (q.n+1) 0 p.bytes).n:=qM (show(4:Int)≠1 by decide)
     have h3:=hw (zbL (q.n+1)) h2.1 h2.2
     exact⟨h3.1,h3.2,by rw [n3,n2];exact n1.1,by rw [n3,n2];exact n1.2,s2⟩
   · exact⟨h2.1,h2.2,by rw [n2];exact n1.1,by rw [n2];exact n1.2,s2⟩
theorem zkf: ∀ P:List Prt,0≤XD P
 |[]=>Int.le_refl 0
 |p::r=>by have:=zkf r;simp only [XD];omega
theorem zkg: ∀ P:List Prt,XD P≤prtZ P+200 * P.length
 |[]=>by simp [XD]
 | p::r=>by
   have:=zkg r;simp only [XD,prtZ,List.map_cons,List.sum_cons,jh] at this ⊢;omega
theorem Xh: ∀ (P:List Prt) (q:Sto) (ids:List Int) (t:Str),(rD q ids t P).r.fields=[]
 |[],_,_,_=>rfl
 | p ::r,q,ids,t=>by
   unfold rD
   split
   · exact Xh r _ _ _
   · split
     · rfl
     · exact Xh r _ _ _
def Qu (I:Alg):KU
 |[.v (.one (.ptr 0 0)),.v (.agg [.p (.str m),.p (.str t),.p (.int .i64 mi),.p (.list .fld f),.p (.int .i64 le)]),.v (.one (.p (.list .byte body)))],[.obj 72 [.ptr 1 0,.ptr 2 0,.ptr 3 0,.ptr 4 0,.ptr 5 0],.pack [.obj 78 [.ptr 1 0,.ptr 2 0],.pack [.obj 106 [.row 1,.p (.int .i64 n)],.row .upl 82 l],.pack [.obj 108 [.row 1,.p (.int .i64 s)],.row .byte 5 b]],.abs (.cn c0),.abs (.cn c1),.abs (.cn c2),.abs (.cn c3)]=>(fun(l:List Upl) (b m t:Str) (f:List Fld) (body:Str)=>(some (.one ⟨I.hid (FOk f∧zI l n∧n≤200000 - 20∧b.length≤100000∧body.length≤30000),(.ret (.v (.agg [.p (.int .i64 (I.hid ((XP ⟨l,n,b,s⟩ f body).r.status))),.p (.list .fld (I.hid ([]:List Fld))),.p (.list .byte (I.hid ((XP ⟨l,n,b,s⟩ f body).r.body)))]))),[.obj 72 [.ptr 1 0,.ptr 2 0,.ptr 3 0,.ptr 4 0,.ptr 5 0],.pack [.obj 78 [.ptr 1 0,.ptr 2 0],.pack [.obj 106 [.row 1,.p (.int .i64 (I.hid ((XP ⟨l,n,b,s⟩ f body).q.n)))],.row .upl 82 (I.hid ((XP ⟨l,n,b,s⟩ f body).q.l))],.pack [.obj 108 [.row 1,.p (.int .i64 (I.hid ((XP ⟨l,n,b,s⟩ f body).q.s)))],.row .byte 5 (I.hid ((XP ⟨l,n,b,s⟩ f body).q.b))]],.abs (.cn c0),.abs (.cn c1),.abs (.cn c2),.abs (.cn c3)]⟩):Option CT)) l b m t f body
 |_,_=>none
set_option maxHeartbeats 1000000 in
theorem zk1:zu Tryz.prog 130 (Qu alg):=by
 intro args hp r h;unfold Qu at h;split at h<;>cases h
 rename_i m t mi f le body n l s b c0 c1 c2 c3
 revert f l;intro(f:List Fld) (l:List Upl)
 simp only [CT.Good,zh];intro hneed;obtain⟨hf,hs,hn,hb,hbo⟩:=hneed;have hsm:=rX f body;generalize hr:XP ⟨l,n,b,s⟩ f body=r;obtain⟨⟨st,fs,bd⟩,⟨l',n',b',s'⟩⟩:=r;unfold XP at hr
 refine spH Tryz.func130 (by kernel_rfl) { cfgG with nr:=[12],keep:=some [0,1,2,4,6,7,8,9,11,12,13,15,16,17,19,30,31,32,51,52,53,68,69,70]} [xN,xM,zK,zJ,yO,yN,qH,qG,qY,qX,Vu,Vt,Qq,Qp] (by kernel_rfl) ?_
 intro I X hI hX
 refine orcL ?_;go_invoke;refine orcS (by kernel_rfl) ?_
 simp only [zi,Nat.reduceAdd]
 have hh: ∀ {α:Type} (y:α),I.hid y=y:=fun y=>by subst hI;rfl
 simp only [hh];generalize sQ f body=Z at *;obtain⟨ps,code⟩:=Z
 (repeat' (first|refine ja ?_ ?_|intro _))
 all_goals try(subst hI;(simp only [nrmA,nrmB,nrlB,reduceCtorEq,V0.agg.injEq,HO.pack.injEq,HO.obj.injEq] at *);first|done|exact hf.1|(exact(hf.2 _ ‹_›).1)|(exact(hf.2 _ ‹_›).2)|omega|(exact jM _)|(((repeat(first|rewrite [if_pos (by first|omega|assumption|(simp only [*,or_self,or_true,true_or,or_false,false_or,jf,jg,jd,je,and_self,and_true,true_and];done)|(simp only [*];omega)|(simp [*];done)|(simp [*];omega))] at hr|rewrite [if_neg (by first|omega|assumption|(simp only [*,or_self,or_true,true_or,or_false,false_or,jf,jg,jd,je,and_self,and_true,true_and];done)|(simp only [*];omega)|(simp [*];done)|(simp [*];omega))] at hr)));cases hr;simp [Xq];done))
 have hco:code=0:=by
  subst hI;simp only [nrmA,nrmB,nrlB,reduceCtorEq] at *;omega
 rw [if_neg (by simp [hco])] at hr
 dsimp only at hr hsm;have hrl:=zkg ps
 refine lpH hI [xN,xM,zK,zJ,yO,yN,qH,qG,qY,qX,Vu,Vt,Qq,Qp] hX [0,6,7,9,30,31,32] (fun(g:Nat × Int)=>match g with|(i,r)=>i≤ps.length∧0≤r∧r+XD (ps.drop i)=XD ps) (fun(g:Nat × Int)=>match g with|(i,r)=>⟨[(0,.v (.one (.ptr 0 0))),(6,.v (.one (.ptr 6 0))),(7,.v (.one (.p (.list .prt ps)))),(9,.v (.one (.p (.int .i64 r)))),(30,.v (.one (.p (.list .prt ps)))),(31,.v (.one (.p (.int .i64 ((I.len (α:=Prt) ps)))))),(32,.v (.one (.p (.int .i64 i))))],[.obj 72 [.ptr 1 0,.ptr 2 0,.ptr 3 0,.ptr 4 0,.ptr 5 0],.pack [.obj 78 [.ptr 1 0,.ptr 2 0],.pack [.obj 106 [.row 1,.p (.int .i64 n)],.row .upl 82 l],.pack [.obj 108 [.row 1,.p (.int .i64 s)],.row .byte 5 b]],.abs (.cn c0),.abs (.cn c1),.abs (.cn c2),.abs (.cn c3),.pack [.obj 141 [.p (.int .i64 0),.nilS,.nilS]]],111,none⟩) (fun(g:Nat × Int)=>match g with|(i,r)=>ps.length - i) (0,0) (by kernel_rfl) (by kernel_rfl) ?_ ?_
 · exact⟨jM _,Int.le_refl 0,by simp⟩
 rintro⟨i,r⟩ ⟨h1,h2,h3⟩ A hA;simp only at hA h1 h2 h3;have hd:=fun h=>zml (ps:=ps) (i:=i) h;have hnn:=zkf (ps.drop (i+1));have hbl:=Int.natCast_nonneg (ps.getD i ⟨[],[],[],[]⟩).bytes.length
 have hend: ¬ i<ps.length→r=XD ps:=fun h=>by rw [jF (by omega)] at h3;simp only [XD] at h3;omega
 refine orcL ?_;go_invoke;refine orcS (by kernel_rfl) ?_
 simp only [zi,Nat.reduceAdd]
 (repeat' (first|refine ja ?_ ?_|intro _))
 all_goals try(subst hI;(simp only [nrmA,nrmB,nrlB,reduceCtorEq,V0.agg.injEq,HO.pack.injEq,HO.obj.injEq] at *);first|done|omega|(exact jM _)|(have hd:=hd (by omega);omega)|(exact hA (i+1,_) ⟨by dsimp only;omega,by dsimp only;omega,by dsimp only;rw [hd (by omega)] at h3;omega⟩ (by dsimp only;omega))|(rw [hend (by omega)] at *;((repeat(first|rewrite [if_pos (by first|omega|assumption|(simp only [*,or_self,or_true,true_or,or_false,false_or,jf,jg,jd,je,and_self,and_true,true_and];done)|(simp only [*];omega)|(simp [*];done)|(simp [*];omega))] at hr|rewrite [if_neg (by first|omega|assumption|(simp only [*,or_self,or_true,true_or,or_false,false_or,jf,jg,jd,je,and_self,and_true,true_and];done)|(simp only [*];omega)|(simp [*];done)|(simp [*];omega))] at hr)));cases hr;simp [Xq];done))
 have hil: ¬ i<ps.length:=by
  subst hI;simp only [nrmA,nrmB,nrlB,reduceCtorEq] at *;omega
 have hro:zaE b (XD ps)=true:=by
  subst hI;simp only [nrmA,nrmB,nrlB,reduceCtorEq] at *;rw [hend hil] at *;assumption
 rw [if_neg (by simp [hro])] at hr
 clear hA hd hnn hbl hend h3 h2 h1
 refine lpH hI [xN,xM,zK,zJ,yO,yN,qH,qG,qY,qX,Vu,Vt,Qq,Qp] hX [0,6,12,13,51,52,53] (fun(g:Nat × List Upl × Int × Str × List Int × Str)=>match g with|(i,l1,n1,b1,ids,t1)=>i≤ps.length∧rD ⟨l1,n1,b1,s⟩ ids t1 (ps.drop i)=⟨⟨st,fs,bd⟩,⟨l',n',b',s'⟩⟩∧zI l1 n1∧n1≤n+i∧b1.length≤100000∧ids.length≤i∧t1.length≤60 * i) (fun(g:Nat × List Upl × Int × Str × List Int × Str)=>match g with|(i,l1,n1,b1,ids,t1)=>⟨[(0,.v (.one (.ptr 0 0))),(6,.v (.one (.ptr 6 0))),(12,.v (.one (.row 7))),(13,.v (.one (.p (.str t1)))),(51,.v (.one (.p (.list .prt ps)))),(52,.v (.one (.p (.int .i64 ((I.len (α:=Prt) ps)))))),(53,.v (.one (.p (.int .i64 i))))],[.obj 72 [.ptr 1 0,.ptr 2 0,.ptr 3 0,.ptr 4 0,.ptr 5 0],.pack [.obj 78 [.ptr 1 0,.ptr 2 0],.pack [.obj 106 [.row 1,.p (.int .i64 n1)],.row .upl 82 l1],.pack [.obj 108 [.row 1,.p (.int .i64 s)],.row .byte 5 b1]],.abs (.cn c0),.abs (.cn c1),.abs (.cn c2),.abs (.cn c3),.pack [.obj 141 [.p (.int .i64 0),.nilS,.nilS]],.row .int 3 ids],111,none⟩) (fun(g:Nat × List Upl × Int × Str × List Int × Str)=>match g with|(i,l1,n1,b1,ids,t1)=>ps.length - i) (0,l,n,b,[],[]) (by kernel_rfl) (by kernel_rfl) ?_ ?_
 · exact⟨jM _,hr,hs,by simp,hb,jM _,jM _⟩
 rintro⟨i,l1,n1,b1,ids,t1⟩ ⟨h1,h2,h3,h4,h5,h6,h7⟩ A hA;simp only at hA h1 h2 h3 h4 h5 h6 h7
 have hx:i<ps.length→(ps.getD i ⟨[],[],[],[]⟩) ∈ ps:=fun h=>by rw [show ps.getD i ⟨[],[],[],[]⟩=ps[i] by simp [h]];exact List.getElem_mem h
 have hfd:=fun h=>ziK (q:=⟨l1,n1,b1,s⟩) (ids:=ids) (t:=t1) (ps:=ps) (i:=i) h
 have hend: ¬ i<ps.length→rD ⟨l1,n1,b1,s⟩ ids t1 (ps.drop i)=⟨⟨201,[],t1⟩,syS ⟨l1,n1,b1,s⟩⟩:=fun h=>by rw [jF (by omega)];rfl
 have hxf:i<ps.length→_:=fun h=>hsm.2.1 _ (hx h);have hxb:i<ps.length→_:=fun h=>zsD (hx h);have hql:=fun p=>zsW (q:=⟨l1,n1,b1,s⟩) h3 h5 p;have hn0:=h3.n0;have hdl:=yE (n1+1)
 refine orcL ?_;go_invoke;refine orcS (by kernel_rfl) ?_
 simp only [zi,Nat.reduceAdd]
 have e1:I.get ps ⟨[],[],[],[]⟩ (i:Int)=ps.getD i ⟨[],[],[],[]⟩:=by subst hI;first|rfl|simp
 simp only [e1];generalize ps.getD i ⟨[],[],[],[]⟩=x at *;have e0:(⟨x.name,x.file,x.type,x.bytes⟩:Prt)=x:=rfl;have hql:=hql x;simp only [e0,hh];generalize zea ⟨l1,n1,b1,s⟩ x=c at *;generalize qF ⟨l1,n1,b1,s⟩ x=Y at *;obtain⟨l2,n2,b2,s2⟩:=Y;obtain⟨g1,g2,g3,g4,g5⟩:=hql;dsimp only at g1 g2 g3 g4 g5 hfd;obtain rfl:s=s2:=g5.symm
 (repeat' (first|refine ja ?_ ?_|intro _))
 all_goals try(subst hI;(simp only [nrmA,nrmB,nrlB,reduceCtorEq,V0.agg.injEq,HO.pack.injEq,HO.obj.injEq] at *);first|done|omega|(with_reducible assumption)|(have hxf:=hxf (by omega);have hxb:=hxb (by omega);first|omega|with_reducible assumption)|(rw [if_pos (by with_reducible assumption)];first|omega|(have hxf:=hxf (by omega);rw [jk];simp only [jh,ji];omega))|(have hfd:=hfd (by omega);rw [h2] at hfd;((repeat(first|rewrite [if_pos (by first|omega|assumption|(simp only [*,or_self,or_true,true_or,or_false,false_or,jf,jg,jd,je,and_self,and_true,true_and];done)|(simp only [*];omega)|(simp [*];done)|(simp [*];omega))] at hfd|rewrite [if_neg (by first|omega|assumption|(simp only [*,or_self,or_true,true_or,or_false,false_or,jf,jg,jd,je,and_self,and_true,true_and];done)|(simp only [*];omega)|(simp [*];done)|(simp [*];omega))] at hfd)));exact hA (i+1,l1,n1,b1,ids,t1) ⟨by dsimp only;omega,hfd.symm,h3,by dsimp only;omega,h5,by dsimp only;omega,by dsimp only;omega⟩ (by dsimp only;omega))|(rw [if_pos (show c=0 by omega)];have hxf:=hxf (by omega);simp only [jk,jh,ji];omega)|(rw [if_pos (show c=0 by omega)];have hxf:=hxf (by omega);have hfd:=hfd (by omega);rw [h2] at hfd;((repeat(first|rewrite [if_pos (by first|omega|assumption|(simp only [*,or_self,or_true,true_or,or_false,false_or,jf,jg,jd,je,and_self,and_true,true_and];done)|(simp only [*];omega)|(simp [*];done)|(simp [*];omega))] at hfd|rewrite [if_neg (by first|omega|assumption|(simp only [*,or_self,or_true,true_or,or_false,false_or,jf,jg,jd,je,and_self,and_true,true_and];done)|(simp only [*];omega)|(simp [*];done)|(simp [*];omega))] at hfd)));exact hA (i+1,l2,n2,b2,ids++[n1+1],t1++(decS (n1+1)++[32]++x.file++[10])) ⟨by dsimp only;omega,hfd.symm,g1,by dsimp only;omega,g2,by simp only [jk,jh,ji];omega,by simp only [jk,jh,ji];omega⟩ (by dsimp only;omega))|(rw [hend (by omega)] at h2;simp only [GA.mk.injEq,Rpl.mk.injEq,syS,Sto.mk.injEq] at h2;obtain⟨⟨rfl,rfl,rfl⟩,rfl,rfl,rfl,rfl⟩:=h2;simp))
 have hil:i<ps.length:=by
  subst hI;simp only [nrmA,nrmB,nrlB,reduceCtorEq] at *;omega
 have hc: ¬ c=0:=by
  subst hI;simp only [nrmA,nrmB,nrlB,reduceCtorEq] at *
  first|omega|with_reducible assumption
 have hfi: ¬ x.file=[]:=by
  subst hI;simp only [nrmA,nrmB,nrlB,reduceCtorEq] at *
  first|omega|with_reducible assumption
 have hfd:=hfd hil;rw [h2,if_neg hfi,if_pos hc] at hfd;generalize hD:VQ ⟨l2,n2,b2,s⟩ ids=W at hfd;clear hA hend hxf hxb hdl h2
 refine lpH hI [xN,xM,zK,zJ,yO,yN,qH,qG,qY,qX,Vu,Vt,Qq,Qp] hX [0,6,17,68,69,70] (fun(g:Nat × List Upl × Int × Str)=>match g with|(j,l3,n3,b3)=>j≤ids.length∧VQ ⟨l3,n3,b3,s⟩ (ids.drop j)=W∧zI l3 n3∧n3≤200000∧b3.length≤100000) (fun(g:Nat × List Upl × Int × Str)=>match g with|(j,l3,n3,b3)=>⟨[(0,.v (.one (.ptr 0 0))),(6,.v (.one (.ptr 6 0))),(17,.v (.one (.p (.int .i64 c)))),(68,.v (.one (.row 7))),(69,.v (.one (.p (.int .i64 ((I.len (α:=Int) ids)))))),(70,.v (.one (.p (.int .i64 j))))],[.obj 72 [.ptr 1 0,.ptr 2 0,.ptr 3 0,.ptr 4 0,.ptr 5 0],.pack [.obj 78 [.ptr 1 0,.ptr 2 0],.pack [.obj 106 [.row 1,.p (.int .i64 n3)],.row .upl 82 l3],.pack [.obj 108 [.row 1,.p (.int .i64 s)],.row .byte 5 b3]],.abs (.cn c0),.abs (.cn c1),.abs (.cn c2),.abs (.cn c3),.pack [.obj 141 [.p (.int .i64 0),.nilS,.nilS]],.row .int 3 ids],111,none⟩) (fun(g:Nat × List Upl × Int × Str)=>match g with|(j,l3,n3,b3)=>ids.length - j) (0,l2,n2,b2) (by kernel_rfl) (by kernel_rfl) ?_ ?_
 · exact⟨jM _,hD,g1,by omega,g2⟩
 rintro⟨j,l3,n3,b3⟩ ⟨k1,k2,k3,k4,k5⟩ B hB;simp only at hB k1 k2 k3 k4 k5;have hdd:=fun h=>ziQ (q:=⟨l3,n3,b3,s⟩) (ids:=ids) (j:=j) h
 have hend: ¬ j<ids.length→(⟨l3,n3,b3,s⟩:Sto)=W:=fun h=>by rw [← k2,jF (by omega)];rfl
 have hfin: ¬ j<ids.length→st=(if c=4 then 413 else 507)∧[]=bd∧n3=n'∧l3=l'∧(b3.length:Int)=s'∧b3=b':=fun h=>by
  rw [← hend h] at hfd;simp only [GA.mk.injEq,Rpl.mk.injEq,syS,Sto.mk.injEq,Xq] at hfd;obtain⟨⟨q1,q2,q3⟩,q4,q5,q6,q7⟩:=hfd;exact⟨q1,q3.symm,q5.symm,q4.symm,q7.symm,q6.symm⟩
 refine orcL ?_;go_invoke;refine orcS (by kernel_rfl) ?_
 simp only [zi,Nat.reduceAdd]
 have e2:I.get ids 0 (j:Int)=ids.getD j 0:=by subst hI;first|rfl|simp
 simp only [e2];generalize ids.getD j 0=y at *;have w1:=QY k3 b3 (zbL y)
 have w2:wrtN l3 n3 b3 (zbL y)=n3:=qM (show(4:Int)≠1 by decide)
 have w3:=Zb (l:=l3) (n:=n3) (b:=b3) (zbL y) k5;unfold zbL at w1 w2 w3 hdd
 (repeat' (first|refine ja ?_ ?_|intro _))
 all_goals subst hI
 all_goals try simp only [nrmA,nrmB,nrlB,reduceCtorEq,V0.agg.injEq,HO.pack.injEq,HO.obj.injEq] at *
 all_goals first|omega|(with_reducible assumption)|(exact⟨k3,k4,k5⟩)|(exact jM _)|(have hdd:=hdd (by omega);rw [k2] at hdd;exact hB (j+1,wrtL l3 n3 b3 ⟨4,y,0,[]⟩,wrtN l3 n3 b3 ⟨4,y,0,[]⟩,wrtB l3 n3 b3 ⟨4,y,0,[]⟩) ⟨by dsimp only;omega,hdd.symm,w1,by dsimp only;omega,w3⟩ (by dsimp only;omega))|(obtain⟨q1,q2,q3,q4,q5,q6⟩:=hfin (by omega);first|(rw [if_pos (by with_reducible assumption)] at q1;exact⟨q1.symm,q2⟩)|(rw [if_neg (by with_reducible assumption)] at q1;exact⟨q1.symm,q2⟩)|exact⟨⟨q3,q4⟩,q5,q6⟩)|trace_state
def zte:Know Tryz.prog:=⟨130,Qu,zk1⟩
def ztd:Know Tryz.prog:=⟨130,fun I=>zx I (Qu I),zf zk1⟩
end Go.Proofs.YtnpmenpjagcheaaGreatDoor
namespace Go.Proofs.YtnpmenpjagcheaaGreatDoor
open Go Go.Sep Go.Ab
set_option maxRecDepth 100000
def ztT:Cfg:= { sl:=[⟨154,0,.byte,some 5⟩]}
def QS (I:Alg):KU
 |[],[]=>some (.one ⟨I.hid (True),(.ret (.v (.one (.ptr 0 0)))),[.pack [.obj 216 [.ptr 1 0,.p (.int .i64 0),.p (.int .i64 0),.p (.int .i64 0),.p (.int .i64 0),.p (.int .i64 0)],.pack [.obj 154 [.row 1,.p (.bool false),.p (.int .i64 0)],.row .byte 5 (I.hid ([]))]]]⟩)
 |_,_=>none
theorem zlN:zu Tryz.prog 190 (QS alg):=by
 intro args hp r h;unfold QS at h;split at h<;>cases h
 simp only [CT.Good,zh];intro _
 refine spH Tryz.func190 (by kernel_rfl) { ztT with keep:=some [0]} [Qj,Qi] (by kernel_rfl) ?_
 intro I X hI hX
 refine orcL ?_;go_invoke;refine orcS (by kernel_rfl) ?_
 simp only [zi,Nat.reduceAdd];subst hI;exact⟨trivial,trivial,rfl⟩
def zlM:Know Tryz.prog:=⟨190,QS,zlN⟩
def zlL:Know Tryz.prog:=⟨190,fun I=>zx I (QS I),zf zlN⟩
def V5 (I:Alg):KU
 |[.v (.one (.ptr 0 0)),.v (.one (.p (.int .i64 k)))],[.pack [.obj 216 [.ptr 1 0,.p (.int .i64 p),.p (.int .i64 l),.p (.int .i64 a),.p (.int .i64 t),.p (.int .i64 c)],.pack [.obj 154 [.row 1,.p (.bool lc),.p (.int .i64 lo)],.row .byte 5 lb]]]=>(fun(lb:Str)=>(some (.one ⟨I.hid (True),(.ret (.tup [.one (.row 1),.one (.p (.bool false)),.one (.p (.int .i64 k))])),[.pack [.obj 216 [.ptr 1 0,.p (.int .i64 p),.p (.int .i64 l),.p (.int .i64 a),.p (.int .i64 t),.p (.int .i64 k)],.pack [.obj 154 [.row 1,.p (.bool lc),.p (.int .i64 lo)],.row .byte 5 lb]],.row .byte 5 (I.hid ([]))]⟩):Option CT)) lb
 |_,_=>none
theorem zhr:zu Tryz.prog 159 (V5 alg):=by
 intro args hp r h;unfold V5 at h;split at h<;>cases h
 rename_i k p l a t c lc lo lb;simp only [CT.Good,zh];intro _
 refine spH Tryz.func159 (by kernel_rfl) { ztT with nr:=[4],keep:=some [0,1,4,5,6]} [] (by kernel_rfl) ?_
 intro I X hI hX
 refine orcL ?_;go_invoke;refine orcS (by kernel_rfl) ?_
 simp only [zi,Nat.reduceAdd];subst hI;simp only [nrmA,nrmB,nrlB,reduceCtorEq,HO.pack.injEq,HO.obj.injEq]
 try trivial
def zra:Know Tryz.prog:=⟨159,V5,zhr⟩
def zq9:Know Tryz.prog:=⟨159,fun I=>zx I (V5 I),zf zhr⟩
def ZF (I:Alg):KU
 |[.v (.one (.p (.str s)))],[]=>(fun(s:Str)=>(some (.one ⟨I.hid (s.length≤1000000),(.ret (.tup [(.one (.p (.int .i64 (I.hid (if(Z8 s).2 then(Z8 s).1 else 0))))),(.one (.p (.int .i64 (I.hid (if(Z8 s).2 then 0 else 7)))))])),[]⟩):Option CT)) s
 |_,_=>none
theorem zbs:zu Tryz.prog 187 (ZF alg):=by
 intro args hp r h;unfold ZF at h;split at h<;>cases h
 rename_i s;simp only [CT.Good,zh];intro hneed;generalize hr:Z8 s=r;obtain⟨n,ok⟩:=r;unfold Z8 at hr;have hl:=(ZA s 59).1
 refine spH Tryz.func187 (by kernel_rfl) { keep:=some [0,2,3,4,7,8]} [V8,V7,zhY,zhX,zeR,zeQ] (by kernel_rfl) ?_
 intro I X hI hX
 refine orcL ?_;go_invoke;refine orcS (by kernel_rfl) ?_
 simp only [zi,Nat.reduceAdd];subst hI;simp only [nrmA,nrmB,nrlB,reduceCtorEq];rw [hr];cases ok
 all_goals(repeat' (first|refine ja ?_ ?_|intro _))<;>first|omega|exact jb|exact jc ‹False›|skip
 all_goals first
  |exact hneed
  |trivial
  |omega
  |(simp at *;done)
def ziU:Know Tryz.prog:=⟨187,ZF,zbs⟩
def ziT:Know Tryz.prog:=⟨187,fun I=>zx I (ZF I),zf zbs⟩
def VY (I:Alg):KU
 |[.v (.one (.ptr 0 0)),.v (.one (.p (.str s)))],[.pack [.obj 216 [.ptr 1 0,.p (.int .i64 p),.p (.int .i64 l),.p (.int .i64 a),.p (.int .i64 t),.p (.int .i64 c)],.pack [.obj 154 [.row 1,.p (.bool lc),.p (.int .i64 lo)],.row .byte 5 lb]]]=>(fun(lb s:Str)=>(some (.one ⟨I.hid (s.length≤1000000∧(0≤a∧a≤1000000)∧0≤t∧t≤1000000),(.ret (.v (.one (.p (.int .i64 (I.hid ((chL ⟨⟨lb,lc,lo⟩,p,l,a,t,c⟩ s).2))))))),[.pack [.obj 216 [.ptr 1 0,.p (.int .i64 (I.hid ((chL ⟨⟨lb,lc,lo⟩,p,l,a,t,c⟩ s).1.pos))),.p (.int .i64 (I.hid ((chL ⟨⟨lb,lc,lo⟩,p,l,a,t,c⟩ s).1.left))),.p (.int .i64 (I.hid ((chL ⟨⟨lb,lc,lo⟩,p,l,a,t,c⟩ s).1.all))),.p (.int .i64 (I.hid ((chL ⟨⟨lb,lc,lo⟩,p,l,a,t,c⟩ s).1.tails))),.p (.int .i64 c)],.pack [.obj 154 [.row 1,.p (.bool lc),.p (.int .i64 lo)],.row .byte 5 lb]]]⟩):Option CT)) lb s
 |_,_=>none
set_option maxHeartbeats 4000000 in
theorem zhp:zu Tryz.prog 160 (VY alg):=by
 intro args hp r h;unfold VY at h;split at h<;>cases h
 rename_i s p l a t c lc lo lb;simp only [CT.Good,zh];intro hneed;obtain⟨hs,⟨ha0,ha1⟩,ht0,ht1⟩:=hneed;generalize hr:chL ⟨⟨lb,lc,lo⟩,p,l,a,t,c⟩ s=r;unfold chL at hr;simp only at hr;have hsz:=TB s
 have hsz2:(Z8 s).2=false∨(Z8 s).2=true:=by cases(Z8 s).2<;>simp
 obtain⟨⟨⟨rb,rc,ro⟩,rp,rl,ra,rt,rc2⟩,re⟩:=r
 refine spH Tryz.func160 (by kernel_rfl) { ztT with keep:=some [0,1,4,5,6,8,12]} [Va,W9,ziU,ziT] (by kernel_rfl) ?_
 intro I X hI hX
 refine orcL ?_;go_invoke;refine orcS (by kernel_rfl) ?_
 simp only [zi,Nat.reduceAdd];subst hI;simp only [nrmA,nrmB,nrlB,reduceCtorEq,HO.pack.injEq,HO.obj.injEq];generalize Z8 s=z at *;obtain⟨n,ok⟩:=z;simp only at *;cases ok
 all_goals simp only [jd,if_false,if_true] at *
 all_goals(repeat' (first|refine ja ?_ ?_|intro _))<;>first|omega|exact jb|exact jc ‹False›|skip
 all_goals first
  |exact hs
  |omega
  |(exfalso;simp at *;done)
  |(((repeat(first|rewrite [if_pos (by first|omega|assumption|(simp only [*,or_self,or_true,true_or,or_false,false_or,jf,jg,jd,je,and_self,and_true,true_and];done)|(simp only [*];omega)|(simp [*];done)|(simp [*];omega))] at hr|rewrite [if_neg (by first|omega|assumption|(simp only [*,or_self,or_true,true_or,or_false,false_or,jf,jg,jd,je,and_self,and_true,true_and];done)|(simp only [*];omega)|(simp [*];done)|(simp [*];omega))] at hr)));cases hr;first|rfl|done|with_reducible assumption|exact⟨rfl,rfl,rfl⟩|(simp;done)|(simp;omega))
def zq8:Know Tryz.prog:=⟨160,VY,zhp⟩
def zq7:Know Tryz.prog:=⟨160,fun I=>zx I (VY I),zf zhp⟩
theorem zlO (s:Ch) (t:Str):(chL s t).1.ln=s.ln∧(chL s t).1.code=s.code:=by
 unfold chL
 split
 · split<;>exact⟨rfl,rfl⟩
 split
 · split
   · exact⟨rfl,rfl⟩
   split
   · exact⟨rfl,rfl⟩
   split<;>exact⟨rfl,rfl⟩
 split
 · split
   · exact⟨rfl,rfl⟩
   split<;>exact⟨rfl,rfl⟩
 · exact⟨rfl,rfl⟩
def V4 (I:Alg):KU
 |[.v (.one (.ptr 0 0)),.v (.one (.p (.int .u8 k)))],[.pack [.obj 216 [.ptr 1 0,.p (.int .i64 p),.p (.int .i64 l),.p (.int .i64 a),.p (.int .i64 t),.p (.int .i64 c)],.pack [.obj 154 [.row 1,.p (.bool lc),.p (.int .i64 lo)],.row .byte 5 lb]]]=>(fun(lb:Str)=>(some (.one ⟨I.hid ((0≤k∧k≤255)∧lb.length≤1000000∧(-1000000≤l∧l≤100000000)∧(0≤a∧a≤1000000)∧0≤t∧t≤1000000),(.ret (.tup [.one (.row 1),.one (.p (.bool (I.hid ((chF ⟨⟨lb,lc,lo⟩,p,l,a,t,c⟩ (UInt8.ofNat k.toNat)).2.2.1)))),.one (.p (.int .i64 (I.hid ((chF ⟨⟨lb,lc,lo⟩,p,l,a,t,c⟩ (UInt8.ofNat k.toNat)).2.2.2))))])),[.pack [.obj 216 [.ptr 1 0,.p (.int .i64 (I.hid ((chF ⟨⟨lb,lc,lo⟩,p,l,a,t,c⟩ (UInt8.ofNat k.toNat)).1.pos))),.p (.int .i64 (I.hid ((chF ⟨⟨lb,lc,lo⟩,p,l,a,t,c⟩ (UInt8.ofNat k.toNat)).1.left))),.p (.int .i64 (I.hid ((chF ⟨⟨lb,lc,lo⟩,p,l,a,t,c⟩ (UInt8.ofNat k.toNat)).1.all))),.p (.int .i64 (I.hid ((chF ⟨⟨lb,lc,lo⟩,p,l,a,t,c⟩ (UInt8.ofNat k.toNat)).1.tails))),.p (.int .i64 (I.hid ((chF ⟨⟨lb,lc,lo⟩,p,l,a,t,c⟩ (UInt8.ofNat k.toNat)).1.code)))],.pack [.obj 154 [.row 1,.p (.bool (I.hid ((chF ⟨⟨lb,lc,lo⟩,p,l,a,t,c⟩ (UInt8.ofNat k.toNat)).1.ln.cr))),.p (.int .i64 (I.hid ((chF ⟨⟨lb,lc,lo⟩,p,l,a,t,c⟩ (UInt8.ofNat k.toNat)).1.ln.code)))],.row .byte 5 (I.hid ((chF ⟨⟨lb,lc,lo⟩,p,l,a,t,c⟩ (UInt8.ofNat k.toNat)).1.ln.b))]],.row .byte 5 (I.hid ((chF ⟨⟨lb,lc,lo⟩,p,l,a,t,c⟩ (UInt8.ofNat k.toNat)).2.1))]⟩):Option CT)) lb
 |_,_=>none
set_option maxHeartbeats 8000000 in
theorem zhq:zu Tryz.prog 124 (V4 alg):=by
 intro args hp r h;unfold V4 at h;split at h<;>cases h
 rename_i k p l a t c lc lo lb;simp only [CT.Good,zh];intro hneed;obtain⟨⟨hk0,hk1⟩,hlb,⟨hl0,hl1⟩,⟨ha0,ha1⟩,ht0,ht1⟩:=hneed;generalize hr:chF ⟨⟨lb,lc,lo⟩,p,l,a,t,c⟩ (UInt8.ofNat k.toNat)=r;unfold chF at hr;simp only at hr;have hkeep:=zlO ⟨(lnF ⟨lb,lc,lo⟩ (UInt8.ofNat k.toNat)).1,p,l,a,t,c⟩ (lnF ⟨lb,lc,lo⟩ (UInt8.ofNat k.toNat)).2.1;have hlen:=Yf ⟨lb,lc,lo⟩ (UInt8.ofNat k.toNat);obtain⟨⟨⟨rb,rc,ro⟩,rp,rl,ra,rt,rc2⟩,rd,ris,re⟩:=r
 refine spH Tryz.func124 (by kernel_rfl) { ztT with nr:=[4],keep:=some [0,1,4,5,6,7,8,9]} [sV,sU,zra,zq9,zq8,zq7] (by kernel_rfl) ?_
 intro I X hI hX
 refine orcL ?_;go_invoke;refine orcS (by kernel_rfl) ?_
 simp only [zi,Nat.reduceAdd];subst hI;simp only [nrmA,nrmB,nrlB,reduceCtorEq,HO.pack.injEq,HO.obj.injEq];generalize lnF ⟨lb,lc,lo⟩ (UInt8.ofNat k.toNat)=q at *;obtain⟨⟨qb,qc,qo⟩,qs,qis,qe⟩:=q;simp only at *;generalize chL ⟨⟨qb,qc,qo⟩,p,l,a,t,c⟩ qs=z at *;obtain⟨⟨⟨zb,zc,zo⟩,zp,zl,za,zt,zk⟩,ze⟩:=z;simp only [Ln.mk.injEq] at *;obtain⟨⟨rfl,rfl,rfl⟩,rfl⟩:=hkeep;cases qis
 all_goals simp only [jd,if_false,if_true] at *
 all_goals(repeat' (first|refine ja ?_ ?_|intro _))<;>first|omega|exact jb|exact jc ‹False›|skip
 all_goals first
  |omega
  |(exfalso;simp at *;done)
  |(((repeat(first|rewrite [if_pos (by first|omega|assumption|(simp only [*,or_self,or_true,true_or,or_false,false_or,jf,jg,jd,je,and_self,and_true,true_and];done)|(simp only [*];omega)|(simp [*];done)|(simp [*];omega))] at hr|rewrite [if_neg (by first|omega|assumption|(simp only [*,or_self,or_true,true_or,or_false,false_or,jf,jg,jd,je,and_self,and_true,true_and];done)|(simp only [*];omega)|(simp [*];done)|(simp [*];omega))] at hr)));cases hr;first|rfl|done|with_reducible assumption|exact⟨rfl,rfl,rfl⟩|(simp;done)|(simp;omega))
def V3:Know Tryz.prog:=⟨124,V4,zhq⟩
def VZ:Know Tryz.prog:=⟨124,fun I=>zx I (V4 I),zf zhq⟩
end Go.Proofs.YtnpmenpjagcheaaGreatDoor
namespace Go.Proofs.YtnpmenpjagcheaaGreatDoor
open Go Go.Sep Go.Ab
set_option maxRecDepth 100000
theorem zph: ∀ (s:Str) (n:Int),0≤n→(numG 16 n s).1+1≤(n+1) * 16 ^ s.length
 |[],n,h=>by simp [numG]
 | c ::l,n,h=>by
   have h16:(0:Int)<16 ^ l.length:=Int.pow_pos (by decide)
   have e:((n+1) * 16 ^ (c::l).length:Int)=((n+1) * 16) * 16 ^ l.length:=by rw [jh,Int.pow_succ,Int.mul_assoc,Int.mul_comm (16 ^ l.length) 16]
   rw [e,numG]
   split
   · have h1:(1:Int) * 1≤((n+1) * 16) * 16 ^ l.length:=Int.mul_le_mul (by omega) (by omega) (by decide) (by omega)
     simpa using h1
   · rename_i hc
     have h2:=zph l (n * 16+hexK c.toNat) (by omega)
     exact Int.le_trans h2 (Int.mul_le_mul_of_nonneg_right (by omega) (by omega))
theorem zr6 (t:Str):(Z8 t).1≤16777215:=by
 unfold Z8 numA
 split
 · exact by decide
 · rename_i h
   have h1:=zph (Lib.trimS (cutB t 59).1 [32,9]) 0 (Int.le_refl _)
   have h2:(Lib.trimS (cutB t 59).1 [32,9]).length≤6:=by omega
   have h3:(16:Int) ^ (Lib.trimS (cutB t 59).1 [32,9]).length≤16 ^ 6:=by
    have:=Nat.pow_le_pow_right (show 0<16 by decide) h2
    exact_mod_cast this
   have h4:(16:Int) ^ 6=16777216:=by decide
   omega
structure ChI (s:Ch) (i:Nat):Prop where
 b:s.ln.b.length≤i
 a0:0≤s.all
 a1:s.all≤i
 t0:0≤s.tails
 t1:s.tails≤i
 l0: -(i:Int)≤s.left
 l1:s.left≤16777215
theorem zyo:ChI ch0 0:=⟨by decide,by decide,by decide,by decide,by decide,by decide,by decide⟩
theorem zze {s:Ch} {i:Nat} (h:ChI s i) (c:UInt8):ChI (chF s c).1 (i+1):=by
 have hb:=zsU s.ln c;have h0:=h;obtain⟨h1,h2,h3,h4,h5,h6,h7⟩:=h;unfold chF
 split
 · exact⟨by show s.ln.b.length≤i+1;omega,h2,by show s.all≤_;omega,h4,by show s.tails≤_;omega,by show _≤s.left;omega,h7⟩
 split
 · constructor<;>simp only<;>omega
 split
 · constructor<;>simp only<;>omega
 split
 · constructor<;>simp only<;>omega
 split
 · have hl: ∀ t,(chL { s with ln:=(lnF s.ln c).1} t).1.ln=(lnF s.ln c).1:=fun t=>(zlO _ _).1
   have key: ∀ t,ChI (chL { s with ln:=(lnF s.ln c).1} t).1 (i+1):=fun t=>by
    have hz:=TB t;have hz2:=zr6 t;unfold chL
    repeat' split
    all_goals constructor
    all_goals simp only
    all_goals omega
   split
   · obtain⟨k1,k2,k3,k4,k5,k6,k7⟩:=key (lnF s.ln c).2.1
     exact⟨k1,k2,k3,k4,k5,k6,k7⟩
   · exact key _
 · constructor<;>simp only<;>omega
theorem zlP {s:Ch} {i:Nat} (h:ChI s i) (hi:i≤1000000):s.ln.b.length≤1000000∧(-1000000≤s.left∧s.left≤100000000)∧(0≤s.all∧s.all≤1000000)∧0≤s.tails∧s.tails≤1000000:=by
 obtain⟨h1,h2,h3,h4,h5,h6,h7⟩:=h;omega
theorem zeO {s:Ch} {i j:Nat} (h:ChI s i) (k:i≤j):ChI s j:=by
 obtain⟨h1,h2,h3,h4,h5,h6,h7⟩:=h
 exact⟨by omega,h2,by omega,h4,by omega,by omega,h7⟩
end Go.Proofs.YtnpmenpjagcheaaGreatDoor
namespace Go.Proofs.YtnpmenpjagcheaaGreatDoor
open Go Go.Sep Go.Ab
set_option maxRecDepth 100000
structure RqI (q:Rq) (i:Nat):Prop where
 lb:q.ln.b.length≤i
 ck: ∀ c,q.ck=some c→ChI c i
 p3:q.pos=3→q.ck≠none
 ow:q.pos=0∨q.pos=1→q.own=true
 fl:q.h.fields.length≤16
 ff: ∀ f ∈ q.h.fields,f.name.length≤i∧f.value.length≤i
 l0:0≤q.left
 l1:q.left≤4000
 l2:q.pos=2→1≤q.left
 on:q.out.length≤4 * i
theorem zyQ:RqI rq0 0:=⟨by decide,(fun c h=>by cases h),(fun h=>by cases h),fun _=>rfl,by decide,(fun f h=>by cases h),by decide,by decide,(fun h=>by cases h),by decide⟩
theorem zj9 {q:Rq} {i j:Nat} (h:RqI q i) (k:i≤j):RqI q j:=by
 obtain⟨h1,h2,h3,h4,h5,h6,h7,h8,h9,h10⟩:=h
 exact⟨by omega,fun c e=>zeO (h2 c e) k,h3,h4,h5,fun f m=>by have:=h6 f m;omega,h7,h8,h9,by omega⟩
theorem zov {q:Rq} {i:Nat} (h:RqI q i) {o:List Evt} (k:o.length≤4 * i):RqI { q with out:=o} i:=⟨h.lb,h.ck,h.p3,h.ow,h.fl,h.ff,h.l0,h.l1,h.l2,k⟩
theorem zim (mi:Int) (f:List Fld): -1≤(lenM mi f).1∧(lenM mi f).1≤4000:=by
 have hs: ∀ (l:List Str) (a:Str) (n:Int),0≤n→0≤(sizM a n l).1:=by
  intro l
  induction l with
  |nil=>intro a n h;exact h
  | cons s r ih=>
    intro a n h;unfold sizM
    split
    · exact Int.le_refl _
    · split
      · exact Int.le_refl _
      · exact ih _ _ (wR s).1
 unfold lenM
 repeat' split
 all_goals simp only
 all_goals first
  |decide
  |(have:=hs (valsF f Yx) ((valsF f Yx).getD 0 []) 0 (by decide);omega)
theorem zyt (s:Str):(begM s).2.fields=[]:=by
 unfold begM
 split
 · repeat' split
   all_goals rfl
 · rfl
theorem zsu {q:Rq} {i:Nat} (h:RqI q i) (k:Nat) (ho:q.out.length≤k):RqI { (yA q).1 with out:=[],pos:=4} i∧((yA q).2=0→RqI { (yA q).1 with out:=[]} i)∧(yA q).1.out.length≤k+2:=by
 have hl:=zim q.h.minor q.h.fields;obtain⟨h1,h2,h3,h4,h5,h6,h7,h8,h9,h10⟩:=h;unfold yA tK
 split
 · exact⟨⟨h1,h2,(fun h=>by cases h),(fun h=>by simp at h),h5,h6,h7,h8,(fun h=>by cases h),by simp⟩,(fun h=>by cases h),by simp only;omega⟩
 split
 · rename_i hz
   exact⟨⟨h1,h2,(fun h=>by cases h),(fun h=>by simp at h),h5,h6,h7,h8,(fun h=>by cases h),by simp⟩,fun h=>absurd h hz,by simp only;omega⟩
 split
 · exact⟨⟨h1,h2,(fun h=>by cases h),(fun h=>by simp at h),by simp [hd0],(fun f m=>by cases m),h7,h8,(fun h=>by cases h),by simp⟩,fun _=>⟨h1,h2,(fun h=>by cases h),fun _=>rfl,by simp [hd0],(fun f m=>by cases m),h7,h8,(fun h=>by cases h),by simp⟩,by simp;omega⟩
 split
 · exact⟨⟨h1,h2,(fun h=>by cases h),(fun h=>by simp at h),h5,h6,by simp only;omega,by simp only;omega,(fun h=>by cases h),by simp⟩,fun _=>⟨h1,h2,(fun h=>by cases h),(fun h=>by simp at h),h5,h6,by simp only;omega,by simp only;omega,fun _=>by simp only;omega,by simp⟩,by simp;omega⟩
 · exact⟨⟨h1,(fun c e=>by cases e;exact zeO zyo (jM _)),(fun h=>by cases h),(fun h=>by simp at h),h5,h6,h7,h8,(fun h=>by cases h),by simp⟩,fun _=>⟨h1,(fun c e=>by cases e;exact zeO zyo (jM _)),(fun _ h=>by cases h),(fun h=>by simp at h),h5,h6,h7,h8,(fun h=>by simp at h),by simp⟩,by simp;omega⟩
theorem RQ {q:Rq} {i:Nat} (h:RqI q i):RqI { q with out:=[],pos:=4} i:=⟨h.lb,h.ck,(fun h=>by cases h),(fun h=>by simp at h),h.fl,h.ff,h.l0,h.l1,(fun h=>by cases h),by simp⟩
theorem zso {q:Rq} {i:Nat} (h:RqI q i) (hp:q.pos=0∨q.pos=1) {s:Str} (hs:s.length≤i) (k:Nat) (ho:q.out.length≤k):RqI { (zO q s).1 with out:=[],pos:=4} i∧((zO q s).2=0→RqI { (zO q s).1 with out:=[]} i)∧(zO q s).1.out.length≤k+2:=by
 have h0:RqI { q with out:=[]} i:=zov h (by simp)
 have hx:=RQ h;have hd:=zsu h k ho;have hpl:=zfN s;have hb:=zyt s;have how:=h.ow hp;unfold zO
 split
 · split
   · exact⟨hx,fun _=>h0,by simp only;omega⟩
   split
   · have h1:RqI { q with h:=(begM s).2,pos:=1,out:=[]} i:=⟨h.lb,h.ck,(fun h=>by cases h),fun _=>how,by simp [hb],(by simp [hb]),h.l0,h.l1,(fun h=>by cases h),by simp⟩
     have hd1:=RQ h1
     exact⟨hd1,fun _=>h1,by simp only;omega⟩
   split
   · have h1:RqI { q with h:=(begM s).2,out:=[]} i:=⟨h.lb,h.ck,h.p3,fun _=>how,by simp [hb],(by simp [hb]),h.l0,h.l1,h.l2,by simp⟩
     have hd1:=RQ h1
     exact⟨hd1,fun _=>h1,by simp only;omega⟩
   · exact⟨hx,fun _=>h0,by simp only;omega⟩
 · split
   · exact hd
   split
   · exact⟨hx,fun _=>h0,by simp only;omega⟩
   · rename_i h16
     have h1:RqI { q with h:= { q.h with fields:=q.h.fields++[(uF s).1]},out:=[]} i:=by
      refine⟨h.lb,h.ck,h.p3,h.ow,?_,?_,h.l0,h.l1,h.l2,by simp⟩
      · have:=h.fl;simp;omega
      · intro f hf
        rcases List.mem_append.1 hf with hf|hf
        · exact h.ff f hf
        · simp only [List.mem_singleton] at hf
          subst hf;omega
     have hd1:=RQ h1
     exact⟨hd1,fun _=>h1,by simp only;omega⟩
theorem zmi {q:Rq} {i:Nat} (h:RqI q i) (c:UInt8):RqI (rqF q c) (i+1):=by
 have hm:=zj9 h (Nat.le_succ i);have hon:=h.on;unfold rqF
 split
 · rename_i hp
   have h2:=h.l2 hp
   split
   · exact⟨hm.lb,hm.ck,(fun h=>by cases h),fun _=>rfl,by simp [tK,hd0],(fun f m=>by cases m),(Int.le_refl _),(show(0:Int)≤4000 by decide),(fun h=>by cases h),by simp [tK];omega⟩
   · exact⟨hm.lb,hm.ck,hm.p3,hm.ow,hm.fl,hm.ff,by have:=h.l0;simp only;omega,by have:=h.l1;simp only;omega,fun _=>by simp only;omega,by simp;omega⟩
 split
 · rename_i hp
   have hc:ChI (chF (ckOf q) c).1 (i+1):=by
    unfold ckOf
    cases hq:q.ck with
    |none=>exact absurd hq (h.p3 hp)
    |some x=>exact zze (h.ck x hq) c
   split
   · exact⟨hm.lb,(fun x e=>by cases e;exact hc),(fun h=>by cases h),(fun h=>by simp [wU] at h),hm.fl,hm.ff,hm.l0,hm.l1,(fun h=>by cases h),by simp [wU];omega⟩
   split
   · refine⟨hm.lb,(fun x e=>by cases e;exact hc),(fun h=>by cases h),fun _=>rfl,by simp [tK,hd0],(fun f m=>by cases m),hm.l0,hm.l1,(fun h=>by cases h),?_⟩
     simp only [tK]
     split<;>((try simp);omega)
   · refine⟨hm.lb,(fun x e=>by cases e;exact hc),(fun _ h=>by cases h),hm.ow,hm.fl,hm.ff,hm.l0,hm.l1,hm.l2,?_⟩
     show(if(chF (ckOf q) c).2.1≠[] then q.out++[evB (chF (ckOf q) c).2.1] else q.out).length≤4 * (i+1)
     split<;>((try simp);omega)
 split
 · rename_i hp
   have hlb:(lnF q.ln c).1.b.length≤i+1:=by have:=zsU q.ln c;have:=h.lb;omega
   have hll:(lnF q.ln c).2.1.length≤i+1:=by have:=Yf q.ln c;have:=h.lb;omega
   have h1:RqI { q with ln:=(lnF q.ln c).1} (i+1):=⟨hlb,hm.ck,hm.p3,hm.ow,hm.fl,hm.ff,hm.l0,hm.l1,hm.l2,hm.on⟩
   split
   · exact⟨hlb,hm.ck,(fun h=>by cases h),(fun h=>by simp [wU] at h),hm.fl,hm.ff,hm.l0,hm.l1,(fun h=>by cases h),by simp [wU];omega⟩
   split
   · have hk:=zso h1 hp hll (4 * i) hon
     generalize zO { q with ln:=(lnF q.ln c).1} (lnF q.ln c).2.1=z at *
     obtain⟨⟨k1,k2,-,-,k5,k6,k7,k8,-,-⟩,kz,ko⟩:=hk
     split
     · exact⟨k1,k2,(fun h=>by cases h),(fun h=>by simp [wU] at h),k5,k6,k7,k8,(fun h=>by cases h),by simp [wU];omega⟩
     · rename_i hz
       obtain⟨k1,k2,k3,k4,k5,k6,k7,k8,k9,k10⟩:=kz (by simpa using hz)
       exact⟨k1,k2,k3,k4,k5,k6,k7,k8,k9,by omega⟩
   · exact h1
 · exact hm
end Go.Proofs.YtnpmenpjagcheaaGreatDoor
namespace Go.Proofs.YtnpmenpjagcheaaGreatDoor
open Go Go.Sep Go.Ab
set_option maxRecDepth 100000
def cfgQ:Cfg:= { sl:=[⟨154,0,.byte,some 5⟩,⟨123,5,.fld,some 144⟩,⟨123,9,.evt,some 138⟩]}
def zC (q:Rq):Prop:=q.out.length≤10000000
def RJ (I:Alg):KU
 |[],[]=>some (.one ⟨I.hid (True),(.ret (.v (.one (.ptr 0 0)))),[.abs (.rq rq0)]⟩)
 |_,_=>none
theorem zj5:zu Tryz.prog 48 (RJ alg):=by
 intro args hp r h;unfold RJ at h;split at h<;>cases h
 simp only [CT.Good,zh];intro _
 refine spH Tryz.func48 (by kernel_rfl) { cfgQ with keep:=some [0]} [Qj,Qi] (by kernel_rfl) ?_
 intro I X hI hX
 refine orcL ?_;go_invoke;refine orcS (by kernel_rfl) ?_
 simp only [zi,Nat.reduceAdd];subst hI;simp only [nrmA,nrmB,nrlB,reduceCtorEq,HO.abs.injEq,Gh.rq.injEq,Rq.mk.injEq];rfl
def YP:Know Tryz.prog:=⟨48,RJ,zj5⟩
def YO:Know Tryz.prog:=⟨48,fun I=>zx I (RJ I),zf zj5⟩
theorem zj2 (ln:Ln) (p:Int) (m tg:Str) (hm:Int) (hf:List Fld) (hl le:Int) (out:List Evt) (k:Int) (ea eb:Str) (ei:Int) (ef:List Fld) (en:Int) (ebs ex ey ez et:Str) (ec:Int) (hneed:zC ⟨ln,p,⟨m,tg,hm,hf,hl⟩,le,none,true,out⟩):Spc Tryz.prog 122 [.v (.one (.ptr 0 0)),.v (.agg [.p (.int .i64 k),.p (.str ea),.p (.str eb),.p (.int .i64 ei),.p (.list .fld ef),.p (.int .i64 en),.p (.list .byte ebs),.p (.str ex),.p (.str ey),.p (.str ez),.p (.nl et),.p (.int .i64 ec)])] [.abs (.rq ⟨ln,p,⟨m,tg,hm,hf,hl⟩,le,none,true,out⟩)] (.ret (.tup [])) [.abs (.rq ⟨ln,p,⟨m,tg,hm,hf,hl⟩,le,none,true,(out++[⟨k,⟨ea,eb,ei,ef,en⟩,ebs,⟨ex,ey,ez,et⟩,ec⟩])⟩)]:=by
 unfold zC at hneed;simp only at hneed
 refine spH Tryz.func122 (by kernel_rfl) { cfgQ with keep:=some [0,1,3]} [] (by kernel_rfl) ?_
 intro I X hI hX
 refine orcL ?_;go_invoke;refine orcS (by kernel_rfl) ?_
 simp only [zi,Nat.reduceAdd];subst hI;simp only [nrmA,nrmB,nrlB,reduceCtorEq,HO.abs.injEq,Gh.rq.injEq,Rq.mk.injEq]
 (repeat' (first|refine ja ?_ ?_|intro _))<;>first|omega|exact jb|exact jc ‹False›|skip
 all_goals first
  |omega
  |rfl
  |with_reducible assumption
  |(simp only [jh,ji];omega)
  |(simp;done)
def YM (I:Alg):KU
 |[.v (.one (.ptr 0 0)),.v (.agg [.p (.int .i64 k),.p (.str ea),.p (.str eb),.p (.int .i64 ei),.p (.list .fld ef),.p (.int .i64 en),.p (.list .byte ebs),.p (.str ex),.p (.str ey),.p (.str ez),.p (.nl et),.p (.int .i64 ec)])],[.abs (.rq ⟨ln,p,⟨m,tg,hm,hf,hl⟩,le,none,true,out⟩)]=>(fun(m tg:Str) (hf:List Fld) (out:List Evt) (ea eb:Str) (ef:List Fld) (ebs ex ey ez et:Str)=>(some (.one ⟨I.hid (zC ⟨ln,p,⟨m,tg,hm,hf,hl⟩,le,none,true,out⟩),(.ret (.tup [])),[.abs (.rq ⟨ln,p,⟨m,tg,hm,hf,hl⟩,le,none,true,(I.hid (out++[⟨k,⟨ea,eb,ei,ef,en⟩,ebs,⟨ex,ey,ez,et⟩,ec⟩]))⟩)]⟩):Option CT)) m tg hf out ea eb ef ebs ex ey ez et
 |_,_=>none
theorem zb6:zu Tryz.prog 122 (YM alg):=by
 intro args hp r h;unfold YM at h
 split at h
 · cases h;exact fun hn=>zj2 _ _ _ _ _ _ _ _ _ _ _ _ _ _ _ _ _ _ _ _ _ hn
 · cases h
def zV:Know Tryz.prog:=⟨122,YM,zb6⟩
def zU:Know Tryz.prog:=⟨122,fun I=>zx I (YM I),zf zb6⟩
theorem zj3 (ln:Ln) (p:Int) (m tg:Str) (hm:Int) (hf:List Fld) (hl le:Int) (out:List Evt) (k:Int) (ea eb:Str) (ei:Int) (ef:List Fld) (en:Int) (ebs ex ey ez et:Str) (ec:Int) (hneed:zC ⟨ln,p,⟨m,tg,hm,hf,hl⟩,le,none,false,out⟩):Spc Tryz.prog 122 [.v (.one (.ptr 0 0)),.v (.agg [.p (.int .i64 k),.p (.str ea),.p (.str eb),.p (.int .i64 ei),.p (.list .fld ef),.p (.int .i64 en),.p (.list .byte ebs),.p (.str ex),.p (.str ey),.p (.str ez),.p (.nl et),.p (.int .i64 ec)])] [.abs (.rq ⟨ln,p,⟨m,tg,hm,hf,hl⟩,le,none,false,out⟩)] (.ret (.tup [])) [.abs (.rq ⟨ln,p,⟨m,tg,hm,hf,hl⟩,le,none,false,(out++[⟨k,⟨ea,eb,ei,ef,en⟩,ebs,⟨ex,ey,ez,et⟩,ec⟩])⟩)]:=by
 unfold zC at hneed;simp only at hneed
 refine spH Tryz.func122 (by kernel_rfl) { cfgQ with keep:=some [0,1,3]} [zV,zU] (by kernel_rfl) ?_
 intro I X hI hX
 refine orcL ?_;go_invoke;refine orcS (by kernel_rfl) ?_
 simp only [zi,Nat.reduceAdd];subst hI;simp only [nrmA,nrmB,nrlB,reduceCtorEq,HO.abs.injEq,Gh.rq.injEq,Rq.mk.injEq]
 (repeat' (first|refine ja ?_ ?_|intro _))<;>first|omega|exact jb|exact jc ‹False›|skip
 all_goals first
  |omega
  |rfl
  |with_reducible assumption
  |(simp only [jh,ji];omega)
  |(simp;done)
def YN (I:Alg):KU
 |[.v (.one (.ptr 0 0)),.v (.agg [.p (.int .i64 k),.p (.str ea),.p (.str eb),.p (.int .i64 ei),.p (.list .fld ef),.p (.int .i64 en),.p (.list .byte ebs),.p (.str ex),.p (.str ey),.p (.str ez),.p (.nl et),.p (.int .i64 ec)])],[.abs (.rq ⟨ln,p,⟨m,tg,hm,hf,hl⟩,le,none,false,out⟩)]=>(fun(m tg:Str) (hf:List Fld) (out:List Evt) (ea eb:Str) (ef:List Fld) (ebs ex ey ez et:Str)=>(some (.one ⟨I.hid (zC ⟨ln,p,⟨m,tg,hm,hf,hl⟩,le,none,false,out⟩),(.ret (.tup [])),[.abs (.rq ⟨ln,p,⟨m,tg,hm,hf,hl⟩,le,none,false,(I.hid (out++[⟨k,⟨ea,eb,ei,ef,en⟩,ebs,⟨ex,ey,ez,et⟩,ec⟩]))⟩)]⟩):Option CT)) m tg hf out ea eb ef ebs ex ey ez et
 |_,_=>none
theorem zb7:zu Tryz.prog 122 (YN alg):=by
 intro args hp r h;unfold YN at h
 split at h
 · cases h;exact fun hn=>zj3 _ _ _ _ _ _ _ _ _ _ _ _ _ _ _ _ _ _ _ _ _ hn
 · cases h
def zZ:Know Tryz.prog:=⟨122,YN,zb7⟩
def zY:Know Tryz.prog:=⟨122,fun I=>zx I (YN I),zf zb7⟩
theorem zj0 (ln:Ln) (p:Int) (m tg:Str) (hm:Int) (hf:List Fld) (hl le:Int) (ch:Ch) (out:List Evt) (k:Int) (ea eb:Str) (ei:Int) (ef:List Fld) (en:Int) (ebs ex ey ez et:Str) (ec:Int) (hneed:zC ⟨ln,p,⟨m,tg,hm,hf,hl⟩,le,some ch,true,out⟩):Spc Tryz.prog 122 [.v (.one (.ptr 0 0)),.v (.agg [.p (.int .i64 k),.p (.str ea),.p (.str eb),.p (.int .i64 ei),.p (.list .fld ef),.p (.int .i64 en),.p (.list .byte ebs),.p (.str ex),.p (.str ey),.p (.str ez),.p (.nl et),.p (.int .i64 ec)])] [.abs (.rq ⟨ln,p,⟨m,tg,hm,hf,hl⟩,le,some ch,true,out⟩)] (.ret (.tup [])) [.abs (.rq ⟨ln,p,⟨m,tg,hm,hf,hl⟩,le,some ch,true,(out++[⟨k,⟨ea,eb,ei,ef,en⟩,ebs,⟨ex,ey,ez,et⟩,ec⟩])⟩)]:=by
 unfold zC at hneed;simp only at hneed
 refine spH Tryz.func122 (by kernel_rfl) { cfgQ with keep:=some [0,1,3]} [zV,zU,zZ,zY] (by kernel_rfl) ?_
 intro I X hI hX
 refine orcL ?_;go_invoke;refine orcS (by kernel_rfl) ?_
 simp only [zi,Nat.reduceAdd];subst hI;simp only [nrmA,nrmB,nrlB,reduceCtorEq,HO.abs.injEq,Gh.rq.injEq,Rq.mk.injEq]
 (repeat' (first|refine ja ?_ ?_|intro _))<;>first|omega|exact jb|exact jc ‹False›|skip
 all_goals first
  |omega
  |rfl
  |with_reducible assumption
  |(simp only [jh,ji];omega)
  |(simp;done)
def YK (I:Alg):KU
 |[.v (.one (.ptr 0 0)),.v (.agg [.p (.int .i64 k),.p (.str ea),.p (.str eb),.p (.int .i64 ei),.p (.list .fld ef),.p (.int .i64 en),.p (.list .byte ebs),.p (.str ex),.p (.str ey),.p (.str ez),.p (.nl et),.p (.int .i64 ec)])],[.abs (.rq ⟨ln,p,⟨m,tg,hm,hf,hl⟩,le,some ch,true,out⟩)]=>(fun(m tg:Str) (hf:List Fld) (out:List Evt) (ea eb:Str) (ef:List Fld) (ebs ex ey ez et:Str)=>(some (.one ⟨I.hid (zC ⟨ln,p,⟨m,tg,hm,hf,hl⟩,le,some ch,true,out⟩),(.ret (.tup [])),[.abs (.rq ⟨ln,p,⟨m,tg,hm,hf,hl⟩,le,some ch,true,(I.hid (out++[⟨k,⟨ea,eb,ei,ef,en⟩,ebs,⟨ex,ey,ez,et⟩,ec⟩]))⟩)]⟩):Option CT)) m tg hf out ea eb ef ebs ex ey ez et
 |_,_=>none
theorem zb4:zu Tryz.prog 122 (YK alg):=by
 intro args hp r h;unfold YK at h
 split at h
 · cases h;exact fun hn=>zj0 _ _ _ _ _ _ _ _ _ _ _ _ _ _ _ _ _ _ _ _ _ _ hn
 · cases h
def yu:Know Tryz.prog:=⟨122,YK,zb4⟩
def yj:Know Tryz.prog:=⟨122,fun I=>zx I (YK I),zf zb4⟩
theorem zj1 (ln:Ln) (p:Int) (m tg:Str) (hm:Int) (hf:List Fld) (hl le:Int) (ch:Ch) (out:List Evt) (k:Int) (ea eb:Str) (ei:Int) (ef:List Fld) (en:Int) (ebs ex ey ez et:Str) (ec:Int) (hneed:zC ⟨ln,p,⟨m,tg,hm,hf,hl⟩,le,some ch,false,out⟩):Spc Tryz.prog 122 [.v (.one (.ptr 0 0)),.v (.agg [.p (.int .i64 k),.p (.str ea),.p (.str eb),.p (.int .i64 ei),.p (.list .fld ef),.p (.int .i64 en),.p (.list .byte ebs),.p (.str ex),.p (.str ey),.p (.str ez),.p (.nl et),.p (.int .i64 ec)])] [.abs (.rq ⟨ln,p,⟨m,tg,hm,hf,hl⟩,le,some ch,false,out⟩)] (.ret (.tup [])) [.abs (.rq ⟨ln,p,⟨m,tg,hm,hf,hl⟩,le,some ch,false,(out++[⟨k,⟨ea,eb,ei,ef,en⟩,ebs,⟨ex,ey,ez,et⟩,ec⟩])⟩)]:=by
 unfold zC at hneed;simp only at hneed
 refine spH Tryz.func122 (by kernel_rfl) { cfgQ with keep:=some [0,1,3]} [zV,zU,zZ,zY,yu,yj] (by kernel_rfl) ?_
 intro I X hI hX
 refine orcL ?_;go_invoke;refine orcS (by kernel_rfl) ?_
 simp only [zi,Nat.reduceAdd];subst hI;simp only [nrmA,nrmB,nrlB,reduceCtorEq,HO.abs.injEq,Gh.rq.injEq,Rq.mk.injEq]
 (repeat' (first|refine ja ?_ ?_|intro _))<;>first|omega|exact jb|exact jc ‹False›|skip
 all_goals first
  |omega
  |rfl
  |with_reducible assumption
  |(simp only [jh,ji];omega)
  |(simp;done)
def YL (I:Alg):KU
 |[.v (.one (.ptr 0 0)),.v (.agg [.p (.int .i64 k),.p (.str ea),.p (.str eb),.p (.int .i64 ei),.p (.list .fld ef),.p (.int .i64 en),.p (.list .byte ebs),.p (.str ex),.p (.str ey),.p (.str ez),.p (.nl et),.p (.int .i64 ec)])],[.abs (.rq ⟨ln,p,⟨m,tg,hm,hf,hl⟩,le,some ch,false,out⟩)]=>(fun(m tg:Str) (hf:List Fld) (out:List Evt) (ea eb:Str) (ef:List Fld) (ebs ex ey ez et:Str)=>(some (.one ⟨I.hid (zC ⟨ln,p,⟨m,tg,hm,hf,hl⟩,le,some ch,false,out⟩),(.ret (.tup [])),[.abs (.rq ⟨ln,p,⟨m,tg,hm,hf,hl⟩,le,some ch,false,(I.hid (out++[⟨k,⟨ea,eb,ei,ef,en⟩,ebs,⟨ex,ey,ez,et⟩,ec⟩]))⟩)]⟩):Option CT)) m tg hf out ea eb ef ebs ex ey ez et
 |_,_=>none
theorem zb5:zu Tryz.prog 122 (YL alg):=by
 intro args hp r h;unfold YL at h
 split at h
 · cases h;exact fun hn=>zj1 _ _ _ _ _ _ _ _ _ _ _ _ _ _ _ _ _ _ _ _ _ _ hn
 · cases h
def yD:Know Tryz.prog:=⟨122,YL,zb5⟩
def yC:Know Tryz.prog:=⟨122,fun I=>zx I (YL I),zf zb5⟩
def RI (I:Alg):KU
 |[.v (.one (.ptr 0 0)),.v (.agg [.p (.int .i64 k),.p (.str ea),.p (.str eb),.p (.int .i64 ei),.p (.list .fld ef),.p (.int .i64 en),.p (.list .byte ebs),.p (.str ex),.p (.str ey),.p (.str ez),.p (.nl et),.p (.int .i64 ec)])],[.abs (.rq q)]=>(fun(ea eb:Str) (ef:List Fld) (ebs ex ey ez et:Str)=>(some (.one ⟨I.hid (zC q),(.ret (.tup [])),[.abs (.rq (I.hid (zyP q ⟨k,⟨ea,eb,ei,ef,en⟩,ebs,⟨ex,ey,ez,et⟩,ec⟩)))]⟩):Option CT)) ea eb ef ebs ex ey ez et
 |_,_=>none
theorem zj4:zu Tryz.prog 122 (RI alg):=by
 intro args hp r h;unfold RI at h;split at h<;>cases h
 rename_i k ea eb ei ef en ebs ex ey ez et ec q
 revert ef;intro(ef:List Fld)
 simp only [CT.Good,zh];intro hneed;obtain⟨ln,p,⟨m,tg,hm,hf,hl⟩,le,ck,own,out⟩:=q
 cases ck with
 | none=>cases own with
   |true=>exact zj2 ln p m tg hm hf hl le out k ea eb ei ef en ebs ex ey ez et ec hneed
   |false=>exact zj3 ln p m tg hm hf hl le out k ea eb ei ef en ebs ex ey ez et ec hneed
 | some ch=>cases own with
   |true=>exact zj0 ln p m tg hm hf hl le ch out k ea eb ei ef en ebs ex ey ez et ec hneed
   |false=>exact zj1 ln p m tg hm hf hl le ch out k ea eb ei ef en ebs ex ey ez et ec hneed
def xY:Know Tryz.prog:=⟨122,RI,zj4⟩
def xX:Know Tryz.prog:=⟨122,fun I=>zx I (RI I),zf zj4⟩
theorem zoC (ln:Ln) (p:Int) (m tg:Str) (hm:Int) (hf:List Fld) (hl le:Int) (out:List Evt) (c:Int) (hneed:zC ⟨ln,p,⟨m,tg,hm,hf,hl⟩,le,none,true,out⟩):Spc Tryz.prog 125 [.v (.one (.ptr 0 0)),.v (.one (.p (.int .i64 c)))] [.abs (.rq ⟨ln,p,⟨m,tg,hm,hf,hl⟩,le,none,true,out⟩)] (.ret (.tup [])) [.abs (.rq ((wU ⟨ln,p,⟨m,tg,hm,hf,hl⟩,le,none,true,out⟩ c)))]:=by
 unfold zC at hneed;simp only at hneed
 refine spH Tryz.func125 (by kernel_rfl) { cfgQ with keep:=some [0,1]} [zV,zU,zZ,zY,yu,yj,yD,yC,xY,xX] (by kernel_rfl) ?_
 intro I X hI hX
 refine orcL ?_;go_invoke;refine orcS (by kernel_rfl) ?_
 simp only [zi,Nat.reduceAdd];subst hI;simp only [nrmA,nrmB,nrlB,reduceCtorEq,HO.abs.injEq,Gh.rq.injEq,Rq.mk.injEq]
 (repeat' (first|refine ja ?_ ?_|intro _))<;>first|omega|exact jb|exact jc ‹False›|skip
 all_goals first
  |omega
  |rfl
  |with_reducible assumption
  |(simp only [jh,ji];omega)
  |(unfold zC;simp only;omega)
  |(simp;done)
theorem zoD (ln:Ln) (p:Int) (m tg:Str) (hm:Int) (hf:List Fld) (hl le:Int) (out:List Evt) (c:Int) (hneed:zC ⟨ln,p,⟨m,tg,hm,hf,hl⟩,le,none,false,out⟩):Spc Tryz.prog 125 [.v (.one (.ptr 0 0)),.v (.one (.p (.int .i64 c)))] [.abs (.rq ⟨ln,p,⟨m,tg,hm,hf,hl⟩,le,none,false,out⟩)] (.ret (.tup [])) [.abs (.rq ((wU ⟨ln,p,⟨m,tg,hm,hf,hl⟩,le,none,false,out⟩ c)))]:=by
 unfold zC at hneed;simp only at hneed
 refine spH Tryz.func125 (by kernel_rfl) { cfgQ with keep:=some [0,1]} [zV,zU,zZ,zY,yu,yj,yD,yC,xY,xX] (by kernel_rfl) ?_
 intro I X hI hX
 refine orcL ?_;go_invoke;refine orcS (by kernel_rfl) ?_
 simp only [zi,Nat.reduceAdd];subst hI;simp only [nrmA,nrmB,nrlB,reduceCtorEq,HO.abs.injEq,Gh.rq.injEq,Rq.mk.injEq]
 (repeat' (first|refine ja ?_ ?_|intro _))<;>first|omega|exact jb|exact jc ‹False›|skip
 all_goals first
  |omega
  |rfl
  |with_reducible assumption
  |(simp only [jh,ji];omega)
  |(unfold zC;simp only;omega)
  |(simp;done)
theorem zoA (ln:Ln) (p:Int) (m tg:Str) (hm:Int) (hf:List Fld) (hl le:Int) (ch:Ch) (out:List Evt) (c:Int) (hneed:zC ⟨ln,p,⟨m,tg,hm,hf,hl⟩,le,some ch,true,out⟩):Spc Tryz.prog 125 [.v (.one (.ptr 0 0)),.v (.one (.p (.int .i64 c)))] [.abs (.rq ⟨ln,p,⟨m,tg,hm,hf,hl⟩,le,some ch,true,out⟩)] (.ret (.tup [])) [.abs (.rq ((wU ⟨ln,p,⟨m,tg,hm,hf,hl⟩,le,some ch,true,out⟩ c)))]:=by
 unfold zC at hneed;simp only at hneed
 refine spH Tryz.func125 (by kernel_rfl) { cfgQ with keep:=some [0,1]} [zV,zU,zZ,zY,yu,yj,yD,yC,xY,xX] (by kernel_rfl) ?_
 intro I X hI hX
 refine orcL ?_;go_invoke;refine orcS (by kernel_rfl) ?_
 simp only [zi,Nat.reduceAdd];subst hI;simp only [nrmA,nrmB,nrlB,reduceCtorEq,HO.abs.injEq,Gh.rq.injEq,Rq.mk.injEq]
 (repeat' (first|refine ja ?_ ?_|intro _))<;>first|omega|exact jb|exact jc ‹False›|skip
 all_goals first
  |omega
  |rfl
  |with_reducible assumption
  |(simp only [jh,ji];omega)
  |(unfold zC;simp only;omega)
  |(simp;done)
theorem zoB (ln:Ln) (p:Int) (m tg:Str) (hm:Int) (hf:List Fld) (hl le:Int) (ch:Ch) (out:List Evt) (c:Int) (hneed:zC ⟨ln,p,⟨m,tg,hm,hf,hl⟩,le,some ch,false,out⟩):Spc Tryz.prog 125 [.v (.one (.ptr 0 0)),.v (.one (.p (.int .i64 c)))] [.abs (.rq ⟨ln,p,⟨m,tg,hm,hf,hl⟩,le,some ch,false,out⟩)] (.ret (.tup [])) [.abs (.rq ((wU ⟨ln,p,⟨m,tg,hm,hf,hl⟩,le,some ch,false,out⟩ c)))]:=by
 unfold zC at hneed;simp only at hneed
 refine spH Tryz.func125 (by kernel_rfl) { cfgQ with keep:=some [0,1]} [zV,zU,zZ,zY,yu,yj,yD,yC,xY,xX] (by kernel_rfl) ?_
 intro I X hI hX
 refine orcL ?_;go_invoke;refine orcS (by kernel_rfl) ?_
 simp only [zi,Nat.reduceAdd];subst hI;simp only [nrmA,nrmB,nrlB,reduceCtorEq,HO.abs.injEq,Gh.rq.injEq,Rq.mk.injEq]
 (repeat' (first|refine ja ?_ ?_|intro _))<;>first|omega|exact jb|exact jc ‹False›|skip
 all_goals first
  |omega
  |rfl
  |with_reducible assumption
  |(simp only [jh,ji];omega)
  |(unfold zC;simp only;omega)
  |(simp;done)
def WR (I:Alg):KU
 |[.v (.one (.ptr 0 0)),.v (.one (.p (.int .i64 c)))],[.abs (.rq q)]=>some (.one ⟨I.hid (zC q),(.ret (.tup [])),[.abs (.rq (I.hid (wU q c)))]⟩)
 |_,_=>none
theorem zfD:zu Tryz.prog 125 (WR alg):=by
 intro args hp r h;unfold WR at h;split at h<;>cases h
 rename_i c q;simp only [CT.Good,zh];intro hneed;obtain⟨ln,p,⟨m,tg,hm,hf,hl⟩,le,ck,own,out⟩:=q
 cases ck with
 | none=>cases own with
   |true=>exact zoC ln p m tg hm hf hl le out c hneed
   |false=>exact zoD ln p m tg hm hf hl le out c hneed
 | some ch=>cases own with
   |true=>exact zoA ln p m tg hm hf hl le ch out c hneed
   |false=>exact zoB ln p m tg hm hf hl le ch out c hneed
def WQ:Know Tryz.prog:=⟨125,WR,zfD⟩
def WO:Know Tryz.prog:=⟨125,fun I=>zx I (WR I),zf zfD⟩
theorem zsr (ln:Ln) (p:Int) (m tg:Str) (hm:Int) (hf:List Fld) (hl le:Int) (out:List Evt) (hneed:zC ⟨ln,p,⟨m,tg,hm,hf,hl⟩,le,none,true,out⟩):Spc Tryz.prog 123 [.v (.one (.ptr 0 0))] [.abs (.rq ⟨ln,p,⟨m,tg,hm,hf,hl⟩,le,none,true,out⟩)] (.ret (.tup [])) [.abs (.rq ((tK ⟨ln,p,⟨m,tg,hm,hf,hl⟩,le,none,true,out⟩)))]:=by
 unfold zC at hneed;simp only at hneed
 refine spH Tryz.func123 (by kernel_rfl) { cfgQ with keep:=some [0]} [zV,zU,zZ,zY,yu,yj,yD,yC,xY,xX] (by kernel_rfl) ?_
 intro I X hI hX
 refine orcL ?_;go_invoke;refine orcS (by kernel_rfl) ?_
 simp only [zi,Nat.reduceAdd];subst hI;simp only [nrmA,nrmB,nrlB,reduceCtorEq,HO.abs.injEq,Gh.rq.injEq,Rq.mk.injEq]
 (repeat' (first|refine ja ?_ ?_|intro _))<;>first|omega|exact jb|exact jc ‹False›|skip
 all_goals first
  |omega
  |rfl
  |with_reducible assumption
  |(simp only [jh,ji];omega)
  |(unfold zC;simp only;omega)
  |(simp;done)
theorem zss (ln:Ln) (p:Int) (m tg:Str) (hm:Int) (hf:List Fld) (hl le:Int) (out:List Evt) (hneed:zC ⟨ln,p,⟨m,tg,hm,hf,hl⟩,le,none,false,out⟩):Spc Tryz.prog 123 [.v (.one (.ptr 0 0))] [.abs (.rq ⟨ln,p,⟨m,tg,hm,hf,hl⟩,le,none,false,out⟩)] (.ret (.tup [])) [.abs (.rq ((tK ⟨ln,p,⟨m,tg,hm,hf,hl⟩,le,none,false,out⟩)))]:=by
 unfold zC at hneed;simp only at hneed
 refine spH Tryz.func123 (by kernel_rfl) { cfgQ with keep:=some [0]} [zV,zU,zZ,zY,yu,yj,yD,yC,xY,xX] (by kernel_rfl) ?_
 intro I X hI hX
 refine orcL ?_;go_invoke;refine orcS (by kernel_rfl) ?_
 simp only [zi,Nat.reduceAdd];subst hI;simp only [nrmA,nrmB,nrlB,reduceCtorEq,HO.abs.injEq,Gh.rq.injEq,Rq.mk.injEq]
 (repeat' (first|refine ja ?_ ?_|intro _))<;>first|omega|exact jb|exact jc ‹False›|skip
 all_goals first
  |omega
  |rfl
  |with_reducible assumption
  |(simp only [jh,ji];omega)
  |(unfold zC;simp only;omega)
  |(simp;done)
theorem zsp (ln:Ln) (p:Int) (m tg:Str) (hm:Int) (hf:List Fld) (hl le:Int) (ch:Ch) (out:List Evt) (hneed:zC ⟨ln,p,⟨m,tg,hm,hf,hl⟩,le,some ch,true,out⟩):Spc Tryz.prog 123 [.v (.one (.ptr 0 0))] [.abs (.rq ⟨ln,p,⟨m,tg,hm,hf,hl⟩,le,some ch,true,out⟩)] (.ret (.tup [])) [.abs (.rq ((tK ⟨ln,p,⟨m,tg,hm,hf,hl⟩,le,some ch,true,out⟩)))]:=by
 unfold zC at hneed;simp only at hneed
 refine spH Tryz.func123 (by kernel_rfl) { cfgQ with keep:=some [0]} [zV,zU,zZ,zY,yu,yj,yD,yC,xY,xX] (by kernel_rfl) ?_
 intro I X hI hX
 refine orcL ?_;go_invoke;refine orcS (by kernel_rfl) ?_
 simp only [zi,Nat.reduceAdd];subst hI;simp only [nrmA,nrmB,nrlB,reduceCtorEq,HO.abs.injEq,Gh.rq.injEq,Rq.mk.injEq]
 (repeat' (first|refine ja ?_ ?_|intro _))<;>first|omega|exact jb|exact jc ‹False›|skip
 all_goals first
  |omega
  |rfl
  |with_reducible assumption
  |(simp only [jh,ji];omega)
  |(unfold zC;simp only;omega)
  |(simp;done)
theorem zsq (ln:Ln) (p:Int) (m tg:Str) (hm:Int) (hf:List Fld) (hl le:Int) (ch:Ch) (out:List Evt) (hneed:zC ⟨ln,p,⟨m,tg,hm,hf,hl⟩,le,some ch,false,out⟩):Spc Tryz.prog 123 [.v (.one (.ptr 0 0))] [.abs (.rq ⟨ln,p,⟨m,tg,hm,hf,hl⟩,le,some ch,false,out⟩)] (.ret (.tup [])) [.abs (.rq ((tK ⟨ln,p,⟨m,tg,hm,hf,hl⟩,le,some ch,false,out⟩)))]:=by
 unfold zC at hneed;simp only at hneed
 refine spH Tryz.func123 (by kernel_rfl) { cfgQ with keep:=some [0]} [zV,zU,zZ,zY,yu,yj,yD,yC,xY,xX] (by kernel_rfl) ?_
 intro I X hI hX
 refine orcL ?_;go_invoke;refine orcS (by kernel_rfl) ?_
 simp only [zi,Nat.reduceAdd];subst hI;simp only [nrmA,nrmB,nrlB,reduceCtorEq,HO.abs.injEq,Gh.rq.injEq,Rq.mk.injEq]
 (repeat' (first|refine ja ?_ ?_|intro _))<;>first|omega|exact jb|exact jc ‹False›|skip
 all_goals first
  |omega
  |rfl
  |with_reducible assumption
  |(simp only [jh,ji];omega)
  |(unfold zC;simp only;omega)
  |(simp;done)
def RS (I:Alg):KU
 |[.v (.one (.ptr 0 0))],[.abs (.rq q)]=>some (.one ⟨I.hid (zC q),(.ret (.tup [])),[.abs (.rq (I.hid (tK q)))]⟩)
 |_,_=>none
theorem zka:zu Tryz.prog 123 (RS alg):=by
 intro args hp r h;unfold RS at h;split at h<;>cases h
 rename_i q;simp only [CT.Good,zh];intro hneed;obtain⟨ln,p,⟨m,tg,hm,hf,hl⟩,le,ck,own,out⟩:=q
 cases ck with
 | none=>cases own with
   |true=>exact zsr ln p m tg hm hf hl le out hneed
   |false=>exact zss ln p m tg hm hf hl le out hneed
 | some ch=>cases own with
   |true=>exact zsp ln p m tg hm hf hl le ch out hneed
   |false=>exact zsq ln p m tg hm hf hl le ch out hneed
def YR:Know Tryz.prog:=⟨123,RS,zka⟩
def YQ:Know Tryz.prog:=⟨123,fun I=>zx I (RS I),zf zka⟩
theorem zoK (ln:Ln) (p:Int) (m tg:Str) (hm:Int) (hf:List Fld) (hl le:Int) (out:List Evt):Spc Tryz.prog 76 [.v (.one (.ptr 0 0))] [.abs (.rq ⟨ln,p,⟨m,tg,hm,hf,hl⟩,le,none,true,out⟩)] (.ret (.v (.one (.p (.bool ((decide (Rq.pos ⟨ln,p,⟨m,tg,hm,hf,hl⟩,le,none,true,out⟩=4)))))))) [.abs (.rq ⟨ln,p,⟨m,tg,hm,hf,hl⟩,le,none,true,out⟩)]:=by
 refine spH Tryz.func76 (by kernel_rfl) { cfgQ with keep:=some [0,2]} [] (by kernel_rfl) ?_
 intro I X hI hX
 refine orcL ?_;go_invoke;refine orcS (by kernel_rfl) ?_
 simp only [zi,Nat.reduceAdd];subst hI;simp only [nrmA,nrmB,nrlB,reduceCtorEq,HO.abs.injEq,Gh.rq.injEq,Rq.mk.injEq]
 (repeat' (first|refine ja ?_ ?_|intro _))<;>first|omega|exact jb|exact jc ‹False›|skip
 all_goals first
  |omega
  |rfl
  |with_reducible assumption
  |(simp only [jh,ji];omega)
  |(simp;done)
theorem zoL (ln:Ln) (p:Int) (m tg:Str) (hm:Int) (hf:List Fld) (hl le:Int) (out:List Evt):Spc Tryz.prog 76 [.v (.one (.ptr 0 0))] [.abs (.rq ⟨ln,p,⟨m,tg,hm,hf,hl⟩,le,none,false,out⟩)] (.ret (.v (.one (.p (.bool ((decide (Rq.pos ⟨ln,p,⟨m,tg,hm,hf,hl⟩,le,none,false,out⟩=4)))))))) [.abs (.rq ⟨ln,p,⟨m,tg,hm,hf,hl⟩,le,none,false,out⟩)]:=by
 refine spH Tryz.func76 (by kernel_rfl) { cfgQ with keep:=some [0,2]} [] (by kernel_rfl) ?_
 intro I X hI hX
 refine orcL ?_;go_invoke;refine orcS (by kernel_rfl) ?_
 simp only [zi,Nat.reduceAdd];subst hI;simp only [nrmA,nrmB,nrlB,reduceCtorEq,HO.abs.injEq,Gh.rq.injEq,Rq.mk.injEq]
 (repeat' (first|refine ja ?_ ?_|intro _))<;>first|omega|exact jb|exact jc ‹False›|skip
 all_goals first
  |omega
  |rfl
  |with_reducible assumption
  |(simp only [jh,ji];omega)
  |(simp;done)
theorem zoI (ln:Ln) (p:Int) (m tg:Str) (hm:Int) (hf:List Fld) (hl le:Int) (ch:Ch) (out:List Evt):Spc Tryz.prog 76 [.v (.one (.ptr 0 0))] [.abs (.rq ⟨ln,p,⟨m,tg,hm,hf,hl⟩,le,some ch,true,out⟩)] (.ret (.v (.one (.p (.bool ((decide (Rq.pos ⟨ln,p,⟨m,tg,hm,hf,hl⟩,le,some ch,true,out⟩=4)))))))) [.abs (.rq ⟨ln,p,⟨m,tg,hm,hf,hl⟩,le,some ch,true,out⟩)]:=by
 refine spH Tryz.func76 (by kernel_rfl) { cfgQ with keep:=some [0,2]} [] (by kernel_rfl) ?_
 intro I X hI hX
 refine orcL ?_;go_invoke;refine orcS (by kernel_rfl) ?_
 simp only [zi,Nat.reduceAdd];subst hI;simp only [nrmA,nrmB,nrlB,reduceCtorEq,HO.abs.injEq,Gh.rq.injEq,Rq.mk.injEq]
 (repeat' (first|refine ja ?_ ?_|intro _))<;>first|omega|exact jb|exact jc ‹False›|skip
 all_goals first
  |omega
  |rfl
  |with_reducible assumption
  |(simp only [jh,ji];omega)
  |(simp;done)
theorem zoJ (ln:Ln) (p:Int) (m tg:Str) (hm:Int) (hf:List Fld) (hl le:Int) (ch:Ch) (out:List Evt):Spc Tryz.prog 76 [.v (.one (.ptr 0 0))] [.abs (.rq ⟨ln,p,⟨m,tg,hm,hf,hl⟩,le,some ch,false,out⟩)] (.ret (.v (.one (.p (.bool ((decide (Rq.pos ⟨ln,p,⟨m,tg,hm,hf,hl⟩,le,some ch,false,out⟩=4)))))))) [.abs (.rq ⟨ln,p,⟨m,tg,hm,hf,hl⟩,le,some ch,false,out⟩)]:=by
 refine spH Tryz.func76 (by kernel_rfl) { cfgQ with keep:=some [0,2]} [] (by kernel_rfl) ?_
 intro I X hI hX
 refine orcL ?_;go_invoke;refine orcS (by kernel_rfl) ?_
 simp only [zi,Nat.reduceAdd];subst hI;simp only [nrmA,nrmB,nrlB,reduceCtorEq,HO.abs.injEq,Gh.rq.injEq,Rq.mk.injEq]
 (repeat' (first|refine ja ?_ ?_|intro _))<;>first|omega|exact jb|exact jc ‹False›|skip
 all_goals first
  |omega
  |rfl
  |with_reducible assumption
  |(simp only [jh,ji];omega)
  |(simp;done)
def WT (I:Alg):KU
 |[.v (.one (.ptr 0 0))],[.abs (.rq q)]=>some (.one ⟨I.hid (True),(.ret (.v (.one (.p (.bool (I.hid (decide (Rq.pos q=4)))))))),[.abs (.rq (I.hid (q)))]⟩)
 |_,_=>none
theorem zfH:zu Tryz.prog 76 (WT alg):=by
 intro args hp r h;unfold WT at h;split at h<;>cases h
 rename_i q;simp only [CT.Good,zh];intro _;obtain⟨ln,p,⟨m,tg,hm,hf,hl⟩,le,ck,own,out⟩:=q
 cases ck with
 | none=>cases own with
   |true=>exact zoK ln p m tg hm hf hl le out
   |false=>exact zoL ln p m tg hm hf hl le out
 | some ch=>cases own with
   |true=>exact zoI ln p m tg hm hf hl le ch out
   |false=>exact zoJ ln p m tg hm hf hl le ch out
def zaC:Know Tryz.prog:=⟨76,WT,zfH⟩
def zaB:Know Tryz.prog:=⟨76,fun I=>zx I (WT I),zf zfH⟩
end Go.Proofs.YtnpmenpjagcheaaGreatDoor
namespace Go.Ab
open Go Go.Sep
variable [Facts]
theorem Spc.zxC {Pr:Program} {f:Nat} {args:List D} {hp:List HO} {u:U} {E:Nat} {l:List u.den} (hl:l.length≤maxLen) (hf: ∃ fn,Pr.funcs[f]? =some fn∧(fn.name == "runtime.NumGoroutine")=false∧fn.body.isNone=false)
  (h: ∀ (S:Frz) (bs:List Value) (w:World) (vs:List Value),Facts.p w→MDs S bs args vs→∃ cs:Array Value,cs.size=l.length * u.size∧(∀ (i:Nat) (x:u.den) (j:Nat) (p:P) (v:Value),l[i]? =some x→(enc alg u x)[j]? =some p→cs.toList[i * u.size+j]? =some v→MP S p v)∧Calls Pr f vs.toArray w fun e w'=>e=.returned (.slice (some ⟨w.heap.size,0,none⟩) l.length l.length)∧w'=w.alloc (.cells cs E)):Spc Pr f args hp (.ret (.v (.one (.row hp.length)))) (hp++[.row u E l]):=by
 refine⟨hf,fun S K fr w vs hH hM hA=> ?_⟩;obtain⟨cs,hcs,hx,hc⟩:=h S _ w vs (At.frz hA).facts hM;refine hc.mono fun e w' he=> ?_;obtain⟨rfl,rfl⟩:=he
 have he:Ext (K.map CO.base) ((K++[CO.row E u.size (some ⟨w.heap.size,0,none⟩) l.length l.length cs.toList]).map CO.base):=by rw [List.map_append];exact Ext.append _ _
 refine⟨S,K++[CO.row E u.size (some ⟨w.heap.size,0,none⟩) l.length l.length cs.toList],Frz.le.refl S,he,(hH.mono (Frz.le.refl S) he).push (.row (by rw [Array.length_toList];exact hcs) hx),?_,?_⟩
 · have h1:=hA.QX E u.size l.length cs (0,0) hcs hl (vF _)
   exact At.more h1
 · refine⟨?_,some ⟨w.heap.size,0,none⟩,l.length,l.length,rfl⟩
   rw [hH.1];exact yZ _ _
end Go.Ab
namespace Go.Proofs.YtnpmenpjagcheaaGreatDoor
open Go Go.Sep Go.Ab
set_option maxRecDepth 100000
theorem index_one: ∀ (s:Str) (c:UInt8),c ∉ s→Lib.index s [c]= -1
 |[],c,_=>rfl
 | b::l,c,h=>by
   have h1: ¬ b=c:=fun e=>h (by rw [e];exact List.mem_cons_self)
   have h2:c ∉ l:=fun e=>h (List.mem_cons_of_mem _ e)
   have h0:(c == b)=false:=by simpa using fun e:c=b=>h1 e.symm
   have h3:([c]:Str).isPrefixOf (b::l)=false:=by simp [List.isPrefixOf,h0]
   unfold Lib.index;rw [h3,index_one l c h2];rfl
theorem zkU: ∀ (p r:Str) (c:UInt8),c ∉ p→Lib.index (p++c::r) [c]=p.length
 |[],r,c,_=>by simp [Lib.index,List.isPrefixOf]
 | b::l,r,c,h=>by
   have h1: ¬ b=c:=fun e=>h (by rw [e];exact List.mem_cons_self)
   have h2:c ∉ l:=fun e=>h (List.mem_cons_of_mem _ e)
   have h0:(c == b)=false:=by simpa using fun e:c=b=>h1 e.symm
   have h3:([c]:Str).isPrefixOf (b::(l++c::r))=false:=by simp [List.isPrefixOf,h0]
   rw [List.cons_append];unfold Lib.index;rw [h3,zkU l r c h2]
   have: ¬ ((l.length:Int) == -1)=true:=fun e=>by have:=beq_iff_eq.1 e;omega
   rw [if_neg (by simp),if_neg this]
   simp
theorem zan: ∀ (s:Str),(32:UInt8) ∉ s→yF s=[s]
 |[],_=>rfl
 | b::l,h=>by
   have h1: ¬ b=32:=fun e=>h (by rw [e];exact List.mem_cons_self)
   have h2:(32:UInt8) ∉ l:=fun e=>h (List.mem_cons_of_mem _ e);rw [yF,if_neg h1,zan l h2]
theorem zbW: ∀ (p r:Str),(32:UInt8) ∉ p→yF (p++32::r)=p::yF r
 |[],r,_=>by simp [yF]
 | b::l,r,h=>by
   have h1: ¬ b=32:=fun e=>h (by rw [e];exact List.mem_cons_self)
   have h2:(32:UInt8) ∉ l:=fun e=>h (List.mem_cons_of_mem _ e);rw [List.cons_append,yF,if_neg h1,zbW l r h2]
theorem zuO: ∀ (s:Str) (c:UInt8),c ∈ s→∃ p r,s=p++c::r∧c ∉ p
 | b ::l,c,h=>by
   by_cases e:b=c
   · exact⟨[],l,by rw [e];rfl,by simp⟩
   · have h2:c ∈ l:=by
      rcases List.mem_cons.1 h with h|h
      · exact absurd h.symm e
      · exact h
     obtain⟨p,r,rfl,h3⟩:=zuO l c h2;refine⟨b::p,r,rfl,fun h4=> ?_⟩
     rcases List.mem_cons.1 h4 with h4|h4
     · exact e h4.symm
     · exact h3 h4
theorem zfj: ∀ (n:Nat) (s:Str),s.length≤n→∀ k,s.count 32≤k→Lib.splitK [32] 0 k s=yF s
 | 0,s,hs,k,_=>by
   have:s=[]:=List.length_eq_zero_iff.1 (by omega)
   subst this
   cases k<;>rfl
 | n + 1,s,hs,k,hk=>by
   by_cases hm:(32:UInt8) ∈ s
   · obtain⟨p,r,rfl,hp⟩:=zuO s 32 hm
     have hc:(p++32::r).count 32=r.count 32+1:=by
      rw [List.count_append,List.count_eq_zero.2 hp,List.count_cons_self];omega
     rw [hc] at hk
     cases k with
     |zero=>omega
     | succ k=>
       rw [zbW p r hp];unfold Lib.splitK;rw [zkU p r 32 hp]
       have: ¬ ((p.length:Int) == -1)=true:=fun e=>by have:=beq_iff_eq.1 e;omega
       rw [if_neg this];simp only [jJ,Nat.add_zero,jh,ji,Nat.zero_add]
       rw [List.take_left,show p.length+1=(p++[(32:UInt8)]).length by simp,show p++32::r=(p++[32])++r by simp,List.drop_left]
       congr 1
       refine zfj n r ?_ k (by omega)
       simp only [jk,jh] at hs;omega
   · rw [zan s hm]
     cases k with
     |zero=>rfl
     | succ k=>
       unfold Lib.splitK;rw [index_one s 32 hm];rfl
theorem count_one (s:Str):Lib.count s [32]=s.count 32:=Lib.count_one 32 s
theorem zao: ∀ (s:Str),(yF s).length=s.count 32+1
 |[]=>rfl
 | c ::r=>by
   have ih:=zao r;rw [yF]
   split
   · rename_i h;subst h;rw [jh,ih,List.count_cons_self]
   · rename_i h
     rw [List.count_cons_of_ne (by simpa using h)]
     cases hq:yF r with
     |nil=>exact absurd hq (zbV r)
     |cons w ws=>rw [hq] at ih;simpa using ih
theorem znL {S:Frz} {l:List Str} (hl: ∀ x ∈ l,x.length≤maxLen) {vs:List Value} (hv:vs=l.map fun x=>Value.string (Sep.S x)): ∀ (i:Nat) (x:Str) (j:Nat) (p:P) (v:Value),l[i]? =some x→(enc alg .str x)[j]? =some p→vs[i * U.str.size+j]? =some v→MP S p v:=by
 intro i x j p v hi hj hv2
 cases j with
 | zero=>
   simp only [enc,List.getElem?_cons_zero,jw] at hj;subst hj
   rw [hv,show i * U.str.size+0=i by simp [U.size],List.getElem?_map,hi] at hv2
   cases hv2;exact .str _ (hl x (List.mem_of_getElem? hi))
 |succ j=>simp [enc] at hj
theorem tJ: ∀ (s:Str),∀ x ∈ yF s,x.length≤s.length
 |[],x,h=>by simp [yF] at h;subst h;simp
 | c ::r,x,h=>by
   have ih:=tJ r;rw [yF] at h
   split at h
   · rcases List.mem_cons.1 h with rfl|h
     · simp
     · have:=ih x h;simp;omega
   · cases hq:yF r with
     |nil=>exact absurd hq (zbV r)
     | cons w ws=>
       rw [hq] at h ih
       rcases List.mem_cons.1 h with rfl|h
       · have:=ih w List.mem_cons_self;simp;omega
       · have:=ih x (List.mem_cons_of_mem _ h);simp;omega
def S9 (I:Alg):KU
 |[.v (.one (.p (.str s))),.v (.one (.p (.str ([32]))))],[]=>(fun(s:Str)=>(some (.one ⟨I.hid (s.length≤1000000),(.ret (.v (.one (.row 0)))),[.row .str 9 (I.hid (yF s))]⟩):Option CT)) s
 |_,_=>none
theorem zjD:zu Tryz.prog 188 (S9 alg):=by
 intro args hp r h;unfold S9 at h;split at h<;>cases h
 rename_i s;simp only [CT.Good,zh];intro hneed;have hlen:=zao s;have hcl:s.count 32≤s.length:=List.count_le_length
 refine Spc.zxC (hp:=[]) (u:=.str) (by rw [hlen];unfold maxLen;omega) ⟨_,Tryz.func188,by kernel_rfl,by kernel_rfl⟩ fun S bs w vs hW hM=> ?_
 obtain⟨v,r,rfl⟩: ∃ v r,vs=v::r:=by cases vs with|nil=>exact hM.elim|cons v r=>exact⟨v,r,rfl⟩
 obtain⟨h1,hM⟩:=hM
 obtain⟨v2,r2,rfl⟩: ∃ v r2,r=v::r2:=by cases r with|nil=>exact hM.elim|cons v r=>exact⟨v,r,rfl⟩
 obtain⟨h2,hM⟩:=hM
 obtain rfl:r2=[]:=by cases r2 with|nil=>rfl|cons v r=>exact hM.elim
 obtain⟨mx,hmx⟩:=hW.2
 cases h1 with
 | str _ hl1=>
   cases h2 with
   | str _ hl2=>
     have hc:=Tryz.strings_Split (Sep.S s) (Sep.S [32]) mx w (by show s.length<_;omega) hmx (by decide)
     have hk:Lib.countB (Sep.S s) (Sep.S [32])=s.count 32:=count_one s
     have hd:(Lib.splitB (Sep.S [32]) 0 (Lib.countB (Sep.S s) (Sep.S [32])) (Sep.S s)).map (fun b=>b.data.toList)=yF s:=by
      rw [Lib.splitB_data,hk];exact zfj s.length s (jL _) _ (jL _)
     have hv:(Lib.splitB (Sep.S [32]) 0 (Lib.countB (Sep.S s) (Sep.S [32])) (Sep.S s)).map Value.string=(yF s).map fun x=>Value.string (Sep.S x):=by
      rw [← hd,List.map_map]
      exact List.map_congr_left fun b _=>by simp [Sep.S]
     refine⟨((Lib.splitB (Sep.S [32]) 0 (Lib.countB (Sep.S s) (Sep.S [32])) (Sep.S s)).map Value.string).toArray,?_,?_,hc.mono fun e w' h=> ?_⟩
     · rw [hv];simp [U.size]
     · exact znL (fun x hx=>by have:=tJ s x hx;unfold maxLen;omega) (by rw [hv])
     · obtain⟨he,hw⟩:=h
       rw [hk] at he;rw [hlen];exact⟨he,hw⟩
def zjC:Know Tryz.prog:=⟨188,S9,zjD⟩
def zjB:Know Tryz.prog:=⟨188,fun I=>zx I (S9 I),zf zjD⟩
end Go.Proofs.YtnpmenpjagcheaaGreatDoor
namespace Go.Proofs.YtnpmenpjagcheaaGreatDoor
open Go Go.Sep Go.Ab
set_option maxRecDepth 100000
theorem znv (s:Str):decide (0≤Lib.indexByte s 9)=s.contains 9:=by
 have h: ∀ s:Str,(0≤Lib.indexByte s 9)↔s.contains 9=true:=by
  intro s
  induction s with
  |nil=>simp [Lib.indexByte]
  | cons b l ih=>
    have hb:=Yk l 9;unfold Lib.indexByte
    by_cases e:b=9
    · subst e;simp
    · have e2:(b == 9)=false:=by simpa using e
      have e3:((9:UInt8) == b)=false:=by simpa using fun h:9=b=>e h.symm
      rw [e2,if_neg (by simp),List.contains_cons,e3,Bool.false_or,← ih]
      split
      · rename_i h;have:=beq_iff_eq.1 h;omega
      · rename_i h;have: ¬ Lib.indexByte l 9= -1:=fun e=>h (by rw [e];rfl);omega
 rw [Bool.eq_iff_iff,decide_eq_true_eq];exact h s
theorem znu (s:Str):(0≤Lib.indexByte s 9)↔s.contains 9=true:=by rw [← znv,decide_eq_true_iff]
theorem zkl (b:Str):Lib.hasPrefix b [47]=decide (b.head?=some 47):=by
 cases b with
 |nil=>rfl
 | cons c r=>
   unfold Lib.hasPrefix
   by_cases h:c=47
   · subst h;simp [List.isPrefixOf]
   · simp [List.isPrefixOf,h];exact fun e=>h e.symm
def sK (q:Rq) (s:Str):Rq:=
 if(begM s).1=0 then { q with h:=(begM s).2,pos:=1} else if(begM s).1=11 then { q with h:=(begM s).2} else q
def vP (q:Rq):Prop:=q.own=true
theorem zsx (ln:Ln) (p:Int) (m tg:Str) (hm:Int) (hf:List Fld) (hl le:Int) (out:List Evt) (s:Str) (hneed:vP ⟨ln,p,⟨m,tg,hm,hf,hl⟩,le,none,true,out⟩∧s.length≤1000000):Spc Tryz.prog 162 [.v (.one (.ptr 0 0)),.v (.one (.p (.str s)))] [.abs (.rq ⟨ln,p,⟨m,tg,hm,hf,hl⟩,le,none,true,out⟩)] (.ret (.v (.one (.p (.int .i64 ((begM s).1)))))) [.abs (.rq ((sK ⟨ln,p,⟨m,tg,hm,hf,hl⟩,le,none,true,out⟩ s)))]:=by
 obtain⟨-,hs⟩:=hneed;generalize hr:begM s=r;obtain⟨rc,⟨rm,rt,ri,rf,rl⟩⟩:=r;unfold sK;rw [hr];unfold begM at hr;have hsm:=tJ s
 refine spH Tryz.func162 (by kernel_rfl) { cfgQ with keep:=some [0,1,4,5,39]} [sH,sG,zjC,zjB,xA,xw,uS,uQ] (by kernel_rfl) ?_
 intro I X hI hX
 refine orcL ?_;go_invoke;refine orcS (by kernel_rfl) ?_
 simp only [zi,Nat.reduceAdd];subst hI;simp only [nrmA,nrmB,nrlB,reduceCtorEq,HO.abs.injEq,Gh.rq.injEq,Rq.mk.injEq];generalize yF s=L at *
 by_cases h3:L.length=3
 · obtain⟨a,b,c,rfl⟩: ∃ a b c,L=[a,b,c]:=by
    match L,h3 with
    |[a,b,c],_=>exact⟨a,b,c,rfl⟩
   have ha:=hsm a (by simp)
   have hb:=hsm b (by simp)
   clear hsm h3;simp only [show Int.toNat 1=1 from rfl,show Int.toNat 2=2 from rfl,List.getD_cons_zero,List.getD_cons_succ,zkl,znv,znu,Bool.decide_eq_true] at hr ⊢
   by_cases q1:Xt a=false
   · rw [if_pos q1] at hr
     simp only [Prod.mk.injEq,hd0,Hd.mk.injEq] at hr;obtain⟨rfl,rfl,rfl,rfl,rfl,rfl⟩:=hr
     (repeat' (first|refine ja ?_ ?_|intro _))<;>first|omega|exact jb|exact jc ‹False›|skip
     all_goals first|omega|rfl|(simp only [jh,ji];omega)|(simp_all;done)|trace_state
   rw [if_neg q1] at hr
   by_cases q2:b.head?≠some 47∨b.contains 9=true
   · rw [if_pos q2] at hr
     simp only [Prod.mk.injEq,hd0,Hd.mk.injEq] at hr;obtain⟨rfl,rfl,rfl,rfl,rfl,rfl⟩:=hr
     (repeat' (first|refine ja ?_ ?_|intro _))<;>first|omega|exact jb|exact jc ‹False›|skip
     all_goals first|omega|rfl|(simp only [jh,ji];omega)|(simp_all;done)|trace_state
   rw [if_neg q2] at hr
   by_cases q3:c=Vq
   · rw [if_pos q3] at hr
     simp only [Prod.mk.injEq,Hd.mk.injEq] at hr;obtain⟨rfl,rfl,rfl,rfl,rfl,rfl⟩:=hr;unfold Vq at q3
     (repeat' (first|refine ja ?_ ?_|intro _))<;>first|omega|exact jb|exact jc ‹False›|skip
     all_goals first|omega|rfl|(simp only [jh,ji];omega)|(simp_all;done)|trace_state
   rw [if_neg q3] at hr
   by_cases q4:c=za4
   · rw [if_pos q4] at hr
     simp only [Prod.mk.injEq,Hd.mk.injEq] at hr;obtain⟨rfl,rfl,rfl,rfl,rfl,rfl⟩:=hr;unfold Vq at q3;unfold za4 at q4
     (repeat' (first|refine ja ?_ ?_|intro _))<;>first|omega|exact jb|exact jc ‹False›|skip
     all_goals first|omega|rfl|(simp only [jh,ji];omega)|(simp_all;done)|trace_state
   rw [if_neg q4] at hr;simp only [Prod.mk.injEq,Hd.mk.injEq] at hr;obtain⟨rfl,rfl,rfl,rfl,rfl,rfl⟩:=hr;unfold Vq at q3;unfold za4 at q4
   (repeat' (first|refine ja ?_ ?_|intro _))<;>first|omega|exact jb|exact jc ‹False›|skip
   all_goals first|omega|rfl|(simp only [jh,ji];omega)|(simp_all;done)|trace_state
 · have hr2:(5,hd0)=((rc,⟨rm,rt,ri,rf,rl⟩):Int × Hd):=by
    rw [← hr]
    split
    · exact absurd rfl h3
    · rfl
   simp only [Prod.mk.injEq,hd0,Hd.mk.injEq] at hr2;obtain⟨rfl,rfl,rfl,rfl,rfl,rfl⟩:=hr2
   (repeat' (first|refine ja ?_ ?_|intro _))<;>first|omega|exact jb|exact jc ‹False›|skip
   all_goals first|omega|rfl|(simp only [jh,ji];omega)|trace_state
theorem zsy (ln:Ln) (p:Int) (m tg:Str) (hm:Int) (hf:List Fld) (hl le:Int) (out:List Evt) (s:Str) (hneed:vP ⟨ln,p,⟨m,tg,hm,hf,hl⟩,le,none,false,out⟩∧s.length≤1000000):Spc Tryz.prog 162 [.v (.one (.ptr 0 0)),.v (.one (.p (.str s)))] [.abs (.rq ⟨ln,p,⟨m,tg,hm,hf,hl⟩,le,none,false,out⟩)] (.ret (.v (.one (.p (.int .i64 ((begM s).1)))))) [.abs (.rq ((sK ⟨ln,p,⟨m,tg,hm,hf,hl⟩,le,none,false,out⟩ s)))]:=by
 exact absurd hneed.1 (fun h=>by unfold vP at h;cases h)
theorem zsv (ln:Ln) (p:Int) (m tg:Str) (hm:Int) (hf:List Fld) (hl le:Int) (ch:Ch) (out:List Evt) (s:Str) (hneed:vP ⟨ln,p,⟨m,tg,hm,hf,hl⟩,le,some ch,true,out⟩∧s.length≤1000000):Spc Tryz.prog 162 [.v (.one (.ptr 0 0)),.v (.one (.p (.str s)))] [.abs (.rq ⟨ln,p,⟨m,tg,hm,hf,hl⟩,le,some ch,true,out⟩)] (.ret (.v (.one (.p (.int .i64 ((begM s).1)))))) [.abs (.rq ((sK ⟨ln,p,⟨m,tg,hm,hf,hl⟩,le,some ch,true,out⟩ s)))]:=by
 obtain⟨-,hs⟩:=hneed;generalize hr:begM s=r;obtain⟨rc,⟨rm,rt,ri,rf,rl⟩⟩:=r;unfold sK;rw [hr];unfold begM at hr;have hsm:=tJ s
 refine spH Tryz.func162 (by kernel_rfl) { cfgQ with keep:=some [0,1,4,5,39]} [sH,sG,zjC,zjB,xA,xw,uS,uQ] (by kernel_rfl) ?_
 intro I X hI hX
 refine orcL ?_;go_invoke;refine orcS (by kernel_rfl) ?_
 simp only [zi,Nat.reduceAdd];subst hI;simp only [nrmA,nrmB,nrlB,reduceCtorEq,HO.abs.injEq,Gh.rq.injEq,Rq.mk.injEq];generalize yF s=L at *
 by_cases h3:L.length=3
 · obtain⟨a,b,c,rfl⟩: ∃ a b c,L=[a,b,c]:=by
    match L,h3 with
    |[a,b,c],_=>exact⟨a,b,c,rfl⟩
   have ha:=hsm a (by simp)
   have hb:=hsm b (by simp)
   clear hsm h3;simp only [show Int.toNat 1=1 from rfl,show Int.toNat 2=2 from rfl,List.getD_cons_zero,List.getD_cons_succ,zkl,znv,znu,Bool.decide_eq_true] at hr ⊢
   by_cases q1:Xt a=false
   · rw [if_pos q1] at hr
     simp only [Prod.mk.injEq,hd0,Hd.mk.injEq] at hr;obtain⟨rfl,rfl,rfl,rfl,rfl,rfl⟩:=hr
     (repeat' (first|refine ja ?_ ?_|intro _))<;>first|omega|exact jb|exact jc ‹False›|skip
     all_goals first|omega|rfl|(simp only [jh,ji];omega)|(simp_all;done)|trace_state
   rw [if_neg q1] at hr
   by_cases q2:b.head?≠some 47∨b.contains 9=true
   · rw [if_pos q2] at hr
     simp only [Prod.mk.injEq,hd0,Hd.mk.injEq] at hr;obtain⟨rfl,rfl,rfl,rfl,rfl,rfl⟩:=hr
     (repeat' (first|refine ja ?_ ?_|intro _))<;>first|omega|exact jb|exact jc ‹False›|skip
     all_goals first|omega|rfl|(simp only [jh,ji];omega)|(simp_all;done)|trace_state
   rw [if_neg q2] at hr
   by_cases q3:c=Vq
   · rw [if_pos q3] at hr
     simp only [Prod.mk.injEq,Hd.mk.injEq] at hr;obtain⟨rfl,rfl,rfl,rfl,rfl,rfl⟩:=hr;unfold Vq at q3
     (repeat' (first|refine ja ?_ ?_|intro _))<;>first|omega|exact jb|exact jc ‹False›|skip
     all_goals first|omega|rfl|(simp only [jh,ji];omega)|(simp_all;done)|trace_state
   rw [if_neg q3] at hr
   by_cases q4:c=za4
   · rw [if_pos q4] at hr
     simp only [Prod.mk.injEq,Hd.mk.injEq] at hr;obtain⟨rfl,rfl,rfl,rfl,rfl,rfl⟩:=hr;unfold Vq at q3;unfold za4 at q4
     (repeat' (first|refine ja ?_ ?_|intro _))<;>first|omega|exact jb|exact jc ‹False›|skip
     all_goals first|omega|rfl|(simp only [jh,ji];omega)|(simp_all;done)|trace_state
   rw [if_neg q4] at hr;simp only [Prod.mk.injEq,Hd.mk.injEq] at hr;obtain⟨rfl,rfl,rfl,rfl,rfl,rfl⟩:=hr;unfold Vq at q3;unfold za4 at q4
   (repeat' (first|refine ja ?_ ?_|intro _))<;>first|omega|exact jb|exact jc ‹False›|skip
   all_goals first|omega|rfl|(simp only [jh,ji];omega)|(simp_all;done)|trace_state
 · have hr2:(5,hd0)=((rc,⟨rm,rt,ri,rf,rl⟩):Int × Hd):=by
    rw [← hr]
    split
    · exact absurd rfl h3
    · rfl
   simp only [Prod.mk.injEq,hd0,Hd.mk.injEq] at hr2;obtain⟨rfl,rfl,rfl,rfl,rfl,rfl⟩:=hr2
   (repeat' (first|refine ja ?_ ?_|intro _))<;>first|omega|exact jb|exact jc ‹False›|skip
   all_goals first|omega|rfl|(simp only [jh,ji];omega)|trace_state
theorem zsw (ln:Ln) (p:Int) (m tg:Str) (hm:Int) (hf:List Fld) (hl le:Int) (ch:Ch) (out:List Evt) (s:Str) (hneed:vP ⟨ln,p,⟨m,tg,hm,hf,hl⟩,le,some ch,false,out⟩∧s.length≤1000000):Spc Tryz.prog 162 [.v (.one (.ptr 0 0)),.v (.one (.p (.str s)))] [.abs (.rq ⟨ln,p,⟨m,tg,hm,hf,hl⟩,le,some ch,false,out⟩)] (.ret (.v (.one (.p (.int .i64 ((begM s).1)))))) [.abs (.rq ((sK ⟨ln,p,⟨m,tg,hm,hf,hl⟩,le,some ch,false,out⟩ s)))]:=by
 exact absurd hneed.1 (fun h=>by unfold vP at h;cases h)
def RU (I:Alg):KU
 |[.v (.one (.ptr 0 0)),.v (.one (.p (.str s)))],[.abs (.rq q)]=>(fun(s:Str)=>(some (.one ⟨I.hid (vP q∧s.length≤1000000),(.ret (.v (.one (.p (.int .i64 (I.hid ((begM s).1))))))),[.abs (.rq (I.hid (sK q s)))]⟩):Option CT)) s
 |_,_=>none
theorem zkd:zu Tryz.prog 162 (RU alg):=by
 intro args hp r h;unfold RU at h;split at h<;>cases h
 rename_i s q;simp only [CT.Good,zh];intro hneed;obtain⟨ln,p,⟨m,tg,hm,hf,hl⟩,le,ck,own,out⟩:=q
 cases ck with
 | none=>cases own with
   |true=>exact zsx ln p m tg hm hf hl le out s hneed
   |false=>exact zsy ln p m tg hm hf hl le out s hneed
 | some ch=>cases own with
   |true=>exact zsv ln p m tg hm hf hl le ch out s hneed
   |false=>exact zsw ln p m tg hm hf hl le ch out s hneed
def zkc:Know Tryz.prog:=⟨162,RU,zkd⟩
def zkb:Know Tryz.prog:=⟨162,fun I=>zx I (RU I),zf zkd⟩
def FsOk (f:List Fld):Prop:=f.length≤1000∧∀ x ∈ f,x.name.length≤1000000∧x.value.length≤1000000
theorem XZ (f:List Fld) (n:Str):(valsF f n).length≤f.length:=by
 unfold valsF
 first|exact Nat.le_trans (List.length_map ..).le (List.length_filter_le _ _)|(rw [List.length_map];exact List.length_filter_le _ _)|exact List.length_filterMap_le _ _
theorem zr7 (a:Str) (n:Int) (l:List Str) (i:Nat) (h: ¬ i<l.length):sizM a n (l.drop i)=(n,0):=by
 rw [jF (by omega)];rfl
theorem znX (a:Str) (n:Int) (l:List Str) (i:Nat) (h:i<l.length):sizM a n (l.drop i)=if(numA (l.getD i []) 10 9).2=false then(0,7) else if l.getD i []≠a then(0,12) else sizM a (numA (l.getD i []) 10 9).1 (l.drop (i+1)):=by
 rw [jE h,show l.getD i []=l[i] by simp [h]];rfl
def RN (I:Alg):KU
 |[.v (.agg [.p (.str m),.p (.str t),.p (.int .i64 mi),.p (.list .fld f),.p (.int .i64 le)])],[]=>(fun(m t:Str) (f:List Fld)=>(some (.one ⟨I.hid (FsOk f),(.ret (.tup [.one (.p (.int .i64 (I.hid ((lenM mi f).1)))),.one (.p (.int .i64 (I.hid ((lenM mi f).2))))])),[]⟩):Option CT)) m t f
 |_,_=>none
theorem zj8:zu Tryz.prog 189 (RN alg):=by
 intro args hp r h;unfold RN at h;split at h<;>cases h
 rename_i m t mi f le
 revert f;intro(f:List Fld)
 simp only [CT.Good,zh];intro hneed;obtain⟨hf1,hf2⟩:=hneed;generalize hr:lenM mi f=r;obtain⟨rn,rc⟩:=r
 refine spH Tryz.func189 (by kernel_rfl) { keep:=some [0,1,2,3,4,5,6,7,8,9,10,45,46,47]} [wG,wF,XR,XQ,uf,vZ] (by kernel_rfl) ?_
 intro I X hI hX
 refine orcL ?_;go_invoke;refine orcS (by kernel_rfl) ?_
 simp only [zi,Nat.reduceAdd]
 have hh: ∀ {α:Type} (x:α),I.hid x=x:=by subst hI;intros;rfl
 have hln: ∀ (l:List Str),I.len l=(l.length:Int):=by subst hI;intros;rfl
 simp only [hh,hln];unfold lenM at hr;rw [show zdh=[116,114,97,110,115,102,101,114,45,101,110,99,111,100,105,110,103] from rfl,show Yx=[99,111,110,116,101,110,116,45,108,101,110,103,116,104] from rfl] at hr;have hL1:=XZ f [99,111,110,116,101,110,116,45,108,101,110,103,116,104];have hT1:=XZ f [116,114,97,110,115,102,101,114,45,101,110,99,111,100,105,110,103]
 have hT2: ∀ x ∈ valsF f [116,114,97,110,115,102,101,114,45,101,110,99,111,100,105,110,103],x.length≤1000000:=by
  intro x hx;unfold valsF at hx;rw [List.mem_map] at hx;obtain⟨y,hy,rfl⟩:=hx;exact(hf2 y (List.mem_filter.1 hy).1).2
 generalize valsF f [99,111,110,116,101,110,116,45,108,101,110,103,116,104]=L at *;generalize valsF f [116,114,97,110,115,102,101,114,45,101,110,99,111,100,105,110,103]=T at *
 have keyL: ∀ (k:Int) (st:St),k=(L.length:Int)→(if(sizM (L.getD 0 []) 0 L).2≠0 then(0,(sizM (L.getD 0 []) 0 L).2) else if 4000<(sizM (L.getD 0 []) 0 L).1 then(0,4) else((sizM (L.getD 0 []) 0 L).1,0))=(rn,rc)→cutM { keep:=some [0,1,2,3,4,5,6,7,8,9,10,45,46,47]} 0 [4,6,45,46,47] st=some ⟨[(4,.v (.one (.row 0))),(6,.v (.one (.p (.int .i64 0)))),(45,.v (.one (.row 0))),(46,.v (.one (.p (.int .i64 k)))),(47,.v (.one (.p (.int .i64 0))))],[.row .str 9 L],75,none⟩→Ok Tryz.prog X (fun o h=>o=(.ret (.tup [.one (.p (.int .i64 rn)),.one (.p (.int .i64 rc))]))∧h=[]) (leaf I tab { keep:=some [0,1,2,3,4,5,6,7,8,9,10,45,46,47]} [⟨vM Tryz.f189,finK I tab { keep:=some [0,1,2,3,4,5,6,7,8,9,10,45,46,47]} 0 Tryz.f189⟩] 0 [1,1,1,1,0,1,0] st):=by
  intro k st hk hm hst
  refine lpH hI [wG,wF,XR,XQ,uf,vZ] hX [4,6,45,46,47] (fun(g:Nat × Int)=>match g with|(i,n)=>i≤L.length∧(if(sizM (L.getD 0 []) n (L.drop i)).2≠0 then(0,(sizM (L.getD 0 []) n (L.drop i)).2) else if 4000<(sizM (L.getD 0 []) n (L.drop i)).1 then(0,4) else((sizM (L.getD 0 []) n (L.drop i)).1,0))=(rn,rc)) (fun(g:Nat × Int)=>match g with|(i,n)=>⟨[(4,.v (.one (.row 0))),(6,.v (.one (.p (.int .i64 n)))),(45,.v (.one (.row 0))),(46,.v (.one (.p (.int .i64 k)))),(47,.v (.one (.p (.int .i64 i))))],[.row .str 9 L],75,none⟩) (fun(g:Nat × Int)=>match g with|(i,n)=>L.length - i) (0,0) (by kernel_rfl) hst ?_ ?_
  · exact⟨jM _,hm⟩
  clear hm hst hr;rintro⟨i,n⟩ ⟨h1,hm⟩ A hA;simp only at hA
  refine orcL ?_;go_invoke;refine orcS (by kernel_rfl) ?_
  simp only [zi,Nat.reduceAdd];subst hI;simp only [nrmA,nrmB]
  by_cases hi:i<L.length
  · rw [znX _ _ _ _ hi] at hm
    have h0:i=0→L.getD i []=L.getD 0 []:=fun h=>by rw [h]
    have hn:=wR (L.getD i []);have hgo:=hA (i+1,(numA (L.getD i []) 10 9).1);generalize L.getD i []=x at *;generalize L.getD 0 []=y at *;generalize numA x 10 9=na at *;obtain⟨na,nb⟩:=na;simp only at hm hgo hn
    cases nb with
    | false=>
      rw [if_pos rfl] at hm;simp only [ne_eq,Int.reduceEq,jg,if_true,Prod.mk.injEq] at hm;obtain⟨rfl,rfl⟩:=hm
      (repeat' (first|refine ja ?_ ?_|intro _))<;>first|omega|exact jb|exact jc ‹False›|skip
      all_goals first|omega|rfl|contradiction|(simp_all;done)|trace_state
    | true=>
      simp only [je,if_false] at hm
      by_cases hxy:x=y
      · simp only [if_neg (fun h:x≠y=>h hxy)] at hm
        have hg:=hgo ⟨by omega,hm⟩ (by omega)
        (repeat' (first|refine ja ?_ ?_|intro _))<;>first|omega|exact jb|exact jc ‹False›|skip
        all_goals first|omega|exact hg|contradiction|(exfalso;exact ‹¬ x=y› hxy)|trace_state
      · simp only [if_pos (show x≠y from hxy),ne_eq,Int.reduceEq,jg,if_true,Prod.mk.injEq] at hm
        obtain⟨rfl,rfl⟩:=hm;have hi0: ¬ i=0:=fun h=>hxy (h0 h)
        (repeat' (first|refine ja ?_ ?_|intro _))<;>first|omega|exact jb|exact jc ‹False›|skip
        all_goals first|omega|rfl|contradiction|(exfalso;exact hxy ‹x=y›)|trace_state
  · rw [zr7 _ _ _ _ hi] at hm
    simp only [ne_eq,jf,if_false] at hm
    by_cases h4:4000<n
    · rw [if_pos h4] at hm
      simp only [Prod.mk.injEq] at hm;obtain⟨rfl,rfl⟩:=hm
      (repeat' (first|refine ja ?_ ?_|intro _))<;>first|omega|exact jb|exact jc ‹False›|skip
      all_goals first|omega|rfl|trace_state
    · rw [if_neg h4] at hm
      simp only [Prod.mk.injEq] at hm;obtain⟨rfl,rfl⟩:=hm
      (repeat' (first|refine ja ?_ ?_|intro _))<;>first|omega|exact jb|exact jc ‹False›|skip
      all_goals first|omega|rfl|trace_state
 subst hI;have hT0:T.length=0↔T=[]:=List.length_eq_zero_iff;have hLz:L.length=0↔L=[]:=List.length_eq_zero_iff;simp only [nrmA,nrmB]
 have hg0:0<T.length→(T.getD 0 []).length≤1000000:=fun h=>hT2 _ (by rw [show T.getD 0 []=T[0] by simp [h]];exact List.getElem_mem h)
 by_cases q1:T=[]
 · rw [if_neg (fun h=>h q1)] at hr
   have q2:=hT0.2 q1;clear hg0 hT2
   (repeat' (first|refine ja ?_ ?_|intro _))<;>first|omega|exact jb|exact jc ‹False›|skip
   all_goals first
    |omega
    |((with_reducible show Ok _ _ _ _);(try(exfalso;omega));exact keyL _ _ rfl hr (by kernel_rfl))
    |exact⟨hf1,by decide,hf2⟩
    |exact hf1
    |(exact(hf2 _ ‹_›).1)
    |(exact(hf2 _ ‹_›).2)
    |decide
 · rw [if_pos q1] at hr
   have q2: ¬ T.length=0:=fun h=>q1 (hT0.1 h);clear keyL
   by_cases q3:L≠[]∨mi=0
   · rw [if_pos q3] at hr
     simp only [Prod.mk.injEq] at hr;obtain⟨rfl,rfl⟩:=hr
     have q4:L.length=0→mi=0:=fun h=>by
      rcases q3 with q3|q3
      · exact absurd (hLz.1 h) q3
      · exact q3
     (repeat' (first|refine ja ?_ ?_|intro _))<;>first|omega|exact jb|exact jc ‹False›|skip
     all_goals first|omega|rfl|(exact(hf2 _ ‹_›).1)|(exact(hf2 _ ‹_›).2)|decide|trace_state
   · rw [if_neg q3] at hr
     simp only [not_or,ne_eq,Decidable.not_not] at q3;have q4:=hLz.2 q3.1
     by_cases q5:1<T.length∨lowS (T.getD 0 [])≠QT
     · rw [if_pos q5] at hr
       unfold QT at q5;simp only [Prod.mk.injEq] at hr;obtain⟨rfl,rfl⟩:=hr
       (repeat' (first|refine ja ?_ ?_|intro _))<;>first|omega|exact jb|exact jc ‹False›|skip
       all_goals first|omega|rfl|(exact(hf2 _ ‹_›).1)|(exact(hf2 _ ‹_›).2)|decide|exact hg0 (by omega)|(exfalso;rcases q5 with q5|q5<;>first|omega|exact q5 ‹_›)|trace_state
     · rw [if_neg q5] at hr
       unfold QT at q5;simp only [not_or,ne_eq,Decidable.not_not] at q5;simp only [Prod.mk.injEq] at hr;obtain⟨rfl,rfl⟩:=hr
       (repeat' (first|refine ja ?_ ?_|intro _))<;>first|omega|exact jb|exact jc ‹False›|skip
       all_goals first|omega|rfl|(exact(hf2 _ ‹_›).1)|(exact(hf2 _ ‹_›).2)|decide|exact hg0 (by omega)|(exfalso;exact ‹¬ _=_› q5.2)|trace_state
def zj7:Know Tryz.prog:=⟨189,RN,zj8⟩
def zj6:Know Tryz.prog:=⟨189,fun I=>zx I (RN I),zf zj8⟩
end Go.Proofs.YtnpmenpjagcheaaGreatDoor
namespace Go.Proofs.YtnpmenpjagcheaaGreatDoor
open Go Go.Sep Go.Ab
set_option maxRecDepth 100000
def rqFs (q:Rq):Prop:=FsOk q.h.fields∧q.out.length≤9000000
theorem zoG (ln:Ln) (p:Int) (m tg:Str) (hm:Int) (hf:List Fld) (hl le:Int) (out:List Evt) (hneed:vP ⟨ln,p,⟨m,tg,hm,hf,hl⟩,le,none,true,out⟩∧rqFs ⟨ln,p,⟨m,tg,hm,hf,hl⟩,le,none,true,out⟩):Spc Tryz.prog 163 [.v (.one (.ptr 0 0))] [.abs (.rq ⟨ln,p,⟨m,tg,hm,hf,hl⟩,le,none,true,out⟩)] (.ret (.v (.one (.p (.int .i64 ((yA ⟨ln,p,⟨m,tg,hm,hf,hl⟩,le,none,true,out⟩).2)))))) [.abs (.rq (((yA ⟨ln,p,⟨m,tg,hm,hf,hl⟩,le,none,true,out⟩).1)))]:=by
 obtain⟨-,hfs,hfw⟩:=hneed;simp only at hfs hfw;obtain⟨hf1,hf2⟩:=hfs;generalize hr:yA ⟨ln,p,⟨m,tg,hm,hf,hl⟩,le,none,true,out⟩=r;obtain⟨rq,rc⟩:=r
 have hhl:SB.length≤1000000:=by decide
 refine spH Tryz.func163 (by kernel_rfl) { cfgQ with fz:=[122],keep:=some [0,2,4,5]} [Yt,Yr,zlM,zlL,zV,zU,zZ,zY,yu,yj,yD,yC,xY,xX,YR,YQ,zj7,zj6] (by kernel_rfl) ?_
 intro I X hI hX
 refine orcL ?_;go_invoke;refine orcS (by kernel_rfl) ?_
 simp only [zi,Nat.reduceAdd];subst hI;unfold yA zv2 at hr;simp only at hr;rw [show([104,111,115,116]:Str)=SB from rfl];simp only [nrmA,nrmB,nrlB,reduceCtorEq,HO.abs.injEq,Gh.rq.injEq,Rq.mk.injEq];have hln:=zim hm hf;generalize oneF (valsF hf SB)=oc at *;obtain⟨ov,oc⟩:=oc;simp only at hr ⊢;generalize lenM hm hf=z at *;obtain⟨zn,zc⟩:=z;simp only at hr hln ⊢
 by_cases q1:(decide (oc=9)||decide (oc=10)&&decide (hm=1))=true
 · rw [if_pos q1] at hr
   simp only [Prod.mk.injEq] at hr;obtain⟨rfl,rfl⟩:=hr;simp only [Bool.or_eq_true,jK,decide_eq_true_eq] at q1
   (repeat' (first|refine ja ?_ ?_|intro _))<;>first|omega|exact jb|exact jc ‹False›|skip
   all_goals first|omega|rfl|exact hf1|exact⟨hf1,hf2⟩|(exact(hf2 _ ‹_›).1)|(exact(hf2 _ ‹_›).2)|(unfold zC;simp only;omega)|trace_state
 rw [if_neg q1] at hr;simp only [Bool.or_eq_true,jK,decide_eq_true_eq] at q1
 by_cases q2:zc=0
 · rw [if_neg (fun h=>h q2)] at hr
   by_cases q3:zn=0
   · rw [if_pos q3] at hr
     simp only [Prod.mk.injEq] at hr;obtain⟨rfl,rfl⟩:=hr;subst q3
     (repeat' (first|refine ja ?_ ?_|intro _))<;>first|omega|exact jb|exact jc ‹False›|skip
     all_goals first|omega|rfl|exact hf1|exact⟨hf1,hf2⟩|(exact(hf2 _ ‹_›).1)|(exact(hf2 _ ‹_›).2)|(unfold zC;simp;omega)|trace_state
   rw [if_neg q3] at hr
   by_cases q4:0<zn
   · rw [if_pos q4] at hr
     simp only [Prod.mk.injEq] at hr;obtain⟨rfl,rfl⟩:=hr
     (repeat' (first|refine ja ?_ ?_|intro _))<;>first|omega|exact jb|exact jc ‹False›|skip
     all_goals first|omega|rfl|exact hf1|exact⟨hf1,hf2⟩|(exact(hf2 _ ‹_›).1)|(exact(hf2 _ ‹_›).2)|(unfold zC;simp;omega)|trace_state
   · rw [if_neg q4] at hr
     simp only [Prod.mk.injEq] at hr;obtain⟨rfl,rfl⟩:=hr
     (repeat' (first|refine ja ?_ ?_|intro _))<;>first|omega|exact jb|exact jc ‹False›|skip
     all_goals first|omega|rfl|exact hf1|exact⟨hf1,hf2⟩|(exact(hf2 _ ‹_›).1)|(exact(hf2 _ ‹_›).2)|(unfold zC;simp;omega)|trace_state
 · rw [if_pos q2] at hr
   simp only [Prod.mk.injEq] at hr;obtain⟨rfl,rfl⟩:=hr
   (repeat' (first|refine ja ?_ ?_|intro _))<;>first|omega|exact jb|exact jc ‹False›|skip
   all_goals first|omega|rfl|exact hf1|exact⟨hf1,hf2⟩|(exact(hf2 _ ‹_›).1)|(exact(hf2 _ ‹_›).2)|(unfold zC;simp only;omega)|trace_state
theorem zoH (ln:Ln) (p:Int) (m tg:Str) (hm:Int) (hf:List Fld) (hl le:Int) (out:List Evt) (hneed:vP ⟨ln,p,⟨m,tg,hm,hf,hl⟩,le,none,false,out⟩∧rqFs ⟨ln,p,⟨m,tg,hm,hf,hl⟩,le,none,false,out⟩):Spc Tryz.prog 163 [.v (.one (.ptr 0 0))] [.abs (.rq ⟨ln,p,⟨m,tg,hm,hf,hl⟩,le,none,false,out⟩)] (.ret (.v (.one (.p (.int .i64 ((yA ⟨ln,p,⟨m,tg,hm,hf,hl⟩,le,none,false,out⟩).2)))))) [.abs (.rq (((yA ⟨ln,p,⟨m,tg,hm,hf,hl⟩,le,none,false,out⟩).1)))]:=by
 exact absurd hneed.1 (fun h=>by unfold vP at h;cases h)
theorem zoE (ln:Ln) (p:Int) (m tg:Str) (hm:Int) (hf:List Fld) (hl le:Int) (ch:Ch) (out:List Evt) (hneed:vP ⟨ln,p,⟨m,tg,hm,hf,hl⟩,le,some ch,true,out⟩∧rqFs ⟨ln,p,⟨m,tg,hm,hf,hl⟩,le,some ch,true,out⟩):Spc Tryz.prog 163 [.v (.one (.ptr 0 0))] [.abs (.rq ⟨ln,p,⟨m,tg,hm,hf,hl⟩,le,some ch,true,out⟩)] (.ret (.v (.one (.p (.int .i64 ((yA ⟨ln,p,⟨m,tg,hm,hf,hl⟩,le,some ch,true,out⟩).2)))))) [.abs (.rq (((yA ⟨ln,p,⟨m,tg,hm,hf,hl⟩,le,some ch,true,out⟩).1)))]:=by
 obtain⟨-,hfs,hfw⟩:=hneed;simp only at hfs hfw;obtain⟨hf1,hf2⟩:=hfs;generalize hr:yA ⟨ln,p,⟨m,tg,hm,hf,hl⟩,le,some ch,true,out⟩=r;obtain⟨rq,rc⟩:=r
 have hhl:SB.length≤1000000:=by decide
 refine spH Tryz.func163 (by kernel_rfl) { cfgQ with fz:=[122],keep:=some [0,2,4,5]} [Yt,Yr,zlM,zlL,zV,zU,zZ,zY,yu,yj,yD,yC,xY,xX,YR,YQ,zj7,zj6] (by kernel_rfl) ?_
 intro I X hI hX
 refine orcL ?_;go_invoke;refine orcS (by kernel_rfl) ?_
 simp only [zi,Nat.reduceAdd];subst hI;unfold yA zv2 at hr;simp only at hr;rw [show([104,111,115,116]:Str)=SB from rfl];simp only [nrmA,nrmB,nrlB,reduceCtorEq,HO.abs.injEq,Gh.rq.injEq,Rq.mk.injEq];have hln:=zim hm hf;generalize oneF (valsF hf SB)=oc at *;obtain⟨ov,oc⟩:=oc;simp only at hr ⊢;generalize lenM hm hf=z at *;obtain⟨zn,zc⟩:=z;simp only at hr hln ⊢
 by_cases q1:(decide (oc=9)||decide (oc=10)&&decide (hm=1))=true
 · rw [if_pos q1] at hr
   simp only [Prod.mk.injEq] at hr;obtain⟨rfl,rfl⟩:=hr;simp only [Bool.or_eq_true,jK,decide_eq_true_eq] at q1
   (repeat' (first|refine ja ?_ ?_|intro _))<;>first|omega|exact jb|exact jc ‹False›|skip
   all_goals first|omega|rfl|exact hf1|exact⟨hf1,hf2⟩|(exact(hf2 _ ‹_›).1)|(exact(hf2 _ ‹_›).2)|(unfold zC;simp only;omega)|trace_state
 rw [if_neg q1] at hr;simp only [Bool.or_eq_true,jK,decide_eq_true_eq] at q1
 by_cases q2:zc=0
 · rw [if_neg (fun h=>h q2)] at hr
   by_cases q3:zn=0
   · rw [if_pos q3] at hr
     simp only [Prod.mk.injEq] at hr;obtain⟨rfl,rfl⟩:=hr;subst q3
     (repeat' (first|refine ja ?_ ?_|intro _))<;>first|omega|exact jb|exact jc ‹False›|skip
     all_goals first|omega|rfl|exact hf1|exact⟨hf1,hf2⟩|(exact(hf2 _ ‹_›).1)|(exact(hf2 _ ‹_›).2)|(unfold zC;simp;omega)|trace_state
   rw [if_neg q3] at hr
   by_cases q4:0<zn
   · rw [if_pos q4] at hr
     simp only [Prod.mk.injEq] at hr;obtain⟨rfl,rfl⟩:=hr
     (repeat' (first|refine ja ?_ ?_|intro _))<;>first|omega|exact jb|exact jc ‹False›|skip
     all_goals first|omega|rfl|exact hf1|exact⟨hf1,hf2⟩|(exact(hf2 _ ‹_›).1)|(exact(hf2 _ ‹_›).2)|(unfold zC;simp;omega)|trace_state
   · rw [if_neg q4] at hr
     simp only [Prod.mk.injEq] at hr;obtain⟨rfl,rfl⟩:=hr
     (repeat' (first|refine ja ?_ ?_|intro _))<;>first|omega|exact jb|exact jc ‹False›|skip
     all_goals first|omega|rfl|exact hf1|exact⟨hf1,hf2⟩|(exact(hf2 _ ‹_›).1)|(exact(hf2 _ ‹_›).2)|(unfold zC;simp;omega)|trace_state
 · rw [if_pos q2] at hr
   simp only [Prod.mk.injEq] at hr;obtain⟨rfl,rfl⟩:=hr
   (repeat' (first|refine ja ?_ ?_|intro _))<;>first|omega|exact jb|exact jc ‹False›|skip
   all_goals first|omega|rfl|exact hf1|exact⟨hf1,hf2⟩|(exact(hf2 _ ‹_›).1)|(exact(hf2 _ ‹_›).2)|(unfold zC;simp only;omega)|trace_state
theorem zoF (ln:Ln) (p:Int) (m tg:Str) (hm:Int) (hf:List Fld) (hl le:Int) (ch:Ch) (out:List Evt) (hneed:vP ⟨ln,p,⟨m,tg,hm,hf,hl⟩,le,some ch,false,out⟩∧rqFs ⟨ln,p,⟨m,tg,hm,hf,hl⟩,le,some ch,false,out⟩):Spc Tryz.prog 163 [.v (.one (.ptr 0 0))] [.abs (.rq ⟨ln,p,⟨m,tg,hm,hf,hl⟩,le,some ch,false,out⟩)] (.ret (.v (.one (.p (.int .i64 ((yA ⟨ln,p,⟨m,tg,hm,hf,hl⟩,le,some ch,false,out⟩).2)))))) [.abs (.rq (((yA ⟨ln,p,⟨m,tg,hm,hf,hl⟩,le,some ch,false,out⟩).1)))]:=by
 exact absurd hneed.1 (fun h=>by unfold vP at h;cases h)
def WS (I:Alg):KU
 |[.v (.one (.ptr 0 0))],[.abs (.rq q)]=>some (.one ⟨I.hid (vP q∧rqFs q),(.ret (.v (.one (.p (.int .i64 (I.hid ((yA q).2))))))),[.abs (.rq (I.hid ((yA q).1)))]⟩)
 |_,_=>none
theorem zfG:zu Tryz.prog 163 (WS alg):=by
 intro args hp r h;unfold WS at h;split at h<;>cases h
 rename_i q;simp only [CT.Good,zh];intro hneed;obtain⟨ln,p,⟨m,tg,hm,hf,hl⟩,le,ck,own,out⟩:=q
 cases ck with
 | none=>cases own with
   |true=>exact zoG ln p m tg hm hf hl le out hneed
   |false=>exact zoH ln p m tg hm hf hl le out hneed
 | some ch=>cases own with
   |true=>exact zoE ln p m tg hm hf hl le ch out hneed
   |false=>exact zoF ln p m tg hm hf hl le ch out hneed
def zfF:Know Tryz.prog:=⟨163,WS,zfG⟩
def zfE:Know Tryz.prog:=⟨163,fun I=>zx I (WS I),zf zfG⟩
theorem zot (ln:Ln) (p:Int) (m tg:Str) (hm:Int) (hf:List Fld) (hl le:Int) (out:List Evt) (s:Str) (hneed:vP ⟨ln,p,⟨m,tg,hm,hf,hl⟩,le,none,true,out⟩∧rqFs ⟨ln,p,⟨m,tg,hm,hf,hl⟩,le,none,true,out⟩∧s.length≤1000000):Spc Tryz.prog 127 [.v (.one (.ptr 0 0)),.v (.one (.p (.str s)))] [.abs (.rq ⟨ln,p,⟨m,tg,hm,hf,hl⟩,le,none,true,out⟩)] (.ret (.v (.one (.p (.int .i64 ((zO ⟨ln,p,⟨m,tg,hm,hf,hl⟩,le,none,true,out⟩ s).2)))))) [.abs (.rq (((zO ⟨ln,p,⟨m,tg,hm,hf,hl⟩,le,none,true,out⟩ s).1)))]:=by
 obtain⟨-,hfs,hs⟩:=hneed;have hfs0:=hfs;obtain⟨hfs,hfw⟩:=hfs;simp only at hfs hfw;obtain⟨hf1,hf2⟩:=hfs;generalize hr:zO ⟨ln,p,⟨m,tg,hm,hf,hl⟩,le,none,true,out⟩ s=r;obtain⟨rq,rc⟩:=r
 refine spH Tryz.func127 (by kernel_rfl) { cfgQ with seam:=[],keep:=some [0,1,4,5,6]} [Va,W9,zkc,zkb,zfF,zfE] (by kernel_rfl) ?_
 intro I X hI hX
 refine orcL ?_;go_invoke;refine orcS (by kernel_rfl) ?_
 simp only [zi,Nat.reduceAdd];subst hI;unfold zO at hr;simp only at hr;simp only [nrmA,nrmB,nrlB,reduceCtorEq,HO.abs.injEq,Gh.rq.injEq,Rq.mk.injEq];have hdn:(yA ⟨ln,p,⟨m,tg,hm,hf,hl⟩,le,none,true,out⟩)=yA ⟨ln,p,⟨m,tg,hm,hf,hl⟩,le,none,true,out⟩:=rfl
 by_cases q1:p=0
 · rw [if_pos q1] at hr
   by_cases q2:s=[]
   · rw [if_pos q2] at hr
     simp only [Prod.mk.injEq] at hr;obtain⟨rfl,rfl⟩:=hr
     (repeat' (first|refine ja ?_ ?_|intro _))<;>first|omega|exact jb|exact jc ‹False›|skip
     all_goals first|omega|rfl|(exfalso;exact ‹¬ s=[]› q2)|trace_state
   rw [if_neg q2] at hr
   have hbg:(sK ⟨ln,p,⟨m,tg,hm,hf,hl⟩,le,none,true,out⟩ s,(begM s).1)=(rq,rc):=by
    rw [← hr];unfold sK
    by_cases c0:(begM s).1=0
    · rw [if_pos c0,if_pos c0,c0]
    · rw [if_neg c0,if_neg c0]
      by_cases c1:(begM s).1=11
      · rw [if_pos c1,if_pos c1,c1]
      · rw [if_neg c1,if_neg c1]
   simp only [Prod.mk.injEq] at hbg
   (repeat' (first|refine ja ?_ ?_|intro _))<;>first|omega|exact jb|exact jc ‹False›|skip
   all_goals first|omega|exact hbg.1|exact hbg.2|exact⟨rfl,hs⟩|rfl|(exfalso;exact q2 ‹s=[]›)|(simp only [vP];done)|exact hs|trace_state
 · rw [if_neg q1] at hr
   by_cases q2:s=[]
   · rw [if_pos q2] at hr
     (repeat' (first|refine ja ?_ ?_|intro _))<;>first|omega|exact jb|exact jc ‹False›|skip
     all_goals first|omega|(rw [hr];done)|(rw [hr])|rfl|exact hfs0|exact hf1|(exact(hf2 _ ‹_›).1)|(exact(hf2 _ ‹_›).2)|(exfalso;exact ‹¬ s=[]› q2)|trace_state
   rw [if_neg q2] at hr
   by_cases q3:hf.length=16
   · rw [if_pos q3] at hr
     simp only [Prod.mk.injEq] at hr;obtain⟨rfl,rfl⟩:=hr
     (repeat' (first|refine ja ?_ ?_|intro _))<;>first|omega|exact jb|exact jc ‹False›|skip
     all_goals first|omega|rfl|(exfalso;exact q2 ‹s=[]›)|trace_state
   · rw [if_neg q3] at hr
     simp only [Prod.mk.injEq] at hr;obtain⟨rfl,rfl⟩:=hr
     (repeat' (first|refine ja ?_ ?_|intro _))<;>first|omega|exact jb|exact jc ‹False›|skip
     all_goals first|omega|rfl|exact hs|(simp only [jh,ji];omega)|(exfalso;exact q2 ‹s=[]›)|trace_state
theorem zou (ln:Ln) (p:Int) (m tg:Str) (hm:Int) (hf:List Fld) (hl le:Int) (out:List Evt) (s:Str) (hneed:vP ⟨ln,p,⟨m,tg,hm,hf,hl⟩,le,none,false,out⟩∧rqFs ⟨ln,p,⟨m,tg,hm,hf,hl⟩,le,none,false,out⟩∧s.length≤1000000):Spc Tryz.prog 127 [.v (.one (.ptr 0 0)),.v (.one (.p (.str s)))] [.abs (.rq ⟨ln,p,⟨m,tg,hm,hf,hl⟩,le,none,false,out⟩)] (.ret (.v (.one (.p (.int .i64 ((zO ⟨ln,p,⟨m,tg,hm,hf,hl⟩,le,none,false,out⟩ s).2)))))) [.abs (.rq (((zO ⟨ln,p,⟨m,tg,hm,hf,hl⟩,le,none,false,out⟩ s).1)))]:=by
 exact absurd hneed.1 (fun h=>by unfold vP at h;cases h)
theorem zor (ln:Ln) (p:Int) (m tg:Str) (hm:Int) (hf:List Fld) (hl le:Int) (ch:Ch) (out:List Evt) (s:Str) (hneed:vP ⟨ln,p,⟨m,tg,hm,hf,hl⟩,le,some ch,true,out⟩∧rqFs ⟨ln,p,⟨m,tg,hm,hf,hl⟩,le,some ch,true,out⟩∧s.length≤1000000):Spc Tryz.prog 127 [.v (.one (.ptr 0 0)),.v (.one (.p (.str s)))] [.abs (.rq ⟨ln,p,⟨m,tg,hm,hf,hl⟩,le,some ch,true,out⟩)] (.ret (.v (.one (.p (.int .i64 ((zO ⟨ln,p,⟨m,tg,hm,hf,hl⟩,le,some ch,true,out⟩ s).2)))))) [.abs (.rq (((zO ⟨ln,p,⟨m,tg,hm,hf,hl⟩,le,some ch,true,out⟩ s).1)))]:=by
 obtain⟨-,hfs,hs⟩:=hneed;have hfs0:=hfs;obtain⟨hfs,hfw⟩:=hfs;simp only at hfs hfw;obtain⟨hf1,hf2⟩:=hfs;generalize hr:zO ⟨ln,p,⟨m,tg,hm,hf,hl⟩,le,some ch,true,out⟩ s=r;obtain⟨rq,rc⟩:=r
 refine spH Tryz.func127 (by kernel_rfl) { cfgQ with seam:=[],keep:=some [0,1,4,5,6]} [Va,W9,zkc,zkb,zfF,zfE] (by kernel_rfl) ?_
 intro I X hI hX
 refine orcL ?_;go_invoke;refine orcS (by kernel_rfl) ?_
 simp only [zi,Nat.reduceAdd];subst hI;unfold zO at hr;simp only at hr;simp only [nrmA,nrmB,nrlB,reduceCtorEq,HO.abs.injEq,Gh.rq.injEq,Rq.mk.injEq];have hdn:(yA ⟨ln,p,⟨m,tg,hm,hf,hl⟩,le,some ch,true,out⟩)=yA ⟨ln,p,⟨m,tg,hm,hf,hl⟩,le,some ch,true,out⟩:=rfl
 by_cases q1:p=0
 · rw [if_pos q1] at hr
   by_cases q2:s=[]
   · rw [if_pos q2] at hr
     simp only [Prod.mk.injEq] at hr;obtain⟨rfl,rfl⟩:=hr
     (repeat' (first|refine ja ?_ ?_|intro _))<;>first|omega|exact jb|exact jc ‹False›|skip
     all_goals first|omega|rfl|(exfalso;exact ‹¬ s=[]› q2)|trace_state
   rw [if_neg q2] at hr
   have hbg:(sK ⟨ln,p,⟨m,tg,hm,hf,hl⟩,le,some ch,true,out⟩ s,(begM s).1)=(rq,rc):=by
    rw [← hr];unfold sK
    by_cases c0:(begM s).1=0
    · rw [if_pos c0,if_pos c0,c0]
    · rw [if_neg c0,if_neg c0]
      by_cases c1:(begM s).1=11
      · rw [if_pos c1,if_pos c1,c1]
      · rw [if_neg c1,if_neg c1]
   simp only [Prod.mk.injEq] at hbg
   (repeat' (first|refine ja ?_ ?_|intro _))<;>first|omega|exact jb|exact jc ‹False›|skip
   all_goals first|omega|exact hbg.1|exact hbg.2|exact⟨rfl,hs⟩|rfl|(exfalso;exact q2 ‹s=[]›)|(simp only [vP];done)|exact hs|trace_state
 · rw [if_neg q1] at hr
   by_cases q2:s=[]
   · rw [if_pos q2] at hr
     (repeat' (first|refine ja ?_ ?_|intro _))<;>first|omega|exact jb|exact jc ‹False›|skip
     all_goals first|omega|(rw [hr];done)|(rw [hr])|rfl|exact hfs0|exact hf1|(exact(hf2 _ ‹_›).1)|(exact(hf2 _ ‹_›).2)|(exfalso;exact ‹¬ s=[]› q2)|trace_state
   rw [if_neg q2] at hr
   by_cases q3:hf.length=16
   · rw [if_pos q3] at hr
     simp only [Prod.mk.injEq] at hr;obtain⟨rfl,rfl⟩:=hr
     (repeat' (first|refine ja ?_ ?_|intro _))<;>first|omega|exact jb|exact jc ‹False›|skip
     all_goals first|omega|rfl|(exfalso;exact q2 ‹s=[]›)|trace_state
   · rw [if_neg q3] at hr
     simp only [Prod.mk.injEq] at hr;obtain⟨rfl,rfl⟩:=hr
     (repeat' (first|refine ja ?_ ?_|intro _))<;>first|omega|exact jb|exact jc ‹False›|skip
     all_goals first|omega|rfl|exact hs|(simp only [jh,ji];omega)|(exfalso;exact q2 ‹s=[]›)|trace_state
theorem zos (ln:Ln) (p:Int) (m tg:Str) (hm:Int) (hf:List Fld) (hl le:Int) (ch:Ch) (out:List Evt) (s:Str) (hneed:vP ⟨ln,p,⟨m,tg,hm,hf,hl⟩,le,some ch,false,out⟩∧rqFs ⟨ln,p,⟨m,tg,hm,hf,hl⟩,le,some ch,false,out⟩∧s.length≤1000000):Spc Tryz.prog 127 [.v (.one (.ptr 0 0)),.v (.one (.p (.str s)))] [.abs (.rq ⟨ln,p,⟨m,tg,hm,hf,hl⟩,le,some ch,false,out⟩)] (.ret (.v (.one (.p (.int .i64 ((zO ⟨ln,p,⟨m,tg,hm,hf,hl⟩,le,some ch,false,out⟩ s).2)))))) [.abs (.rq (((zO ⟨ln,p,⟨m,tg,hm,hf,hl⟩,le,some ch,false,out⟩ s).1)))]:=by
 exact absurd hneed.1 (fun h=>by unfold vP at h;cases h)
def WL (I:Alg):KU
 |[.v (.one (.ptr 0 0)),.v (.one (.p (.str s)))],[.abs (.rq q)]=>(fun(s:Str)=>(some (.one ⟨I.hid (vP q∧rqFs q∧s.length≤1000000),(.ret (.v (.one (.p (.int .i64 (I.hid ((zO q s).2))))))),[.abs (.rq (I.hid ((zO q s).1)))]⟩):Option CT)) s
 |_,_=>none
theorem zfA:zu Tryz.prog 127 (WL alg):=by
 intro args hp r h;unfold WL at h;split at h<;>cases h
 rename_i s q;simp only [CT.Good,zh];intro hneed;obtain⟨ln,p,⟨m,tg,hm,hf,hl⟩,le,ck,own,out⟩:=q
 cases ck with
 | none=>cases own with
   |true=>exact zot ln p m tg hm hf hl le out s hneed
   |false=>exact zou ln p m tg hm hf hl le out s hneed
 | some ch=>cases own with
   |true=>exact zor ln p m tg hm hf hl le ch out s hneed
   |false=>exact zos ln p m tg hm hf hl le ch out s hneed
def WJ:Know Tryz.prog:=⟨127,WL,zfA⟩
def WI:Know Tryz.prog:=⟨127,fun I=>zx I (WL I),zf zfA⟩
theorem zyn (k:Int) (hneed:False):Spc Tryz.prog 124 [.v (.one (.p (.val (.pointer none)))),.v (.one (.p (.int .u8 k)))] [] (.ret (.tup [.one (.p (.list .byte ([]))),.one (.p (.bool false)),.one (.p (.int .i64 0))])) []:=hneed.elim
def QO (I:Alg):KU
 |[.v (.one (.p (.val (.pointer none)))),.v (.one (.p (.int .u8 k)))],[]=>some (.one ⟨I.hid (False),(.ret (.tup [.one (.p (.list .byte (I.hid ([])))),.one (.p (.bool false)),.one (.p (.int .i64 0))])),[]⟩)
 |_,_=>none
theorem zlK:zu Tryz.prog 124 (QO alg):=by
 intro args hp r h;unfold QO at h
 split at h
 · cases h;exact fun hn=>zyn _ hn
 · cases h
def QN:Know Tryz.prog:=⟨124,QO,zlK⟩
def QM:Know Tryz.prog:=⟨124,fun I=>zx I (QO I),zf zlK⟩
def rqN (q:Rq):Prop:=∃ i:Nat,i≤1000000∧RqI q i
theorem zb8 (q:Rq) (s:Str):(zO q s).1.out.length≤q.out.length+2:=by
 unfold zO yA tK
 repeat' split
 all_goals(simp only [jk,jh,ji];omega)
theorem zoO (ln:Ln) (p:Int) (m tg:Str) (hm:Int) (hf:List Fld) (hl le:Int) (out:List Evt) (k:Int) (hneed:rqN ⟨ln,p,⟨m,tg,hm,hf,hl⟩,le,none,true,out⟩∧0≤k∧k≤255):Spc Tryz.prog 93 [.v (.one (.ptr 0 0)),.v (.one (.p (.int .u8 k)))] [.abs (.rq ⟨ln,p,⟨m,tg,hm,hf,hl⟩,le,none,true,out⟩)] (.ret (.tup [])) [.abs (.rq ((rqF ⟨ln,p,⟨m,tg,hm,hf,hl⟩,le,none,true,out⟩ (UInt8.ofNat k.toNat))))]:=by
 obtain⟨⟨i,hi,hI0⟩,hk0,hk1⟩:=hneed;obtain⟨g1,g2,g3,g4,g5,g6,g7,g8,g9,g10⟩:=hI0;simp only at g1 g2 g3 g4 g5 g6 g7 g8 g9 g10
 have hfs:FsOk hf:=⟨by omega,fun f hm=>by have:=g6 f hm;omega⟩
 have hll:=Yf ln (UInt8.ofNat k.toNat);generalize hr:rqF ⟨ln,p,⟨m,tg,hm,hf,hl⟩,le,none,true,out⟩ (UInt8.ofNat k.toNat)=r
 refine spH Tryz.func93 (by kernel_rfl) { cfgQ with fz:=[122],keep:=some [0,1,4,5,6,7,8,9,13,62]} [sV,sU,V3,VZ,QN,QM,zV,zU,zZ,zY,yu,yj,yD,yC,xY,xX,WQ,WO,YR,YQ,WJ,WI] (by kernel_rfl) ?_
 intro I X hI hX
 refine orcL ?_;go_invoke;refine orcS (by kernel_rfl) ?_
 simp only [zi,Nat.reduceAdd];subst hI;unfold rqF at hr;simp only at hr;simp only [nrmA,nrmB,nrlB,reduceCtorEq,HO.abs.injEq,Gh.rq.injEq,Rq.mk.injEq];generalize UInt8.ofNat k.toNat=c at *;have hz2:lnF ⟨ln.b,ln.cr,ln.code⟩ c=lnF ln c:=rfl;simp only [hz2];clear hz2 g2
 by_cases q1:p=2
 · rw [if_pos q1] at hr
   have h9:=g9 q1
   by_cases q2:le - 1=0
   · rw [if_pos q2] at hr
     subst hr
     have q3:le=1:=by omega
     subst q3
     (repeat' (first|refine ja ?_ ?_|intro _))<;>first|omega|exact jb|exact jc ‹False›|skip
     all_goals first|omega|rfl|(unfold zC;simp;omega)|(unfold zC;simp only;omega)|trace_state
   · rw [if_neg q2] at hr
     subst hr
     (repeat' (first|refine ja ?_ ?_|intro _))<;>first|omega|exact jb|exact jc ‹False›|skip
     all_goals first|omega|rfl|(unfold zC;simp;omega)|(unfold zC;simp only;omega)|trace_state
 rw [if_neg q1] at hr
 by_cases q4:p=3
 · exact absurd rfl (g3 q4)
 rw [if_neg q4] at hr
 by_cases q8:p=0∨p=1
 · rw [if_pos q8] at hr
   have hl: ∀ (l:Ln) (s:Str),zO ⟨⟨l.b,l.cr,l.code⟩,p,⟨m,tg,hm,hf,hl⟩,le,none,true,out⟩ s=zO ⟨l,p,⟨m,tg,hm,hf,hl⟩,le,none,true,out⟩ s:=fun l s=>rfl;simp only [hl];clear hl;generalize lnF ln c=z at *;obtain⟨l2,s,is,e⟩:=z;simp only at hr hll ⊢;have hlo:(zO ⟨l2,p,⟨m,tg,hm,hf,hl⟩,le,none,true,out⟩ s).1.out.length≤out.length+2:=zb8 _ _;generalize zO ⟨l2,p,⟨m,tg,hm,hf,hl⟩,le,none,true,out⟩ s=y at *;obtain⟨y,ye⟩:=y;simp only at hr hlo ⊢
   by_cases q5:e=0
   · rw [if_neg (fun h=>h q5)] at hr
     cases is with
     | true=>
       rw [if_pos rfl] at hr
       by_cases q6:ye=0
       · rw [if_neg (fun h=>h q6)] at hr
         subst hr
         (repeat' (first|refine ja ?_ ?_|intro _))<;>first|omega|exact jb|exact jc ‹False›|skip
         all_goals first|omega|rfl|contradiction|exact⟨rfl,⟨hfs,by simp only;omega⟩,by omega⟩|(simp only [vP];done)|exact hfs.1|(exact(hfs.2 _ ‹_›).1)|(exact(hfs.2 _ ‹_›).2)|(unfold zC;omega)|(simp only;omega)|trace_state
       · rw [if_pos q6] at hr
         subst hr
         (repeat' (first|refine ja ?_ ?_|intro _))<;>first|omega|exact jb|exact jc ‹False›|skip
         all_goals first|omega|rfl|contradiction|exact⟨rfl,⟨hfs,by simp only;omega⟩,by omega⟩|(simp only [vP];done)|exact hfs.1|(exact(hfs.2 _ ‹_›).1)|(exact(hfs.2 _ ‹_›).2)|(unfold zC;omega)|(simp only;omega)|trace_state
     | false=>
       rw [if_neg Bool.false_ne_true] at hr;subst hr
       (repeat' (first|refine ja ?_ ?_|intro _))<;>first|omega|exact jb|exact jc ‹False›|skip
       all_goals first|omega|rfl|contradiction|trace_state
   · rw [if_pos q5] at hr
     subst hr
     (repeat' (first|refine ja ?_ ?_|intro _))<;>first|omega|exact jb|exact jc ‹False›|skip
     all_goals first|omega|rfl|contradiction|(unfold zC;simp only;omega)|trace_state
 rw [if_neg q8] at hr;subst hr
 (repeat' (first|refine ja ?_ ?_|intro _))<;>first|omega|exact jb|exact jc ‹False›|skip
 all_goals first|omega|rfl|contradiction|trace_state
theorem zoP (ln:Ln) (p:Int) (m tg:Str) (hm:Int) (hf:List Fld) (hl le:Int) (out:List Evt) (k:Int) (hneed:rqN ⟨ln,p,⟨m,tg,hm,hf,hl⟩,le,none,false,out⟩∧0≤k∧k≤255):Spc Tryz.prog 93 [.v (.one (.ptr 0 0)),.v (.one (.p (.int .u8 k)))] [.abs (.rq ⟨ln,p,⟨m,tg,hm,hf,hl⟩,le,none,false,out⟩)] (.ret (.tup [])) [.abs (.rq ((rqF ⟨ln,p,⟨m,tg,hm,hf,hl⟩,le,none,false,out⟩ (UInt8.ofNat k.toNat))))]:=by
 obtain⟨⟨i,hi,hI0⟩,hk0,hk1⟩:=hneed;obtain⟨g1,g2,g3,g4,g5,g6,g7,g8,g9,g10⟩:=hI0;simp only at g1 g2 g3 g4 g5 g6 g7 g8 g9 g10
 have hfs:FsOk hf:=⟨by omega,fun f hm=>by have:=g6 f hm;omega⟩
 have hll:=Yf ln (UInt8.ofNat k.toNat);generalize hr:rqF ⟨ln,p,⟨m,tg,hm,hf,hl⟩,le,none,false,out⟩ (UInt8.ofNat k.toNat)=r
 refine spH Tryz.func93 (by kernel_rfl) { cfgQ with fz:=[122],keep:=some [0,1,4,5,6,7,8,9,13,62]} [sV,sU,V3,VZ,QN,QM,zV,zU,zZ,zY,yu,yj,yD,yC,xY,xX,WQ,WO,YR,YQ,WJ,WI] (by kernel_rfl) ?_
 intro I X hI hX
 refine orcL ?_;go_invoke;refine orcS (by kernel_rfl) ?_
 simp only [zi,Nat.reduceAdd];subst hI;unfold rqF at hr;simp only at hr;simp only [nrmA,nrmB,nrlB,reduceCtorEq,HO.abs.injEq,Gh.rq.injEq,Rq.mk.injEq];generalize UInt8.ofNat k.toNat=c at *;have hz2:lnF ⟨ln.b,ln.cr,ln.code⟩ c=lnF ln c:=rfl;simp only [hz2];clear hz2 g2
 by_cases q1:p=2
 · rw [if_pos q1] at hr
   have h9:=g9 q1
   by_cases q2:le - 1=0
   · rw [if_pos q2] at hr
     subst hr
     have q3:le=1:=by omega
     subst q3
     (repeat' (first|refine ja ?_ ?_|intro _))<;>first|omega|exact jb|exact jc ‹False›|skip
     all_goals first|omega|rfl|(unfold zC;simp;omega)|(unfold zC;simp only;omega)|trace_state
   · rw [if_neg q2] at hr
     subst hr
     (repeat' (first|refine ja ?_ ?_|intro _))<;>first|omega|exact jb|exact jc ‹False›|skip
     all_goals first|omega|rfl|(unfold zC;simp;omega)|(unfold zC;simp only;omega)|trace_state
 rw [if_neg q1] at hr
 by_cases q4:p=3
 · exact absurd rfl (g3 q4)
 rw [if_neg q4] at hr
 by_cases q8:p=0∨p=1
 · exact absurd (g4 q8) (by simp)
 rw [if_neg q8] at hr;subst hr
 (repeat' (first|refine ja ?_ ?_|intro _))<;>first|omega|exact jb|exact jc ‹False›|skip
 all_goals first|omega|rfl|contradiction|trace_state
theorem zoM (ln:Ln) (p:Int) (m tg:Str) (hm:Int) (hf:List Fld) (hl le:Int) (ch:Ch) (out:List Evt) (k:Int) (hneed:rqN ⟨ln,p,⟨m,tg,hm,hf,hl⟩,le,some ch,true,out⟩∧0≤k∧k≤255):Spc Tryz.prog 93 [.v (.one (.ptr 0 0)),.v (.one (.p (.int .u8 k)))] [.abs (.rq ⟨ln,p,⟨m,tg,hm,hf,hl⟩,le,some ch,true,out⟩)] (.ret (.tup [])) [.abs (.rq ((rqF ⟨ln,p,⟨m,tg,hm,hf,hl⟩,le,some ch,true,out⟩ (UInt8.ofNat k.toNat))))]:=by
 obtain⟨⟨i,hi,hI0⟩,hk0,hk1⟩:=hneed;obtain⟨g1,g2,g3,g4,g5,g6,g7,g8,g9,g10⟩:=hI0;simp only at g1 g2 g3 g4 g5 g6 g7 g8 g9 g10
 have hfs:FsOk hf:=⟨by omega,fun f hm=>by have:=g6 f hm;omega⟩
 have hll:=Yf ln (UInt8.ofNat k.toNat);generalize hr:rqF ⟨ln,p,⟨m,tg,hm,hf,hl⟩,le,some ch,true,out⟩ (UInt8.ofNat k.toNat)=r
 refine spH Tryz.func93 (by kernel_rfl) { cfgQ with fz:=[122],keep:=some [0,1,4,5,6,7,8,9,13,62]} [sV,sU,V3,VZ,QN,QM,zV,zU,zZ,zY,yu,yj,yD,yC,xY,xX,WQ,WO,YR,YQ,WJ,WI] (by kernel_rfl) ?_
 intro I X hI hX
 refine orcL ?_;go_invoke;refine orcS (by kernel_rfl) ?_
 simp only [zi,Nat.reduceAdd];subst hI;unfold rqF at hr;simp only at hr;simp only [nrmA,nrmB,nrlB,reduceCtorEq,HO.abs.injEq,Gh.rq.injEq,Rq.mk.injEq];generalize UInt8.ofNat k.toNat=c at *;have hni:=zlP (g2 ch rfl) hi;have hz:chF ⟨⟨ch.ln.b,ch.ln.cr,ch.ln.code⟩,ch.pos,ch.left,ch.all,ch.tails,ch.code⟩ c=chF ch c:=rfl;have hck:ckOf ⟨ln,p,⟨m,tg,hm,hf,hl⟩,le,some ch,true,out⟩=ch:=rfl;simp only [hz];rw [hck] at hr;clear hz hck;have hz2:lnF ⟨ln.b,ln.cr,ln.code⟩ c=lnF ln c:=rfl;simp only [hz2];clear hz2 g2
 by_cases q1:p=2
 · rw [if_pos q1] at hr
   have h9:=g9 q1
   by_cases q2:le - 1=0
   · rw [if_pos q2] at hr
     subst hr
     have q3:le=1:=by omega
     subst q3
     (repeat' (first|refine ja ?_ ?_|intro _))<;>first|omega|exact jb|exact jc ‹False›|skip
     all_goals first|omega|rfl|(unfold zC;simp;omega)|(unfold zC;simp only;omega)|trace_state
   · rw [if_neg q2] at hr
     subst hr
     (repeat' (first|refine ja ?_ ?_|intro _))<;>first|omega|exact jb|exact jc ‹False›|skip
     all_goals first|omega|rfl|(unfold zC;simp;omega)|(unfold zC;simp only;omega)|trace_state
 rw [if_neg q1] at hr
 by_cases q4:p=3
 · rw [if_pos q4] at hr
   generalize chF ch c=z at *;obtain⟨⟨⟨zb,zc,zo⟩,z1,z2,z3,z4,z5⟩,d,ov,e⟩:=z;simp only at hr ⊢;have hd0:d.length=0↔d=[]:=List.length_eq_zero_iff
   by_cases q5:e=0
   · rw [if_neg (fun h=>h q5)] at hr
     cases ov with
     | true=>
       rw [if_pos rfl] at hr
       by_cases q6:d=[]
       · rw [if_neg (fun h=>h q6)] at hr
         have q7:=hd0.2 q6;subst hr
         (repeat' (first|refine ja ?_ ?_|intro _))<;>first|omega|exact jb|exact jc ‹False›|skip
         all_goals first|omega|rfl|(unfold zC;simp;omega)|(unfold zC;simp only;omega)|contradiction|exact⟨⟨hk0,hk1⟩,hni⟩|trace_state
       · rw [if_pos q6] at hr
         have q7: ¬ d.length=0:=fun h=>q6 (hd0.1 h);subst hr
         (repeat' (first|refine ja ?_ ?_|intro _))<;>first|omega|exact jb|exact jc ‹False›|skip
         all_goals first|omega|rfl|(unfold zC;simp;omega)|(unfold zC;simp only;omega)|contradiction|exact⟨⟨hk0,hk1⟩,hni⟩|trace_state
     | false=>
       rw [if_neg Bool.false_ne_true] at hr
       by_cases q6:d=[]
       · rw [if_neg (fun h=>h q6)] at hr
         have q7:=hd0.2 q6;subst hr
         (repeat' (first|refine ja ?_ ?_|intro _))<;>first|omega|exact jb|exact jc ‹False›|skip
         all_goals first|omega|rfl|(unfold zC;simp;omega)|(unfold zC;simp only;omega)|contradiction|exact⟨⟨hk0,hk1⟩,hni⟩|trace_state
       · rw [if_pos q6] at hr
         have q7: ¬ d.length=0:=fun h=>q6 (hd0.1 h);subst hr
         (repeat' (first|refine ja ?_ ?_|intro _))<;>first|omega|exact jb|exact jc ‹False›|skip
         all_goals first|omega|rfl|(unfold zC;simp;omega)|(unfold zC;simp only;omega)|contradiction|exact⟨⟨hk0,hk1⟩,hni⟩|trace_state
   · rw [if_pos q5] at hr
     subst hr
     (repeat' (first|refine ja ?_ ?_|intro _))<;>first|omega|exact jb|exact jc ‹False›|skip
     all_goals first|omega|rfl|(unfold zC;simp;omega)|(unfold zC;simp only;omega)|contradiction|exact⟨⟨hk0,hk1⟩,hni⟩|trace_state
 rw [if_neg q4] at hr
 by_cases q8:p=0∨p=1
 · rw [if_pos q8] at hr
   have hl: ∀ (l:Ln) (s:Str),zO ⟨⟨l.b,l.cr,l.code⟩,p,⟨m,tg,hm,hf,hl⟩,le,some ch,true,out⟩ s=zO ⟨l,p,⟨m,tg,hm,hf,hl⟩,le,some ch,true,out⟩ s:=fun l s=>rfl;simp only [hl];clear hl;generalize lnF ln c=z at *;obtain⟨l2,s,is,e⟩:=z;simp only at hr hll ⊢;have hlo:(zO ⟨l2,p,⟨m,tg,hm,hf,hl⟩,le,some ch,true,out⟩ s).1.out.length≤out.length+2:=zb8 _ _;generalize zO ⟨l2,p,⟨m,tg,hm,hf,hl⟩,le,some ch,true,out⟩ s=y at *;obtain⟨y,ye⟩:=y;simp only at hr hlo ⊢
   by_cases q5:e=0
   · rw [if_neg (fun h=>h q5)] at hr
     cases is with
     | true=>
       rw [if_pos rfl] at hr
       by_cases q6:ye=0
       · rw [if_neg (fun h=>h q6)] at hr
         subst hr
         (repeat' (first|refine ja ?_ ?_|intro _))<;>first|omega|exact jb|exact jc ‹False›|skip
         all_goals first|omega|rfl|contradiction|exact⟨rfl,⟨hfs,by simp only;omega⟩,by omega⟩|(simp only [vP];done)|exact hfs.1|(exact(hfs.2 _ ‹_›).1)|(exact(hfs.2 _ ‹_›).2)|(unfold zC;omega)|(simp only;omega)|trace_state
       · rw [if_pos q6] at hr
         subst hr
         (repeat' (first|refine ja ?_ ?_|intro _))<;>first|omega|exact jb|exact jc ‹False›|skip
         all_goals first|omega|rfl|contradiction|exact⟨rfl,⟨hfs,by simp only;omega⟩,by omega⟩|(simp only [vP];done)|exact hfs.1|(exact(hfs.2 _ ‹_›).1)|(exact(hfs.2 _ ‹_›).2)|(unfold zC;omega)|(simp only;omega)|trace_state
     | false=>
       rw [if_neg Bool.false_ne_true] at hr;subst hr
       (repeat' (first|refine ja ?_ ?_|intro _))<;>first|omega|exact jb|exact jc ‹False›|skip
       all_goals first|omega|rfl|contradiction|trace_state
   · rw [if_pos q5] at hr
     subst hr
     (repeat' (first|refine ja ?_ ?_|intro _))<;>first|omega|exact jb|exact jc ‹False›|skip
     all_goals first|omega|rfl|contradiction|(unfold zC;simp only;omega)|trace_state
 rw [if_neg q8] at hr;subst hr
 (repeat' (first|refine ja ?_ ?_|intro _))<;>first|omega|exact jb|exact jc ‹False›|skip
 all_goals first|omega|rfl|contradiction|trace_state
theorem zoN (ln:Ln) (p:Int) (m tg:Str) (hm:Int) (hf:List Fld) (hl le:Int) (ch:Ch) (out:List Evt) (k:Int) (hneed:rqN ⟨ln,p,⟨m,tg,hm,hf,hl⟩,le,some ch,false,out⟩∧0≤k∧k≤255):Spc Tryz.prog 93 [.v (.one (.ptr 0 0)),.v (.one (.p (.int .u8 k)))] [.abs (.rq ⟨ln,p,⟨m,tg,hm,hf,hl⟩,le,some ch,false,out⟩)] (.ret (.tup [])) [.abs (.rq ((rqF ⟨ln,p,⟨m,tg,hm,hf,hl⟩,le,some ch,false,out⟩ (UInt8.ofNat k.toNat))))]:=by
 obtain⟨⟨i,hi,hI0⟩,hk0,hk1⟩:=hneed;obtain⟨g1,g2,g3,g4,g5,g6,g7,g8,g9,g10⟩:=hI0;simp only at g1 g2 g3 g4 g5 g6 g7 g8 g9 g10
 have hfs:FsOk hf:=⟨by omega,fun f hm=>by have:=g6 f hm;omega⟩
 have hll:=Yf ln (UInt8.ofNat k.toNat);generalize hr:rqF ⟨ln,p,⟨m,tg,hm,hf,hl⟩,le,some ch,false,out⟩ (UInt8.ofNat k.toNat)=r
 refine spH Tryz.func93 (by kernel_rfl) { cfgQ with fz:=[122],keep:=some [0,1,4,5,6,7,8,9,13,62]} [sV,sU,V3,VZ,QN,QM,zV,zU,zZ,zY,yu,yj,yD,yC,xY,xX,WQ,WO,YR,YQ,WJ,WI] (by kernel_rfl) ?_
 intro I X hI hX
 refine orcL ?_;go_invoke;refine orcS (by kernel_rfl) ?_
 simp only [zi,Nat.reduceAdd];subst hI;unfold rqF at hr;simp only at hr;simp only [nrmA,nrmB,nrlB,reduceCtorEq,HO.abs.injEq,Gh.rq.injEq,Rq.mk.injEq];generalize UInt8.ofNat k.toNat=c at *;have hni:=zlP (g2 ch rfl) hi;have hz:chF ⟨⟨ch.ln.b,ch.ln.cr,ch.ln.code⟩,ch.pos,ch.left,ch.all,ch.tails,ch.code⟩ c=chF ch c:=rfl;have hck:ckOf ⟨ln,p,⟨m,tg,hm,hf,hl⟩,le,some ch,false,out⟩=ch:=rfl;simp only [hz];rw [hck] at hr;clear hz hck;have hz2:lnF ⟨ln.b,ln.cr,ln.code⟩ c=lnF ln c:=rfl;simp only [hz2];clear hz2 g2
 by_cases q1:p=2
 · rw [if_pos q1] at hr
   have h9:=g9 q1
   by_cases q2:le - 1=0
   · rw [if_pos q2] at hr
     subst hr
     have q3:le=1:=by omega
     subst q3
     (repeat' (first|refine ja ?_ ?_|intro _))<;>first|omega|exact jb|exact jc ‹False›|skip
     all_goals first|omega|rfl|(unfold zC;simp;omega)|(unfold zC;simp only;omega)|trace_state
   · rw [if_neg q2] at hr
     subst hr
     (repeat' (first|refine ja ?_ ?_|intro _))<;>first|omega|exact jb|exact jc ‹False›|skip
     all_goals first|omega|rfl|(unfold zC;simp;omega)|(unfold zC;simp only;omega)|trace_state
 rw [if_neg q1] at hr
 by_cases q4:p=3
 · rw [if_pos q4] at hr
   generalize chF ch c=z at *;obtain⟨⟨⟨zb,zc,zo⟩,z1,z2,z3,z4,z5⟩,d,ov,e⟩:=z;simp only at hr ⊢;have hd0:d.length=0↔d=[]:=List.length_eq_zero_iff
   by_cases q5:e=0
   · rw [if_neg (fun h=>h q5)] at hr
     cases ov with
     | true=>
       rw [if_pos rfl] at hr
       by_cases q6:d=[]
       · rw [if_neg (fun h=>h q6)] at hr
         have q7:=hd0.2 q6;subst hr
         (repeat' (first|refine ja ?_ ?_|intro _))<;>first|omega|exact jb|exact jc ‹False›|skip
         all_goals first|omega|rfl|(unfold zC;simp;omega)|(unfold zC;simp only;omega)|contradiction|exact⟨⟨hk0,hk1⟩,hni⟩|trace_state
       · rw [if_pos q6] at hr
         have q7: ¬ d.length=0:=fun h=>q6 (hd0.1 h);subst hr
         (repeat' (first|refine ja ?_ ?_|intro _))<;>first|omega|exact jb|exact jc ‹False›|skip
         all_goals first|omega|rfl|(unfold zC;simp;omega)|(unfold zC;simp only;omega)|contradiction|exact⟨⟨hk0,hk1⟩,hni⟩|trace_state
     | false=>
       rw [if_neg Bool.false_ne_true] at hr
       by_cases q6:d=[]
       · rw [if_neg (fun h=>h q6)] at hr
         have q7:=hd0.2 q6;subst hr
         (repeat' (first|refine ja ?_ ?_|intro _))<;>first|omega|exact jb|exact jc ‹False›|skip
         all_goals first|omega|rfl|(unfold zC;simp;omega)|(unfold zC;simp only;omega)|contradiction|exact⟨⟨hk0,hk1⟩,hni⟩|trace_state
       · rw [if_pos q6] at hr
         have q7: ¬ d.length=0:=fun h=>q6 (hd0.1 h);subst hr
         (repeat' (first|refine ja ?_ ?_|intro _))<;>first|omega|exact jb|exact jc ‹False›|skip
         all_goals first|omega|rfl|(unfold zC;simp;omega)|(unfold zC;simp only;omega)|contradiction|exact⟨⟨hk0,hk1⟩,hni⟩|trace_state
   · rw [if_pos q5] at hr
     subst hr
     (repeat' (first|refine ja ?_ ?_|intro _))<;>first|omega|exact jb|exact jc ‹False›|skip
     all_goals first|omega|rfl|(unfold zC;simp;omega)|(unfold zC;simp only;omega)|contradiction|exact⟨⟨hk0,hk1⟩,hni⟩|trace_state
 rw [if_neg q4] at hr
 by_cases q8:p=0∨p=1
 · exact absurd (g4 q8) (by simp)
 rw [if_neg q8] at hr;subst hr
 (repeat' (first|refine ja ?_ ?_|intro _))<;>first|omega|exact jb|exact jc ‹False›|skip
 all_goals first|omega|rfl|contradiction|trace_state
def WU (I:Alg):KU
 |[.v (.one (.ptr 0 0)),.v (.one (.p (.int .u8 k)))],[.abs (.rq q)]=>some (.one ⟨I.hid (rqN q∧0≤k∧k≤255),(.ret (.tup [])),[.abs (.rq (I.hid (rqF q (UInt8.ofNat k.toNat))))]⟩)
 |_,_=>none
theorem zfI:zu Tryz.prog 93 (WU alg):=by
 intro args hp r h;unfold WU at h;split at h<;>cases h
 rename_i k q;simp only [CT.Good,zh];intro hneed;obtain⟨ln,p,⟨m,tg,hm,hf,hl⟩,le,ck,own,out⟩:=q
 cases ck with
 | none=>cases own with
   |true=>exact zoO ln p m tg hm hf hl le out k hneed
   |false=>exact zoP ln p m tg hm hf hl le out k hneed
 | some ch=>cases own with
   |true=>exact zoM ln p m tg hm hf hl le ch out k hneed
   |false=>exact zoN ln p m tg hm hf hl le ch out k hneed
def uy:Know Tryz.prog:=⟨93,WU,zfI⟩
def uw:Know Tryz.prog:=⟨93,fun I=>zx I (WU I),zf zfI⟩
end Go.Proofs.YtnpmenpjagcheaaGreatDoor

namespace Go.Proofs.YtnpmenpjagcheaaGreatDoor
open Go Go.Sep Go.Ab
set_option maxRecDepth 100000
theorem zmj (q:Rq):zF (yA q).1.out≤zF q.out:=by
 unfold yA tK
 repeat' split
 all_goals simp [zF,evH,evE]
theorem zmh (q:Rq) (s:Str):zF (zO q s).1.out≤zF q.out:=by
 have hd:=zmj q;unfold zO
 repeat' split
 all_goals first|exact hd|exact jL _
theorem zaA (q:Rq) (c:UInt8):zF (rqF q c).out≤zF q.out+1:=by
 have hl:=zmh { q with ln:=(lnF q.ln c).1} (lnF q.ln c).2.1
 have hd:=(ztS (s:=ckOf q) (c:=c)).1;unfold rqF
 split
 · split
   · simp only [tK,yh,yX,evB,evE,jh,ji];omega
   · simp only [yh,yX,evB,jh,ji];omega
 split
 · split
   · simp only [wU,yh,yX,evF,ji];omega
   split
   · simp only [tK,yh,yX,evE,ji]
     split
     · simp only [yh,yX,evB];omega
     · omega
   · show zF (if(chF (ckOf q) c).2.1≠[] then q.out++[evB (chF (ckOf q) c).2.1] else q.out)≤_
     split
     · simp only [yh,yX,evB];omega
     · omega
 split
 · split
   · simp only [wU,yh,yX,evF,ji];omega
   split
   · split
     · simp only [wU,yh,yX,evF,ji];simp only at hl;omega
     · simp only at hl;omega
   · exact Nat.le_succ _
 · exact Nat.le_succ _
def rqAt (q:Rq) (b:Str) (n i:Nat):Prop:=RqI (uT { q with out:=[]} (b.take i)) (n+i)∧zF (uT { q with out:=[]} (b.take i)).out≤i
theorem zke {q:Rq} {n:Nat} (h:RqI { q with out:=[]} n) (b:Str):rqAt q b n 0:=⟨h,by simp [uT,zF]⟩
theorem zdL (q:Rq) (b:Str) {i:Nat} (h:i<b.length):uT q (b.take (i+1))=rqF (uT q (b.take i)) (b.getD i 0):=by
 rw [show b.getD i 0=b[i] by simp [h],jB h]
 unfold uT;rw [List.foldl_append];rfl
def rqN0 (q:Rq) (b:Str):Prop:=∃ n,RqI { q with out:=[]} n∧n+b.length≤1000000
theorem zoy (ln:Ln) (p:Int) (m tg:Str) (hm:Int) (hf:List Fld) (hl le:Int) (out:List Evt) (b:Str) (hneed:rqN0 ⟨ln,p,⟨m,tg,hm,hf,hl⟩,le,none,true,out⟩ b):Spc Tryz.prog 77 [.v (.one (.ptr 0 0)),.v (.one (.p (.list .byte b)))] [.abs (.rq ⟨ln,p,⟨m,tg,hm,hf,hl⟩,le,none,true,out⟩)] (.ret (.v (.one (.row 1)))) [.abs (.rq ((zM ⟨ln,p,⟨m,tg,hm,hf,hl⟩,le,none,true,out⟩ b))),.row .evt 138 ((yI (zM ⟨ln,p,⟨m,tg,hm,hf,hl⟩,le,none,true,out⟩ b).out))]:=by
 obtain⟨n,hI0,hnb⟩:=hneed;have hat:=zke hI0 b
 refine spH Tryz.func77 (by kernel_rfl) { cfgQ with fz:=[],keep:=some [0,1,4,6,10,11,12]} [uy,uw,xH,xG] (by kernel_rfl) ?_
 intro I X hI hX
 refine orcL ?_;go_invoke;refine orcS (by kernel_rfl) ?_
 simp only [zi,Nat.reduceAdd]
 have hr:({ (⟨ln,p,⟨m,tg,hm,hf,hl⟩,le,none,true,out⟩:Rq) with out:=[]}:Rq)=(⟨ln,p,⟨m,tg,hm,hf,hl⟩,le,none,true,[]⟩:Rq):=rfl
 unfold rqAt at hat;unfold zM;rw [hr] at hat ⊢
 refine lpH hI [uy,uw,xH,xG] hX [0,1,10,11,12] (fun(g:Nat × Rq)=>match g with|(i,r)=>i≤b.length∧r=uT (⟨ln,p,⟨m,tg,hm,hf,hl⟩,le,none,true,[]⟩:Rq) (b.take i)∧RqI r (n+i)∧zF r.out≤i) (fun(g:Nat × Rq)=>match g with|(i,r)=>⟨[(0,.v (.one (.ptr 0 0))),(1,.v (.one (.p (.list .byte b)))),(10,.v (.one (.p (.list .byte b)))),(11,.v (.one (.p (.int .i64 ((I.len (α:=UInt8) b)))))),(12,.v (.one (.p (.int .i64 i))))],[.abs (.rq r)],25,none⟩) (fun(g:Nat × Rq)=>match g with|(i,r)=>b.length - i) (0,(⟨ln,p,⟨m,tg,hm,hf,hl⟩,le,none,true,[]⟩:Rq)) (by kernel_rfl) (by kernel_rfl) ?_ ?_
 · exact⟨jM _,rfl,hat.1,hat.2⟩
 rintro⟨i,⟨ln2,p2,⟨m2,t2,hm2,hf2,hl2⟩,le2,ck2,own2,out2⟩⟩ ⟨h1,h2,h3,h4⟩ A hA;simp only at hA h1 h2 h3 h4
 have hrn:i<b.length→rqN _:=fun h=>⟨n+i,by omega,h3⟩
 have hgo:i<b.length→_:=fun h=>hA (i+1,rqF ⟨ln2,p2,⟨m2,t2,hm2,hf2,hl2⟩,le2,ck2,own2,out2⟩ (b.getD i 0)) ⟨by simp only;omega,by simp only;rw [zdL _ _ h,← h2],by simp only;exact zmi h3 _,by simp only;have:=zaA ⟨ln2,p2,⟨m2,t2,hm2,hf2,hl2⟩,le2,ck2,own2,out2⟩ (b.getD i 0);simp only at this;omega⟩ (by simp only;omega)
 have hend: ¬ i<b.length→_:=fun h=>h2.trans (by rw [jq (by omega)])
 rcases ck2 with _|ch2<;>rcases own2 with _|_
 · have h0:=h1
   refine orcL ?_;go_invoke;refine orcS (by kernel_rfl) ?_
   simp only [zi,Nat.reduceAdd];subst hI;simp only [nrmA,nrmB,nrlB,reduceCtorEq,HO.abs.injEq,Gh.rq.injEq,Rq.mk.injEq]
   by_cases hi:i<b.length
   · have hg:=hgo hi
     have hn:=hrn hi
     (repeat' (first|refine ja ?_ ?_|intro _))<;>first|omega|exact jb|exact jc ‹False›|skip
     all_goals first|omega|exact hg|exact hn|contradiction|(have:=(b.getD i 0).toNat_lt;omega)|trace_state
   · have hg:=hend hi
     rw [← hg];have hon:=h3.on;simp only at hon
     (repeat' (first|refine ja ?_ ?_|intro _))<;>first|omega|exact jb|exact jc ‹False›|skip
     all_goals first|omega|rfl|contradiction|exact⟨by omega,by omega⟩|trace_state
 · have h0:=h1
   refine orcL ?_;go_invoke;refine orcS (by kernel_rfl) ?_
   simp only [zi,Nat.reduceAdd];subst hI;simp only [nrmA,nrmB,nrlB,reduceCtorEq,HO.abs.injEq,Gh.rq.injEq,Rq.mk.injEq]
   by_cases hi:i<b.length
   · have hg:=hgo hi
     have hn:=hrn hi
     (repeat' (first|refine ja ?_ ?_|intro _))<;>first|omega|exact jb|exact jc ‹False›|skip
     all_goals first|omega|exact hg|exact hn|contradiction|(have:=(b.getD i 0).toNat_lt;omega)|trace_state
   · have hg:=hend hi
     rw [← hg];have hon:=h3.on;simp only at hon
     (repeat' (first|refine ja ?_ ?_|intro _))<;>first|omega|exact jb|exact jc ‹False›|skip
     all_goals first|omega|rfl|contradiction|exact⟨by omega,by omega⟩|trace_state
 · have h0:=h1
   refine orcL ?_;go_invoke;refine orcS (by kernel_rfl) ?_
   simp only [zi,Nat.reduceAdd];subst hI;simp only [nrmA,nrmB,nrlB,reduceCtorEq,HO.abs.injEq,Gh.rq.injEq,Rq.mk.injEq]
   by_cases hi:i<b.length
   · have hg:=hgo hi
     have hn:=hrn hi
     (repeat' (first|refine ja ?_ ?_|intro _))<;>first|omega|exact jb|exact jc ‹False›|skip
     all_goals first|omega|exact hg|exact hn|contradiction|(have:=(b.getD i 0).toNat_lt;omega)|trace_state
   · have hg:=hend hi
     rw [← hg];have hon:=h3.on;simp only at hon
     (repeat' (first|refine ja ?_ ?_|intro _))<;>first|omega|exact jb|exact jc ‹False›|skip
     all_goals first|omega|rfl|contradiction|exact⟨by omega,by omega⟩|trace_state
 · have h0:=h1
   refine orcL ?_;go_invoke;refine orcS (by kernel_rfl) ?_
   simp only [zi,Nat.reduceAdd];subst hI;simp only [nrmA,nrmB,nrlB,reduceCtorEq,HO.abs.injEq,Gh.rq.injEq,Rq.mk.injEq]
   by_cases hi:i<b.length
   · have hg:=hgo hi
     have hn:=hrn hi
     (repeat' (first|refine ja ?_ ?_|intro _))<;>first|omega|exact jb|exact jc ‹False›|skip
     all_goals first|omega|exact hg|exact hn|contradiction|(have:=(b.getD i 0).toNat_lt;omega)|trace_state
   · have hg:=hend hi
     rw [← hg];have hon:=h3.on;simp only at hon
     (repeat' (first|refine ja ?_ ?_|intro _))<;>first|omega|exact jb|exact jc ‹False›|skip
     all_goals first|omega|rfl|contradiction|exact⟨by omega,by omega⟩|trace_state
theorem zoz (ln:Ln) (p:Int) (m tg:Str) (hm:Int) (hf:List Fld) (hl le:Int) (out:List Evt) (b:Str) (hneed:rqN0 ⟨ln,p,⟨m,tg,hm,hf,hl⟩,le,none,false,out⟩ b):Spc Tryz.prog 77 [.v (.one (.ptr 0 0)),.v (.one (.p (.list .byte b)))] [.abs (.rq ⟨ln,p,⟨m,tg,hm,hf,hl⟩,le,none,false,out⟩)] (.ret (.v (.one (.row 1)))) [.abs (.rq ((zM ⟨ln,p,⟨m,tg,hm,hf,hl⟩,le,none,false,out⟩ b))),.row .evt 138 ((yI (zM ⟨ln,p,⟨m,tg,hm,hf,hl⟩,le,none,false,out⟩ b).out))]:=by
 obtain⟨n,hI0,hnb⟩:=hneed;have hat:=zke hI0 b
 refine spH Tryz.func77 (by kernel_rfl) { cfgQ with fz:=[],keep:=some [0,1,4,6,10,11,12]} [uy,uw,xH,xG] (by kernel_rfl) ?_
 intro I X hI hX
 refine orcL ?_;go_invoke;refine orcS (by kernel_rfl) ?_
 simp only [zi,Nat.reduceAdd]
 have hr:({ (⟨ln,p,⟨m,tg,hm,hf,hl⟩,le,none,false,out⟩:Rq) with out:=[]}:Rq)=(⟨ln,p,⟨m,tg,hm,hf,hl⟩,le,none,false,[]⟩:Rq):=rfl
 unfold rqAt at hat;unfold zM;rw [hr] at hat ⊢
 refine lpH hI [uy,uw,xH,xG] hX [0,1,10,11,12] (fun(g:Nat × Rq)=>match g with|(i,r)=>i≤b.length∧r=uT (⟨ln,p,⟨m,tg,hm,hf,hl⟩,le,none,false,[]⟩:Rq) (b.take i)∧RqI r (n+i)∧zF r.out≤i) (fun(g:Nat × Rq)=>match g with|(i,r)=>⟨[(0,.v (.one (.ptr 0 0))),(1,.v (.one (.p (.list .byte b)))),(10,.v (.one (.p (.list .byte b)))),(11,.v (.one (.p (.int .i64 ((I.len (α:=UInt8) b)))))),(12,.v (.one (.p (.int .i64 i))))],[.abs (.rq r)],25,none⟩) (fun(g:Nat × Rq)=>match g with|(i,r)=>b.length - i) (0,(⟨ln,p,⟨m,tg,hm,hf,hl⟩,le,none,false,[]⟩:Rq)) (by kernel_rfl) (by kernel_rfl) ?_ ?_
 · exact⟨jM _,rfl,hat.1,hat.2⟩
 rintro⟨i,⟨ln2,p2,⟨m2,t2,hm2,hf2,hl2⟩,le2,ck2,own2,out2⟩⟩ ⟨h1,h2,h3,h4⟩ A hA;simp only at hA h1 h2 h3 h4
 have hrn:i<b.length→rqN _:=fun h=>⟨n+i,by omega,h3⟩
 have hgo:i<b.length→_:=fun h=>hA (i+1,rqF ⟨ln2,p2,⟨m2,t2,hm2,hf2,hl2⟩,le2,ck2,own2,out2⟩ (b.getD i 0)) ⟨by simp only;omega,by simp only;rw [zdL _ _ h,← h2],by simp only;exact zmi h3 _,by simp only;have:=zaA ⟨ln2,p2,⟨m2,t2,hm2,hf2,hl2⟩,le2,ck2,own2,out2⟩ (b.getD i 0);simp only at this;omega⟩ (by simp only;omega)
 have hend: ¬ i<b.length→_:=fun h=>h2.trans (by rw [jq (by omega)])
 rcases ck2 with _|ch2<;>rcases own2 with _|_
 · have h0:=h1
   refine orcL ?_;go_invoke;refine orcS (by kernel_rfl) ?_
   simp only [zi,Nat.reduceAdd];subst hI;simp only [nrmA,nrmB,nrlB,reduceCtorEq,HO.abs.injEq,Gh.rq.injEq,Rq.mk.injEq]
   by_cases hi:i<b.length
   · have hg:=hgo hi
     have hn:=hrn hi
     (repeat' (first|refine ja ?_ ?_|intro _))<;>first|omega|exact jb|exact jc ‹False›|skip
     all_goals first|omega|exact hg|exact hn|contradiction|(have:=(b.getD i 0).toNat_lt;omega)|trace_state
   · have hg:=hend hi
     rw [← hg];have hon:=h3.on;simp only at hon
     (repeat' (first|refine ja ?_ ?_|intro _))<;>first|omega|exact jb|exact jc ‹False›|skip
     all_goals first|omega|rfl|contradiction|exact⟨by omega,by omega⟩|trace_state
 · have h0:=h1
   refine orcL ?_;go_invoke;refine orcS (by kernel_rfl) ?_
   simp only [zi,Nat.reduceAdd];subst hI;simp only [nrmA,nrmB,nrlB,reduceCtorEq,HO.abs.injEq,Gh.rq.injEq,Rq.mk.injEq]
   by_cases hi:i<b.length
   · have hg:=hgo hi
     have hn:=hrn hi
     (repeat' (first|refine ja ?_ ?_|intro _))<;>first|omega|exact jb|exact jc ‹False›|skip
     all_goals first|omega|exact hg|exact hn|contradiction|(have:=(b.getD i 0).toNat_lt;omega)|trace_state
   · have hg:=hend hi
     rw [← hg];have hon:=h3.on;simp only at hon
     (repeat' (first|refine ja ?_ ?_|intro _))<;>first|omega|exact jb|exact jc ‹False›|skip
     all_goals first|omega|rfl|contradiction|exact⟨by omega,by omega⟩|trace_state
 · have h0:=h1
   refine orcL ?_;go_invoke;refine orcS (by kernel_rfl) ?_
   simp only [zi,Nat.reduceAdd];subst hI;simp only [nrmA,nrmB,nrlB,reduceCtorEq,HO.abs.injEq,Gh.rq.injEq,Rq.mk.injEq]
   by_cases hi:i<b.length
   · have hg:=hgo hi
     have hn:=hrn hi
     (repeat' (first|refine ja ?_ ?_|intro _))<;>first|omega|exact jb|exact jc ‹False›|skip
     all_goals first|omega|exact hg|exact hn|contradiction|(have:=(b.getD i 0).toNat_lt;omega)|trace_state
   · have hg:=hend hi
     rw [← hg];have hon:=h3.on;simp only at hon
     (repeat' (first|refine ja ?_ ?_|intro _))<;>first|omega|exact jb|exact jc ‹False›|skip
     all_goals first|omega|rfl|contradiction|exact⟨by omega,by omega⟩|trace_state
 · have h0:=h1
   refine orcL ?_;go_invoke;refine orcS (by kernel_rfl) ?_
   simp only [zi,Nat.reduceAdd];subst hI;simp only [nrmA,nrmB,nrlB,reduceCtorEq,HO.abs.injEq,Gh.rq.injEq,Rq.mk.injEq]
   by_cases hi:i<b.length
   · have hg:=hgo hi
     have hn:=hrn hi
     (repeat' (first|refine ja ?_ ?_|intro _))<;>first|omega|exact jb|exact jc ‹False›|skip
     all_goals first|omega|exact hg|exact hn|contradiction|(have:=(b.getD i 0).toNat_lt;omega)|trace_state
   · have hg:=hend hi
     rw [← hg];have hon:=h3.on;simp only at hon
     (repeat' (first|refine ja ?_ ?_|intro _))<;>first|omega|exact jb|exact jc ‹False›|skip
     all_goals first|omega|rfl|contradiction|exact⟨by omega,by omega⟩|trace_state
theorem zow (ln:Ln) (p:Int) (m tg:Str) (hm:Int) (hf:List Fld) (hl le:Int) (ch:Ch) (out:List Evt) (b:Str) (hneed:rqN0 ⟨ln,p,⟨m,tg,hm,hf,hl⟩,le,some ch,true,out⟩ b):Spc Tryz.prog 77 [.v (.one (.ptr 0 0)),.v (.one (.p (.list .byte b)))] [.abs (.rq ⟨ln,p,⟨m,tg,hm,hf,hl⟩,le,some ch,true,out⟩)] (.ret (.v (.one (.row 1)))) [.abs (.rq ((zM ⟨ln,p,⟨m,tg,hm,hf,hl⟩,le,some ch,true,out⟩ b))),.row .evt 138 ((yI (zM ⟨ln,p,⟨m,tg,hm,hf,hl⟩,le,some ch,true,out⟩ b).out))]:=by
 obtain⟨n,hI0,hnb⟩:=hneed;have hat:=zke hI0 b
 refine spH Tryz.func77 (by kernel_rfl) { cfgQ with fz:=[],keep:=some [0,1,4,6,10,11,12]} [uy,uw,xH,xG] (by kernel_rfl) ?_
 intro I X hI hX
 refine orcL ?_;go_invoke;refine orcS (by kernel_rfl) ?_
 simp only [zi,Nat.reduceAdd]
 have hr:({ (⟨ln,p,⟨m,tg,hm,hf,hl⟩,le,some ch,true,out⟩:Rq) with out:=[]}:Rq)=(⟨ln,p,⟨m,tg,hm,hf,hl⟩,le,some ch,true,[]⟩:Rq):=rfl
 unfold rqAt at hat;unfold zM;rw [hr] at hat ⊢
 refine lpH hI [uy,uw,xH,xG] hX [0,1,10,11,12] (fun(g:Nat × Rq)=>match g with|(i,r)=>i≤b.length∧r=uT (⟨ln,p,⟨m,tg,hm,hf,hl⟩,le,some ch,true,[]⟩:Rq) (b.take i)∧RqI r (n+i)∧zF r.out≤i) (fun(g:Nat × Rq)=>match g with|(i,r)=>⟨[(0,.v (.one (.ptr 0 0))),(1,.v (.one (.p (.list .byte b)))),(10,.v (.one (.p (.list .byte b)))),(11,.v (.one (.p (.int .i64 ((I.len (α:=UInt8) b)))))),(12,.v (.one (.p (.int .i64 i))))],[.abs (.rq r)],25,none⟩) (fun(g:Nat × Rq)=>match g with|(i,r)=>b.length - i) (0,(⟨ln,p,⟨m,tg,hm,hf,hl⟩,le,some ch,true,[]⟩:Rq)) (by kernel_rfl) (by kernel_rfl) ?_ ?_
 · exact⟨jM _,rfl,hat.1,hat.2⟩
 rintro⟨i,⟨ln2,p2,⟨m2,t2,hm2,hf2,hl2⟩,le2,ck2,own2,out2⟩⟩ ⟨h1,h2,h3,h4⟩ A hA;simp only at hA h1 h2 h3 h4
 have hrn:i<b.length→rqN _:=fun h=>⟨n+i,by omega,h3⟩
 have hgo:i<b.length→_:=fun h=>hA (i+1,rqF ⟨ln2,p2,⟨m2,t2,hm2,hf2,hl2⟩,le2,ck2,own2,out2⟩ (b.getD i 0)) ⟨by simp only;omega,by simp only;rw [zdL _ _ h,← h2],by simp only;exact zmi h3 _,by simp only;have:=zaA ⟨ln2,p2,⟨m2,t2,hm2,hf2,hl2⟩,le2,ck2,own2,out2⟩ (b.getD i 0);simp only at this;omega⟩ (by simp only;omega)
 have hend: ¬ i<b.length→_:=fun h=>h2.trans (by rw [jq (by omega)])
 rcases ck2 with _|ch2<;>rcases own2 with _|_
 · have h0:=h1
   refine orcL ?_;go_invoke;refine orcS (by kernel_rfl) ?_
   simp only [zi,Nat.reduceAdd];subst hI;simp only [nrmA,nrmB,nrlB,reduceCtorEq,HO.abs.injEq,Gh.rq.injEq,Rq.mk.injEq]
   by_cases hi:i<b.length
   · have hg:=hgo hi
     have hn:=hrn hi
     (repeat' (first|refine ja ?_ ?_|intro _))<;>first|omega|exact jb|exact jc ‹False›|skip
     all_goals first|omega|exact hg|exact hn|contradiction|(have:=(b.getD i 0).toNat_lt;omega)|trace_state
   · have hg:=hend hi
     rw [← hg];have hon:=h3.on;simp only at hon
     (repeat' (first|refine ja ?_ ?_|intro _))<;>first|omega|exact jb|exact jc ‹False›|skip
     all_goals first|omega|rfl|contradiction|exact⟨by omega,by omega⟩|trace_state
 · have h0:=h1
   refine orcL ?_;go_invoke;refine orcS (by kernel_rfl) ?_
   simp only [zi,Nat.reduceAdd];subst hI;simp only [nrmA,nrmB,nrlB,reduceCtorEq,HO.abs.injEq,Gh.rq.injEq,Rq.mk.injEq]
   by_cases hi:i<b.length
   · have hg:=hgo hi
     have hn:=hrn hi
     (repeat' (first|refine ja ?_ ?_|intro _))<;>first|omega|exact jb|exact jc ‹False›|skip
     all_goals first|omega|exact hg|exact hn|contradiction|(have:=(b.getD i 0).toNat_lt;omega)|trace_state
   · have hg:=hend hi
     rw [← hg];have hon:=h3.on;simp only at hon
     (repeat' (first|refine ja ?_ ?_|intro _))<;>first|omega|exact jb|exact jc ‹False›|skip
     all_goals first|omega|rfl|contradiction|exact⟨by omega,by omega⟩|trace_state
 · have h0:=h1
   refine orcL ?_;go_invoke;refine orcS (by kernel_rfl) ?_
   simp only [zi,Nat.reduceAdd];subst hI;simp only [nrmA,nrmB,nrlB,reduceCtorEq,HO.abs.injEq,Gh.rq.injEq,Rq.mk.injEq]
   by_cases hi:i<b.length
   · have hg:=hgo hi
     have hn:=hrn hi
     (repeat' (first|refine ja ?_ ?_|intro _))<;>first|omega|exact jb|exact jc ‹False›|skip
     all_goals first|omega|exact hg|exact hn|contradiction|(have:=(b.getD i 0).toNat_lt;omega)|trace_state
   · have hg:=hend hi
     rw [← hg];have hon:=h3.on;simp only at hon
     (repeat' (first|refine ja ?_ ?_|intro _))<;>first|omega|exact jb|exact jc ‹False›|skip
     all_goals first|omega|rfl|contradiction|exact⟨by omega,by omega⟩|trace_state
 · have h0:=h1
   refine orcL ?_;go_invoke;refine orcS (by kernel_rfl) ?_
   simp only [zi,Nat.reduceAdd];subst hI;simp only [nrmA,nrmB,nrlB,reduceCtorEq,HO.abs.injEq,Gh.rq.injEq,Rq.mk.injEq]
   by_cases hi:i<b.length
   · have hg:=hgo hi
     have hn:=hrn hi
     (repeat' (first|refine ja ?_ ?_|intro _))<;>first|omega|exact jb|exact jc ‹False›|skip
     all_goals first|omega|exact hg|exact hn|contradiction|(have:=(b.getD i 0).toNat_lt;omega)|trace_state
   · have hg:=hend hi
     rw [← hg];have hon:=h3.on;simp only at hon
     (repeat' (first|refine ja ?_ ?_|intro _))<;>first|omega|exact jb|exact jc ‹False›|skip
     all_goals first|omega|rfl|contradiction|exact⟨by omega,by omega⟩|trace_state
theorem zox (ln:Ln) (p:Int) (m tg:Str) (hm:Int) (hf:List Fld) (hl le:Int) (ch:Ch) (out:List Evt) (b:Str) (hneed:rqN0 ⟨ln,p,⟨m,tg,hm,hf,hl⟩,le,some ch,false,out⟩ b):Spc Tryz.prog 77 [.v (.one (.ptr 0 0)),.v (.one (.p (.list .byte b)))] [.abs (.rq ⟨ln,p,⟨m,tg,hm,hf,hl⟩,le,some ch,false,out⟩)] (.ret (.v (.one (.row 1)))) [.abs (.rq ((zM ⟨ln,p,⟨m,tg,hm,hf,hl⟩,le,some ch,false,out⟩ b))),.row .evt 138 ((yI (zM ⟨ln,p,⟨m,tg,hm,hf,hl⟩,le,some ch,false,out⟩ b).out))]:=by
 obtain⟨n,hI0,hnb⟩:=hneed;have hat:=zke hI0 b
 refine spH Tryz.func77 (by kernel_rfl) { cfgQ with fz:=[],keep:=some [0,1,4,6,10,11,12]} [uy,uw,xH,xG] (by kernel_rfl) ?_
 intro I X hI hX
 refine orcL ?_;go_invoke;refine orcS (by kernel_rfl) ?_
 simp only [zi,Nat.reduceAdd]
 have hr:({ (⟨ln,p,⟨m,tg,hm,hf,hl⟩,le,some ch,false,out⟩:Rq) with out:=[]}:Rq)=(⟨ln,p,⟨m,tg,hm,hf,hl⟩,le,some ch,false,[]⟩:Rq):=rfl
 unfold rqAt at hat;unfold zM;rw [hr] at hat ⊢
 refine lpH hI [uy,uw,xH,xG] hX [0,1,10,11,12] (fun(g:Nat × Rq)=>match g with|(i,r)=>i≤b.length∧r=uT (⟨ln,p,⟨m,tg,hm,hf,hl⟩,le,some ch,false,[]⟩:Rq) (b.take i)∧RqI r (n+i)∧zF r.out≤i) (fun(g:Nat × Rq)=>match g with|(i,r)=>⟨[(0,.v (.one (.ptr 0 0))),(1,.v (.one (.p (.list .byte b)))),(10,.v (.one (.p (.list .byte b)))),(11,.v (.one (.p (.int .i64 ((I.len (α:=UInt8) b)))))),(12,.v (.one (.p (.int .i64 i))))],[.abs (.rq r)],25,none⟩) (fun(g:Nat × Rq)=>match g with|(i,r)=>b.length - i) (0,(⟨ln,p,⟨m,tg,hm,hf,hl⟩,le,some ch,false,[]⟩:Rq)) (by kernel_rfl) (by kernel_rfl) ?_ ?_
 · exact⟨jM _,rfl,hat.1,hat.2⟩
 rintro⟨i,⟨ln2,p2,⟨m2,t2,hm2,hf2,hl2⟩,le2,ck2,own2,out2⟩⟩ ⟨h1,h2,h3,h4⟩ A hA;simp only at hA h1 h2 h3 h4
 have hrn:i<b.length→rqN _:=fun h=>⟨n+i,by omega,h3⟩
 have hgo:i<b.length→_:=fun h=>hA (i+1,rqF ⟨ln2,p2,⟨m2,t2,hm2,hf2,hl2⟩,le2,ck2,own2,out2⟩ (b.getD i 0)) ⟨by simp only;omega,by simp only;rw [zdL _ _ h,← h2],by simp only;exact zmi h3 _,by simp only;have:=zaA ⟨ln2,p2,⟨m2,t2,hm2,hf2,hl2⟩,le2,ck2,own2,out2⟩ (b.getD i 0);simp only at this;omega⟩ (by simp only;omega)
 have hend: ¬ i<b.length→_:=fun h=>h2.trans (by rw [jq (by omega)])
 rcases ck2 with _|ch2<;>rcases own2 with _|_
 · have h0:=h1
   refine orcL ?_;go_invoke;refine orcS (by kernel_rfl) ?_
   simp only [zi,Nat.reduceAdd];subst hI;simp only [nrmA,nrmB,nrlB,reduceCtorEq,HO.abs.injEq,Gh.rq.injEq,Rq.mk.injEq]
   by_cases hi:i<b.length
   · have hg:=hgo hi
     have hn:=hrn hi
     (repeat' (first|refine ja ?_ ?_|intro _))<;>first|omega|exact jb|exact jc ‹False›|skip
     all_goals first|omega|exact hg|exact hn|contradiction|(have:=(b.getD i 0).toNat_lt;omega)|trace_state
   · have hg:=hend hi
     rw [← hg];have hon:=h3.on;simp only at hon
     (repeat' (first|refine ja ?_ ?_|intro _))<;>first|omega|exact jb|exact jc ‹False›|skip
     all_goals first|omega|rfl|contradiction|exact⟨by omega,by omega⟩|trace_state
 · have h0:=h1
   refine orcL ?_;go_invoke;refine orcS (by kernel_rfl) ?_
   simp only [zi,Nat.reduceAdd];subst hI;simp only [nrmA,nrmB,nrlB,reduceCtorEq,HO.abs.injEq,Gh.rq.injEq,Rq.mk.injEq]
   by_cases hi:i<b.length
   · have hg:=hgo hi
     have hn:=hrn hi
     (repeat' (first|refine ja ?_ ?_|intro _))<;>first|omega|exact jb|exact jc ‹False›|skip
     all_goals first|omega|exact hg|exact hn|contradiction|(have:=(b.getD i 0).toNat_lt;omega)|trace_state
   · have hg:=hend hi
     rw [← hg];have hon:=h3.on;simp only at hon
     (repeat' (first|refine ja ?_ ?_|intro _))<;>first|omega|exact jb|exact jc ‹False›|skip
     all_goals first|omega|rfl|contradiction|exact⟨by omega,by omega⟩|trace_state
 · have h0:=h1
   refine orcL ?_;go_invoke;refine orcS (by kernel_rfl) ?_
   simp only [zi,Nat.reduceAdd];subst hI;simp only [nrmA,nrmB,nrlB,reduceCtorEq,HO.abs.injEq,Gh.rq.injEq,Rq.mk.injEq]
   by_cases hi:i<b.length
   · have hg:=hgo hi
     have hn:=hrn hi
     (repeat' (first|refine ja ?_ ?_|intro _))<;>first|omega|exact jb|exact jc ‹False›|skip
     all_goals first|omega|exact hg|exact hn|contradiction|(have:=(b.getD i 0).toNat_lt;omega)|trace_state
   · have hg:=hend hi
     rw [← hg];have hon:=h3.on;simp only at hon
     (repeat' (first|refine ja ?_ ?_|intro _))<;>first|omega|exact jb|exact jc ‹False›|skip
     all_goals first|omega|rfl|contradiction|exact⟨by omega,by omega⟩|trace_state
 · have h0:=h1
   refine orcL ?_;go_invoke;refine orcS (by kernel_rfl) ?_
   simp only [zi,Nat.reduceAdd];subst hI;simp only [nrmA,nrmB,nrlB,reduceCtorEq,HO.abs.injEq,Gh.rq.injEq,Rq.mk.injEq]
   by_cases hi:i<b.length
   · have hg:=hgo hi
     have hn:=hrn hi
     (repeat' (first|refine ja ?_ ?_|intro _))<;>first|omega|exact jb|exact jc ‹False›|skip
     all_goals first|omega|exact hg|exact hn|contradiction|(have:=(b.getD i 0).toNat_lt;omega)|trace_state
   · have hg:=hend hi
     rw [← hg];have hon:=h3.on;simp only at hon
     (repeat' (first|refine ja ?_ ?_|intro _))<;>first|omega|exact jb|exact jc ‹False›|skip
     all_goals first|omega|rfl|contradiction|exact⟨by omega,by omega⟩|trace_state
def WN (I:Alg):KU
 |[.v (.one (.ptr 0 0)),.v (.one (.p (.list .byte b)))],[.abs (.rq q)]=>(fun(b:Str)=>(some (.one ⟨I.hid (rqN0 q b),(.ret (.v (.one (.row 1)))),[.abs (.rq (I.hid (zM q b))),.row .evt 138 (I.hid (yI (zM q b).out))]⟩):Option CT)) b
 |_,_=>none
theorem zfC:zu Tryz.prog 77 (WN alg):=by
 intro args hp r h;unfold WN at h;split at h<;>cases h
 rename_i b q;simp only [CT.Good,zh];intro hneed;obtain⟨ln,p,⟨m,tg,hm,hf,hl⟩,le,ck,own,out⟩:=q
 cases ck with
 | none=>cases own with
   |true=>exact zoy ln p m tg hm hf hl le out b hneed
   |false=>exact zoz ln p m tg hm hf hl le out b hneed
 | some ch=>cases own with
   |true=>exact zow ln p m tg hm hf hl le ch out b hneed
   |false=>exact zox ln p m tg hm hf hl le ch out b hneed
def zaz:Know Tryz.prog:=⟨77,WN,zfC⟩
def zay:Know Tryz.prog:=⟨77,fun I=>zx I (WN I),zf zfC⟩
end Go.Proofs.YtnpmenpjagcheaaGreatDoor
namespace Go.Proofs.YtnpmenpjagcheaaGreatDoor
open Go Go.Sep Go.Ab
set_option maxRecDepth 100000
def EvO (l:List Evt):Prop:=∀ e ∈ l,FsOk e.head.fields
theorem U6 {a b:List Evt} (h:EvO a) (k:EvO b):EvO (a++b):=fun e m=>(List.mem_append.1 m).elim (h e) (k e)
theorem Qv:FsOk []:=⟨by decide,fun f h=>by cases h⟩
theorem zbo {e:Evt} (h:FsOk e.head.fields):EvO [e]:=fun x m=>by rw [List.mem_singleton.1 m];exact h
theorem zqD {o:List Evt} {e:Evt} (h:EvO (o++[e])):EvO (uH o e):=by
 rcases List.eq_nil_or_concat o with rfl|⟨z,x,rfl⟩
 · exact h
 · rw [List.concat_eq_append] at h ⊢
   rw [xq]
   split
   · exact U6 (fun y m=>h y (by simp [m])) (zbo Qv)
   · exact h
theorem zlo: ∀ (l o:List Evt),EvO (o++l)→EvO (l.foldl uH o)
 |[],o,h=>by rw [List.append_nil] at h;exact h
 | e::l,o,h=>by
   rw [List.foldl_cons];refine zlo l _ ?_
   rw [show o++e::l=(o++[e])++l by simp] at h
   exact U6 (zqD fun y m=>h y (List.mem_append_left _ m)) (fun y m=>h y (List.mem_append_right _ m))
theorem zst {q:Rq} (h:EvO q.out) (k:FsOk q.h.fields):EvO (yA q).1.out:=by
 unfold yA tK
 repeat' split
 all_goals first
  |exact h
  |exact U6 (U6 h (zbo k)) (zbo Qv)
  |exact U6 h (zbo k)
theorem zsn {q:Rq} (h:EvO q.out) (k:FsOk q.h.fields) (s:Str):EvO (zO q s).1.out:=by
 have hd:=zst h k;unfold zO
 repeat' split
 all_goals first|exact hd|exact h
theorem zyR {q:Rq} (h:EvO q.out) (k:FsOk q.h.fields) (c:UInt8):EvO (rqF q c).out:=by
 have hl:=zsn (q:= { q with ln:=(lnF q.ln c).1}) h k (lnF q.ln c).2.1
 have h1: ∀ (o:List Evt) (e:Evt),EvO o→e.head=hd0→EvO (o++[e]):=fun o e a b=>U6 a (zbo (by rw [b];exact Qv))
 have hd:EvO (if(chF (ckOf q) c).2.1≠[] then q.out++[evB (chF (ckOf q) c).2.1] else q.out):=by
  split
  · exact h1 _ _ h rfl
  · exact h
 unfold rqF
 split
 · split
   · exact h1 _ _ (h1 _ _ h rfl) rfl
   · exact h1 _ _ h rfl
 split
 · split
   · exact h1 _ _ h rfl
   split
   · exact h1 _ _ hd rfl
   · exact hd
 split
 · split
   · exact h1 _ _ h rfl
   split
   · split
     · exact h1 _ _ hl rfl
     · exact hl
   · exact h
 · exact h
theorem zoo: ∀ (b:Str) (q:Rq) (i:Nat),RqI q i→i+b.length≤1000000→EvO q.out→EvO (uT q b).out
 |[],q,i,_,_,h=>h
 | c::b,q,i,hi,hb,h=>by
   rw [jh] at hb
   exact zoo b _ (i+1) (zmi hi c) (by omega) (zyR h ⟨by have:=hi.fl;omega,fun f m=>by have:=hi.ff f m;omega⟩ c)
end Go.Proofs.YtnpmenpjagcheaaGreatDoor
namespace Go.Proofs.YtnpmenpjagcheaaGreatDoor
open Go Go.Sep Go.Ab
set_option maxRecDepth 100000
theorem zh7: ∀ (b:Str) (q:Rq) (i:Nat),RqI q i→RqI (uT q b) (i+b.length)
 |[],q,i,h=>h
 | c::b,q,i,h=>by
   have:=zh7 b _ _ (zmi h c)
   rw [jh,show i+(b.length+1)=i+1+b.length by omega];exact this
theorem zfz: ∀ (b:Str) (q:Rq),zF (uT q b).out≤zF q.out+b.length
 |[],q=>jL _
 | c::b,q=>by
   have h1:=zfz b (rqF q c);have h2:=zaA q c;rw [jh];have:uT q (c::b)=uT (rqF q c) b:=rfl;rw [this];omega
end Go.Proofs.YtnpmenpjagcheaaGreatDoor
namespace Go.Proofs.YtnpmenpjagcheaaGreatDoor
open Go Go.Sep Go.Ab
set_option maxRecDepth 100000
end Go.Proofs.YtnpmenpjagcheaaGreatDoor
namespace Go.Proofs.YtnpmenpjagcheaaGreatDoor
open Go Go.Sep Go.Ab
set_option maxRecDepth 100000
end Go.Proofs.YtnpmenpjagcheaaGreatDoor
namespace Go.Proofs.YtnpmenpjagcheaaGreatDoor
open Go Go.Sep Go.Ab
set_option maxRecDepth 100000
end Go.Proofs.YtnpmenpjagcheaaGreatDoor
namespace Go.Proofs.YtnpmenpjagcheaaGreatDoor
open Go Go.Sep Go.Ab
def SOk (q:Sto) (m:Int):Prop:=zI q.l q.n∧q.b.length≤100000∧q.n≤m∧0≤q.s∧q.s≤q.b.length
theorem yT {q:Sto} {m m':Int} (h:SOk q m) (k:m≤m'):SOk q m':=⟨h.1,h.2.1,by have:=h.2.2.1;omega,h.2.2.2⟩
theorem zuV (l:List Upl) (n:Int) (b:Str) (e:Ent):b.length≤(wrtB l n b e).length:=by unfold wrtB;split<;>simp
theorem zfk {q:Sto} {m:Int} (h:SOk q m) (e:Ent):SOk (wsS q e) (m+1):=by
 obtain⟨h1,h2,h3,h4,h5⟩:=h;have:=zur q e;have hb:=zuV q.l q.n q.b e
 exact⟨QY h1 _ _,Zb _ h2,by omega,h4,by show q.s≤((wrtB q.l q.n q.b e).length:Int);omega⟩
theorem Z7 {q:Sto} {m:Int} (h:SOk q m) {e:Ent} (he:e.kind≠1):SOk (wsS q e) m:=by
 have h1:=zfk h e;have:(wsS q e).n=q.n:=qM he
 exact⟨h1.1,h1.2.1,by rw [this];exact h.2.2.1,h1.2.2.2⟩
theorem Tz {q:Sto} {m:Int} (h:SOk q m):SOk (syS q) m:=⟨h.1,h.2.1,h.2.2.1,Int.natCast_nonneg _,Int.le_refl _⟩
theorem zjL {m:Int} {c:Prop} [Decidable c] {a b:TA} (ha:SOk a.q m) (hb:SOk b.q m):SOk (if c then a else b).q m:=by split<;>assumption
theorem zfl {q:Sto} {k:Int} (h:SOk q k) (m t:Str) (f:List Fld) (body:Str):SOk (yU q m t f body).q (k+1):=by
 have h0:SOk q (k+1):=yT h (by omega)
 have hc:SOk (wK q f).q (k+1):=by
  unfold wK
  repeat' with_reducible refine zjL ?_ ?_
  all_goals first|exact h0|exact Tz (zfk h _)
 have hd: ∀ u,SOk (zbK q u).q (k+1):=fun u=>by
  unfold zbK
  exact zjL h0 (Tz (Z7 h0 (by simp)))
 have hp: ∀ u,SOk (uD q u f body).q (k+1):=fun u=>by
  unfold uD
  have h1:SOk (wsS q (apE u.id body)) (k+1):=Z7 h0 (by simp [apE])
  have h2: ∀ z,SOk (wsS (wsS q (apE u.id body)) ⟨3,u.id,z,[]⟩) (k+1):=fun z=>Z7 h1 (by simp)
  repeat' with_reducible refine zjL ?_ ?_
  all_goals first|exact h0|exact h1|exact Tz h1|exact Tz (h2 _)|exact h2 _
 unfold yU
 repeat' with_reducible refine zjL ?_ ?_
 all_goals first|exact h0|exact hc|exact hd _|exact hp _
theorem zjM {q:Sto} {m:Int} (h:SOk q m) (p:Prt):SOk (qF q p) (m+1):=by
 have hap: ∀ {x:Sto} {k:Int},SOk x k→SOk (apQ x (q.n+1) 0 p.bytes) k:=fun h=>by
  unfold apQ
  split
  · exact h
  · exact Z7 h (show(2:Int)≠1 by decide)
 unfold qF
 split
 · exact zfk h _
 · split
   · exact Z7 (hap (zfk h _)) (show(4:Int)≠1 by decide)
   · exact hap (zfk h _)
theorem zfm: ∀ (ids:List Int) {q:Sto} {m:Int},SOk q m→SOk (VQ q ids) m
 |[],_,_,h=>h
 |k::r,_,_,h=>zfm r (Z7 h (show(4:Int)≠1 by decide))
theorem zaq: ∀ (ps:List Prt) {q:Sto} {m:Int} (ids:List Int) (t:Str),SOk q m→SOk (rD q ids t ps).q (m+ps.length)
 |[],q,m,ids,t,h=>yT (Tz h) (by simp)
 | p ::r,q,m,ids,t,h=>by
   unfold rD
   split
   · exact yT (zaq r ids t h) (by simp;omega)
   · split
     · exact yT (Tz (zfm ids (zjM h p))) (by simp;omega)
     · exact yT (zaq r _ _ (zjM h p)) (by simp;omega)
theorem zvf {q:Sto} {k:Int} (h:SOk q k) (m t:Str) (f:List Fld) (body:Str):SOk (ansG q m t f body).q (k+12):=by
 have h0:SOk q (k+12):=yT h (by omega)
 have hp:=(rX f body).1;unfold ansG
 split
 · exact yT (zfl h m t f body) (by omega)
 · split
   · exact h0
   · split
     · exact h0
     · unfold XP
       split
       · exact h0
       · split
         · exact h0
         · exact yT (zaq _ _ _ h) (by omega)
def k3 (e:Evt):Bool:=decide (e.kind=3)
def cnt3 (l:List Evt):Nat:=(l.filter k3).length
theorem Xj (a b:List Evt):cnt3 (a++b)=cnt3 a+cnt3 b:=by unfold cnt3;simp
theorem VL (x:GE) (a b:List Evt):evsG x (a++b)=evsG (evsG x a) b:=List.foldl_append
def EOk (x:GE) (m:Int) (k:Nat):Prop:=SOk x.q m∧FsOk x.h.fields∧x.b.length≤k
theorem zx6 {x:GE} {m:Int} {k:Nat} (h:EOk x m k) {e:Evt} (he:FsOk e.head.fields):EOk (evG x e) (m+12 * cnt3 [e]) (k+e.bytes.length):=by
 obtain⟨h1,h2,h3⟩:=h
 have hm:SOk x.q (m+12 * cnt3 [e]):=yT h1 (by omega)
 unfold evG
 split
 · exact⟨hm,he,jM _⟩
 · split
   · exact⟨hm,h2,by simp only [jk];omega⟩
   · split
     · rename_i hk
       have:cnt3 [e]=1:=by simp [cnt3,k3,hk]
       rw [this]
       exact⟨zvf h1 _ _ _ _,h2,by simp only;omega⟩
     · split
       · exact⟨hm,h2,by simp only;omega⟩
       · exact⟨hm,h2,by omega⟩
theorem ziP: ∀ (l:List Evt) {x:GE} {m:Int} {k:Nat},EOk x m k→EvO l→EOk (evsG x l) (m+12 * cnt3 l) (k+zF l)
 |[],x,m,k,h,_=>by show EOk x (m+12 * ((0:Nat):Int)) (k+0);simpa using h
 | e::l,x,m,k,h,ho=>by
   have h1:=ziP l (zx6 h (ho e List.mem_cons_self)) fun y hy=>ho y (List.mem_cons_of_mem _ hy);have e1:cnt3 (e::l)=cnt3 [e]+cnt3 l:=Xj [e] l
   have e2:zF (e::l)=e.bytes.length+zF l:=by simp [zF]
   rw [e1,e2,show m+12 * ((cnt3 [e]+cnt3 l:Nat):Int)=m+12 * (cnt3 [e]:Int)+12 * (cnt3 l:Int) by omega,← Nat.add_assoc]
   exact h1
theorem zsZ (o:List Evt) (e:Evt):(uH o e).filter k3=o.filter k3++[e].filter k3:=by
 rcases List.eq_nil_or_concat o with rfl|⟨z,x,rfl⟩
 · rfl
 · rw [List.concat_eq_append,xq]
   split
   · rename_i h
     simp [k3,h.1,h.2,evB]
   · rw [List.filter_append]
theorem zkN: ∀ (l o:List Evt),(l.foldl uH o).filter k3=o.filter k3++l.filter k3
 |[],o=>by simp
 |e::l,o=>by rw [List.foldl_cons,zkN l,zsZ,jo,← List.filter_append];rfl
theorem zq5 (l:List Evt):cnt3 (yI l)=cnt3 l:=congrArg List.length (zkN l [])
theorem zeN (e:Evt) (h:e.kind≠3):cnt3 [e]=0:=by simp [cnt3,k3,h]
theorem zyT (q:Rq) (c:UInt8):cnt3 (rqF q c).out≤cnt3 q.out+1:=by
 have hb: ∀ (o:List Evt) (s:Str),cnt3 (o++[evB s])=cnt3 o:=fun o s=>by rw [Xj,zeN _ (show(2:Int)≠3 by decide)];rfl
 have hh: ∀ (o:List Evt) (s:Hd),cnt3 (o++[evH s])=cnt3 o:=fun o s=>by rw [Xj,zeN _ (show(1:Int)≠3 by decide)];rfl
 have hf: ∀ (o:List Evt) (s:Int),cnt3 (o++[evF s])=cnt3 o:=fun o s=>by rw [Xj,zeN _ (show(4:Int)≠3 by decide)];rfl
 have he: ∀ (o:List Evt),cnt3 (o++[evE])=cnt3 o+1:=fun o=>by rw [Xj];rfl
 have hd: ∀ q:Rq,cnt3 (yA q).1.out≤cnt3 q.out+1:=fun q=>by
  unfold yA tK
  repeat' split
  all_goals first|omega|(simp only [hb,hh,hf,he];omega)
 have hl: ∀ (q:Rq) (s:Str),cnt3 (zO q s).1.out≤cnt3 q.out+1:=fun q s=>by
  have:=hd q;unfold zO
  repeat' split
  all_goals first|exact this|(simp only;omega)
 have hL:=hl { q with ln:=(lnF q.ln c).1} (lnF q.ln c).2.1
 simp only at hL;unfold rqF tK wU
 repeat' split
 all_goals first|omega|(simp only [hb,hh,hf,he];omega)
theorem zoq: ∀ (b:Str) (q:Rq),cnt3 (uT q b).out≤cnt3 q.out+b.length
 |[],q=>jL _
 | c::b,q=>by
   have h1:=zoq b (rqF q c);have h2:=zyT q c;have:uT q (c::b)=uT (rqF q c) b:=rfl;rw [this,jh];omega
def mayW (w:Bool):List Evt→Prop
 |[]=>True
 |e::l=>(e.kind=2→w=true)∧mayW (if e.kind=1 then true else if e.kind=3 then false else w) l
def behW (w:Bool) (l:List Evt):Bool:=l.foldl (fun w e=>if e.kind=1 then true else if e.kind=3 then false else w) w
theorem Ub (w:Bool) (a b:List Evt):behW w (a++b)=behW (behW w a) b:=List.foldl_append
theorem rY: ∀ (a b:List Evt) (w:Bool),mayW w (a++b)↔mayW w a∧mayW (behW w a) b
 |[],b,w=>by simp [mayW,behW]
 | e::a,b,w=>by
   simp only [List.cons_append,mayW,rY a b];exact and_assoc.symm
theorem zuK (x:GE) (l:List Evt):(evsG x l).w=behW x.w l:=by
 induction l generalizing x with
 |nil=>rfl
 | cons e l ih=>
   show(evsG (evG x e) l).w=_
   rw [ih]
   have:(evG x e).w=(if e.kind=1 then true else if e.kind=3 then false else x.w):=by
    unfold evG
    repeat' split
    all_goals first|rfl|(exfalso;omega)|simp_all
   rw [this];rfl
def MW (w:Bool) (q:Rq):Prop:=mayW w q.out∧(q.pos=2∨q.pos=3→behW w q.out=true)
theorem zkz {w:Bool} {o:List Evt} (h:mayW w o) {e:Evt} (he:e.kind≠2):mayW w (o++[e]):=(rY _ _ _).2 ⟨h,fun k=>absurd k he,jb⟩
theorem zpn {w:Bool} {o:List Evt} (h:mayW w o) (k:behW w o=true) (s:Str):mayW w (o++[evB s])∧behW w (o++[evB s])=true:=⟨(rY _ _ _).2 ⟨h,fun _=>k,jb⟩,by rw [Ub,k];rfl⟩
theorem zlU (w:Bool) (o:List Evt) (h:Hd):behW w (o++[evH h])=true:=by rw [Ub];rfl
theorem zvM {w:Bool} {q:Rq} (h:mayW w q.out) (hp:q.pos=0∨q.pos=1):MW w (yA q).1:=by
 have hh: ∀ d,mayW w (q.out++[evH d]):=fun d=>zkz h (show(1:Int)≠2 by decide)
 have h0: ¬ (q.pos=2∨q.pos=3):=by omega
 unfold yA tK
 repeat' split
 · exact⟨h,fun k=>absurd k h0⟩
 · exact⟨h,fun k=>absurd k h0⟩
 · exact⟨zkz (hh _) (show(3:Int)≠2 by decide),fun k=>absurd (show(0:Int)=2∨(0:Int)=3 from k) (by decide)⟩
 · exact⟨hh _,fun _=>zlU _ _ _⟩
 · exact⟨hh _,fun _=>zlU _ _ _⟩
theorem zvL {w:Bool} {q:Rq} (h:mayW w q.out) (hp:q.pos=0∨q.pos=1) (s:Str):MW w (zO q s).1:=by
 have h0: ¬ (q.pos=2∨q.pos=3):=by omega
 unfold zO
 split
 · split
   · exact⟨h,fun k=>absurd k h0⟩
   · split
     · exact⟨h,fun k=>absurd (show(1:Int)=2∨(1:Int)=3 from k) (by decide)⟩
     · split
       · exact⟨h,fun k=>absurd k h0⟩
       · exact⟨h,fun k=>absurd k h0⟩
 · split
   · exact zvM h hp
   · split
     · exact⟨h,fun k=>absurd k h0⟩
     · exact⟨h,fun k=>absurd k h0⟩
theorem zih {w:Bool} {q:Rq} (h:mayW w q.out) (c:Int):MW w (wU q c):=⟨zkz h (show(4:Int)≠2 by decide),fun k=>absurd (show(4:Int)=2∨(4:Int)=3 from k) (by decide)⟩
theorem zup {w:Bool} {q:Rq} (h:mayW w q.out):MW w (tK q):=⟨zkz h (show(3:Int)≠2 by decide),fun k=>absurd (show(0:Int)=2∨(0:Int)=3 from k) (by decide)⟩
theorem mw_f {w:Bool} {q:Rq} (h:MW w q) (c:UInt8):MW w (rqF q c):=by
 unfold rqF
 split
 · rename_i hp
   have hb:=zpn h.1 (h.2 (.inl hp)) [c]
   split
   · exact zup hb.1
   · exact⟨hb.1,fun _=>hb.2⟩
 · split
   · rename_i hp
     have hk:=h.2 (.inr hp);have hb:=zpn h.1 hk (chF (ckOf q) c).2.1
     have hd:mayW w (if(chF (ckOf q) c).2.1≠[] then q.out++[evB (chF (ckOf q) c).2.1] else q.out)∧behW w (if(chF (ckOf q) c).2.1≠[] then q.out++[evB (chF (ckOf q) c).2.1] else q.out)=true:=by
      split
      · exact hb
      · exact⟨h.1,hk⟩
     split
     · exact zih h.1 _
     · split
       · exact zup hd.1
       · exact⟨hd.1,fun _=>hd.2⟩
   · split
     · rename_i hp
       split
       · exact zih h.1 _
       · split
         · have hl:=zvL (q:= { q with ln:=(lnF q.ln c).1}) h.1 hp (lnF q.ln c).2.1
           split
           · exact zih hl.1 _
           · exact hl
         · exact h
     · exact h
theorem zuo {w:Bool}: ∀ (b:Str) {q:Rq},MW w q→MW w (uT q b)
 |[],_,h=>h
 |c::b,_,h=>zuo b (mw_f h c)
theorem zsN {w:Bool} {o:List Evt} {e:Evt} (h:mayW w (o++[e])):mayW w (uH o e)∧behW w (uH o e)=behW w (o++[e]):=by
 rcases List.eq_nil_or_concat o with rfl|⟨z,x,rfl⟩
 · exact⟨h,rfl⟩
 · rw [List.concat_eq_append] at h ⊢
   rw [xq]
   split
   · rename_i hk
     have h1:=(rY _ _ _).1 h;have h2:=(rY _ _ _).1 h1.1;refine⟨(rY _ _ _).2 ⟨h2.1,fun _=>h2.2.1 hk.2,jb⟩,?_⟩;simp only [Ub]
     simp [behW,evB,hk.1,hk.2]
   · exact⟨h,rfl⟩
theorem zkA {w:Bool}: ∀ (l o:List Evt),mayW w (o++l)→mayW w (l.foldl uH o)∧behW w (l.foldl uH o)=behW w (o++l)
 |[],o,h=>by rw [List.append_nil] at h ⊢;exact⟨h,rfl⟩
 | e::l,o,h=>by
   have e1:o++e::l=(o++[e])++l:=by simp
   rw [e1] at h ⊢;have h1:=(rY _ _ _).1 h;have h2:=zsN h1.1
   have h3:=zkA l (uH o e) ((rY _ _ _).2 ⟨h2.1,by rw [h2.2];exact h1.2⟩)
   exact⟨h3.1,by rw [List.foldl_cons,h3.2,Ub,h2.2,← Ub]⟩
theorem zps: ∀ {l:List Evt} {w:Bool} (_:mayW w l) {i:Nat} (hi:i<l.length),l[i].kind=2→behW w (l.take i)=true
 |e::l,w,h,0,_,k=>h.1 k
 |e::l,w,h,i+1,hi,k=>zps (l:=l) h.2 (by simpa using hi) k
def CnI (c:Cn) (k:Nat):Prop:=RqI { c.q with out:=[]} k∧FsOk c.h.fields∧c.body.length≤k∧(c.q.pos=2∨c.q.pos=3→c.own=true)
theorem zm1:CnI cn0 0:=⟨zyQ,Qv,jL _,fun _=>rfl⟩
theorem ZC {c:Cn} {k k':Nat} (h:CnI c k) (hk:k≤k'):CnI c k':=⟨zj9 h.1 hk,h.2.1,Nat.le_trans h.2.2.1 hk,h.2.2.2⟩
theorem zuH {c:Cn} {k:Nat} (h:CnI c k) {b:Str} (hb:k+b.length≤1000000):EvO (yI (zM c.q b).out)∧zF (yI (zM c.q b).out)≤b.length∧cnt3 (yI (zM c.q b).out)≤b.length∧(yI (zM c.q b).out).length≤4 * (k+b.length):=by
 have h1:EvO (zM c.q b).out:=zoo b _ k h.1 hb (fun e m=>by cases m)
 have h2:zF (zM c.q b).out≤0+b.length:=zfz b _;have h3:=za0 (zM c.q b).out;have h4:cnt3 (zM c.q b).out≤0+b.length:=zoq b _;have h5:(zM c.q b).out.length≤4 * (k+b.length):=(zh7 b _ k h.1).on;have h6:=za1 (zM c.q b).out
 exact⟨zlo _ [] h1,by omega,by rw [zq5];omega,by omega⟩
theorem zuG {c:Cn} {k:Nat} (h:CnI c k) (b:Str):mayW c.own (yI (zM c.q b).out)∧((zM c.q b).pos=2∨(zM c.q b).pos=3→behW c.own (yI (zM c.q b).out)=true):=by
 have h1:MW c.own (zM c.q b):=zuo b ⟨jb,h.2.2.2⟩;have h2:=zkA (zM c.q b).out [] h1.1;exact⟨h2.1,fun k=>h2.2.trans (h1.2 k)⟩
theorem zx0 {q:Sto} {m:Int} {c:Cn} {k:Nat} (hq:SOk q m) (h:CnI c k) {b:Str} (hb:k+b.length≤1000000):SOk (fedE q c b).q (m+12 * b.length)∧CnI (fedC q c b) (k+b.length):=by
 obtain⟨h1,h2,h3,h4⟩:=zuH h hb;have h5:=ziP _ (x:=⟨q,c.h,c.body,c.live,c.own,[]⟩) ⟨hq,h.2.1,h.2.2.1⟩ h1
 refine⟨yT h5.1 (by omega),zov (zh7 b _ k h.1) (by simp),h5.2.1,?_,fun kp=> ?_⟩
 · have:=h5.2.2
   show(fedE q c b).b.length≤_
   unfold fedE;omega
 · exact(zuK _ _).trans ((zuG h b).2 kp)
end Go.Proofs.YtnpmenpjagcheaaGreatDoor
namespace Go.Proofs.YtnpmenpjagcheaaGreatDoor
open Go Go.Sep Go.Ab
set_option maxRecDepth 100000
def Vz (I:Alg):KU
 |[.v (.agg [.p (.int .i64 st),.p (.list .fld fs),.p (.list .byte b)])],[]=>(fun(fs:List Fld) (b:Str)=>(some (.one ⟨I.hid ((fs.length≤100∧∀ f ∈ fs,f.name.length≤1000000∧f.value.length≤1000000)∧b.length≤9000),(.ret (.v (.one (.p (.list .byte (I.hid (writeT st fs b))))))),[]⟩):Option CT)) fs b
 |_,_=>none
theorem zgI:zu Tryz.prog 95 (Vz alg):=by
 intro args hp r h;unfold Vz at h;split at h<;>cases h
 rename_i st fs b
 revert fs;intro(fs:List Fld)
 simp only [CT.Good,zh];intro hneed
 refine spH Tryz.func95 (by kernel_rfl) { cfgG with rl:=[0],keep:=some [0,1,2,3]} [zoX,zoW] (by kernel_rfl) ?_
 intro I X hI hX
 refine orcL ?_;go_invoke;refine orcS (by kernel_rfl) ?_
 simp only [zi,Nat.reduceAdd];subst hI;simp only [nrmA,nrmB,nrlB,reduceCtorEq,V0.agg.injEq];exact hneed
def zp5:Know Tryz.prog:=⟨95,Vz,zgI⟩
def zp4:Know Tryz.prog:=⟨95,fun I=>zx I (Vz I),zf zgI⟩
def Qo (I:Alg):KU
 |[.v (.one (.p (.str t)))],[]=>(fun(t:Str)=>(some (.one ⟨I.hid (True),(.ret (.v (.one (.p (.bool (I.hid (zfS t))))))),[]⟩):Option CT)) t
 |_,_=>none
theorem zkZ:zu Tryz.prog 129 (Qo alg):=by
 intro args hp r h;unfold Qo at h;split at h<;>cases h
 rename_i t;simp only [CT.Good,zh];intro _;generalize hr:zfS t=r;unfold zfS at hr
 refine spH Tryz.func129 (by kernel_rfl) { cfgT with keep:=some [0,2]} [xA,xw,zrR,zrQ] (by kernel_rfl) ?_
 intro I X hI hX
 refine orcL ?_;go_invoke;refine orcS (by kernel_rfl) ?_
 simp only [zi,Nat.reduceAdd];subst hI;rw [show([47,102,105,108,101,115]:Str)=rC from rfl]
 try rw [show([47,102,105,108,101,115,47]:Str)=wP from rfl]
 simp only [nrmA,nrmB,nrlB,reduceCtorEq,V0.agg.injEq]
 by_cases h1:t=rC
 · rw [decide_eq_true h1,Bool.true_or] at hr
   subst hr;simp only [nrmA,nrmB,nrlB,reduceCtorEq,h1];exact⟨fun _=>jb,fun h=>h.elim⟩
 · rw [decide_eq_false h1,Bool.false_or] at hr
   simp only [nrmA,nrmB,nrlB,reduceCtorEq,h1]
   exact⟨fun h=>h.elim,fun _=>by simpa using hr⟩
def ztc:Know Tryz.prog:=⟨129,Qo,zkZ⟩
def ztb:Know Tryz.prog:=⟨129,fun I=>zx I (Qo I),zf zkZ⟩
theorem U3: ∀ (ps:List Prt) (q:Sto) (ids:List Int) (t:Str),(∀ p ∈ ps,p.file.length≤40)→(rD q ids t ps).r.body.length≤t.length+60 * ps.length
 |[],_,_,_,_=>Nat.le_add_right _ _
 | p :: r,q,ids,t,h=>by
   have h1:=fun q ids t=>U3 r q ids t fun x hx=>h x (List.mem_cons_of_mem _ hx);have h2:=h p List.mem_cons_self;have h3:=yE (q.n+1);unfold rD
   split
   · have:=h1 q ids t;simp only [jh];omega
   · split
     · simp [Xq]
     · have:=h1 (qF q p) (ids++[q.n+1]) (znr t (q.n+1) p)
       have e:(znr t (q.n+1) p).length≤t.length+60:=by
        unfold znr;simp only [jk,jh,ji];omega
       simp only [jh];omega
def FF (l:List Fld):Prop:=∀ x ∈ l,x.name.length≤1000000∧x.value.length≤1000000
theorem zts {c:Prop} [Decidable c] {a b:TA} (ha:FF a.fs) (hb:FF b.fs):FF (if c then a else b).fs:=by split<;>assumption
theorem Za:FF []:=fun x h=>by cases h
theorem vY {a b:Str} {l:List Fld} (h1:a.length≤1000000) (h2:b.length≤1000000) (h:FF l):FF (⟨a,b⟩::l):=fun y hy=>by
 rcases List.mem_cons.1 hy with rfl|hy
 · exact⟨h1,h2⟩
 · exact h y hy
theorem zeB (n:Int):(decS n).length≤1000000:=by have:=yE n;omega
theorem zn3 {q:Sto} (h:zI q.l q.n) (m t:Str) (f:List Fld) (body:Str):FF (yU q m t f body).fs:=by
 have hc:FF (wK q f).fs:=by
  unfold wK
  repeat' with_reducible refine zts ?_ ?_
  all_goals first
   |exact Za
   |exact vY (by decide) (by have:=yE (q.n+1);simp only [jk,wP,jh,ji];omega) Za
 have hd: ∀ u,FF (zbK q u).fs:=fun u=>by
  unfold zbK;exact zts Za Za
 have hp: ∀ u,FF (uD q u f body).fs:=fun u=>by
  unfold uD
  repeat' with_reducible refine zts ?_ ?_
  all_goals first
   |exact Za
   |exact vY (by decide) (zeB _) Za
 have ht: ∀ u:Upl,u.note.length≤1000000→FF (zbC u):=fun u hu=>by
  unfold zbC lenF
  refine vY (by decide) (zeB _) ?_
  split
  · refine vY (by decide) (by decide) (vY (by decide) (by decide) ?_)
    split
    · exact Za
    · exact vY (by decide) hu Za
  · refine vY (by decide) (zeB _) (vY (by decide) (by decide) ?_)
    split
    · exact Za
    · exact vY (by decide) hu Za
 have hg: ∀ id,(getU q.l id).note.length≤1000000:=fun id=>by
  unfold getU
  split
  · rename_i hk
    have:=(h.each _ (wY hk)).nl;unfold yB at this
    exact Nat.le_trans this (by decide)
  · exact jM _
 unfold yU
 repeat' with_reducible refine zts ?_ ?_
 all_goals first
  |exact Za
  |exact hc
  |exact hd _
  |exact hp _
  |exact ht _ (hg _)
  |exact vY (by decide) (by decide) Za
  |exact vY (by decide) (by decide) (vY (by decide) (zeB _) (vY (by decide) (by decide) Za))
def ROk (r:Rpl):Prop:=(r.fields.length≤100∧∀ f ∈ r.fields,f.name.length≤1000000∧f.value.length≤1000000)∧r.body.length≤9000
theorem zkh (st:Int) (b:Str) (h:b.length≤9000):ROk ⟨st,[],b⟩:=⟨⟨jM _,fun f h=>by cases h⟩,h⟩
theorem zrr {q:Sto} (h:zI q.l q.n) {m t:Str} {f:List Fld} (hf:FOk f) (body:Str):ROk (ansG q m t f body).r:=by
 have h0: ∀ st,ROk (Xq st):=fun st=>zkh st [] (by decide)
 have hs:=rX f body;unfold ansG
 split
 · refine⟨⟨?_,fun x hx=> ?_⟩,jM _⟩
   · show(resT::(yU q m t f body).fs).length≤100
     have:=Uu q m t f body;simp only [jh];omega
   · rcases List.mem_cons.1 (show x ∈ resT::(yU q m t f body).fs from hx) with rfl|hx
     · exact⟨by decide,by decide⟩
     · exact zn3 h m t f body x hx
 · split
   · exact h0 _
   · split
     · exact h0 _
     · unfold XP
       split
       · exact h0 _
       · split
         · exact h0 _
         · have:=U3 (sQ f body).1 q [] [] hs.2.1
           refine⟨⟨by rw [Xh];decide,fun x hx=>by rw [Xh] at hx;cases hx⟩,?_⟩
           simp only [ji] at this;omega
def Y8 (I:Alg):KU
 |[.v (.one (.ptr 0 0)),.v (.agg [.p (.str m),.p (.str t),.p (.int .i64 mi),.p (.list .fld f),.p (.int .i64 le)]),.v (.one (.p (.list .byte body)))],[.obj 72 [.ptr 1 0,.ptr 2 0,.ptr 3 0,.ptr 4 0,.ptr 5 0],.pack [.obj 78 [.ptr 1 0,.ptr 2 0],.pack [.obj 106 [.row 1,.p (.int .i64 n)],.row .upl 82 l],.pack [.obj 108 [.row 1,.p (.int .i64 s)],.row .byte 5 b]],.abs (.cn c0),.abs (.cn c1),.abs (.cn c2),.abs (.cn c3)]=>(fun(l:List Upl) (b m t:Str) (f:List Fld) (body:Str)=>(some (.one ⟨I.hid (FOk f∧zI l n∧n≤200000 - 20∧b.length≤100000∧body.length≤30000),(.ret (.v (.agg [.p (.int .i64 (I.hid ((ansG ⟨l,n,b,s⟩ m t f body).r.status))),.p (.list .fld (I.hid ((ansG ⟨l,n,b,s⟩ m t f body).r.fields))),.p (.list .byte (I.hid ((ansG ⟨l,n,b,s⟩ m t f body).r.body)))]))),[.obj 72 [.ptr 1 0,.ptr 2 0,.ptr 3 0,.ptr 4 0,.ptr 5 0],.pack [.obj 78 [.ptr 1 0,.ptr 2 0],.pack [.obj 106 [.row 1,.p (.int .i64 (I.hid ((ansG ⟨l,n,b,s⟩ m t f body).q.n)))],.row .upl 82 (I.hid ((ansG ⟨l,n,b,s⟩ m t f body).q.l))],.pack [.obj 108 [.row 1,.p (.int .i64 (I.hid ((ansG ⟨l,n,b,s⟩ m t f body).q.s)))],.row .byte 5 (I.hid ((ansG ⟨l,n,b,s⟩ m t f body).q.b))]],.abs (.cn c0),.abs (.cn c1),.abs (.cn c2),.abs (.cn c3)]⟩):Option CT)) l b m t f body
 |_,_=>none
set_option maxHeartbeats 1000000 in
theorem zcz:zu Tryz.prog 96 (Y8 alg):=by
 intro args hp r h;unfold Y8 at h;split at h<;>cases h
 rename_i m t mi f le body n l s b c0 c1 c2 c3
 revert f l;intro(f:List Fld) (l:List Upl)
 simp only [CT.Good,zh];intro hneed;obtain⟨hf,hs,hn,hb,hbo⟩:=hneed;generalize hr:ansG ⟨l,n,b,s⟩ m t f body=r;obtain⟨⟨st,fs,bd⟩,⟨l',n',b',s'⟩⟩:=r
 have hff:(XP ⟨l,n,b,s⟩ f body).r.fields=[]:=by
  unfold XP
  split
  · rfl
  · split
    · rfl
    · exact Xh _ _ _ _
 unfold ansG rplT Xq at hr
 refine spH Tryz.func96 (by kernel_rfl) { cfgG with keep:=some [0,1,2,4,6]} [znG,znF,ztc,ztb,qY,qX,zte,ztd] (by kernel_rfl) ?_
 intro I X hI hX
 refine orcL ?_;go_invoke;refine orcS (by kernel_rfl) ?_
 simp only [zi,Nat.reduceAdd];rw [show([47,102,111,114,109]:Str)=zxT from rfl,show([80,79,83,84]:Str)=zbG from rfl]
 have hh: ∀ {α:Type} (y:α),I.hid y=y:=fun y=>by subst hI;rfl
 simp only [hh];generalize zfS t=o at *;generalize yU ⟨l,n,b,s⟩ m t f body=x at *;generalize XP ⟨l,n,b,s⟩ f body=y at *;obtain⟨x1,x2,⟨x3,x4,x5,x6⟩⟩:=x;obtain⟨⟨y1,y2,y3⟩,⟨y4,y5,y6,y7⟩⟩:=y;subst hI;dsimp only at hff hr ⊢;subst hff;simp only [nrmA,nrmB,nrlB,reduceCtorEq,V0.agg.injEq,HO.pack.injEq,HO.obj.injEq]
 (repeat' (first|refine ja ?_ ?_|intro _))<;>first|omega|exact jb|exact jc ‹False›|skip
 all_goals first
  |omega
  |with_reducible assumption
  |exact jM _
  |exact hf.1
  |(exact(hf.2 _ ‹_›).1)
  |(exact(hf.2 _ ‹_›).2)
  |(((repeat(first|rewrite [if_pos (by first|omega|assumption|(simp only [*,or_self,or_true,true_or,or_false,false_or,jf,jg,jd,je,and_self,and_true,true_and];done)|(simp only [*];omega)|(simp [*];done)|(simp [*];omega))] at hr|rewrite [if_neg (by first|omega|assumption|(simp only [*,or_self,or_true,true_or,or_false,false_or,jf,jg,jd,je,and_self,and_true,true_and];done)|(simp only [*];omega)|(simp [*];done)|(simp [*];omega))] at hr)));simp only [GA.mk.injEq,Rpl.mk.injEq,Sto.mk.injEq] at hr;obtain⟨⟨rfl,rfl,rfl⟩,rfl,rfl,rfl,rfl⟩:=hr;rfl)
def zmI:Know Tryz.prog:=⟨96,Y8,zcz⟩
def zmH:Know Tryz.prog:=⟨96,fun I=>zx I (Y8 I),zf zcz⟩
end Go.Proofs.YtnpmenpjagcheaaGreatDoor
namespace Go.Proofs.YtnpmenpjagcheaaGreatDoor
open Go Go.Sep Go.Ab
set_option maxRecDepth 100000
def insC (j:Nat) (c d1 d2 d3:Cn):List HO:=match j with
 |0=>[.abs (.cn c),.abs (.cn d1),.abs (.cn d2),.abs (.cn d3)]
 |1=>[.abs (.cn d1),.abs (.cn c),.abs (.cn d2),.abs (.cn d3)]
 |2=>[.abs (.cn d1),.abs (.cn d2),.abs (.cn c),.abs (.cn d3)]
 |_=>[.abs (.cn d1),.abs (.cn d2),.abs (.cn d3),.abs (.cn c)]
def selC (j:Nat) (c0 c1 c2 c3:Cn) (k:Cn→Cn→Cn→Cn→Option CT):Option CT:=match j with
 |0=>k c0 c1 c2 c3
 |1=>k c1 c0 c2 c3
 |2=>k c2 c0 c1 c3
 |_=>k c3 c0 c1 c2
def isJ (k:Int) (j:Nat):Bool:=match k with|.ofNat m=>Nat.beq m j|.negSucc _=>false
theorem zpO {k:Int} {j:Nat} (h:isJ k j=true):k=(j:Int):=by
 cases k with
 |ofNat m=>cases jI h;rfl
 |negSucc m=>cases h
set_option maxHeartbeats 4000000 in
theorem zwb (j:Nat) (hj:j<4) (l:List Upl) (n:Int) (b:Str) (s:Int) (c d1 d2 d3:Cn) (ek:Int) (em et:Str) (ei:Int) (ef:List Fld) (en:Int) (eb ex ey ez ew:Str) (ec:Int) (hneed:zI l n∧n≤200000 - 20∧b.length≤100000∧FOk c.h.fields∧c.body.length≤30000∧eb.length≤1000000∧(ek=2→c.own=true)):Spc Tryz.prog 78 [.v (.one (.ptr 0 0)),.v (.one (.ptr (j+2) 0)),.v (.agg [.p (.int .i64 ek),.p (.str em),.p (.str et),.p (.int .i64 ei),.p (.list .fld ef),.p (.int .i64 en),.p (.list .byte eb),.p (.str ex),.p (.str ey),.p (.str ez),.p (.nl ew),.p (.int .i64 ec)])] (.obj 72 [.ptr 1 0,.ptr 2 0,.ptr 3 0,.ptr 4 0,.ptr 5 0]:: .pack [.obj 78 [.ptr 1 0,.ptr 2 0],.pack [.obj 106 [.row 1,.p (.int .i64 n)],.row .upl 82 l],.pack [.obj 108 [.row 1,.p (.int .i64 s)],.row .byte 5 b]]::insC j c d1 d2 d3) (.ret (.v (.one (.p (.list .byte ((evG ⟨⟨l,n,b,s⟩,c.h,c.body,c.live,c.own,[]⟩ ⟨ek,⟨em,et,ei,ef,en⟩,eb,⟨ex,ey,ez,ew⟩,ec⟩).o)))))) (.obj 72 [.ptr 1 0,.ptr 2 0,.ptr 3 0,.ptr 4 0,.ptr 5 0]:: .pack [.obj 78 [.ptr 1 0,.ptr 2 0],.pack [.obj 106 [.row 1,.p (.int .i64 ((evG ⟨⟨l,n,b,s⟩,c.h,c.body,c.live,c.own,[]⟩ ⟨ek,⟨em,et,ei,ef,en⟩,eb,⟨ex,ey,ez,ew⟩,ec⟩).q.n))],.row .upl 82 ((evG ⟨⟨l,n,b,s⟩,c.h,c.body,c.live,c.own,[]⟩ ⟨ek,⟨em,et,ei,ef,en⟩,eb,⟨ex,ey,ez,ew⟩,ec⟩).q.l)],.pack [.obj 108 [.row 1,.p (.int .i64 ((evG ⟨⟨l,n,b,s⟩,c.h,c.body,c.live,c.own,[]⟩ ⟨ek,⟨em,et,ei,ef,en⟩,eb,⟨ex,ey,ez,ew⟩,ec⟩).q.s))],.row .byte 5 ((evG ⟨⟨l,n,b,s⟩,c.h,c.body,c.live,c.own,[]⟩ ⟨ek,⟨em,et,ei,ef,en⟩,eb,⟨ex,ey,ez,ew⟩,ec⟩).q.b)]]::insC j (⟨c.q,((evG ⟨⟨l,n,b,s⟩,c.h,c.body,c.live,c.own,[]⟩ ⟨ek,⟨em,et,ei,ef,en⟩,eb,⟨ex,ey,ez,ew⟩,ec⟩).h),((evG ⟨⟨l,n,b,s⟩,c.h,c.body,c.live,c.own,[]⟩ ⟨ek,⟨em,et,ei,ef,en⟩,eb,⟨ex,ey,ez,ew⟩,ec⟩).b),((evG ⟨⟨l,n,b,s⟩,c.h,c.body,c.live,c.own,[]⟩ ⟨ek,⟨em,et,ei,ef,en⟩,eb,⟨ex,ey,ez,ew⟩,ec⟩).i),((evG ⟨⟨l,n,b,s⟩,c.h,c.body,c.live,c.own,[]⟩ ⟨ek,⟨em,et,ei,ef,en⟩,eb,⟨ex,ey,ez,ew⟩,ec⟩).w)⟩) d1 d2 d3):=by
 obtain⟨hs,hn,hb,hf,hbo,heb,hw⟩:=hneed;obtain⟨q,⟨m,t,mi,f,le⟩,cb,li,w⟩:=c;dsimp only at hf hbo hw ⊢;have ha:=zrr (q:=⟨l,n,b,s⟩) hs (m:=m) (t:=t) hf cb;generalize hr:evG ⟨⟨l,n,b,s⟩,⟨m,t,mi,f,le⟩,cb,li,w,[]⟩ ⟨ek,⟨em,et,ei,ef,en⟩,eb,⟨ex,ey,ez,ew⟩,ec⟩=r;obtain⟨⟨l',n',b',s'⟩,⟨m',t',mi',f',le'⟩,cb',li',w',o'⟩:=r;unfold evG zwn Xq zbw at hr
 refine spH Tryz.func78 (by kernel_rfl) { cfgG with rl:=[0],fz:=[96],keep:=some [0,1,2,5,6,8]} [qY,qX,zp5,zp4,zmI,zmH] (by kernel_rfl) ?_
 intro I X hI hX
 obtain rfl|rfl|rfl|rfl:j=0∨j=1∨j=2∨j=3:=by omega
 all_goals cases w
 all_goals
  refine orcL ?_;go_invoke;refine orcS (by kernel_rfl) ?_
  simp only [zi,Nat.reduceAdd]
  have hh: ∀ {α:Type} (y:α),I.hid y=y:=fun y=>by subst hI;rfl
  simp only [hh];generalize ansG ⟨l,n,b,s⟩ m t f cb=y at *;obtain⟨⟨y1,y2,y3⟩,⟨y4,y5,y6,y7⟩⟩:=y;subst hI;dsimp only at hr ha ⊢;simp only [nrmA,nrmB,nrlB,reduceCtorEq,insC,V0.agg.injEq,HO.pack.injEq,HO.obj.injEq,HO.abs.injEq,Gh.cn.injEq,Cn.mk.injEq,Hd.mk.injEq]
  (repeat' (first|refine ja ?_ ?_|intro _))<;>first|omega|exact jb|exact jc ‹False›|skip
  all_goals first
   |omega
   |with_reducible assumption
   |exact jM _
   |exact ha.1.1
   |(exact(ha.1.2 _ ‹_›).1)
   |(exact(ha.1.2 _ ‹_›).2)
   |exact ha.2
   |exact hf.1
   |(exact(hf.2 _ ‹_›).1)
   |(exact(hf.2 _ ‹_›).2)
   |(exact(List.not_mem_nil ‹_›).elim)
   |(exact absurd (hw (by with_reducible assumption)) (by decide))
   |(((repeat(first|rewrite [if_pos (by first|omega|assumption|(simp only [*,or_self,or_true,true_or,or_false,false_or,jf,jg,jd,je,and_self,and_true,true_and];done)|(simp only [*];omega)|(simp [*];done)|(simp [*];omega))] at hr|rewrite [if_neg (by first|omega|assumption|(simp only [*,or_self,or_true,true_or,or_false,false_or,jf,jg,jd,je,and_self,and_true,true_and];done)|(simp only [*];omega)|(simp [*];done)|(simp [*];omega))] at hr)));simp only [GE.mk.injEq,Hd.mk.injEq,Sto.mk.injEq,List.nil_append] at hr;obtain⟨⟨rfl,rfl,rfl,rfl⟩,⟨rfl,rfl,rfl,rfl,rfl⟩,rfl,rfl,rfl,rfl⟩:=hr;rfl)
def wO (j:Nat) (I:Alg) (args:List D) (hp:List HO):Option CT:=match args,hp with
 | [.v (.one (.ptr 0 0)),.v (.one (.ptr k 0)),.v (.agg [.p (.int .i64 ek),.p (.str em),.p (.str et),.p (.int .i64 ei),.p (.list .fld ef),.p (.int .i64 en),.p (.list .byte eb),.p (.str ex),.p (.str ey),.p (.str ez),.p (.nl ew),.p (.int .i64 ec)])],[.obj 72 [.ptr 1 0,.ptr 2 0,.ptr 3 0,.ptr 4 0,.ptr 5 0],.pack [.obj 78 [.ptr 1 0,.ptr 2 0],.pack [.obj 106 [.row 1,.p (.int .i64 n)],.row .upl 82 l],.pack [.obj 108 [.row 1,.p (.int .i64 s)],.row .byte 5 b]],.abs (.cn c0),.abs (.cn c1),.abs (.cn c2),.abs (.cn c3)]=>(match Nat.beq k (j+2) with
   |true=>(fun(l:List Upl) (b:Str) (em:Str) (et:Str) (ef:List Fld) (eb:Str) (ex:Str) (ey:Str) (ez:Str) (ew:Str)=>(selC j c0 c1 c2 c3 fun c d1 d2 d3=>some (.one ⟨I.hid (zI l n∧n≤200000 - 20∧b.length≤100000∧FOk c.h.fields∧c.body.length≤30000∧eb.length≤1000000∧(ek=2→c.own=true)),(.ret (.v (.one (.p (.list .byte (I.hid ((evG ⟨⟨l,n,b,s⟩,c.h,c.body,c.live,c.own,[]⟩ ⟨ek,⟨em,et,ei,ef,en⟩,eb,⟨ex,ey,ez,ew⟩,ec⟩).o))))))),(.obj 72 [.ptr 1 0,.ptr 2 0,.ptr 3 0,.ptr 4 0,.ptr 5 0]:: .pack [.obj 78 [.ptr 1 0,.ptr 2 0],.pack [.obj 106 [.row 1,.p (.int .i64 (I.hid ((evG ⟨⟨l,n,b,s⟩,c.h,c.body,c.live,c.own,[]⟩ ⟨ek,⟨em,et,ei,ef,en⟩,eb,⟨ex,ey,ez,ew⟩,ec⟩).q.n)))],.row .upl 82 (I.hid ((evG ⟨⟨l,n,b,s⟩,c.h,c.body,c.live,c.own,[]⟩ ⟨ek,⟨em,et,ei,ef,en⟩,eb,⟨ex,ey,ez,ew⟩,ec⟩).q.l))],.pack [.obj 108 [.row 1,.p (.int .i64 (I.hid ((evG ⟨⟨l,n,b,s⟩,c.h,c.body,c.live,c.own,[]⟩ ⟨ek,⟨em,et,ei,ef,en⟩,eb,⟨ex,ey,ez,ew⟩,ec⟩).q.s)))],.row .byte 5 (I.hid ((evG ⟨⟨l,n,b,s⟩,c.h,c.body,c.live,c.own,[]⟩ ⟨ek,⟨em,et,ei,ef,en⟩,eb,⟨ex,ey,ez,ew⟩,ec⟩).q.b))]]::insC j (⟨c.q,(I.hid ((evG ⟨⟨l,n,b,s⟩,c.h,c.body,c.live,c.own,[]⟩ ⟨ek,⟨em,et,ei,ef,en⟩,eb,⟨ex,ey,ez,ew⟩,ec⟩).h)),(I.hid ((evG ⟨⟨l,n,b,s⟩,c.h,c.body,c.live,c.own,[]⟩ ⟨ek,⟨em,et,ei,ef,en⟩,eb,⟨ex,ey,ez,ew⟩,ec⟩).b)),(I.hid ((evG ⟨⟨l,n,b,s⟩,c.h,c.body,c.live,c.own,[]⟩ ⟨ek,⟨em,et,ei,ef,en⟩,eb,⟨ex,ey,ez,ew⟩,ec⟩).i)),(I.hid ((evG ⟨⟨l,n,b,s⟩,c.h,c.body,c.live,c.own,[]⟩ ⟨ek,⟨em,et,ei,ef,en⟩,eb,⟨ex,ey,ez,ew⟩,ec⟩).w))⟩) d1 d2 d3)⟩):Option CT)) l b em et ef eb ex ey ez ew
   |false=>none)
 |_,_=>none
theorem uI (j:Nat) (hj:j<4):zu Tryz.prog 78 (wO j alg):=by
 intro args hp r h;unfold wO at h
 split at h
 · split at h
   · rename_i hk
     first|(cases zpO hk)|(cases jI hk)
     obtain rfl|rfl|rfl|rfl:j=0∨j=1∨j=2∨j=3:=by omega
     all_goals(cases h;exact fun hn=>zwb _ (by decide) _ _ _ _ _ _ _ _ _ _ _ _ _ _ _ _ _ _ _ _ hn)
   · cases h
 · cases h
def UU:Know Tryz.prog:=⟨78,wO 0,uI 0 (by decide)⟩
def UR:Know Tryz.prog:=⟨78,fun I=>zx I (wO 0 I),zf (uI 0 (by decide))⟩
def UQ:Know Tryz.prog:=⟨78,wO 1,uI 1 (by decide)⟩
def UO:Know Tryz.prog:=⟨78,fun I=>zx I (wO 1 I),zf (uI 1 (by decide))⟩
def UN:Know Tryz.prog:=⟨78,wO 2,uI 2 (by decide)⟩
def UM:Know Tryz.prog:=⟨78,fun I=>zx I (wO 2 I),zf (uI 2 (by decide))⟩
def UL:Know Tryz.prog:=⟨78,wO 3,uI 3 (by decide)⟩
def UK:Know Tryz.prog:=⟨78,fun I=>zx I (wO 3 I),zf (uI 3 (by decide))⟩
end Go.Proofs.YtnpmenpjagcheaaGreatDoor
namespace Go.Proofs.YtnpmenpjagcheaaGreatDoor
open Go Go.Sep Go.Ab
theorem ze6 {r:Rpl} (h:ROk r):(zbw r).length≤30000:=by
 unfold zbw writeT
 split
 · rename_i hc
   have hw:XY r.status≠[]:=fun e=>by unfold Q7 at hc;rw [if_pos e] at hc;exact absurd hc (by decide)
   have h1:=(XW hw).2.2;have h2:=yE r.status;have h3:=yE (r.body.length:Int);have h4:=qZ r.fields;have h5:=h.1.1;have h6:=h.2;simp only [zgl,zdj,jk,jh,ji];omega
 · exact jM _
theorem zwu (x:GE) (e:Evt):evG x e=⟨(evG ⟨x.q,x.h,x.b,x.i,x.w,[]⟩ e).q,(evG ⟨x.q,x.h,x.b,x.i,x.w,[]⟩ e).h,(evG ⟨x.q,x.h,x.b,x.i,x.w,[]⟩ e).b,(evG ⟨x.q,x.h,x.b,x.i,x.w,[]⟩ e).i,(evG ⟨x.q,x.h,x.b,x.i,x.w,[]⟩ e).w,x.o++(evG ⟨x.q,x.h,x.b,x.i,x.w,[]⟩ e).o⟩:=by
 unfold evG
 repeat' split
 all_goals simp
theorem zx5 {x:GE} (h1:zI x.q.l x.q.n) (h2:FsOk x.h.fields) (e:Evt):(evG ⟨x.q,x.h,x.b,x.i,x.w,[]⟩ e).o.length≤30000:=by
 unfold evG
 repeat' split
 · exact jM _
 · exact jM _
 · exact ze6 (zrr h1 h2 _)
 · exact ze6 (zkh _ _ (jM _))
 · exact jM _
def fdK (c:Cn):Int:=if c.q.pos=4 then 18 else 0
def fdO (q:Sto) (c:Cn) (x:Str):Str:=if c.q.pos=4 then [] else(fedE q c x).o
def fdQ (q:Sto) (c:Cn) (x:Str):Sto:=if c.q.pos=4 then q else(fedE q c x).q
def fdC (q:Sto) (c:Cn) (x:Str):Cn:=if c.q.pos=4 then c else fedC q c x
def FdN (q:Sto) (c:Cn) (x:Str):Prop:=∃ (N:Nat) (m:Int),SOk q m∧CnI c N∧N+x.length≤30000∧m+12 * x.length≤199980
structure FdA (x0:GE) (J:List Evt) (i:Nat) (l:List Upl) (n:Int) (b:Str) (s:Int) (c:Cn) (o:Str) (q1:Rq):Prop where
 le:i≤J.length
 ev:(⟨⟨l,n,b,s⟩,c.h,c.body,c.live,c.own,o⟩:GE)=evsG x0 (J.take i)
 cq:c.q=q1
 ol:o.length≤30000 * i
structure FdJ (x0:GE) (J:List Evt):Prop where
 ok: ∃ (N:Nat) (m:Int),EOk x0 m N∧N+zF J≤30000∧m+12 * cnt3 J≤199980
 ob:EvO J
 mw:mayW x0.w J
 o0:x0.o=[]
 ln:J.length≤1000000
theorem ziO (J:List Evt) (i:Nat):zF (J.take i)≤zF J:=by
 have:J=J.take i++J.drop i:=(List.take_append_drop i J).symm;have h:=yh (J.take i) (J.drop i);rw [← this] at h;omega
theorem zq4 (J:List Evt) (i:Nat):cnt3 (J.take i)≤cnt3 J:=by
 have h:=Xj (J.take i) (J.drop i);rw [List.take_append_drop] at h;omega
theorem zx2 {q:Sto} {c:Cn} {x:Str} (h:FdN q c x):FdJ ⟨q,c.h,c.body,c.live,c.own,[]⟩ (yI (zM c.q x).out)∧rqN0 c.q x:=by
 obtain⟨N,m,h1,h2,h3,h4⟩:=h
 obtain⟨e1,e2,e3,e4⟩:=zuH h2 (b:=x) (by omega)
 exact⟨⟨⟨N,m,⟨h1,h2.2.1,h2.2.2.1⟩,by omega,by omega⟩,e1,(zuG h2 x).1,rfl,by omega⟩,N,h2.1,by omega⟩
theorem zza {x0:GE} {J:List Evt} (h:FdJ x0 J) (q1:Rq) {l:List Upl} {n:Int} {b:Str} {s:Int} {hd:Hd} {bd:Str} {li w:Bool} (hx:x0=⟨⟨l,n,b,s⟩,hd,bd,li,w,[]⟩):FdA x0 J 0 l n b s ⟨q1,hd,bd,li,w⟩ [] q1:=⟨jM _,by subst hx;rfl,rfl,jM _⟩
theorem zuJ {x0:GE} {J:List Evt} (hJ:FdJ x0 J) {i:Nat} {l:List Upl} {n:Int} {b:Str} {s:Int} {c:Cn} {o:Str} {q1:Rq} (h:FdA x0 J i l n b s c o q1):zI l n∧n≤200000 - 20∧b.length≤100000∧FOk c.h.fields∧c.body.length≤30000:=by
 obtain⟨N,m,h1,h2,h3⟩:=hJ.ok;have h4:=ziP (J.take i) h1 fun e he=>hJ.ob e (List.mem_of_mem_take he);rw [← h.ev] at h4;have h5:=ziO J i;have h6:=zq4 J i;obtain⟨⟨g1,g2,g3,_⟩,g4,g5⟩:=h4
 exact⟨g1,by dsimp only at g3;omega,g2,g4,by dsimp only at g5;omega⟩
theorem zy9 {x0:GE} {J:List Evt} (hJ:FdJ x0 J) {i:Nat} {l:List Upl} {n:Int} {b:Str} {s:Int} {c:Cn} {o:Str} {q1:Rq} (h:FdA x0 J i l n b s c o q1) (hi:i<J.length) (d:Evt):
  ((J.getD i d).bytes.length≤1000000∧((J.getD i d).kind=2→c.own=true))∧∀ r,evG ⟨⟨l,n,b,s⟩,c.h,c.body,c.live,c.own,[]⟩ (J.getD i d)=r→r.o.length≤30000∧FdA x0 J (i+1) r.q.l r.q.n r.q.b r.q.s ⟨c.q,r.h,r.b,r.i,r.w⟩ (o++r.o) q1:=by
 have e:J.getD i d=J[i]:=by simp [hi]
 obtain⟨N,m,h1,h2,h3⟩:=hJ.ok;have ok:=zuJ hJ h;rw [e];refine⟨⟨?_,fun k=> ?_⟩,fun r hr=>⟨?_,hi,?_,h.cq,?_⟩⟩
 · have:=VO (List.getElem_mem hi)
   omega
 · have hw:=zps hJ.mw hi k
   rw [← zuK,← h.ev] at hw;exact hw
 · rw [← hr]
   exact zx5 (x:=⟨⟨l,n,b,s⟩,c.h,c.body,c.live,c.own,[]⟩) ok.1 ok.2.2.2.1 _
 · rw [jB hi,VL,← h.ev]
   show _=evG _ _
   rw [zwu];dsimp only;rw [hr]
 · have h7:r.o.length≤30000:=by
    rw [← hr];exact zx5 (x:=⟨⟨l,n,b,s⟩,c.h,c.body,c.live,c.own,[]⟩) ok.1 ok.2.2.2.1 _
   have:=h.ol;rw [jk];omega
theorem zwm {q:Sto} {c0:Cn} {x:Str} {l:List Upl} {n:Int} {b:Str} {s:Int} {c:Cn} {o:Str} {i:Nat} (h:FdA ⟨q,c0.h,c0.body,c0.live,c0.own,[]⟩ (yI (zM c0.q x).out) i l n b s c o (zM c0.q x)) (hi: ¬ i<(yI (zM c0.q x).out).length) (hp: ¬ c0.q.pos=4):(⟨l,n,b,s⟩:Sto)=fdQ q c0 x∧c=fdC q c0 x∧o=fdO q c0 x:=by
 have e:=h.ev
 rw [jq (by omega)] at e
 have e':(⟨⟨l,n,b,s⟩,c.h,c.body,c.live,c.own,o⟩:GE)=fedE q c0 x:=e;unfold fdQ fdC fdO fedC;rw [if_neg hp,if_neg hp,if_neg hp,← e'];refine⟨rfl,?_,rfl⟩;have:=h.cq;cases c;simp only at this;rw [this]
end Go.Proofs.YtnpmenpjagcheaaGreatDoor
namespace Go.Proofs.YtnpmenpjagcheaaGreatDoor
open Go Go.Sep Go.Ab
theorem zqE (x:GE) (s t:Str):evG (evG x (evB s)) (evB t)=evG x (evB (s++t)):=by
 simp [evG,evB]
theorem zlp (x:GE) {e:Evt} (h:e.kind=2):evG x e=evG x (evB e.bytes):=by
 simp [evG,evB,h]
theorem zmV (x:GE) (o:List Evt) (e:Evt):evsG x (uH o e)=evsG x (o++[e]):=by
 rcases List.eq_nil_or_concat o with rfl|⟨z,y,rfl⟩
 · rfl
 · rw [List.concat_eq_append,xq]
   split
   · rename_i h
     rw [VL,jo,VL]
     show evG (evsG x z) (evB (y.bytes++e.bytes))=evG (evG (evsG x z) y) e
     rw [zlp _ h.1,zlp (evsG x z) h.2,zqE]
   · rfl
theorem zcT (x:GE): ∀ (l o:List Evt),evsG x (l.foldl uH o)=evsG x (o++l)
 |[],o=>by simp
 | e::l,o=>by
   rw [List.foldl_cons,zcT x l,VL,zmV,← VL];simp
theorem zqC (x:GE) (l:List Evt):evsG x (yI l)=evsG x l:=zcT x l []
theorem zfy: ∀ (b:Str) {q:Rq},q.pos=4→uT q b=q
 |[],_,_=>rfl
 | c ::b,q,h=>by
   have:rqF q c=q:=by
    unfold rqF
    rw [if_neg (by omega),if_neg (by omega),if_neg (by omega)]
   show uT (rqF q c) b=q
   rw [this];exact zfy b h
theorem zqq (q:Sto) (c:Cn) (b:Str):fedE q c b=evsG ⟨q,c.h,c.body,c.live,c.own,[]⟩ (zM c.q b).out:=zqC _ _
theorem zet {q:Sto} {c:Cn} {b:Str} (h:c.q.pos=4):fedE q c b=⟨q,c.h,c.body,c.live,c.own,[]⟩∧zM c.q b= { c.q with out:=[]}:=by
 have:zM c.q b= { c.q with out:=[]}:=zfy b (q:= { c.q with out:=[]}) h
 rw [zqq,this];exact⟨rfl,rfl⟩
def zho (c:Cn):Cn:= { c with q:=zoQ c.q}
theorem zx1 (q:Sto) (c:Cn) (b:Str):fdQ q c b=(fedE q c b).q:=by
 unfold fdQ
 split
 · rename_i h;rw [(zet h).1]
 · rfl
theorem zx3 (q:Sto) (c:Cn) (b:Str):zho (fdC q c b)=zho (fedC q c b):=by
 unfold fdC
 split
 · rename_i h
   unfold fedC;rw [(zet (q:=q) h).1,(zet (q:=q) h).2];rfl
 · rfl
theorem zyK:SOk ⟨[],0,[],0⟩ 0:=⟨zhP,by decide,by decide,by decide,by decide⟩
theorem ztQ {c d:Cn} (h:zho c=zho d) {k:Nat} (hc:CnI c k):CnI d k:=by
 obtain⟨cq,ch,cb,ci,cw⟩:=c;obtain⟨dq,dh,db,di,dw⟩:=d;simp only [zho,Cn.mk.injEq] at h;obtain⟨h1,rfl,rfl,rfl,rfl⟩:=h
 have hp:cq.pos=dq.pos:=by show(zoQ cq).pos=(zoQ dq).pos;rw [h1]
 refine⟨?_,hc.2.1,hc.2.2.1,fun k=>hc.2.2.2 (by rw [hp];exact k)⟩
 have:=hc.1
 have e:({ cq with out:=[]}:Rq)= { dq with out:=[]}:=h1
 rw [e] at this;exact this
theorem zy8 {q:Sto} {m:Int} {c:Cn} {k:Nat} (hq:SOk q m) (h:CnI c k) {b:Str} (hb:k+b.length≤1000000):SOk (fdQ q c b) (m+12 * b.length)∧CnI (fdC q c b) (k+b.length):=by
 obtain⟨h1,h2⟩:=zx0 hq h hb;rw [zx1];exact⟨h1,ztQ (zx3 q c b).symm h2⟩
end Go.Proofs.YtnpmenpjagcheaaGreatDoor
namespace Go.Proofs.YtnpmenpjagcheaaGreatDoor
open Go Go.Sep Go.Ab
def rqHd (m t:Str):Str:=m++[32]++t++[32,72,84,84,80,47,49,46,49]
def rqwC (m t:Str) (fs:List Fld) (b:Str):Int:=
 if Xt m=false then 6
 else if Lib.hasPrefix t [47]=false then 5
 else if Lib.containsAny t [32,9]=true then 5
 else if XA t=false then 5
 else if 200<(rqHd m t).length then 4
 else if 4000<b.length then 4
 else if 15<fs.length then 8
 else if 0<(valsF fs Yx).length+(valsF fs zdh).length then 12
 else if(oneF (valsF fs SB)).2≠0 then 13
 else badF fs
def rqwT (m t:Str) (fs:List Fld) (b:Str):Str:=
 if rqwC m t fs b=0 then rqHd m t++[13,10]++uX fs++zdj b.length++b else []
end Go.Proofs.YtnpmenpjagcheaaGreatDoor
namespace Go.Proofs.YtnpmenpjagcheaaGreatDoor
open Go Go.Sep Go.Ab Go.Jrn
def CanE (e:Ent):Prop:=∃ n x,(0≤x.op∧x.op≤5)∧e=zyI n x
def st (W:List Ent):List Upl × Int:=replay ([],0) W
structure Hist (q:Sto) (W:List Ent) (k:Nat):Prop where
 may: ∀ e ∈ W,mayM e=true
 bytes:q.b=qm W
 rep:st W=(q.l,q.n)
 acc: ∀ j (h:j<W.length),zdR (st (W.take j)).1 (st (W.take j)).2 W[j]=0∧CanE W[j]
 kle:k≤W.length
 sure:q.s=(qm (W.take k)).length
 b:q.b.length≤100000
theorem zpV {q:Sto} {W:List Ent} {k:Nat} (h:Hist q W k):Hist ⟨q.l,q.n,q.b,(q.b.length:Int)⟩ W W.length:=
 ⟨h.may,h.bytes,h.rep,h.acc,jL _,by rw [List.take_length];show(q.b.length:Int)=_;rw [h.bytes],h.b⟩
theorem zmD {q:Sto} {W:List Ent} {k:Nat} (h:Hist q W k) {e:Ent} (hc:CanE e) (h0:wrtC q.l q.n q.b e=0):
  Hist ⟨wrtL q.l q.n q.b e,wrtN q.l q.n q.b e,wrtB q.l q.n q.b e,q.s⟩ (W++[e]) k:=by
 obtain⟨h1,h2,h3⟩:=zc4 h0;have hrep:=h.rep;refine⟨fun x hx=> ?_,?_,?_,fun j hj=> ?_,?_,?_,?_⟩
 · rcases List.mem_append.1 hx with hx|hx
   · exact h.may x hx
   · rw [List.mem_singleton.1 hx];exact h2
 · show wrtB q.l q.n q.b e=_
   unfold wrtB;rw [if_pos h0,h.bytes,zez]
   simp [qm]
 · show st (W++[e])=(wrtL q.l q.n q.b e,wrtN q.l q.n q.b e)
   unfold st at *;rw [Uy,hrep];unfold wrtL wrtN;rw [if_pos h0,if_pos h0];rfl
 · rw [jk] at hj
   rcases Nat.lt_or_ge j W.length with hl|hl
   · rw [List.take_append_of_le_length (by omega),List.getElem_append_left hl]
     exact h.acc j hl
   · have:j=W.length:=by simp at hj;omega
     subst this
     have e1:(W++[e]).take W.length=W:=by simp
     have e2:(W++[e])[W.length]'(by simp)=e:=by simp
     rw [e1,e2,hrep];exact⟨h1,hc⟩
 · rw [jk];have:=h.kle;omega
 · show q.s=_
   rw [List.take_append_of_le_length h.kle];exact h.sure
 · show(wrtB q.l q.n q.b e).length≤100000
   exact Zb e h.b
end Go.Proofs.YtnpmenpjagcheaaGreatDoor
namespace Go.Proofs.YtnpmenpjagcheaaGreatDoor
open Go Go.Sep Go.Ab Go.Jrn
structure PO where (c:Int) (b u:Str)
structure PS where (g:GS) (t:List Int)
def ps0:PS:=⟨gs0,[]⟩
def zl6 (id:Int):Str:=[47,116,97,107,101,47]++decS id
def zpU:Fld:=⟨[72,111,115,116],[105,110,108,97,110,100]⟩
def zn5 (x:Str):List Fld:=if x=[] then [zpU] else [zpU,⟨zl2,x⟩]
def begE (id:Int):Ent:=⟨5,id,0,[]⟩
def endE (id:Int):Ent:=⟨6,id,0,[]⟩
def Z9 (q:Sto) (id:Int):Sto:=if wsC q (begE id)≠0 then wsS q (begE id) else syS (wsS q (begE id))
def zn6 (q:Sto) (id:Int):Upl:=getU (Z9 q id).l id
def Ux (q:Sto) (id:Int):PO:=
 if wsC q (begE id)≠0 then⟨wsC q (begE id),[],[]⟩
 else⟨rqwC zbG (zl6 id) (zn5 (zn6 q id).note) (zn6 q id).bytes,[],rqwT zbG (zl6 id) (zn5 (zn6 q id).note) (zn6 q id).bytes⟩
def zfs (q:Sto) (id:Int) (t:List Int):List Int:=if wsC q (begE id)≠0 then t else t++[id]
def zhH (q:Sto) (id:Int):Sto:=if wsC q (endE id)≠0 then wsS q (endE id) else syS (wsS q (endE id))
def crsQ (q:Sto) (k:Int):Sto:=⟨(crsP q.b q.s k).1,(crsP q.b q.s k).2,crsB q.b q.s k,((crsB q.b q.s k).length:Int)⟩
def GS.set (g:GS) (q:Sto):GS:= { g with q:=q}
def doG (g:GS) (x:Stp):GS:=
 if x.kind=1 then(if inG x.conn then g.put x.conn (fdC g.q (g.at x.conn) x.bytes) (fdQ g.q (g.at x.conn) x.bytes) else g)
 else if x.kind=2 then(if inG x.conn then g.put x.conn cn0 (UJ g.q (g.at x.conn)) else g)
 else if x.kind=3 then g.set (Z9 g.q x.n)
 else if x.kind=4 then g.set (zhH g.q x.n)
 else if x.kind=5 then⟨crsQ g.q x.n,cn0,cn0,cn0,cn0⟩
 else g
def doT (p:PS) (x:Stp):List Int:=if x.kind=3 then zfs p.g.q x.n p.t else p.t
def doO (g:GS) (x:Stp):PO:=
 if x.kind=1 then(if inG x.conn then⟨fdK (g.at x.conn),fdO g.q (g.at x.conn) x.bytes,[]⟩ else⟨1,[],[]⟩)
 else if x.kind=2 then⟨if inG x.conn then 0 else 1,[],[]⟩
 else if x.kind=3 then Ux g.q x.n
 else if x.kind=4 then⟨wsC g.q (endE x.n),[],[]⟩
 else if x.kind=5 then⟨0,[],[]⟩
 else⟨11,[],[]⟩
def doP (p:PS) (x:Stp):PS:=⟨doG p.g x,doT p x⟩
structure GsI (g:GS) (m:Int) (N:Nat):Prop where
 q:SOk g.q m
 c0:CnI g.c0 N
 c1:CnI g.c1 N
 c2:CnI g.c2 N
 c3:CnI g.c3 N
theorem gi_0:GsI gs0 0 0:=⟨zyK,zm1,zm1,zm1,zm1⟩
theorem ziB {g:GS} {m m':Int} {N N':Nat} (h:GsI g m N) (h1:m≤m') (h2:N≤N'):GsI g m' N':=
 ⟨yT h.q h1,ZC h.c0 h2,ZC h.c1 h2,ZC h.c2 h2,ZC h.c3 h2⟩
theorem zy7 {g:GS} {m:Int} {N:Nat} (h:GsI g m N) (k:Int):CnI (g.at k) N:=by
 unfold GS.at
 repeat' split
 all_goals first|exact h.c0|exact h.c1|exact h.c2|exact h.c3
theorem zux {g:GS} {m m':Int} {N N':Nat} (h:GsI g m N) (hN:N≤N') (k:Int) {c:Cn} {q:Sto} (hc:CnI c N') (hq:SOk q m'):GsI (g.put k c q) m' N':=by
 have hi: ∀ {p:Prop} [Decidable p] {d:Cn},CnI d N→CnI (if p then c else d) N':=fun hd=>by
  split
  · exact hc
  · exact ZC hd hN
 exact⟨hq,hi h.c0,hi h.c1,hi h.c2,hi h.c3⟩
theorem zuw {g:GS} {m m':Int} {N:Nat} (h:GsI g m N) {q:Sto} (hq:SOk q m'):GsI (g.set q) m' N:=⟨hq,h.c0,h.c1,h.c2,h.c3⟩
theorem zlr: ∀ W:List Ent,4 * W.length≤(qm W).length
 |[]=>jL _
 | e ::W=>by
   have h1:=zlr W;have h2:=vw ((enc3 e).length+1);have h3:=vw (e.kind+1).toNat;have h4:=vw (e.id+1).toNat;have h5:=vw (e.n+1).toNat
   have h6:4≤(encB e).length:=by
    unfold encB;rw [jk]
    have:3≤(enc3 e).length:=by unfold enc3;simp only [jk];omega
    omega
   simp only [qm,jk,jh];omega
theorem zve {q:Sto} {m:Int} (h:SOk q m) (k:Int):SOk (crsQ q k) 25000:=by
 have h1:=zeL q.b q.s k;have h3:=Jrn.zeC _ (crB q.b q.s k) (jL _);have h4:=congrArg List.length h3.1;rw [jk] at h4;have h5:=zlr (crsE q.b q.s k);have h6:=zdO (crsE q.b q.s k) ([],0);have h7:=ztP q.b q.s k;have h8:=h.2.1;unfold crsE at h5
 refine⟨zaF _ ([],0) zhP,by show(crsB q.b q.s k).length≤_;omega,?_,Int.natCast_nonneg _,Int.le_refl _⟩
 show(replay ([],0) (crsE q.b q.s k)).2≤_
 dsimp only at h6;unfold crsE at h6 ⊢;omega
theorem zr2 {q:Sto} {m:Int} (h:SOk q m) (id:Int):SOk (Z9 q id) m:=by
 have h1:SOk (wsS q (begE id)) m:=Z7 h (by simp [begE])
 unfold Z9
 split
 · exact h1
 · exact Tz h1
theorem zr1 {q:Sto} {m:Int} (h:SOk q m) (id:Int):SOk (zhH q id) m:=by
 have h1:SOk (wsS q (endE id)) m:=Z7 h (by simp [endE])
 unfold zhH
 split
 · exact h1
 · exact Tz h1
theorem zr3 {q:Sto} {m:Int} (h:SOk q m) (c:Cn):SOk (UJ q c) (m+1):=by
 unfold UJ
 split
 · exact zfl h _ _ _ _
 · exact yT h (by omega)
theorem zy6 {g:GS} {m:Int} {N:Nat} (h:GsI g m N) (hm:25000≤m) (x:Stp) (hb:N+x.bytes.length≤1000000):GsI (doG g x) (m+12 * x.bytes.length+1) (N+x.bytes.length):=by
 have h0:GsI g (m+12 * x.bytes.length+1) (N+x.bytes.length):=ziB h (by omega) (by omega)
 unfold doG
 repeat' with_reducible split
 · have:=zy8 h.q (zy7 h x.conn) (b:=x.bytes) hb
   exact zux h (by omega) _ this.2 (yT this.1 (by omega))
 · exact h0
 · exact zux h (by omega) _ (ZC zm1 (by omega)) (yT (zr3 h.q _) (by omega))
 · exact h0
 · exact zuw h0 (yT (zr2 h.q _) (by omega))
 · exact zuw h0 (yT (zr1 h.q _) (by omega))
 · have h1:CnI cn0 (N+x.bytes.length):=ZC zm1 (by omega)
   exact⟨yT (zve h.q _) (by omega),h1,h1,h1,h1⟩
 · exact h0
end Go.Proofs.YtnpmenpjagcheaaGreatDoor
namespace Go.Proofs.YtnpmenpjagcheaaGreatDoor
open Go Go.Sep Go.Ab Go.Jrn
end Go.Proofs.YtnpmenpjagcheaaGreatDoor
namespace Go.Proofs.YtnpmenpjagcheaaGreatDoor
open Go Go.Sep Go.Ab Go.Jrn
end Go.Proofs.YtnpmenpjagcheaaGreatDoor
namespace Go.Proofs.YtnpmenpjagcheaaGreatDoor
open Go Go.Sep Go.Ab Go.Jrn
end Go.Proofs.YtnpmenpjagcheaaGreatDoor
namespace Go.Proofs.YtnpmenpjagcheaaGreatDoor
open Go Go.Sep Go.Ab Go.Jrn
def Hs (q:Sto):Prop:=∃ W k,Hist q W k
def Full (q:Sto):Prop:=∃ W,Hist q W W.length
theorem zwc {q:Sto} (h:Full q):Hs q:=h.elim fun W h=>⟨W,_,h⟩
theorem zy3 {q:Sto} (h:Hs q):Full (syS q):=by
 obtain⟨W,k,h⟩:=h;exact⟨W,zpV h⟩
theorem zyD {q:Sto} {e:Ent} (h:wsC q e≠0):wsS q e=q:=by
 unfold wsC at h;unfold wsS wrtL wrtN wrtB;rw [if_neg h,if_neg h,if_neg h]
theorem zy2 {q:Sto} (h:Hs q) {e:Ent} (hc:CanE e):Hs (wsS q e):=by
 by_cases h0:wsC q e=0
 · obtain⟨W,k,h⟩:=h
   exact⟨_,k,zmD h hc h0⟩
 · rw [zyD h0];exact h
inductive Rch (a:Sto):Sto→Prop
 |nil:Rch a a
 |ws {q:Sto} {e:Ent}:Rch a q→CanE e→Rch a (wsS q e)
 |sy {q:Sto}:Rch a q→Rch a (syS q)
theorem Rch.hs {a q:Sto} (h:Rch a q) (k:Hs a):Hs q:=by
 induction h with
 |nil=>exact k
 |ws _ hc ih=>exact zy2 ih hc
 |sy _ ih=>exact zwc (zy3 ih)
theorem Rch.trans {a q r:Sto} (h:Rch a q) (k:Rch q r):Rch a r:=by
 induction k with
 |nil=>exact h
 |ws _ hc ih=>exact .ws ih hc
 |sy _ ih=>exact .sy ih
end Go.Proofs.YtnpmenpjagcheaaGreatDoor
namespace Go.Proofs.YtnpmenpjagcheaaGreatDoor
open Go Go.Sep Go.Ab Go.Jrn
theorem at_mem {l:List Upl} {id:Int} (h: ¬ l.length≤atU l id):yB l id ∈ l:=wY (by omega)
end Go.Proofs.YtnpmenpjagcheaaGreatDoor
namespace Go.Proofs.YtnpmenpjagcheaaGreatDoor
open Go Go.Sep Go.Ab Go.Jrn
theorem zr9 {q:Sto} {id:Int} (h:wsC q (begE id)=0): ¬ q.l.length≤atU q.l id∧(yB q.l id).sent=0∧(yB q.l id).size=(yB q.l id).bytes.length∧(Z9 q id).l=q.l.set (atU q.l id) { yB q.l id with sent:=1}:=by
 have h1:=(zc4 h).1;have h2:begC q.l id=0:=h1
 have h3:(Z9 q id).l=begL q.l id:=by
  unfold Z9
  rw [if_neg (by omega)]
  exact if_pos h
 unfold begL at h3;rw [if_pos h2] at h3;unfold begC at h2
 by_cases k1:q.l.length≤atU q.l id
 · rw [if_pos k1] at h2;cases h2
 rw [if_neg k1] at h2
 by_cases k2:(yB q.l id).sent=0
 · rw [if_neg (by simpa using k2)] at h2
   by_cases k3:(yB q.l id).size=(yB q.l id).bytes.length
   · exact⟨k1,k2,k3,h3⟩
   · rw [if_pos k3] at h2;cases h2
 · rw [if_pos k2] at h2;cases h2
end Go.Proofs.YtnpmenpjagcheaaGreatDoor
namespace Go.Proofs.YtnpmenpjagcheaaGreatDoor
open Go Go.Sep Go.Ab
set_option maxRecDepth 100000
set_option maxHeartbeats 8000000 in
theorem zxS (j:Nat) (hj:j<4) (l:List Upl) (n:Int) (b:Str) (s:Int) (c d1 d2 d3:Cn) (x:Str) (hneed:FdN ⟨l,n,b,s⟩ c x):Spc Tryz.prog 61 [.v (.one (.ptr 0 0)),.v (.one (.p (.int .i64 j))),.v (.one (.p (.list .byte x)))] (.obj 72 [.ptr 1 0,.ptr 2 0,.ptr 3 0,.ptr 4 0,.ptr 5 0]:: .pack [.obj 78 [.ptr 1 0,.ptr 2 0],.pack [.obj 106 [.row 1,.p (.int .i64 n)],.row .upl 82 l],.pack [.obj 108 [.row 1,.p (.int .i64 s)],.row .byte 5 b]]::insC j c d1 d2 d3) (.ret (.tup [.one (.p (.list .byte ((fdO ⟨l,n,b,s⟩ c x)))),.one (.p (.int .i64 ((fdK c))))])) (.obj 72 [.ptr 1 0,.ptr 2 0,.ptr 3 0,.ptr 4 0,.ptr 5 0]:: .pack [.obj 78 [.ptr 1 0,.ptr 2 0],.pack [.obj 106 [.row 1,.p (.int .i64 ((fdQ ⟨l,n,b,s⟩ c x).n))],.row .upl 82 ((fdQ ⟨l,n,b,s⟩ c x).l)],.pack [.obj 108 [.row 1,.p (.int .i64 ((fdQ ⟨l,n,b,s⟩ c x).s))],.row .byte 5 ((fdQ ⟨l,n,b,s⟩ c x).b)]]::insC j ((fdC ⟨l,n,b,s⟩ c x)) d1 d2 d3):=by
 obtain⟨hJ,hN⟩:=zx2 hneed;have hend:=fun l1 n1 b1 s1 c1 o i h=>zwm (q:=⟨l,n,b,s⟩) (c0:=c) (x:=x) (l:=l1) (n:=n1) (b:=b1) (s:=s1) (c:=c1) (o:=o) (i:=i) h;have hA0:=zza hJ (zM c.q x) (l:=l) (n:=n) (b:=b) (s:=s) rfl
 have hd4:c.q.pos=4→fdK c=18∧fdO ⟨l,n,b,s⟩ c x=[]∧fdQ ⟨l,n,b,s⟩ c x=⟨l,n,b,s⟩∧fdC ⟨l,n,b,s⟩ c x=c:=fun h=>by unfold fdK fdO fdQ fdC;rw [if_pos h,if_pos h,if_pos h,if_pos h];exact⟨rfl,rfl,rfl,rfl⟩
 have hd5: ¬ c.q.pos=4→fdK c=0:=fun h=>by unfold fdK;rw [if_neg h]
 generalize fdK c=rk at *;generalize fdO ⟨l,n,b,s⟩ c x=ro at *;generalize fdQ ⟨l,n,b,s⟩ c x=rq at *;generalize fdC ⟨l,n,b,s⟩ c x=rc at *;obtain⟨l',n',b',s'⟩:=rq;obtain⟨q,⟨m,t,mi,f,le⟩,cb,li,w⟩:=c;dsimp only at *;generalize hx0:(⟨⟨l,n,b,s⟩,⟨m,t,mi,f,le⟩,cb,li,w,[]⟩:GE)=x0 at *
 refine spH Tryz.func61 (by kernel_rfl) { cfgG with rl:=[0],nr:=[8],keep:=some [0,1,2,6,7,8,10,37,38,39]} [zaC,zaB,zaz,zay,UU,UR,UQ,UO,UN,UM,UL,UK] (by kernel_rfl) ?_
 intro I X hI hX;clear hneed;obtain⟨jj,hjj⟩: ∃ jj,jj=j:=⟨_,rfl⟩;obtain⟨ww,hww⟩: ∃ ww,ww=w:=⟨_,rfl⟩
 obtain rfl|rfl|rfl|rfl:j=0∨j=1∨j=2∨j=3:=by omega
 all_goals cases w
 all_goals
  refine orcL ?_;go_invoke;refine orcS (by kernel_rfl) ?_
  simp only [zi,Nat.reduceAdd]
  have hh: ∀ {α:Type} (y:α),I.hid y=y:=fun y=>by subst hI;rfl
  simp only [hh];generalize yI (zM q x).out=J at *
  (repeat' (first|refine ja ?_ ?_|intro _))
  all_goals try(subst hI;(simp only [nrmA,nrmB,nrlB,reduceCtorEq,insC,V0.agg.injEq,HO.pack.injEq,HO.obj.injEq,HO.abs.injEq,Gh.cn.injEq] at *);first|done|omega|exact hN|(obtain⟨r1,r2,r3,r4⟩:=hd4 (by omega);simp only [Sto.mk.injEq] at r3;obtain⟨r5,r6,r7,r8⟩:=r3;simp [r1,r2,r4,r5,r6,r7,r8];done))
  have hp: ¬ q.pos=4:=by
   subst hI;simp only [nrmA,nrmB,nrlB,reduceCtorEq] at *;omega
  refine lpH hI [zaC,zaB,zaz,zay,UU,UR,UQ,UO,UN,UM,UL,UK] hX [0,1,8,37,38,39] (fun(g:Nat × List Upl × Int × Str × Int × Cn × Str)=>match g with|(i,l1,n1,b1,s1,c,o)=>FdA x0 J i l1 n1 b1 s1 c o (zM q x)) (fun(g:Nat × List Upl × Int × Str × Int × Cn × Str)=>match g with|(i,l1,n1,b1,s1,c,o)=>⟨[(0,.v (.one (.ptr 0 0))),(1,.v (.one (.p (.int .i64 jj)))),(8,.v (.one (.row 6))),(37,.v (.one (.row 7))),(38,.v (.one (.p (.int .i64 ((I.len (α:=Evt) J)))))),(39,.v (.one (.p (.int .i64 i))))],(.obj 72 [.ptr 1 0,.ptr 2 0,.ptr 3 0,.ptr 4 0,.ptr 5 0]:: .pack [.obj 78 [.ptr 1 0,.ptr 2 0],.pack [.obj 106 [.row 1,.p (.int .i64 n1)],.row .upl 82 l1],.pack [.obj 108 [.row 1,.p (.int .i64 s1)],.row .byte 5 b1]]::(insC jj c d1 d2 d3++[.row .byte 5 o,.row .evt 138 J])),56,none⟩) (fun(g:Nat × List Upl × Int × Str × Int × Cn × Str)=>match g with|(i,l1,n1,b1,s1,c,o)=>J.length - i) (0,l,n,b,s,⟨zM q x,⟨m,t,mi,f,le⟩,cb,li,ww⟩,[]) (by kernel_rfl) (by subst hjj hww;kernel_rfl) ?_ ?_
  · subst hww;exact hA0
  subst hjj hww;rintro⟨i,l1,n1,b1,s1,c,o⟩ h1 A hA;simp only at hA h1;have hok:=zuJ hJ h1;have hol:=h1.ol;have hil:=h1.le;have hln:=hJ.ln;have hS:=fun h=>zy9 hJ h1 h ⟨0,⟨[],[],0,[],0⟩,[],⟨[],[],[],[]⟩,0⟩;have hend:=hend _ _ _ _ _ _ _ h1
  refine orcL ?_;go_invoke;refine orcS (by kernel_rfl) ?_
  simp only [zi,Nat.reduceAdd]
  have e1:I.get J ⟨0,⟨[],[],0,[],0⟩,[],⟨[],[],[],[]⟩,0⟩ (i:Int)=J.getD i ⟨0,⟨[],[],0,[],0⟩,[],⟨[],[],[],[]⟩,0⟩:=by subst hI;first|rfl|simp
  simp only [e1];generalize J.getD i ⟨0,⟨[],[],0,[],0⟩,[],⟨[],[],[],[]⟩,0⟩=E at *;have e0:(⟨E.kind,⟨E.head.method,E.head.target,E.head.minor,E.head.fields,E.head.length⟩,E.bytes,⟨E.part.name,E.part.file,E.part.type,E.part.bytes⟩,E.code⟩:Evt)=E:=rfl;simp only [e0,hh];generalize hr:evG ⟨⟨l1,n1,b1,s1⟩,c.h,c.body,c.live,c.own,[]⟩ E=r at *;have hd5:=hd5 hp;subst hI;simp only [nrmA,nrmB,nrlB,reduceCtorEq,V0.agg.injEq,HO.pack.injEq,HO.obj.injEq,HO.abs.injEq,Gh.cn.injEq]
  (repeat' (first|refine ja ?_ ?_|intro _))<;>first|omega|exact jb|exact jc ‹False›|skip
  all_goals first
   |omega
   |exact hok.1
   |exact hok.2.2.2.1.1
   |(exact(hok.2.2.2.1.2 _ ‹_›).1)
   |(exact(hok.2.2.2.1.2 _ ‹_›).2)
   |exact(hS (by omega)).1.1
   |exact(hS (by omega)).1.2
   |(exact(hS (by omega)).1.2 ‹_›)
   |(have:=((hS (by omega)).2 _ rfl).1;omega)
   |exact hA (i+1,r.q.l,r.q.n,r.q.b,r.q.s,⟨c.q,r.h,r.b,r.i,r.w⟩,o++r.o) ((hS (by omega)).2 _ rfl).2 (by dsimp only;omega)
   |(obtain⟨r3,r4,r5⟩:=hend (by omega) hp;simp only [Sto.mk.injEq] at r3;obtain⟨r6,r7,r8,r9⟩:=r3;simp [insC,r4,r5,r6,r7,r8,r9,hd5];done)
def um (j:Nat) (I:Alg) (args:List D) (hp:List HO):Option CT:=match args,hp with
 | [.v (.one (.ptr 0 0)),.v (.one (.p (.int .i64 k))),.v (.one (.p (.list .byte x)))],[.obj 72 [.ptr 1 0,.ptr 2 0,.ptr 3 0,.ptr 4 0,.ptr 5 0],.pack [.obj 78 [.ptr 1 0,.ptr 2 0],.pack [.obj 106 [.row 1,.p (.int .i64 n)],.row .upl 82 l],.pack [.obj 108 [.row 1,.p (.int .i64 s)],.row .byte 5 b]],.abs (.cn c0),.abs (.cn c1),.abs (.cn c2),.abs (.cn c3)]=>(match isJ k j with
   |true=>(fun(l:List Upl) (b:Str) (x:Str)=>(selC j c0 c1 c2 c3 fun c d1 d2 d3=>some (.one ⟨I.hid (FdN ⟨l,n,b,s⟩ c x),(.ret (.tup [.one (.p (.list .byte (I.hid (fdO ⟨l,n,b,s⟩ c x)))),.one (.p (.int .i64 (I.hid (fdK c))))])),(.obj 72 [.ptr 1 0,.ptr 2 0,.ptr 3 0,.ptr 4 0,.ptr 5 0]:: .pack [.obj 78 [.ptr 1 0,.ptr 2 0],.pack [.obj 106 [.row 1,.p (.int .i64 (I.hid ((fdQ ⟨l,n,b,s⟩ c x).n)))],.row .upl 82 (I.hid ((fdQ ⟨l,n,b,s⟩ c x).l))],.pack [.obj 108 [.row 1,.p (.int .i64 (I.hid ((fdQ ⟨l,n,b,s⟩ c x).s)))],.row .byte 5 (I.hid ((fdQ ⟨l,n,b,s⟩ c x).b))]]::insC j (I.hid (fdC ⟨l,n,b,s⟩ c x)) d1 d2 d3)⟩):Option CT)) l b x
   |false=>none)
 |_,_=>none
theorem qj (j:Nat) (hj:j<4):zu Tryz.prog 61 (um j alg):=by
 intro args hp r h;unfold um at h
 split at h
 · split at h
   · rename_i hk
     first|(cases zpO hk)|(cases jI hk)
     obtain rfl|rfl|rfl|rfl:j=0∨j=1∨j=2∨j=3:=by omega
     all_goals(cases h;exact fun hn=>zxS _ (by decide) _ _ _ _ _ _ _ _ _ hn)
   · cases h
 · cases h
def zgG:Know Tryz.prog:=⟨61,um 0,qj 0 (by decide)⟩
def zgF:Know Tryz.prog:=⟨61,fun I=>zx I (um 0 I),zf (qj 0 (by decide))⟩
def zgE:Know Tryz.prog:=⟨61,um 1,qj 1 (by decide)⟩
def zgD:Know Tryz.prog:=⟨61,fun I=>zx I (um 1 I),zf (qj 1 (by decide))⟩
def zgC:Know Tryz.prog:=⟨61,um 2,qj 2 (by decide)⟩
def zgB:Know Tryz.prog:=⟨61,fun I=>zx I (um 2 I),zf (qj 2 (by decide))⟩
def zgA:Know Tryz.prog:=⟨61,um 3,qj 3 (by decide)⟩
def zgz:Know Tryz.prog:=⟨61,fun I=>zx I (um 3 I),zf (qj 3 (by decide))⟩
end Go.Proofs.YtnpmenpjagcheaaGreatDoor
namespace Go.Proofs.YtnpmenpjagcheaaGreatDoor
open Go Go.Sep Go.Ab
set_option maxRecDepth 100000
def oldC (c:Cn):Cn:= { c with own:=if zs8 c then false else c.own}
def gonP (j:Nat):List Ab.C:=match j with
 |0=>[.ptr 1 0,.ptr 6 0,.ptr 3 0,.ptr 4 0,.ptr 5 0]
 |1=>[.ptr 1 0,.ptr 2 0,.ptr 6 0,.ptr 4 0,.ptr 5 0]
 |2=>[.ptr 1 0,.ptr 2 0,.ptr 3 0,.ptr 6 0,.ptr 5 0]
 |_=>[.ptr 1 0,.ptr 2 0,.ptr 3 0,.ptr 4 0,.ptr 6 0]
set_option maxHeartbeats 8000000 in
theorem zxR (j:Nat) (hj:j<4) (l:List Upl) (n:Int) (b:Str) (s:Int) (c d1 d2 d3:Cn) (hneed:zI l n∧n≤200000∧b.length≤100000∧FOk c.h.fields∧c.body.length≤100000):Spc Tryz.prog 62 [.v (.one (.ptr 0 0)),.v (.one (.p (.int .i64 j)))] (.obj 72 [.ptr 1 0,.ptr 2 0,.ptr 3 0,.ptr 4 0,.ptr 5 0]:: .pack [.obj 78 [.ptr 1 0,.ptr 2 0],.pack [.obj 106 [.row 1,.p (.int .i64 n)],.row .upl 82 l],.pack [.obj 108 [.row 1,.p (.int .i64 s)],.row .byte 5 b]]::insC j c d1 d2 d3) (.ret (.v (.one (.p (.int .i64 0))))) (.obj 72 (gonP j):: .pack [.obj 78 [.ptr 1 0,.ptr 2 0],.pack [.obj 106 [.row 1,.p (.int .i64 ((UJ ⟨l,n,b,s⟩ c).n))],.row .upl 82 ((UJ ⟨l,n,b,s⟩ c).l)],.pack [.obj 108 [.row 1,.p (.int .i64 ((UJ ⟨l,n,b,s⟩ c).s))],.row .byte 5 ((UJ ⟨l,n,b,s⟩ c).b)]]::(insC j ((oldC c)) d1 d2 d3++[.abs (.cn cn0)])):=by
 obtain⟨hs,hn,hb,hf,hbo⟩:=hneed;generalize hq:UJ ⟨l,n,b,s⟩ c=rq;generalize hc:oldC c=rc;obtain⟨l',n',b',s'⟩:=rq;obtain⟨q,⟨m,t,mi,f,le⟩,cb,li,w⟩:=c;unfold UJ zs8 at hq;unfold oldC zs8 at hc;dsimp only at *
 rw [show decide (cb≠[])=decide (0<(cb.length:Int)) by cases cb<;>simp] at hq hc
 generalize hg:(li&&(decide (m=zaJ)&&(decide (0<(cb.length:Int))&&Lib.hasPrefix t wP)))=g at hq hc
 refine spH Tryz.func62 (by kernel_rfl) { cfgG with fz:=[80],keep:=some [0,1,4,5]} [xA,xw,znG,znF,YP,YO] (by kernel_rfl) ?_
 intro I X hI hX
 obtain rfl|rfl|rfl|rfl:j=0∨j=1∨j=2∨j=3:=by omega
 all_goals cases w
 all_goals
  refine orcL ?_;go_invoke;refine orcS (by kernel_rfl) ?_
  simp only [zi,Nat.reduceAdd]
  have hh: ∀ {α:Type} (y:α),I.hid y=y:=fun y=>by subst hI;rfl
  simp only [hh];rw [show([80,65,84,67,72]:Str)=zaJ from rfl,show([47,102,105,108,101,115,47]:Str)=wP from rfl];generalize yU ⟨l,n,b,s⟩ m t f cb=x at *;obtain⟨x1,x2,⟨x3,x4,x5,x6⟩⟩:=x;generalize Lib.hasPrefix t wP=hp at *;subst hI;dsimp only at *;simp only [nrmA,nrmB,nrlB,reduceCtorEq,insC,gonP,List.cons_append,List.nil_append,V0.agg.injEq,HO.pack.injEq,HO.obj.injEq,HO.abs.injEq,Gh.cn.injEq,decide_eq_true_eq];cases g
  all_goals
   simp only [jd,if_false,if_true,Sto.mk.injEq] at hq hc;obtain⟨rfl,rfl,rfl,rfl⟩:=hq;subst hc
   (repeat' (first|refine ja ?_ ?_|intro _))<;>first|omega|exact jb|exact jc ‹False›|skip
   all_goals first
    |omega
    |with_reducible rfl
    |with_reducible assumption
    |exact hf.1
    |(exact(hf.2 _ ‹_›).1)
    |(exact(hf.2 _ ‹_›).2)
    |rfl
    |(exfalso;simp [*] at hg;done)
    |(exfalso;have hq0:0<cb.length:=(by omega);have hq1:(0<(cb.length:Int))=True:=eq_true (by omega);simp only [*,decide_true,Bool.and_true,je] at hg;done)
    |(exfalso;simp [*] at hg;omega)
def ul (j:Nat) (I:Alg) (args:List D) (hp:List HO):Option CT:=match args,hp with
 | [.v (.one (.ptr 0 0)),.v (.one (.p (.int .i64 k)))],[.obj 72 [.ptr 1 0,.ptr 2 0,.ptr 3 0,.ptr 4 0,.ptr 5 0],.pack [.obj 78 [.ptr 1 0,.ptr 2 0],.pack [.obj 106 [.row 1,.p (.int .i64 n)],.row .upl 82 l],.pack [.obj 108 [.row 1,.p (.int .i64 s)],.row .byte 5 b]],.abs (.cn c0),.abs (.cn c1),.abs (.cn c2),.abs (.cn c3)]=>(match isJ k j with
   |true=>(fun(l:List Upl) (b:Str)=>(selC j c0 c1 c2 c3 fun c d1 d2 d3=>some (.one ⟨I.hid (zI l n∧n≤200000∧b.length≤100000∧FOk c.h.fields∧c.body.length≤100000),(.ret (.v (.one (.p (.int .i64 0))))),(.obj 72 (gonP j):: .pack [.obj 78 [.ptr 1 0,.ptr 2 0],.pack [.obj 106 [.row 1,.p (.int .i64 (I.hid ((UJ ⟨l,n,b,s⟩ c).n)))],.row .upl 82 (I.hid ((UJ ⟨l,n,b,s⟩ c).l))],.pack [.obj 108 [.row 1,.p (.int .i64 (I.hid ((UJ ⟨l,n,b,s⟩ c).s)))],.row .byte 5 (I.hid ((UJ ⟨l,n,b,s⟩ c).b))]]::(insC j (I.hid (oldC c)) d1 d2 d3++[.abs (.cn cn0)]))⟩):Option CT)) l b
   |false=>none)
 |_,_=>none
theorem qi (j:Nat) (hj:j<4):zu Tryz.prog 62 (ul j alg):=by
 intro args hp r h;unfold ul at h
 split at h
 · split at h
   · rename_i hk
     first|(cases zpO hk)|(cases jI hk)
     obtain rfl|rfl|rfl|rfl:j=0∨j=1∨j=2∨j=3:=by omega
     all_goals(cases h;exact fun hn=>zxR _ (by decide) _ _ _ _ _ _ _ _ hn)
   · cases h
 · cases h
def zgx:Know Tryz.prog:=⟨62,ul 0,qi 0 (by decide)⟩
def zgw:Know Tryz.prog:=⟨62,fun I=>zx I (ul 0 I),zf (qi 0 (by decide))⟩
def zgv:Know Tryz.prog:=⟨62,ul 1,qi 1 (by decide)⟩
def zgu:Know Tryz.prog:=⟨62,fun I=>zx I (ul 1 I),zf (qi 1 (by decide))⟩
def zgt:Know Tryz.prog:=⟨62,ul 2,qi 2 (by decide)⟩
def zgs:Know Tryz.prog:=⟨62,fun I=>zx I (ul 2 I),zf (qi 2 (by decide))⟩
def zgr:Know Tryz.prog:=⟨62,ul 3,qi 3 (by decide)⟩
def zgq:Know Tryz.prog:=⟨62,fun I=>zx I (ul 3 I),zf (qi 3 (by decide))⟩
end Go.Proofs.YtnpmenpjagcheaaGreatDoor
namespace Go.Proofs.YtnpmenpjagcheaaGreatDoor
open Go Go.Sep Go.Ab
set_option maxRecDepth 100000
def Y7 (I:Alg):KU
 |[.v (.one (.ptr 0 0))],[.obj 72 [.ptr 1 0,.p (.val (.pointer none)),.p (.val (.pointer none)),.p (.val (.pointer none)),.p (.val (.pointer none))],.pack [.obj 78 [.ptr 1 0,.ptr 2 0],.pack [.obj 106 [.row 1,.p (.int .i64 n)],.row .upl 82 l],.pack [.obj 108 [.row 1,.p (.int .i64 s)],.row .byte 5 b]]]=>(fun(l:List Upl) (b:Str)=>(some (.one ⟨I.hid (True),(.ret (.tup [])),[.obj 72 [.ptr 1 0,.ptr 2 0,.ptr 3 0,.ptr 4 0,.ptr 5 0],.pack [.obj 78 [.ptr 1 0,.ptr 2 0],.pack [.obj 106 [.row 1,.p (.int .i64 n)],.row .upl 82 l],.pack [.obj 108 [.row 1,.p (.int .i64 s)],.row .byte 5 b]],.abs (.cn cn0),.abs (.cn cn0),.abs (.cn cn0),.abs (.cn cn0)]⟩):Option CT)) l b
 |_,_=>none
theorem zcy:zu Tryz.prog 35 (Y7 alg):=by
 intro args hp r h;unfold Y7 at h;split at h<;>cases h
 rename_i n l s b
 revert l;intro(l:List Upl)
 simp only [CT.Good,zh];intro _
 refine spH Tryz.func35 (by kernel_rfl) { cfgG with keep:=some [0,2,3]} [YP,YO] (by kernel_rfl) ?_
 intro I X hI hX
 refine orcL ?_;go_invoke;refine orcS (by kernel_rfl) ?_
 simp only [zi,Nat.reduceAdd]
 refine lpH hI [YP,YO] hX [0,3] (fun i:Nat=>i≤4) (fun i:Nat=>match i with
  |0=>⟨[(0,.v (.one (.ptr 0 0))),(3,.v (.one (.p (.int .i64 0))))],[.obj 72 [.ptr 1 0,.p (.val (.pointer none)),.p (.val (.pointer none)),.p (.val (.pointer none)),.p (.val (.pointer none))],.pack [.obj 78 [.ptr 1 0,.ptr 2 0],.pack [.obj 106 [.row 1,.p (.int .i64 n)],.row .upl 82 l],.pack [.obj 108 [.row 1,.p (.int .i64 s)],.row .byte 5 b]]],15,none⟩
  |1=>⟨[(0,.v (.one (.ptr 0 0))),(3,.v (.one (.p (.int .i64 1))))],[.obj 72 [.ptr 1 0,.ptr 2 0,.p (.val (.pointer none)),.p (.val (.pointer none)),.p (.val (.pointer none))],.pack [.obj 78 [.ptr 1 0,.ptr 2 0],.pack [.obj 106 [.row 1,.p (.int .i64 n)],.row .upl 82 l],.pack [.obj 108 [.row 1,.p (.int .i64 s)],.row .byte 5 b]],.abs (.cn cn0)],15,none⟩
  |2=>⟨[(0,.v (.one (.ptr 0 0))),(3,.v (.one (.p (.int .i64 2))))],[.obj 72 [.ptr 1 0,.ptr 2 0,.ptr 3 0,.p (.val (.pointer none)),.p (.val (.pointer none))],.pack [.obj 78 [.ptr 1 0,.ptr 2 0],.pack [.obj 106 [.row 1,.p (.int .i64 n)],.row .upl 82 l],.pack [.obj 108 [.row 1,.p (.int .i64 s)],.row .byte 5 b]],.abs (.cn cn0),.abs (.cn cn0)],15,none⟩
  |3=>⟨[(0,.v (.one (.ptr 0 0))),(3,.v (.one (.p (.int .i64 3))))],[.obj 72 [.ptr 1 0,.ptr 2 0,.ptr 3 0,.ptr 4 0,.p (.val (.pointer none))],.pack [.obj 78 [.ptr 1 0,.ptr 2 0],.pack [.obj 106 [.row 1,.p (.int .i64 n)],.row .upl 82 l],.pack [.obj 108 [.row 1,.p (.int .i64 s)],.row .byte 5 b]],.abs (.cn cn0),.abs (.cn cn0),.abs (.cn cn0)],15,none⟩
  |_=>⟨[(0,.v (.one (.ptr 0 0))),(3,.v (.one (.p (.int .i64 4))))],[.obj 72 [.ptr 1 0,.ptr 2 0,.ptr 3 0,.ptr 4 0,.ptr 5 0],.pack [.obj 78 [.ptr 1 0,.ptr 2 0],.pack [.obj 106 [.row 1,.p (.int .i64 n)],.row .upl 82 l],.pack [.obj 108 [.row 1,.p (.int .i64 s)],.row .byte 5 b]],.abs (.cn cn0),.abs (.cn cn0),.abs (.cn cn0),.abs (.cn cn0)],15,none⟩) (fun i:Nat=>4 - i) 0 (by kernel_rfl) (by kernel_rfl) ?_ ?_
 · exact jM _
 rintro i h1 A hA
 obtain rfl|rfl|rfl|rfl|rfl:i=0∨i=1∨i=2∨i=3∨i=4:=by omega
 all_goals
  refine orcL ?_;go_invoke;refine orcS (by kernel_rfl) ?_
  simp only [zi,Nat.reduceAdd];subst hI;refine⟨fun c=> ?_,fun c=> ?_⟩
  all_goals first
   |exact absurd c (by decide)
   |exact⟨jb,by show IntKind.i64.min≤_∧_;decide,hA 1 (by decide) (by decide),jb⟩
   |exact⟨jb,by show IntKind.i64.min≤_∧_;decide,hA 2 (by decide) (by decide),jb⟩
   |exact⟨jb,by show IntKind.i64.min≤_∧_;decide,hA 3 (by decide) (by decide),jb⟩
   |exact⟨jb,by show IntKind.i64.min≤_∧_;decide,hA 4 (by decide) (by decide),jb⟩
   |exact⟨jb,jb⟩
def Y6:Know Tryz.prog:=⟨35,Y7,zcy⟩
def Y5:Know Tryz.prog:=⟨35,fun I=>zx I (Y7 I),zf zcy⟩
end Go.Proofs.YtnpmenpjagcheaaGreatDoor
namespace Go.Proofs.YtnpmenpjagcheaaGreatDoor
open Go Go.Sep Go.Ab
set_option maxRecDepth 100000
theorem outK {k:Int} (h:k<0∨4≤k):(∃ j:Nat,k=Int.negSucc j)∨(∃ j:Nat,k=Int.ofNat (j+4)):=by
 rcases k with j|j
 · refine .inr ⟨j - 4,?_⟩
   have:(Int.ofNat j)=(j:Int):=rfl;rw [this] at h
   rw [show j - 4+4=j by omega]
 · exact .inl ⟨j,rfl⟩
def Vy (I:Alg):KU
 |[.v (.one (.ptr 0 0)),.v (.one (.p (.int .i64 k))),.v (.one (.p (.list .byte x)))],[.obj 72 [.ptr 1 0,.ptr 2 0,.ptr 3 0,.ptr 4 0,.ptr 5 0],.pack [.obj 78 [.ptr 1 0,.ptr 2 0],.pack [.obj 106 [.row 1,.p (.int .i64 n)],.row .upl 82 l],.pack [.obj 108 [.row 1,.p (.int .i64 s)],.row .byte 5 b]],.abs (.cn c0),.abs (.cn c1),.abs (.cn c2),.abs (.cn c3)]=>(fun(l:List Upl) (b x:Str)=>(some (.one ⟨I.hid (k<0∨4≤k),(.ret (.tup [.one (.p (.list .byte (I.hid ([])))),.one (.p (.int .i64 1))])),[.obj 72 [.ptr 1 0,.ptr 2 0,.ptr 3 0,.ptr 4 0,.ptr 5 0],.pack [.obj 78 [.ptr 1 0,.ptr 2 0],.pack [.obj 106 [.row 1,.p (.int .i64 n)],.row .upl 82 l],.pack [.obj 108 [.row 1,.p (.int .i64 s)],.row .byte 5 b]],.abs (.cn c0),.abs (.cn c1),.abs (.cn c2),.abs (.cn c3)]⟩):Option CT)) l b x
 |_,_=>none
theorem zgH:zu Tryz.prog 61 (Vy alg):=by
 intro args hp r h;unfold Vy at h;split at h<;>cases h
 rename_i k x n l s b c0 c1 c2 c3
 revert l;intro(l:List Upl)
 simp only [CT.Good,zh];intro hneed;have hk:=outK hneed
 refine spH Tryz.func61 (by kernel_rfl) { cfgG with rl:=[0],keep:=some [0,1,2,6,7,8,10,37,38,39]} [zaC,zaB,zaz,zay,UU,UR,UQ,UO,UN,UM,UL,UK,zgG,zgF,zgE,zgD,zgC,zgB,zgA,zgz] (by kernel_rfl) ?_
 intro I X hI hX
 rcases hk with⟨j,rfl⟩|⟨j,rfl⟩
 all_goals
  refine orcL ?_;go_invoke;refine orcS (by kernel_rfl) ?_
  simp only [zi,Nat.reduceAdd];subst hI;simp only [nrmA,nrmB,nrlB,reduceCtorEq]
  (repeat' (first|refine ja ?_ ?_|intro _))<;>first|omega|exact jb|exact jc ‹False›|skip
def zp3:Know Tryz.prog:=⟨61,Vy,zgH⟩
def zp2:Know Tryz.prog:=⟨61,fun I=>zx I (Vy I),zf zgH⟩
def Vx (I:Alg):KU
 |[.v (.one (.ptr 0 0)),.v (.one (.p (.int .i64 k)))],[.obj 72 [.ptr 1 0,.ptr 2 0,.ptr 3 0,.ptr 4 0,.ptr 5 0],.pack [.obj 78 [.ptr 1 0,.ptr 2 0],.pack [.obj 106 [.row 1,.p (.int .i64 n)],.row .upl 82 l],.pack [.obj 108 [.row 1,.p (.int .i64 s)],.row .byte 5 b]],.abs (.cn c0),.abs (.cn c1),.abs (.cn c2),.abs (.cn c3)]=>(fun(l:List Upl) (b:Str)=>(some (.one ⟨I.hid (k<0∨4≤k),(.ret (.v (.one (.p (.int .i64 1))))),[.obj 72 [.ptr 1 0,.ptr 2 0,.ptr 3 0,.ptr 4 0,.ptr 5 0],.pack [.obj 78 [.ptr 1 0,.ptr 2 0],.pack [.obj 106 [.row 1,.p (.int .i64 n)],.row .upl 82 l],.pack [.obj 108 [.row 1,.p (.int .i64 s)],.row .byte 5 b]],.abs (.cn c0),.abs (.cn c1),.abs (.cn c2),.abs (.cn c3)]⟩):Option CT)) l b
 |_,_=>none
theorem zgy:zu Tryz.prog 62 (Vx alg):=by
 intro args hp r h;unfold Vx at h;split at h<;>cases h
 rename_i k n l s b c0 c1 c2 c3
 revert l;intro(l:List Upl)
 simp only [CT.Good,zh];intro hneed;have hk:=outK hneed
 refine spH Tryz.func62 (by kernel_rfl) { cfgG with keep:=some [0,1,4,5]} [xA,xw,znG,znF,YP,YO,zgx,zgw,zgv,zgu,zgt,zgs,zgr,zgq] (by kernel_rfl) ?_
 intro I X hI hX
 rcases hk with⟨j,rfl⟩|⟨j,rfl⟩
 all_goals
  refine orcL ?_;go_invoke;refine orcS (by kernel_rfl) ?_
  simp only [zi,Nat.reduceAdd];subst hI;simp only [nrmA,nrmB,nrlB,reduceCtorEq]
  (repeat' (first|refine ja ?_ ?_|intro _))<;>first|omega|exact jb|exact jc ‹False›|skip
def zp1:Know Tryz.prog:=⟨62,Vx,zgy⟩
def zp0:Know Tryz.prog:=⟨62,fun I=>zx I (Vx I),zf zgy⟩
def zem (I:Alg):KU
 |[.v (.one (.ptr 0 0))],[.pack [.obj 78 [.ptr 1 0,.ptr 2 0],.pack [.obj 106 [.row 1,.p (.int .i64 n)],.row .upl 82 l],.pack [.obj 108 [.row 1,.p (.int .i64 s)],.row .byte 5 b]]]=>(fun(l:List Upl) (b:Str)=>(some (.one ⟨I.hid (True),(.ret (.v (.one (.ptr 1 0)))),[.pack [.obj 78 [.ptr 1 0,.ptr 2 0],.pack [.obj 106 [.row 1,.p (.int .i64 n)],.row .upl 82 l],.pack [.obj 108 [.row 1,.p (.int .i64 s)],.row .byte 5 b]],.obj 72 [.ptr 0 0,.ptr 2 0,.ptr 3 0,.ptr 4 0,.ptr 5 0],.abs (.cn cn0),.abs (.cn cn0),.abs (.cn cn0),.abs (.cn cn0)]⟩):Option CT)) l b
 |_,_=>none
theorem zpZ:zu Tryz.prog 23 (zem alg):=by
 intro args hp r h;unfold zem at h;split at h<;>cases h
 rename_i n l s b
 revert l;intro(l:List Upl)
 simp only [CT.Good,zh];intro _
 refine spH Tryz.func23 (by kernel_rfl) { cfgG with keep:=some [0,2,3]} [Y6,Y5] (by kernel_rfl) ?_
 intro I X hI hX
 refine orcL ?_;go_invoke;refine orcS (by kernel_rfl) ?_
 simp only [zi,Nat.reduceAdd];subst hI;simp only [nrmA,nrmB,nrlB,reduceCtorEq,HO.pack.injEq,HO.obj.injEq]
def zwa:Know Tryz.prog:=⟨23,zem,zpZ⟩
def zv9:Know Tryz.prog:=⟨23,fun I=>zx I (zem I),zf zpZ⟩
end Go.Proofs.YtnpmenpjagcheaaGreatDoor
namespace Go.Proofs
open Go.Shelf
def Tryz.lays150_ren:Go.Shelf.Ren:=⟨fun|150=>103|153=>142|152=>178|226=>179|227=>180|228=>181|137=>177|119=>197|224=>51|225=>50|217=>49|266=>68|n=>n,fun|9=>9|4=>4|3=>3|5=>5|21=>21|117=>235|116=>234|0=>0|46=>25|124=>253|n=>n,fun|n=>n⟩
theorem Tryz.lays150:Go.Proofs.Lays.n150 Tryz.prog Tryz.lays150_ren:= {
 mixed:=by kernel_rfl
 f119:=Tryz.func197.trans (congrArg some (by kernel_rfl))
 f137:=Tryz.func177.trans (congrArg some (by kernel_rfl))
 f150:=Tryz.func103.trans (congrArg some (by kernel_rfl))
 f152:=Tryz.func178.trans (congrArg some (by kernel_rfl))
 f153:=Tryz.func142.trans (congrArg some (by kernel_rfl))
 f217:=Tryz.func49.trans (congrArg some (by kernel_rfl))
 f224:=Tryz.func51.trans (congrArg some (by kernel_rfl))
 f225:=Tryz.func50.trans (congrArg some (by kernel_rfl))
 f226:=Tryz.func179.trans (congrArg some (by kernel_rfl))
 f227:=Tryz.func180.trans (congrArg some (by kernel_rfl))
 f228:=Tryz.func181.trans (congrArg some (by kernel_rfl))
 f266:=Tryz.func68.trans (congrArg some (by kernel_rfl))
 t0:=Tryz.underlying0
 a0:=Tryz.isAgg0
 z0:=Tryz.sizeOf0
 v0:=Tryz.zeroValue0
 t3:=Tryz.underlying3
 a3:=Tryz.isAgg3
 z3:=Tryz.sizeOf3
 v3:=Tryz.zeroValue3
 t4:=Tryz.underlying4
 a4:=Tryz.isAgg4
 z4:=Tryz.sizeOf4
 v4:=Tryz.zeroValue4
 t5:=Tryz.underlying5
 a5:=Tryz.isAgg5
 z5:=Tryz.sizeOf5
 v5:=Tryz.zeroValue5
 t9:=Tryz.underlying9
 a9:=Tryz.isAgg9
 z9:=Tryz.sizeOf9
 v9:=Tryz.zeroValue9
 t21:=Tryz.underlying21
 a21:=Tryz.isAgg21
 z21:=Tryz.sizeOf21
 v21:=Tryz.zeroValue21
 t46:=Tryz.underlying25
 a46:=Tryz.isAgg25
 z46:=Tryz.sizeOf25
 v46:=Tryz.zeroValue25
 t116:=Tryz.underlying234
 a116:=Tryz.isAgg234
 z116:=Tryz.sizeOf234
 t117:=Tryz.underlying235
 a117:=Tryz.isAgg235
 z117:=Tryz.sizeOf235
 v117:=Tryz.zeroValue235
 t124:=Tryz.underlying253
 a124:=Tryz.isAgg253
 z124:=Tryz.sizeOf253
 v124:=Tryz.zeroValue253}
open Go.RowKit Go.Lib in
theorem Tryz.strings_ContainsAny (hv116: ∀ w,(zeroValue 234).run Tryz.prog w=.ok (.agg (Array.replicate 256 (.bool false))) w) (s chars:ByteArray) (w:World) (hs:s.size<4294967281) (hcs:chars.size<4294967281) (has: ∀ (j:Nat) b,s.data.toList[j]? =some b→b.toNat<128) (hac: ∀ (j:Nat) b,chars.data.toList[j]? =some b→b.toNat<128):
 Calls Tryz.prog 103 #[.string s,.string chars] w fun e w'=>e=.returned (.bool (Lib.containsAny s.data.toList chars.data.toList))∧Below w.heap.size w w':=Any.strings_ContainsAny Tryz.lays150 hv116 (by kernel_rfl) s chars w hs hcs has hac
end Go.Proofs
namespace Go.Proofs.YtnpmenpjagcheaaGreatDoor
open Go Go.Sep Go.Ab
set_option maxRecDepth 100000
theorem zyC (w:World):(zeroValue 233).run Tryz.prog w=.ok (.agg (Array.replicate 256 (.bool false))) w:=by
 kernel_rfl
theorem zuT {s:Str} (h: ∀ x ∈ s,x.toNat<128): ∀ (j:Nat) (b:UInt8),(Sep.S s).data.toList[j]? =some b→b.toNat<128:=fun j b hj=>h b (List.mem_of_getElem? hj)
def vJ (I:Alg):KU
 |[.v (.one (.p (.str s))),.v (.one (.p (.str p)))],[]=>(fun(s p:Str)=>(some (.one ⟨I.hid (s.length≤1000000∧p=[32,9]∧∀ x ∈ s,x.toNat<128),(.ret (.v (.one (.p (.bool (I.hid (Lib.containsAny s p))))))),[]⟩):Option CT)) s p
 |_,_=>none
theorem Yw:zu Tryz.prog 103 (vJ alg):=by
 intro args hp r h;unfold vJ at h;split at h<;>cases h
 rename_i s p;simp only [CT.Good,zh];intro hneed;obtain⟨g1,g3,g4⟩:=hneed;subst g3
 refine Spc.of_below ⟨_,Tryz.func103,by kernel_rfl,by kernel_rfl⟩ fun S bs w vs _ hM=> ?_
 obtain⟨v,r,rfl⟩: ∃ v r,vs=v::r:=by cases vs with|nil=>exact hM.elim|cons v r=>exact⟨v,r,rfl⟩
 obtain⟨h1,hM⟩:=hM
 obtain⟨v2,r2,rfl⟩: ∃ v r2,r=v::r2:=by cases r with|nil=>exact hM.elim|cons v r=>exact⟨v,r,rfl⟩
 obtain⟨h2,hM⟩:=hM
 obtain rfl:r2=[]:=by cases r2 with|nil=>rfl|cons v r=>exact hM.elim
 cases h1 with
 | str _ hl1=>
   cases h2 with
   | str _ hl2=>
     refine⟨.bool (Lib.containsAny s [32,9]),.bool _,(Tryz.strings_ContainsAny zyC (Sep.S s) (Sep.S [32,9]) w (by show s.length<_;omega) (by decide) (zuT g4) (zuT (by decide))).mono fun e w' h=> ?_⟩
     exact⟨h.1,h.2⟩
def Yv:Know Tryz.prog:=⟨103,vJ,Yw⟩
def Yu:Know Tryz.prog:=⟨103,fun I=>zx I (vJ I),zf Yw⟩
def Zl (I:Alg):KU
 |[.v (.agg [.p (.str m),.p (.str t),.p (.int .i64 mi),.p (.list .fld fs),.p (.int .i64 le)]),.v (.one (.p (.list .byte b)))],[]=>(fun(m t:Str) (fs:List Fld) (b:Str)=>(some (.one ⟨I.hid ((m.length≤1000000∧t.length≤1000000)∧(fs.length≤1000∧∀ f ∈ fs,f.name.length≤1000000∧f.value.length≤1000000)∧b.length≤1000000∧(∀ x ∈ t,x.toNat<128)),(.ret (.tup [.one (.p (.list .byte (I.hid (rqwT m t fs b)))),.one (.p (.int .i64 (I.hid (rqwC m t fs b))))])),[]⟩):Option CT)) m t fs b
 |_,_=>none
theorem zax:zu Tryz.prog 82 (Zl alg):=by
 intro args hp r h;unfold Zl at h;split at h<;>cases h
 rename_i m t mi fs le b
 revert fs;intro(fs:List Fld)
 simp only [CT.Good,zh];intro hneed;obtain⟨⟨hm1,ht1⟩,⟨hfl,hf⟩,hb,hasc⟩:=hneed;generalize hc:rqwC m t fs b=c;generalize ht:rqwT m t fs b=T;have hbl:=yE (b.length:Int);have hx0:=XZ fs Yx;have hx1:=XZ fs zdh
 refine spH Tryz.func82 (by kernel_rfl) { rl:=[0],keep:=some [0,1,2,4,5,6,8,9,11,12,13,79,80,81]} [sH,sG,wC,wB,zdf,zde,XR,XQ,Yt,Yr,qH,qG,xA,xw,Yv,Yu] (by kernel_rfl) ?_
 intro I X hI hX
 refine orcL ?_;go_invoke;refine orcS (by kernel_rfl) ?_
 simp only [zi,Nat.reduceAdd];rw [show([99,111,110,116,101,110,116,45,108,101,110,103,116,104]:Str)=Yx from rfl,show([116,114,97,110,115,102,101,114,45,101,110,99,111,100,105,110,103]:Str)=zdh from rfl,show([104,111,115,116]:Str)=SB from rfl]
 have hk1:Yx.length≤1000000:=by decide
 have hk2:zdh.length≤1000000:=by decide
 have hk3:SB.length≤1000000:=by decide
 (repeat' (first|refine ja ?_ ?_|intro _))
 all_goals try(subst hI;(simp only [nrmA,nrmB,nrlB,reduceCtorEq] at *);first|done|trivial|omega|exact⟨ht1,rfl,hasc⟩|exact hasc _ ‹_›|exact⟨hfl,by assumption,hf⟩|(simp only [jk,jh,ji];omega)|(unfold rqwT at ht;unfold rqwC rqHd at ht hc;((repeat(first|rewrite [if_pos (by first|omega|assumption|(simp only [*,or_self,or_true,true_or,or_false,false_or,jf,jg,jd,je,and_self,and_true,true_and];done)|(simp only [*];omega)|(simp [*];done)|(simp [*];omega))] at hc|rewrite [if_neg (by first|omega|assumption|(simp only [*,or_self,or_true,true_or,or_false,false_or,jf,jg,jd,je,and_self,and_true,true_and];done)|(simp only [*];omega)|(simp [*];done)|(simp [*];omega))] at hc)));subst hc;((repeat(first|rewrite [if_pos (by first|omega|assumption|(simp only [*,or_self,or_true,true_or,or_false,false_or,jf,jg,jd,je,and_self,and_true,true_and];done)|(simp only [*];omega)|(simp [*];done)|(simp [*];omega))] at ht|rewrite [if_neg (by first|omega|assumption|(simp only [*,or_self,or_true,true_or,or_false,false_or,jf,jg,jd,je,and_self,and_true,true_and];done)|(simp only [*];omega)|(simp [*];done)|(simp [*];omega))] at ht)));subst ht;exact⟨rfl,rfl⟩))
 have hok:Xt m=true∧Lib.hasPrefix t [47]=true∧Lib.containsAny t [32,9]=false∧XA t=true∧(rqHd m t).length≤200∧b.length≤4000∧fs.length≤15∧(valsF fs Yx).length+(valsF fs zdh).length=0∧(oneF (valsF fs SB)).2=0:=by
  subst hI;unfold rqHd;simp only [nrmA,nrmB,nrlB,reduceCtorEq] at *
  exact⟨by simpa using ‹Xt m=_›,by simpa using ‹Lib.hasPrefix t [47]=_›,by simpa using ‹Lib.containsAny t [32,9]=_›,by simpa using ‹XA t=_›,by omega,by omega,by omega,by omega,by assumption⟩
 obtain⟨k1,k2,k3,k4,k5,k6,k7,k8,k9⟩:=hok
 have hc2:c=badF fs:=by
  rw [← hc,rqwC,if_neg (by rw [k1];simp),if_neg (by rw [k2];simp),if_neg (by rw [k3];simp),if_neg (by rw [k4];simp),if_neg (by omega),if_neg (by omega),if_neg (by omega),if_neg (by omega),if_neg (fun h=>h k9)]
 have ht2:badF fs=0→T=rqHd m t++[13,10]++uX fs++zdj b.length++b:=fun h=>by
  rw [← ht,rqwT,hc,hc2,if_pos h]
 have ht3:badF fs≠0→T=[]:=fun h=>by rw [← ht,rqwT,hc,hc2,if_neg h]
 refine lpH hI [sH,sG,wC,wB,zdf,zde,XR,XQ,Yt,Yr,qH,qG,xA,xw,Yv,Yu] hX [1,2,5,9,79,80,81] (fun(g:Nat × Str)=>match g with|(i,o)=>i≤fs.length∧o=rqHd m t++[13,10]++uX (fs.take i)∧badF fs=badF (fs.drop i)) (fun(g:Nat × Str)=>match g with|(i,o)=>⟨[(1,.v (.one (.p (.list .byte b)))),(2,.v (.one (.ptr 0 0))),(5,.v (.one (.p (.int .i64 0)))),(9,.v (.one (.row 1))),(79,.v (.one (.p (.list .fld fs)))),(80,.v (.one (.p (.int .i64 ((I.len (α:=Fld) fs)))))),(81,.v (.one (.p (.int .i64 i))))],[.pack [.obj 102 [.p (.str m),.p (.str t),.p (.int .i64 mi),.p (.list .fld fs),.p (.int .i64 le)]],.row .byte 5 o],108,none⟩) (fun(g:Nat × Str)=>match g with|(i,o)=>fs.length - i) (0,I.app (I.app (I.app (I.app m [32]) t) [32,72,84,84,80,47,49,46,49]) [13,10]) (by kernel_rfl) (by kernel_rfl) ?_ ?_
 · refine⟨jM _,?_,rfl⟩
   subst hI;simp only [ZP,zh,rqHd,List.take_zero,uX,List.append_nil]
 rintro⟨i,o⟩ ⟨h1,h2,h3⟩ A hA;simp only at hA h1 h2 h3
 refine orcL ?_;go_invoke;refine orcS (by kernel_rfl) ?_
 simp only [zi,Nat.reduceAdd];subst hI;simp only [nrmA,nrmB,nrlB,reduceCtorEq]
 have hx:i<fs.length→(fs.getD i ⟨[],[]⟩) ∈ fs:=fun h=>by rw [show fs.getD i ⟨[],[]⟩=fs[i] by simp [h]];exact List.getElem_mem h
 have hd:i<fs.length→_:=fun h=>zhu (fs:=fs) (i:=i) h;have hk:i<fs.length→_:=fun h=>zcR (fs:=fs) (i:=i) h
 have hol:(uX (fs.take i)).length≤202 * 16:=by
  have:=qZ (fs.take i);rw [jv] at this;omega
 have hol2:o.length≤4000:=by rw [h2,jk,jk,jh,jh,ji];omega
 have hend: ¬ i<fs.length→badF fs=0∧uX (fs.take i)=uX fs:=fun h=>by
  rw [h3,jF (by omega),jq (by omega)];exact⟨rfl,rfl⟩
 have hfi:=fun h=>hf _ (hx h);have htl:=fun f=>zaf f;generalize fs.getD i ⟨[],[]⟩=x at *;have e0:(⟨x.name,x.value⟩:Fld)=x:=rfl;rw [e0];have htl:=htl x
 refine⟨fun c1=>⟨⟨by omega,by omega⟩,⟨by omega,by omega⟩,hfi (by omega),fun c2=> ?_,fun c2=>⟨?_,?_,by omega,?_⟩⟩,fun c1=> ?_⟩
 · have hd:=hd (by omega)
   rw [if_neg c2] at hd
   exact⟨(ht3 (by rw [h3,hd];exact c2)).symm,by rw [hc2,h3,hd]⟩
 · simp only [jh,ji];omega
 · simp only [jk,jh,ji];omega
 · have hd:=hd (by omega)
   rw [if_pos c2] at hd
   exact hA (i+1,o++((textF x).1++[13,10])) ⟨by simp only;omega,by simp only;rw [hk (by omega),h2];simp only [jo],by simp only;rw [h3,hd]⟩ (by simp only;omega)
 · obtain⟨e1,e2⟩:=hend (by omega)
   simp only [jk,jh,ji]
   refine⟨by omega,by omega,by omega,by omega,by omega,?_,by rw [hc2,e1]⟩
   rw [ht2 e1,h2,e2];unfold zdj;simp only [jo]
def zh6:Know Tryz.prog:=⟨82,Zl,zax⟩
def zh5:Know Tryz.prog:=⟨82,fun I=>zx I (Zl I),zf zax⟩
end Go.Proofs.YtnpmenpjagcheaaGreatDoor
namespace Go.Proofs.YtnpmenpjagcheaaGreatDoor
open Go Go.Sep Go.Ab
set_option maxRecDepth 100000
def Y4 (I:Alg):KU
 |[.v (.one (.ptr 0 0))],[.obj 72 [.ptr 1 0,.ptr 2 0,.ptr 3 0,.ptr 4 0,.ptr 5 0],.pack [.obj 78 [.ptr 1 0,.ptr 2 0],.pack [.obj 106 [.row 1,.p (.int .i64 n)],.row .upl 82 l],.pack [.obj 108 [.row 1,.p (.int .i64 s)],.row .byte 5 b]],.abs (.cn c0),.abs (.cn c1),.abs (.cn c2),.abs (.cn c3)]=>(fun(l:List Upl) (b:Str)=>(some (.one ⟨I.hid (True),(.ret (.tup [])),[.obj 72 [.ptr 1 0,.ptr 6 0,.ptr 7 0,.ptr 8 0,.ptr 9 0],.pack [.obj 78 [.ptr 1 0,.ptr 2 0],.pack [.obj 106 [.row 1,.p (.int .i64 n)],.row .upl 82 l],.pack [.obj 108 [.row 1,.p (.int .i64 s)],.row .byte 5 b]],.abs (.cn c0),.abs (.cn c1),.abs (.cn c2),.abs (.cn c3),.abs (.cn cn0),.abs (.cn cn0),.abs (.cn cn0),.abs (.cn cn0)]⟩):Option CT)) l b
 |_,_=>none
theorem zcx:zu Tryz.prog 35 (Y4 alg):=by
 intro args hp r h;unfold Y4 at h;split at h<;>cases h
 rename_i n l s b c0 c1 c2 c3
 revert l;intro(l:List Upl)
 simp only [CT.Good,zh];intro _
 refine spH Tryz.func35 (by kernel_rfl) { cfgG with keep:=some [0,2,3]} [YP,YO,Y6,Y5] (by kernel_rfl) ?_
 intro I X hI hX
 refine orcL ?_;go_invoke;refine orcS (by kernel_rfl) ?_
 simp only [zi,Nat.reduceAdd]
 refine lpH hI [YP,YO,Y6,Y5] hX [0,3] (fun i:Nat=>i≤4) (fun i:Nat=>match i with
  |0=>⟨[(0,.v (.one (.ptr 0 0))),(3,.v (.one (.p (.int .i64 0))))],[.obj 72 [.ptr 1 0,.ptr 2 0,.ptr 3 0,.ptr 4 0,.ptr 5 0],.pack [.obj 78 [.ptr 1 0,.ptr 2 0],.pack [.obj 106 [.row 1,.p (.int .i64 n)],.row .upl 82 l],.pack [.obj 108 [.row 1,.p (.int .i64 s)],.row .byte 5 b]],.abs (.cn c0),.abs (.cn c1),.abs (.cn c2),.abs (.cn c3)],15,none⟩
  |1=>⟨[(0,.v (.one (.ptr 0 0))),(3,.v (.one (.p (.int .i64 1))))],[.obj 72 [.ptr 1 0,.ptr 6 0,.ptr 3 0,.ptr 4 0,.ptr 5 0],.pack [.obj 78 [.ptr 1 0,.ptr 2 0],.pack [.obj 106 [.row 1,.p (.int .i64 n)],.row .upl 82 l],.pack [.obj 108 [.row 1,.p (.int .i64 s)],.row .byte 5 b]],.abs (.cn c0),.abs (.cn c1),.abs (.cn c2),.abs (.cn c3),.abs (.cn cn0)],15,none⟩
  |2=>⟨[(0,.v (.one (.ptr 0 0))),(3,.v (.one (.p (.int .i64 2))))],[.obj 72 [.ptr 1 0,.ptr 6 0,.ptr 7 0,.ptr 4 0,.ptr 5 0],.pack [.obj 78 [.ptr 1 0,.ptr 2 0],.pack [.obj 106 [.row 1,.p (.int .i64 n)],.row .upl 82 l],.pack [.obj 108 [.row 1,.p (.int .i64 s)],.row .byte 5 b]],.abs (.cn c0),.abs (.cn c1),.abs (.cn c2),.abs (.cn c3),.abs (.cn cn0),.abs (.cn cn0)],15,none⟩
  |3=>⟨[(0,.v (.one (.ptr 0 0))),(3,.v (.one (.p (.int .i64 3))))],[.obj 72 [.ptr 1 0,.ptr 6 0,.ptr 7 0,.ptr 8 0,.ptr 5 0],.pack [.obj 78 [.ptr 1 0,.ptr 2 0],.pack [.obj 106 [.row 1,.p (.int .i64 n)],.row .upl 82 l],.pack [.obj 108 [.row 1,.p (.int .i64 s)],.row .byte 5 b]],.abs (.cn c0),.abs (.cn c1),.abs (.cn c2),.abs (.cn c3),.abs (.cn cn0),.abs (.cn cn0),.abs (.cn cn0)],15,none⟩
  |_=>⟨[(0,.v (.one (.ptr 0 0))),(3,.v (.one (.p (.int .i64 4))))],[.obj 72 [.ptr 1 0,.ptr 6 0,.ptr 7 0,.ptr 8 0,.ptr 9 0],.pack [.obj 78 [.ptr 1 0,.ptr 2 0],.pack [.obj 106 [.row 1,.p (.int .i64 n)],.row .upl 82 l],.pack [.obj 108 [.row 1,.p (.int .i64 s)],.row .byte 5 b]],.abs (.cn c0),.abs (.cn c1),.abs (.cn c2),.abs (.cn c3),.abs (.cn cn0),.abs (.cn cn0),.abs (.cn cn0),.abs (.cn cn0)],15,none⟩) (fun i:Nat=>4 - i) 0 (by kernel_rfl) (by kernel_rfl) ?_ ?_
 · exact jM _
 rintro i h1 A hA
 obtain rfl|rfl|rfl|rfl|rfl:i=0∨i=1∨i=2∨i=3∨i=4:=by omega
 all_goals
  refine orcL ?_;go_invoke;refine orcS (by kernel_rfl) ?_
  simp only [zi,Nat.reduceAdd];subst hI;refine⟨fun c=> ?_,fun c=> ?_⟩
  all_goals first
   |exact absurd c (by decide)
   |exact⟨jb,by show IntKind.i64.min≤_∧_;decide,hA 1 (by decide) (by decide),jb⟩
   |exact⟨jb,by show IntKind.i64.min≤_∧_;decide,hA 2 (by decide) (by decide),jb⟩
   |exact⟨jb,by show IntKind.i64.min≤_∧_;decide,hA 3 (by decide) (by decide),jb⟩
   |exact⟨jb,by show IntKind.i64.min≤_∧_;decide,hA 4 (by decide) (by decide),jb⟩
   |exact⟨jb,jb⟩
def zmG:Know Tryz.prog:=⟨35,Y4,zcx⟩
def zmF:Know Tryz.prog:=⟨35,fun I=>zx I (Y4 I),zf zcx⟩
def cfgP:Cfg:= { sl:=cfgG.sl++[⟨58,1,.int,some 3⟩,⟨78,1000001,.byte,none⟩]}
def zdZ (I:Alg):KU
 |[],[]=>some (.one ⟨I.hid (True),(.ret (.v (.one (.ptr 0 0)))),[.pack [.obj 58 [.ptr 1 0,.row 7],.obj 72 [.ptr 2 0,.ptr 3 0,.ptr 4 0,.ptr 5 0,.ptr 6 0],.pack [.obj 78 [.ptr 1 0,.ptr 2 0],.pack [.obj 106 [.row 1,.p (.int .i64 0)],.row .upl 82 (I.hid ([]))],.pack [.obj 108 [.row 1,.p (.int .i64 0)],.row .byte 5 (I.hid ([]))]],.abs (.cn cn0),.abs (.cn cn0),.abs (.cn cn0),.abs (.cn cn0),.row .int 3 (I.hid ([]))]]⟩)
 |_,_=>none
theorem zpa:zu Tryz.prog 14 (zdZ alg):=by
 intro args hp r h;unfold zdZ at h;split at h<;>cases h
 simp only [CT.Good,zh];intro _
 refine spH Tryz.func14 (by kernel_rfl) { cfgP with keep:=some [0]} [znP,znO,zwa,zv9] (by kernel_rfl) ?_
 intro I X hI hX
 refine orcL ?_;go_invoke;refine orcS (by kernel_rfl) ?_
 simp only [zi,Nat.reduceAdd];subst hI;simp only [nrmA,nrmB,nrlB,reduceCtorEq,HO.pack.injEq,HO.obj.injEq]
def zvy:Know Tryz.prog:=⟨14,zdZ,zpa⟩
def zvx:Know Tryz.prog:=⟨14,fun I=>zx I (zdZ I),zf zpa⟩
theorem zvk {q:Sto} {id:Int} (h: ¬ wsC q (begE id)=0) (t:List Int):Z9 q id=wsS q (begE id)∧Ux q id=⟨wsC q (begE id),[],[]⟩∧zfs q id t=t:=by
 unfold Ux zfs Z9;rw [if_pos h,if_pos h,if_pos h];exact⟨rfl,rfl,rfl⟩
theorem zr8 {q:Sto} {id:Int} (h:wsC q (begE id)=0) (t:List Int):Z9 q id=syS (wsS q (begE id))∧Ux q id=⟨rqwC zbG (zl6 id) (zn5 (getU (wsS q (begE id)).l id).note) (getU (wsS q (begE id)).l id).bytes,[],rqwT zbG (zl6 id) (zn5 (getU (wsS q (begE id)).l id).note) (getU (wsS q (begE id)).l id).bytes⟩∧zfs q id t=t++[id]:=by
 have e:Z9 q id=syS (wsS q (begE id)):=by unfold Z9;rw [if_neg (fun k=>k h)]
 unfold Ux zfs zn6;rw [e,if_neg (fun k=>k h),if_neg (fun k=>k h)];exact⟨rfl,rfl,rfl⟩
theorem zta {l:List Upl} {n:Int} (h:zI l n) (id:Int):(getU l id).note.length≤100∧(getU l id).bytes.length≤2000:=by
 unfold getU
 split
 · rename_i hk
   have:=h.each _ (wY hk);exact⟨this.nl,this.bl⟩
 · exact⟨jM _,jM _⟩
theorem zpT: ∀ f ∈ [zpU],f.name.length≤1000000∧f.value.length≤1000000:=by decide
theorem zvj {x:Str} (h:x.length≤100): ∀ f ∈ [zpU]++[⟨zl2,x⟩],f.name.length≤1000000∧f.value.length≤1000000:=fun f hf=>by
 rcases List.mem_append.1 hf with k|k
 · exact zpT f k
 · rw [List.mem_singleton.1 k];exact⟨by show zl2.length≤_;decide,by show x.length≤_;omega⟩
theorem zjq: ∀ f n,∀ x ∈ txtN 10 f n,x.toNat<128
 |0,n=>fun x h=>by cases h
 | f +1,n=>fun x h=>by
   have hd: ∀ d,d<10→(dgN d).toNat<128:=fun d h=>(by decide+kernel: ∀ d:Fin 10,(dgN d.1).toNat<128) ⟨d,h⟩
   by_cases hn:n<10
   · rw [zdc hn] at h
     rw [List.mem_singleton.1 h];exact hd n hn
   · rw [zfa hn] at h
     rcases List.mem_append.1 h with h|h
     · exact zjq f _ x h
     · rw [List.mem_singleton.1 h];exact hd _ (Nat.mod_lt _ (by decide))
theorem zrO (id:Int): ∀ x ∈ zl6 id,x.toNat<128:=fun x h=>by
 rcases List.mem_append.1 h with h|h
 · exact(by decide: ∀ x ∈ ([47,116,97,107,101,47]:Str),x.toNat<128) x h
 · exact zjq 9 id.toNat x h
def RY (I:Alg):KU
 |[.v (.one (.ptr 0 0)),.v (.one (.p (.int .i64 id)))],[.pack [.obj 58 [.ptr 1 0,.row 7],.obj 72 [.ptr 2 0,.ptr 3 0,.ptr 4 0,.ptr 5 0,.ptr 6 0],.pack [.obj 78 [.ptr 1 0,.ptr 2 0],.pack [.obj 106 [.row 1,.p (.int .i64 n)],.row .upl 82 l],.pack [.obj 108 [.row 1,.p (.int .i64 s)],.row .byte 5 b]],.abs (.cn c0),.abs (.cn c1),.abs (.cn c2),.abs (.cn c3),.row .int 3 t]]=>(fun(l:List Upl) (b:Str) (t:List Int)=>(some (.one ⟨I.hid (zI l n∧n≤200000∧b.length≤100000∧t.length≤1000000),(.ret (.v (.agg [.p (.int .i64 (I.hid ((Ux ⟨l,n,b,s⟩ id).c))),.p (.list .byte (I.hid ([]))),.p (.list .byte (I.hid ((Ux ⟨l,n,b,s⟩ id).u)))]))),[.pack [.obj 58 [.ptr 1 0,.row 7],.obj 72 [.ptr 2 0,.ptr 3 0,.ptr 4 0,.ptr 5 0,.ptr 6 0],.pack [.obj 78 [.ptr 1 0,.ptr 2 0],.pack [.obj 106 [.row 1,.p (.int .i64 (I.hid ((Z9 ⟨l,n,b,s⟩ id).n)))],.row .upl 82 (I.hid ((Z9 ⟨l,n,b,s⟩ id).l))],.pack [.obj 108 [.row 1,.p (.int .i64 (I.hid ((Z9 ⟨l,n,b,s⟩ id).s)))],.row .byte 5 (I.hid ((Z9 ⟨l,n,b,s⟩ id).b))]],.abs (.cn c0),.abs (.cn c1),.abs (.cn c2),.abs (.cn c3),.row .int 3 (I.hid (zfs ⟨l,n,b,s⟩ id t))]]⟩):Option CT)) l b t
 |_,_=>none
set_option maxHeartbeats 4000000 in
theorem zkp:zu Tryz.prog 63 (RY alg):=by
 intro args hp r h;unfold RY at h;split at h<;>cases h
 rename_i id n l s b c0 c1 c2 c3 t
 revert l t;intro(l:List Upl) (t:List Int)
 simp only [CT.Good,zh];intro hneed;obtain⟨hs,hn,hb,ht⟩:=hneed;have h0:=fun h=>zvk (q:=⟨l,n,b,s⟩) (id:=id) h t;have h1:=fun h=>zr8 (q:=⟨l,n,b,s⟩) (id:=id) h t
 have hid:wsC ⟨l,n,b,s⟩ (begE id)=0→0≤id∧id≤n:=fun h=>by
  obtain⟨k,_⟩:=zr9 h;have:=hs.ids _ (at_mem k)
  have e:=SL (l:=l) (id:=id) (by simpa using k)
  omega
 have hw:=QY hs b (begE id);have hg:=zta hw id;generalize Z9 ⟨l,n,b,s⟩ id=Q at *;generalize Ux ⟨l,n,b,s⟩ id=O at *;generalize zfs ⟨l,n,b,s⟩ id t=L at *;unfold wsC wsS syS at *
 refine spH Tryz.func63 (by kernel_rfl) { cfgP with fz:=[82],keep:=some [0,1,4,5,6,8,9,10]} [Zj,Zi,XC,XB,zhO,zhN,zK,zJ,qH,qG,zh6,zh5] (by kernel_rfl) ?_
 intro I X hI hX
 refine orcL ?_;go_invoke;refine orcS (by kernel_rfl) ?_
 simp only [zi,Nat.reduceAdd];subst hI;simp only [nrmA,nrmB,nrlB,reduceCtorEq,HO.pack.injEq,HO.obj.injEq];rw [show(⟨5,id,0,[]⟩:Ent)=begE id from rfl];dsimp only at *;have hd:=yE id;generalize wrtC l n b (begE id)=C at *;generalize wrtL l n b (begE id)=l' at *;generalize wrtN l n b (begE id)=n' at *;generalize wrtB l n b (begE id)=b' at *;generalize getU l' id=u at *
 by_cases hC:C=0
 · have h1:=h1 hC
   have hid:=hid hC;obtain⟨e1,e2,e3⟩:=h1;subst e1 e2 e3;have hF0:=zpT;have hF1:=zvj hg.1;have hta:=zrO id;unfold zn5 zl6 zpU zl2 zbG at *;dsimp only
   (repeat' (first|refine ja ?_ ?_|intro _))<;>first|omega|exact jb|exact jc ‹False›|skip
   all_goals first
    |omega
    |exact hw
    |(simp only [jk,jh,ji];omega)
    |exact hta _ ‹_›
    |exact(hF1 _ ‹_›).1
    |exact(hF1 _ ‹_›).2
    |exact(hF0 _ ‹_›).1
    |exact(hF0 _ ‹_›).2
    |(rw [if_neg ‹¬ u.note=[]›];done)
    |(rw [if_neg ‹¬ u.note=[]›];rfl)
    |(rw [if_pos ‹u.note=[]›];done)
    |(rw [if_pos ‹u.note=[]›];rfl)
    |rfl
 · have h0:=h0 hC
   obtain⟨e1,e2,e3⟩:=h0;subst e1 e2 e3;dsimp only
   (repeat' (first|refine ja ?_ ?_|intro _))<;>first|omega|exact jb|exact jc ‹False›|skip
   all_goals rfl
def zsI:Know Tryz.prog:=⟨63,RY,zkp⟩
def zsH:Know Tryz.prog:=⟨63,fun I=>zx I (RY I),zf zkp⟩
end Go.Proofs.YtnpmenpjagcheaaGreatDoor
namespace Go.Proofs.YtnpmenpjagcheaaGreatDoor
open Go Go.Sep Go.Ab
set_option maxRecDepth 100000
def PdN (g:GS) (t:List Int) (x:Stp):Prop:=∃ (N:Nat) (m:Int),GsI g m N∧N+x.bytes.length≤30000∧25000≤m∧m+12 * x.bytes.length≤199980∧t.length≤1000000
theorem kinds (k:Int):k=1∨k=2∨k=3∨k=4∨k=5∨(k≠1∧k≠2∧k≠3∧k≠4∧k≠5):=by omega
theorem zzd (j:Int):j=0∨j=1∨j=2∨j=3∨(∃ i:Nat,j=Int.negSucc i)∨(∃ i:Nat,j=Int.ofNat (i+4)):=by
 rcases Classical.em (j<0∨4≤j) with h|h
 · exact .inr (.inr (.inr (.inr (outK h))))
 · omega
theorem zvl (q:Sto) (id:Int):(Ux q id).b=[]:=by unfold Ux;split<;>rfl
def zku (I:Alg):KU
 |[.v (.one (.ptr 0 0)),.v (.agg [.p (.int .i64 k),.p (.int .i64 j),.p (.int .i64 m),.p (.list .byte x)])],[.pack [.obj 58 [.ptr 1 0,.row 7],.obj 72 [.ptr 2 0,.ptr 3 0,.ptr 4 0,.ptr 5 0,.ptr 6 0],.pack [.obj 78 [.ptr 1 0,.ptr 2 0],.pack [.obj 106 [.row 1,.p (.int .i64 n)],.row .upl 82 l],.pack [.obj 108 [.row 1,.p (.int .i64 s)],.row .byte 5 b]],.abs (.cn c0),.abs (.cn c1),.abs (.cn c2),.abs (.cn c3),.row .int 3 t]]=>(fun(l:List Upl) (b:Str) (t:List Int) (x:Str)=>(some (.one ⟨I.hid (PdN ⟨⟨l,n,b,s⟩,c0,c1,c2,c3⟩ t ⟨k,j,m,x⟩),(.ret (.v (.agg [.p (.int .i64 (I.hid ((doO ⟨⟨l,n,b,s⟩,c0,c1,c2,c3⟩ ⟨k,j,m,x⟩).c))),.p (.list .byte (I.hid ((doO ⟨⟨l,n,b,s⟩,c0,c1,c2,c3⟩ ⟨k,j,m,x⟩).b))),.p (.list .byte (I.hid ((doO ⟨⟨l,n,b,s⟩,c0,c1,c2,c3⟩ ⟨k,j,m,x⟩).u)))]))),[.pack [.obj 58 [.ptr 1 0,.row 7],.obj 72 [.ptr 2 0,.ptr 3 0,.ptr 4 0,.ptr 5 0,.ptr 6 0],.pack [.obj 78 [.ptr 1 0,.ptr 2 0],.pack [.obj 106 [.row 1,.p (.int .i64 (I.hid ((doP ⟨⟨⟨l,n,b,s⟩,c0,c1,c2,c3⟩,t⟩ ⟨k,j,m,x⟩).g.q.n)))],.row .upl 82 (I.hid ((doP ⟨⟨⟨l,n,b,s⟩,c0,c1,c2,c3⟩,t⟩ ⟨k,j,m,x⟩).g.q.l))],.pack [.obj 108 [.row 1,.p (.int .i64 (I.hid ((doP ⟨⟨⟨l,n,b,s⟩,c0,c1,c2,c3⟩,t⟩ ⟨k,j,m,x⟩).g.q.s)))],.row .byte 5 (I.hid ((doP ⟨⟨⟨l,n,b,s⟩,c0,c1,c2,c3⟩,t⟩ ⟨k,j,m,x⟩).g.q.b))]],.abs (.cn (I.hid ((doP ⟨⟨⟨l,n,b,s⟩,c0,c1,c2,c3⟩,t⟩ ⟨k,j,m,x⟩).g.c0))),.abs (.cn (I.hid ((doP ⟨⟨⟨l,n,b,s⟩,c0,c1,c2,c3⟩,t⟩ ⟨k,j,m,x⟩).g.c1))),.abs (.cn (I.hid ((doP ⟨⟨⟨l,n,b,s⟩,c0,c1,c2,c3⟩,t⟩ ⟨k,j,m,x⟩).g.c2))),.abs (.cn (I.hid ((doP ⟨⟨⟨l,n,b,s⟩,c0,c1,c2,c3⟩,t⟩ ⟨k,j,m,x⟩).g.c3))),.row .int 3 (I.hid ((doP ⟨⟨⟨l,n,b,s⟩,c0,c1,c2,c3⟩,t⟩ ⟨k,j,m,x⟩).t))]]⟩):Option CT)) l b t x
 |_,_=>none
set_option maxHeartbeats 8000000 in
theorem zui:zu Tryz.prog 47 (zku alg):=by
 intro args hp r h;unfold zku at h;split at h<;>cases h
 rename_i k j m x n l s b c0 c1 c2 c3 t
 revert l t;intro(l:List Upl) (t:List Int)
 simp only [CT.Good,zh];intro hneed;obtain⟨N,M,hg,hx,hM0,hM,ht⟩:=hneed;have hs:=hg.q.1;have hb:=hg.q.2.1;have hn:n≤M:=hg.q.2.2.1;have hs0:0≤s:=hg.q.2.2.2.1;have hs1:s≤b.length:=hg.q.2.2.2.2
 have hF: ∀ {c:Cn},CnI c N→FdN ⟨l,n,b,s⟩ c x∧FOk c.h.fields∧c.body.length≤100000:=fun h=>⟨⟨N,M,hg.q,h,hx,hM⟩,h.2.1,by have:=h.2.2.1;dsimp only at hx;omega⟩
 have f0:=hF hg.c0;have f1:=hF hg.c1;have f2:=hF hg.c2;have f3:=hF hg.c3;dsimp only at hs hb hx hM f0 f1 f2 f3;clear hF;generalize hO:doO ⟨⟨l,n,b,s⟩,c0,c1,c2,c3⟩ ⟨k,j,m,x⟩=O;generalize hP:doP ⟨⟨⟨l,n,b,s⟩,c0,c1,c2,c3⟩,t⟩ ⟨k,j,m,x⟩=P;obtain⟨oc,ob,ou⟩:=O;obtain⟨⟨⟨l',n',b',s'⟩,d0,d1,d2,d3⟩,t'⟩:=P;unfold doP doG doT at hP;unfold doO at hO;have hj:=zzd j;have hi0:inG 0=true:=rfl;have hi1:inG 1=true:=rfl;have hi2:inG 2=true:=rfl;have hi3:inG 3=true:=rfl;have hi4: ∀ i:Nat,inG (Int.negSucc i)=false:=fun i=>rfl
 have hi5: ∀ i:Nat,inG (Int.ofNat (i+4))=false:=fun i=>by unfold inG;rw [decide_eq_false (show ¬ Int.ofNat (i+4)<4 by rw [Int.ofNat_eq_natCast];omega),Bool.and_false]
 clear hM0
 have ht0:wrtC l n b (endE m)=0→zhH ⟨l,n,b,s⟩ m=⟨wrtL l n b (endE m),wrtN l n b (endE m),wrtB l n b (endE m),((wrtB l n b (endE m)).length:Int)⟩:=fun h=>by unfold zhH;rw [if_neg (fun k=>k h)];rfl
 have ht1: ¬ wrtC l n b (endE m)=0→zhH ⟨l,n,b,s⟩ m=⟨wrtL l n b (endE m),wrtN l n b (endE m),wrtB l n b (endE m),s⟩:=fun h=>by unfold zhH;rw [if_pos (show wsC ⟨l,n,b,s⟩ (endE m)≠0 from h)];rfl
 refine spH Tryz.func47 (by kernel_rfl) { cfgP with fz:=[61],keep:=some [0,1,3,4,5,6,7,9]} [znT,znS,zK,zJ,zhM,zhL,zgG,zgF,zgE,zgD,zgC,zgB,zgA,zgz,zp3,zp2,zgx,zgw,zgv,zgu,zgt,zgs,zgr,zgq,zp1,zp0,Y6,Y5,zmG,zmF,zsI,zsH] (by kernel_rfl) ?_
 intro I X hI hX
 rcases hj with rfl|rfl|rfl|rfl|⟨i,rfl⟩|⟨i,rfl⟩
 all_goals
  refine orcL ?_;go_invoke;refine orcS (by kernel_rfl) ?_
  simp only [zi,Nat.reduceAdd];subst hI;simp only [nrmA,nrmB,nrlB,reduceCtorEq,HO.pack.injEq,HO.obj.injEq,HO.abs.injEq,Gh.cn.injEq]
  try rw [show(⟨6,m,0,[]⟩:Ent)=endE m from rfl]
  rcases kinds k with rfl|rfl|rfl|rfl|rfl|⟨k1,k2,k3,k4,k5⟩
  all_goals
   simp [hi0,hi1,hi2,hi3,hi4,hi5,GS.at,GS.put,GS.set, *] at hP hO
   obtain⟨⟨e,rfl,rfl,rfl,rfl⟩,rfl⟩:=hP
   try(obtain⟨rfl,rfl,rfl⟩:=hO)
   (repeat' (first|refine ja ?_ ?_|intro _))<;>first|omega|exact jb|exact jc ‹False›|skip
   all_goals first
    |exact hs
    |exact f0.1
    |exact f1.1
    |exact f2.1
    |exact f3.1
    |exact f0.2.1.1
    |exact(f0.2.1.2 _ ‹_›).1
    |exact(f0.2.1.2 _ ‹_›).2
    |exact f1.2.1.1
    |exact(f1.2.1.2 _ ‹_›).1
    |exact(f1.2.1.2 _ ‹_›).2
    |exact f2.2.1.1
    |exact(f2.2.1.2 _ ‹_›).1
    |exact(f2.2.1.2 _ ‹_›).2
    |exact f3.2.1.1
    |exact(f3.2.1.2 _ ‹_›).1
    |exact(f3.2.1.2 _ ‹_›).2
    |rfl
    |(rw [e];done)
    |(obtain⟨rfl,rfl,rfl,rfl⟩:=e;rfl)
    |(have e:=(ht0 ‹_›).symm.trans e;cases e;rfl)
    |(have e:=(ht1 ‹_›).symm.trans e;cases e;rfl)
    |(have e0:=zvl ⟨l,n,b,s⟩ m;rw [hO] at e0 ⊢;cases e0;rfl)
    |(unfold crsQ at e;cases e;rfl)
def zxx:Know Tryz.prog:=⟨47,zku,zui⟩
def zxw:Know Tryz.prog:=⟨47,fun I=>zx I (zku I),zf zui⟩
end Go.Proofs.YtnpmenpjagcheaaGreatDoor
namespace Go.Proofs.YtnpmenpjagcheaaGreatDoor
open Go Go.Sep Go.Ab
set_option maxRecDepth 100000
end Go.Proofs.YtnpmenpjagcheaaGreatDoor
namespace Go.Proofs.YtnpmenpjagcheaaGreatDoor
open Go Go.Sep Go.Ab
set_option maxRecDepth 100000
structure PsI (p:PS) (m:Int) (N:Nat) (k:Nat):Prop where
 g:GsI p.g m N
 t:p.t.length≤k
theorem ps_0:PsI ps0 25000 0 0:=⟨ziB gi_0 (by decide) (jL _),jL _⟩
theorem zyU {p:PS} {m:Int} {N k:Nat} (h:PsI p m N k) (hm:25000≤m) (x:Stp) (hb:N+x.bytes.length≤1000000):PsI (doP p x) (m+12 * x.bytes.length+1) (N+x.bytes.length) (k+1):=by
 refine⟨zy6 h.g hm x hb,?_⟩;have:=h.t
 show(doT p x).length≤_
 unfold doT zfs
 repeat' split
 all_goals first|omega|(rw [jk,jr];omega)
theorem zvt {p:PS} {m:Int} {N k:Nat} (h:PsI p m N k) (hm:25000≤m) (x:Stp) (hb:N+x.bytes.length≤30000) (hc:m+12 * x.bytes.length≤199980) (hk:k≤1000000):PdN p.g p.t x:=⟨N,m,h.g,hb,hm,hc,Nat.le_trans h.t hk⟩
end Go.Proofs.YtnpmenpjagcheaaGreatDoor
namespace Go.Proofs.YtnpmenpjagcheaaGreatDoor
open Go Go.Sep Go.Ab
set_option maxRecDepth 100000
def begP:Str:=[80,79,83,84,32,47,102,105,108,101,115,32,72,84,84,80,47,49,46,49,13,10,72,111,115,116,58,32,97,13,10,84,117,115,45,82,101,115,117,109,97,98,108,101,58,32,49,46,48,46,48,13,10,85,112,108,111,97,100,45,76,101,110,103,116,104,58,32,48,13,10,13,10]
def stA:Stp:=⟨1,0,0,begP⟩
def stB:Stp:=⟨3,0,1,[]⟩
end Go.Proofs.YtnpmenpjagcheaaGreatDoor
namespace Go.Proofs.YtnpmenpjagcheaaGreatDoor
open Go Go.Sep Go.Ab
end Go.Proofs.YtnpmenpjagcheaaGreatDoor
namespace Go.Proofs.YtnpmenpjagcheaaGreatDoor
open Go Go.Sep Go.Ab
theorem zdP {p:PS} {m m':Int} {N N' k k':Nat} (h:PsI p m N k) (h1:m≤m') (h2:N≤N') (h3:k≤k'):PsI p m' N' k':=⟨ziB h.g h1 h2,Nat.le_trans h.t h3⟩
end Go.Proofs.YtnpmenpjagcheaaGreatDoor
namespace Go.Proofs.YtnpmenpjagcheaaGreatDoor
open Go Go.Sep Go.Ab Go.Jrn
def kA (e:Evt):Bool:=decide (e.kind=3∨e.kind=4)
def cntA (l:List Evt):Nat:=(l.filter kA).length
theorem VX (a b:List Evt):cntA (a++b)=cntA a+cntA b:=by unfold cntA;simp
theorem zlI (e:Evt) (h:e.kind≠3) (k:e.kind≠4):cntA [e]=0:=by simp [cntA,kA,h,k]
theorem zyS (q:Rq) (c:UInt8):cntA (rqF q c).out≤cntA q.out+2:=by
 have hb: ∀ (o:List Evt) (s:Str),cntA (o++[evB s])=cntA o:=fun o s=>by rw [VX,zlI _ (show(2:Int)≠3 by decide) (show(2:Int)≠4 by decide)];rfl
 have hh: ∀ (o:List Evt) (s:Hd),cntA (o++[evH s])=cntA o:=fun o s=>by rw [VX,zlI _ (show(1:Int)≠3 by decide) (show(1:Int)≠4 by decide)];rfl
 have hf: ∀ (o:List Evt) (s:Int),cntA (o++[evF s])=cntA o+1:=fun o s=>by rw [VX];rfl
 have he: ∀ (o:List Evt),cntA (o++[evE])=cntA o+1:=fun o=>by rw [VX];rfl
 have hd: ∀ q:Rq,cntA (yA q).1.out≤cntA q.out+1:=fun q=>by
  unfold yA tK
  repeat' split
  all_goals first|omega|(simp only [hb,hh,hf,he];omega)
 have hl: ∀ (q:Rq) (s:Str),cntA (zO q s).1.out≤cntA q.out+1:=fun q s=>by
  have:=hd q;unfold zO
  repeat' split
  all_goals first|exact this|(simp only;omega)
 have hL:=hl { q with ln:=(lnF q.ln c).1} (lnF q.ln c).2.1
 simp only at hL;unfold rqF tK wU
 repeat' split
 all_goals first|omega|(simp only [hb,hh,hf,he];omega)
theorem zop: ∀ (b:Str) (q:Rq),cntA (uT q b).out≤cntA q.out+2 * b.length
 |[],q=>jL _
 | c::b,q=>by
   have h1:=zop b (rqF q c);have h2:=zyS q c;have:uT q (c::b)=uT (rqF q c) b:=rfl;rw [this,jh];omega
theorem zwJ (q:Sto) (m t:Str) (f:List Fld) (body:Str):(ansG q m t f body).r.fields.length≤5∧(ansG q m t f body).r.body.length≤720:=by
 have h0: ∀ st,(Xq st).fields.length≤5∧(Xq st).body.length≤720:=fun st=>⟨jM _,jM _⟩;have hs:=rX f body;unfold ansG
 split
 · refine⟨?_,jM _⟩
   show(resT::(yU q m t f body).fs).length≤5
   have:=Uu q m t f body;simp only [jh];omega
 split
 · exact h0 _
 split
 · exact h0 _
 unfold XP
 split
 · exact h0 _
 split
 · exact h0 _
 · have:=U3 (sQ f body).1 q [] [] hs.2.1
   refine⟨by rw [Xh];decide,?_⟩
   simp only [ji] at this;omega
theorem zcZ {r:Rpl} (h:r.fields.length≤5) (k:r.body.length≤720):(zbw r).length≤2500:=by
 unfold zbw writeT
 split
 · rename_i hc
   have hw:XY r.status≠[]:=fun e=>by unfold Q7 at hc;rw [if_pos e] at hc;exact absurd hc (by decide)
   have h1:=(XW hw).2.2;have h2:=yE r.status;have h3:=yE (r.body.length:Int);have h4:=qZ r.fields;simp only [zgl,zdj,jk,jh,ji];omega
 · exact jM _
theorem zzb (x:GE) (e:Evt):(evG x e).o.length≤x.o.length+2500 * cntA [e]:=by
 have h3:e.kind=3→cntA [e]=1:=fun h=>by simp [cntA,kA,h]
 have h4:e.kind=4→cntA [e]=1:=fun h=>by simp [cntA,kA,h]
 unfold evG
 repeat' split
 · exact Nat.le_add_right _ _
 · exact Nat.le_add_right _ _
 · rename_i h
   have:=zwJ x.q x.h.method x.h.target x.h.fields x.b;have:=zcZ this.1 this.2;rw [h3 h];simp only [jk];omega
 · rename_i h
   have:=zcZ (r:=zwn e.code) (jM _) (jM _);rw [h4 h];simp only [jk];omega
 · exact Nat.le_add_right _ _
theorem zx4: ∀ (l:List Evt) (x:GE),(evsG x l).o.length≤x.o.length+2500 * cntA l
 |[],x=>Nat.le_add_right _ _
 | e::l,x=>by
   have h1:=zx4 l (evG x e);have h2:=zzb x e;have:cntA (e::l)=cntA [e]+cntA l:=VX [e] l
   show(evsG (evG x e) l).o.length≤_
   omega
theorem zwl (q:Sto) (c:Cn) (x:Str):(fdO q c x).length≤5000 * x.length:=by
 unfold fdO
 split
 · exact jM _
 · rw [zqq]
   have h1:=zx4 (zM c.q x).out ⟨q,c.h,c.body,c.live,c.own,[]⟩;have h2:cntA (zM c.q x).out≤0+2 * x.length:=zop x _;simp only [ji] at h1;omega
theorem zsm (m t:Str) (fs:List Fld) (b:Str) (hm:m.length≤200):(rqwT m t fs b).length≤8000:=by
 by_cases h:rqwC m t fs b=0
 · rw [rqwT,if_pos h]
   unfold rqwC at h
   repeat' split at h
   all_goals first
    |(exfalso;exact absurd h (by decide))
    |contradiction
    | (have e1:=qZ fs
       have e2:=yE (b.length:Int);simp only [zdj,jk,jh,ji]
       omega)
 · rw [rqwT,if_neg h];exact jM _
theorem zqK (g:GS) (x:Stp):(doO g x).b.length≤5000 * x.bytes.length∧(doO g x).u.length≤8000:=by
 unfold doO
 repeat' split
 all_goals first
  |exact⟨zwl _ _ _,jM _⟩
  |exact⟨jM _,jM _⟩
  | (unfold Ux;split
     · exact⟨jM _,jM _⟩
     · exact⟨jM _,zsm _ _ _ _ (by decide)⟩)
end Go.Proofs.YtnpmenpjagcheaaGreatDoor
