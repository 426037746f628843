/- Texts of this proof, one behind the other: StoL StoA SplC SplS SplD StoB StoN TusL RplL LnL LnR ChkL Evt ReqL ReqP SeekL SeekM Mrk FrmL Pfx TusA TusB TusC TusD TusE TusF GatL RplA FrmA FrmB LnA FrmC FrmD FldP FrmE EvJ FrmF FrmG FrmH FrmI. -/
import Derived.Test.YtnpmenpjagcheaaGreatDoorMc
set_option linter.all false
namespace Go.Proofs.YtnpmenpjagcheaaGreatDoor
open Go Go.Sep Go.Ab Go.Jrn
def zdR (l:List Upl) (n:Int) (e:Ent):Int:=
 if e.kind=1 then(if creC l e.n e.text=0∧¬ n+1=e.id then 20 else creC l e.n e.text)
 else if e.kind=2 then appC l e.id (getU l e.id).bytes.length e.text
 else if e.kind=3 then decC l e.id e.n
 else if e.kind=4 then droC l e.id
 else if e.kind=5 then begC l e.id
 else endC l e.id
def zdQ (l:List Upl) (n:Int) (e:Ent):List Upl:=
 if e.kind=1 then creL l n e.n e.text
 else if e.kind=2 then appL l e.id (getU l e.id).bytes.length e.text
 else if e.kind=3 then decL l e.id e.n
 else if e.kind=4 then droL l e.id
 else if e.kind=5 then begL l e.id
 else endL l e.id
def UC (l:List Upl) (n:Int) (e:Ent):Int:=if e.kind=1 then creN l n e.n e.text else n
theorem zo3 {l:List Upl} {n:Int} (h:zI l n) (e:Ent):zI (zdQ l n e) (UC l n e):=by
 unfold zdQ UC
 split
 · exact zyj h _ _
 split
 · exact zyx h _ _ _
 split
 · exact zyf h _ _
 split
 · exact zya h _
 split
 · exact zys h _
 · exact zx7 h _
theorem zkm (l:List Upl) (n:Int) (e:Ent):n≤UC l n e∧UC l n e≤n+1:=by
 unfold UC creN
 split
 · split<;>omega
 · omega
def replay:List Upl × Int→List Ent→List Upl × Int
 |p,[]=>p
 |p,e::es=>replay (zdQ p.1 p.2 e,UC p.1 p.2 e) es
theorem Uy: ∀ (a b:List Ent) (p:List Upl × Int),replay p (a++b)=replay (replay p a) b
 |[],_,_=>rfl
 |_::a,b,_=>Uy a b _
theorem zaF: ∀ (es:List Ent) (p:List Upl × Int),zI p.1 p.2→zI (replay p es).1 (replay p es).2
 |[],_,h=>h
 |e::es,_,h=>zaF es _ (zo3 h e)
theorem zdO: ∀ (es:List Ent) (p:List Upl × Int),(replay p es).2≤p.2+es.length
 |[],_=>by simp [replay]
 | e::es,p=>by
   have:=zdO es (zdQ p.1 p.2 e,UC p.1 p.2 e);have:=zkm p.1 p.2 e;simp only [replay,jh] at *;omega
theorem zh8 {es:List Ent} {i:Nat} (p:List Upl × Int) (h:i<es.length):replay p (es.take (i+1))=(zdQ (replay p (es.take i)).1 (replay p (es.take i)).2 es[i],UC (replay p (es.take i)).1 (replay p (es.take i)).2 es[i]):=by
 rw [jB h,Uy];rfl
def wrtC (l:List Upl) (n:Int) (b:Str) (e:Ent):Int:=
 if ¬ zdR l n e=0 then zdR l n e else if ¬ encC e=0 then encC e else wrC b (encM e)
def wrtL (l:List Upl) (n:Int) (b:Str) (e:Ent):List Upl:=if wrtC l n b e=0 then zdQ l n e else l
def wrtN (l:List Upl) (n:Int) (b:Str) (e:Ent):Int:=if wrtC l n b e=0 then UC l n e else n
def wrtB (l:List Upl) (n:Int) (b:Str) (e:Ent):Str:=if wrtC l n b e=0 then b++encB e else b
theorem QY {l:List Upl} {n:Int} (h:zI l n) (b:Str) (e:Ent):zI (wrtL l n b e) (wrtN l n b e):=by
 unfold wrtL wrtN
 split
 · exact zo3 h e
 · exact h
theorem znb (l:List Upl) (n:Int) (b:Str) (e:Ent):n≤wrtN l n b e∧wrtN l n b e≤n+1:=by
 have:=zkm l n e;unfold wrtN
 split<;>omega
theorem zc4 {l:List Upl} {n:Int} {b:Str} {e:Ent} (h:wrtC l n b e=0):zdR l n e=0∧mayM e=true∧b.length+(encB e).length≤100000:=by
 unfold wrtC at h
 split at h
 · rename_i h1;exact absurd h h1
 rename_i h1
 split at h
 · rename_i h2;exact absurd h h2
 rename_i h2
 have hm:mayM e=true:=by
  unfold encC at h2
  cases hm:mayM e with
  |true=>rfl
  |false=>rw [hm] at h2;simp at h2
 unfold wrC at h
 split at h
 · rename_i h3
   refine⟨Decidable.not_not.1 h1,hm,?_⟩;unfold encM at h3;rw [if_pos hm] at h3;exact h3
 · cases h
theorem Zb {l:List Upl} {n:Int} {b:Str} (e:Ent) (h:b.length≤100000):(wrtB l n b e).length≤100000:=by
 unfold wrtB
 split
 · rename_i h1
   rw [jk];exact(zc4 h1).2.2
 · exact h
def crsB (b:Str) (s k:Int):Str:=cuB (crB b s k) (zdb (crB b s k))
def crsE (b:Str) (s k:Int):List Ent:=(Jrn.dec (crB b s k)).1
def crsP (b:Str) (s k:Int):List Upl × Int:=replay ([],0) (crsE b s k)
theorem zjl (b:Str):0≤zdb b∧zdb b≤b.length:=by
 have:=Jrn.zqO b;unfold zdb;omega
theorem ztO (b:Str) (s k:Int):cuS (crB b s k) (crB b s k).length (zdb (crB b s k))=(crsB b s k).length:=by
 have:=zjl (crB b s k);unfold crsB cuS cuB
 split
 · rw [jv];omega
 · rfl
theorem zeL (b:Str) (s k:Int):(crB b s k).length≤b.length:=by unfold crB;rw [jv];omega
theorem ztP (b:Str) (s k:Int):(crsB b s k).length≤b.length:=by
 have:=zeL b s k;unfold crsB cuB
 split
 · rw [jv];omega
 · exact this
theorem zcW: ∀ {es:List Ent} {e:Ent},e ∈ es→(encB e).length≤(qm es).length
 | f::es,e,h=>by
   simp only [qm,jk]
   rcases List.mem_cons.1 h with rfl|h
   · omega
   · have:=zcW h;omega
theorem ztC (e:Ent):e.text.length≤(encB e).length:=by unfold encB enc3;simp only [jk];omega
theorem zm0 {b:Str} {s k:Int} (h:b.length≤100000):(crsE b s k).length≤100000∧∀ e ∈ crsE b s k,e.text.length≤100000:=by
 have h1:=zeL b s k;have h2:=Jrn.zqO (crB b s k);have h3:=Jrn.zeC _ (crB b s k) (jL _);have h4:=congrArg List.length h3.1;rw [jk] at h4;unfold crsE
 refine⟨by omega,fun e he=> ?_⟩
 have:=zcW he;have:=ztC e;omega
end Go.Proofs.YtnpmenpjagcheaaGreatDoor
namespace Go.Proofs.YtnpmenpjagcheaaGreatDoor
open Go Go.Sep Go.Ab Go.Jrn
set_option maxRecDepth 100000
def XT:Cfg:= { sl:=[⟨106,0,.upl,some 82⟩,⟨108,0,.byte,some 5⟩]}
def Wl (I:Alg):KU
 |[],[]=>some (.one ⟨I.hid (True),(.ret (.v (.one (.ptr 0 0)))),[.pack [.obj 78 [.ptr 1 0,.ptr 2 0],.pack [.obj 106 [.row 1,.p (.int .i64 0)],.row .upl 82 (I.hid ([]))],.pack [.obj 108 [.row 1,.p (.int .i64 0)],.row .byte 5 (I.hid ([]))]]]⟩)
 |_,_=>none
theorem zfg:zu Tryz.prog 24 (Wl alg):=by
 intro args hp r h;unfold Wl at h;split at h<;>cases h
 simp only [CT.Good,zh];intro _
 refine spH Tryz.func24 (by kernel_rfl) { XT with keep:=some [0]} [zhU,zhT,zvY,zvX] (by kernel_rfl) ?_
 intro I X hI hX
 refine orcL ?_;go_invoke;refine orcS (by kernel_rfl) ?_
 simp only [zi,Nat.reduceAdd];subst hI;exact⟨trivial,trivial,trivial,rfl⟩
def znP:Know Tryz.prog:=⟨24,Wl,zfg⟩
def znO:Know Tryz.prog:=⟨24,fun I=>zx I (Wl I),zf zfg⟩
def SY (I:Alg):KU
 |[.v (.one (.ptr 0 0)),.v (.agg [.p (.int .i64 k),.p (.int .i64 i),.p (.int .i64 m),.p (.list .byte t)])],[.pack [.obj 106 [.row 1,.p (.int .i64 n)],.row .upl 82 l]]=>(fun(l:List Upl) (t:Str)=>(some (.one ⟨I.hid (zI l n∧n≤1000000∧t.length≤1000000),(.ret (.v (.one (.p (.int .i64 (I.hid (zdR l n ⟨k,i,m,t⟩))))))),[.pack [.obj 106 [.row 1,.p (.int .i64 (I.hid (UC l n ⟨k,i,m,t⟩)))],.row .upl 82 (I.hid (zdQ l n ⟨k,i,m,t⟩))]]⟩):Option CT)) l t
 |_,_=>none
set_option maxHeartbeats 4000000 in
theorem zjA:zu Tryz.prog 88 (SY alg):=by
 intro args hp r h;unfold SY at h;split at h<;>cases h
 rename_i k i m t n l
 revert l;intro(l:List Upl)
 simp only [CT.Good,zh];intro hneed;obtain⟨hs,hn,ht⟩:=hneed;generalize hc:zdR l n ⟨k,i,m,t⟩=c;generalize hl:zdQ l n ⟨k,i,m,t⟩=l';generalize hN:UC l n ⟨k,i,m,t⟩=n'
 refine spH Tryz.func88 (by kernel_rfl) { XT with keep:=some [0,1,3,4,5,6,7,10]} [zmd,zmc,zmf,zme,zhW,zhV,zoh,zog,zvo,zvn,Zj,Zi,XC,XB,zsi,zsh] (by kernel_rfl) ?_
 intro I X hI hX
 refine orcL ?_;go_invoke;refine orcS (by kernel_rfl) ?_
 simp only [zi,Nat.reduceAdd];subst hI;simp only [nrmA,nrmB,nrlB,reduceCtorEq,HO.pack.injEq,HO.obj.injEq];unfold zdR at hc;unfold zdQ at hl;unfold UC at hN;simp only at hc hl hN
 have hci:creC l m t=0→creI l n m t=n+1:=fun h=>by unfold creI;rw [if_pos h]
 (repeat' (first|refine ja ?_ ?_|intro _))<;>first|omega|exact jb|exact jc ‹False›|skip
 all_goals first
  |exact hs
  |exact hn
  |exact ht
  |exact⟨hs,hn,ht⟩
  |exact⟨hs,ht⟩
  |(have:=hci (by assumption);((repeat(first|rewrite [if_pos (by first|omega|assumption|(simp only [*,or_self,or_true,true_or,or_false,false_or,jf,jg,jd,je,and_self,and_true,true_and];done)|(simp only [*];omega)|(simp [*];done)|(simp [*];omega))] at hc|rewrite [if_neg (by first|omega|assumption|(simp only [*,or_self,or_true,true_or,or_false,false_or,jf,jg,jd,je,and_self,and_true,true_and];done)|(simp only [*];omega)|(simp [*];done)|(simp [*];omega))] at hc)));subst hc;((repeat(first|rewrite [if_pos (by first|omega|assumption|(simp only [*,or_self,or_true,true_or,or_false,false_or,jf,jg,jd,je,and_self,and_true,true_and];done)|(simp only [*];omega)|(simp [*];done)|(simp [*];omega))] at hl|rewrite [if_neg (by first|omega|assumption|(simp only [*,or_self,or_true,true_or,or_false,false_or,jf,jg,jd,je,and_self,and_true,true_and];done)|(simp only [*];omega)|(simp [*];done)|(simp [*];omega))] at hl)));subst hl;((repeat(first|rewrite [if_pos (by first|omega|assumption|(simp only [*,or_self,or_true,true_or,or_false,false_or,jf,jg,jd,je,and_self,and_true,true_and];done)|(simp only [*];omega)|(simp [*];done)|(simp [*];omega))] at hN|rewrite [if_neg (by first|omega|assumption|(simp only [*,or_self,or_true,true_or,or_false,false_or,jf,jg,jd,je,and_self,and_true,true_and];done)|(simp only [*];omega)|(simp [*];done)|(simp [*];omega))] at hN)));subst hN;first|rfl|omega)
  |(((repeat(first|rewrite [if_pos (by first|omega|assumption|(simp only [*,or_self,or_true,true_or,or_false,false_or,jf,jg,jd,je,and_self,and_true,true_and];done)|(simp only [*];omega)|(simp [*];done)|(simp [*];omega))] at hc|rewrite [if_neg (by first|omega|assumption|(simp only [*,or_self,or_true,true_or,or_false,false_or,jf,jg,jd,je,and_self,and_true,true_and];done)|(simp only [*];omega)|(simp [*];done)|(simp [*];omega))] at hc)));subst hc;((repeat(first|rewrite [if_pos (by first|omega|assumption|(simp only [*,or_self,or_true,true_or,or_false,false_or,jf,jg,jd,je,and_self,and_true,true_and];done)|(simp only [*];omega)|(simp [*];done)|(simp [*];omega))] at hl|rewrite [if_neg (by first|omega|assumption|(simp only [*,or_self,or_true,true_or,or_false,false_or,jf,jg,jd,je,and_self,and_true,true_and];done)|(simp only [*];omega)|(simp [*];done)|(simp [*];omega))] at hl)));subst hl;((repeat(first|rewrite [if_pos (by first|omega|assumption|(simp only [*,or_self,or_true,true_or,or_false,false_or,jf,jg,jd,je,and_self,and_true,true_and];done)|(simp only [*];omega)|(simp [*];done)|(simp [*];omega))] at hN|rewrite [if_neg (by first|omega|assumption|(simp only [*,or_self,or_true,true_or,or_false,false_or,jf,jg,jd,je,and_self,and_true,true_and];done)|(simp only [*];omega)|(simp [*];done)|(simp [*];omega))] at hN)));subst hN;first|rfl|omega)
def zdu:Know Tryz.prog:=⟨88,SY,zjA⟩
def zds:Know Tryz.prog:=⟨88,fun I=>zx I (SY I),zf zjA⟩
def Zf (I:Alg):KU
 |[.v (.one (.ptr 0 0)),.v (.agg [.p (.int .i64 k),.p (.int .i64 i),.p (.int .i64 m),.p (.list .byte t)])],[.pack [.obj 78 [.ptr 1 0,.ptr 2 0],.pack [.obj 106 [.row 1,.p (.int .i64 n)],.row .upl 82 l],.pack [.obj 108 [.row 1,.p (.int .i64 s)],.row .byte 5 b]]]=>(fun(l:List Upl) (b t:Str)=>(some (.one ⟨I.hid (zI l n∧n≤200000∧t.length≤1000000∧b.length≤100000),(.ret (.v (.one (.p (.int .i64 (I.hid (wrtC l n b ⟨k,i,m,t⟩))))))),[.pack [.obj 78 [.ptr 1 0,.ptr 2 0],.pack [.obj 106 [.row 1,.p (.int .i64 (I.hid (wrtN l n b ⟨k,i,m,t⟩)))],.row .upl 82 (I.hid (wrtL l n b ⟨k,i,m,t⟩))],.pack [.obj 108 [.row 1,.p (.int .i64 s)],.row .byte 5 (I.hid (wrtB l n b ⟨k,i,m,t⟩))]]]⟩):Option CT)) l b t
 |_,_=>none
set_option maxHeartbeats 4000000 in
theorem zaj:zu Tryz.prog 83 (Zf alg):=by
 intro args hp r h;unfold Zf at h;split at h<;>cases h
 rename_i k i m t n l s b
 revert l;intro(l:List Upl)
 simp only [CT.Good,zh];intro hneed;obtain⟨hs,hn,ht,hb⟩:=hneed;generalize hc:wrtC l n b ⟨k,i,m,t⟩=c;generalize hl:wrtL l n b ⟨k,i,m,t⟩=l';generalize hN:wrtN l n b ⟨k,i,m,t⟩=n';generalize hB:wrtB l n b ⟨k,i,m,t⟩=b'
 refine spH Tryz.func83 (by kernel_rfl) { XT with keep:=some [0,1,3,4,5,6,7,8]} [zsk,zsj,zqH,zqG,zrG,zrF,zdu,zds] (by kernel_rfl) ?_
 intro I X hI hX
 refine orcL ?_;go_invoke;refine orcS (by kernel_rfl) ?_
 simp only [zi,Nat.reduceAdd];subst hI;simp only [nrmA,nrmB,nrlB,reduceCtorEq,HO.pack.injEq,HO.obj.injEq]
 have hel:(encM ⟨k,i,m,t⟩).length≤2000000:=by
  unfold encM
  split
  · rename_i h
    have:=ztF h;simp only at this;omega
  · simp
 generalize he:(⟨k,i,m,t⟩:Ent)=e at *
 have hem:encC e=0→encM e=encB e:=fun h=>by
  unfold encC at h;unfold encM
  split at h
  · rename_i h2;rw [if_pos h2]
  · cases h
 have hw0: ∀ x:Str,wrC b x=0→wrB b x=b++x:=fun x h=>by
  unfold wrC at h;unfold wrB
  split at h
  · rename_i h2;rw [if_pos h2]
  · cases h
 have hw1: ∀ x:Str,¬ wrC b x=0→wrB b x=b:=fun x h=>by
  unfold wrC at h;unfold wrB
  split at h
  · exact absurd rfl h
  · rename_i h2;rw [if_neg h2]
 unfold wrtL at hl;unfold wrtN at hN;unfold wrtB at hB;rw [hc] at hl hN hB;unfold wrtC at hc
 (repeat' (first|refine ja ?_ ?_|intro _))<;>first|omega|exact jb|exact jc ‹False›|skip
 all_goals first
  |exact hs
  |(((repeat(first|rewrite [if_pos (by first|omega|assumption|(simp only [*,or_self,or_true,true_or,or_false,false_or,jf,jg,jd,je,and_self,and_true,true_and];done)|(simp only [*];omega)|(simp [*];done)|(simp [*];omega))] at hc|rewrite [if_neg (by first|omega|assumption|(simp only [*,or_self,or_true,true_or,or_false,false_or,jf,jg,jd,je,and_self,and_true,true_and];done)|(simp only [*];omega)|(simp [*];done)|(simp [*];omega))] at hc)));subst hc;((repeat(first|rewrite [if_pos (by first|omega|assumption|(simp only [*,or_self,or_true,true_or,or_false,false_or,jf,jg,jd,je,and_self,and_true,true_and];done)|(simp only [*];omega)|(simp [*];done)|(simp [*];omega))] at hl|rewrite [if_neg (by first|omega|assumption|(simp only [*,or_self,or_true,true_or,or_false,false_or,jf,jg,jd,je,and_self,and_true,true_and];done)|(simp only [*];omega)|(simp [*];done)|(simp [*];omega))] at hl)));subst hl;((repeat(first|rewrite [if_pos (by first|omega|assumption|(simp only [*,or_self,or_true,true_or,or_false,false_or,jf,jg,jd,je,and_self,and_true,true_and];done)|(simp only [*];omega)|(simp [*];done)|(simp [*];omega))] at hN|rewrite [if_neg (by first|omega|assumption|(simp only [*,or_self,or_true,true_or,or_false,false_or,jf,jg,jd,je,and_self,and_true,true_and];done)|(simp only [*];omega)|(simp [*];done)|(simp [*];omega))] at hN)));subst hN;((repeat(first|rewrite [if_pos (by first|omega|assumption|(simp only [*,or_self,or_true,true_or,or_false,false_or,jf,jg,jd,je,and_self,and_true,true_and];done)|(simp only [*];omega)|(simp [*];done)|(simp [*];omega))] at hB|rewrite [if_neg (by first|omega|assumption|(simp only [*,or_self,or_true,true_or,or_false,false_or,jf,jg,jd,je,and_self,and_true,true_and];done)|(simp only [*];omega)|(simp [*];done)|(simp [*];omega))] at hB)));subst hB;first|rfl|omega|exact hw1 _ (by assumption)|(rw [hw0 _ (by assumption),hem (by assumption)]))
def vO:Know Tryz.prog:=⟨83,Zf,zaj⟩
def vN:Know Tryz.prog:=⟨83,fun I=>zx I (Zf I),zf zaj⟩
def rO (I:Alg):KU
 |[.v (.one (.ptr 0 0)),.v (.one (.p (.int .i64 size))),.v (.one (.p (.str t)))],[.pack [.obj 78 [.ptr 1 0,.ptr 2 0],.pack [.obj 106 [.row 1,.p (.int .i64 n)],.row .upl 82 l],.pack [.obj 108 [.row 1,.p (.int .i64 s)],.row .byte 5 b]]]=>(fun(l:List Upl) (b t:Str)=>(some (.one ⟨I.hid (zI l n∧n≤200000∧t.length≤1000000∧b.length≤100000),(.ret (.tup [(.one (.p (.int .i64 (I.hid (if wrtC l n b ⟨1,n+1,size,t⟩=0 then n+1 else 0))))),.one (.p (.int .i64 (I.hid (wrtC l n b ⟨1,n+1,size,t⟩))))])),[.pack [.obj 78 [.ptr 1 0,.ptr 2 0],.pack [.obj 106 [.row 1,.p (.int .i64 (I.hid (wrtN l n b ⟨1,n+1,size,t⟩)))],.row .upl 82 (I.hid (wrtL l n b ⟨1,n+1,size,t⟩))],.pack [.obj 108 [.row 1,.p (.int .i64 s)],.row .byte 5 (I.hid (wrtB l n b ⟨1,n+1,size,t⟩))]]]⟩):Option CT)) l b t
 |_,_=>none
theorem Tt:zu Tryz.prog 171 (rO alg):=by
 intro args hp r h;unfold rO at h;split at h<;>cases h
 rename_i size t n l s b
 revert l;intro(l:List Upl)
 simp only [CT.Good,zh];intro hneed;have hn0:=hneed.1.n0
 refine spH Tryz.func171 (by kernel_rfl) { XT with keep:=some [0,1,2,6,7,8,9]} [zsg,zsf,vO,vN] (by kernel_rfl) ?_
 intro I X hI hX
 refine orcL ?_;go_invoke;refine orcS (by kernel_rfl) ?_
 simp only [zi,Nat.reduceAdd];subst hI;simp only [nrmA,nrmB,nrlB,reduceCtorEq,HO.pack.injEq,HO.obj.injEq]
 exact⟨⟨hn0,by omega⟩,hneed,fun h=>(if_neg h).symm,fun h=>⟨(if_pos h).symm,h.symm⟩⟩
def Tq:Know Tryz.prog:=⟨171,rO,Tt⟩
def Tn:Know Tryz.prog:=⟨171,fun I=>zx I (rO I),zf Tt⟩
def apG (l:List Upl) (id off:Int):Bool:=getB l id&&(decide ((getU l id).sent=0)&& !decide (off=(getU l id).bytes.length))
def apE (id:Int) (x:Str):Ent:=⟨2,id,0,x⟩
def rP (I:Alg):KU
 |[.v (.one (.ptr 0 0)),.v (.one (.p (.int .i64 id))),.v (.one (.p (.int .i64 off))),.v (.one (.p (.list .byte x)))],[.pack [.obj 78 [.ptr 1 0,.ptr 2 0],.pack [.obj 106 [.row 1,.p (.int .i64 n)],.row .upl 82 l],.pack [.obj 108 [.row 1,.p (.int .i64 s)],.row .byte 5 b]]]=>(fun(l:List Upl) (b x:Str)=>(some (.one ⟨I.hid (zI l n∧n≤200000∧x.length≤1000000∧b.length≤100000),(.ret (.v (.one (.p (.int .i64 (I.hid (if apG l id off then 17 else wrtC l n b ⟨2,id,0,x⟩))))))),[.pack [.obj 78 [.ptr 1 0,.ptr 2 0],.pack [.obj 106 [.row 1,(.p (.int .i64 (I.hid (if apG l id off then n else wrtN l n b ⟨2,id,0,x⟩))))],.row .upl 82 (I.hid (if apG l id off then l else wrtL l n b ⟨2,id,0,x⟩))],.pack [.obj 108 [.row 1,.p (.int .i64 s)],.row .byte 5 (I.hid (if apG l id off then b else wrtB l n b ⟨2,id,0,x⟩))]]]⟩):Option CT)) l b x
 |_,_=>none
theorem Tv:zu Tryz.prog 175 (rP alg):=by
 intro args hp r h;unfold rP at h;split at h<;>cases h
 rename_i id off x n l s b
 revert l;intro(l:List Upl)
 simp only [CT.Good,zh];intro hneed;generalize hg:apG l id off=g
 refine spH Tryz.func175 (by kernel_rfl) { XT with keep:=some [0,1,2,3,8,9,10]} [Zj,Zi,XC,XB,vO,vN] (by kernel_rfl) ?_
 intro I X hI hX
 refine orcL ?_;go_invoke;refine orcS (by kernel_rfl) ?_
 simp only [zi,Nat.reduceAdd];subst hI;simp only [nrmA,nrmB,nrlB,reduceCtorEq,HO.pack.injEq,HO.obj.injEq]
 (repeat' (first|refine ja ?_ ?_|intro _))<;>first|omega|exact jb|exact jc ‹False›|skip
 all_goals first
  |exact hneed.1
  |exact hneed
  |exact hneed.2.1
  |exact hneed.2.2.1
  |exact hneed.2.2.2
  |(have h:g=true:=(by rw [← hg];unfold apG;simp [*]);subst h;rfl)
  |(have h:g=false:=(by rw [← hg];unfold apG;simp [*]);subst h;rfl)
def yS:Know Tryz.prog:=⟨175,rP,Tv⟩
def yR:Know Tryz.prog:=⟨175,fun I=>zx I (rP I),zf Tv⟩
def tH (I:Alg):KU
 |[.v (.one (.ptr 0 0)),.v (.one (.p (.int .i64 id))),.v (.one (.p (.int .i64 size)))],[.pack [.obj 78 [.ptr 1 0,.ptr 2 0],.pack [.obj 106 [.row 1,.p (.int .i64 n)],.row .upl 82 l],.pack [.obj 108 [.row 1,.p (.int .i64 s)],.row .byte 5 b]]]=>(fun(l:List Upl) (b:Str)=>(some (.one ⟨I.hid (zI l n∧n≤200000∧b.length≤100000),(.ret (.v (.one (.p (.int .i64 (I.hid (wrtC l n b ⟨3,id,size,[]⟩))))))),[.pack [.obj 78 [.ptr 1 0,.ptr 2 0],.pack [.obj 106 [.row 1,.p (.int .i64 (I.hid (wrtN l n b ⟨3,id,size,[]⟩)))],.row .upl 82 (I.hid (wrtL l n b ⟨3,id,size,[]⟩))],.pack [.obj 108 [.row 1,.p (.int .i64 s)],.row .byte 5 (I.hid (wrtB l n b ⟨3,id,size,[]⟩))]]]⟩):Option CT)) l b
 |_,_=>none
theorem Wq:zu Tryz.prog 176 (tH alg):=by
 intro args hp r h;unfold tH at h;split at h<;>cases h
 rename_i id size n l s b
 revert l;intro(l:List Upl)
 simp only [CT.Good,zh];intro hneed
 refine spH Tryz.func176 (by kernel_rfl) { XT with keep:=some [0,1,2,6]} [vO,vN] (by kernel_rfl) ?_
 intro I X hI hX
 refine orcL ?_;go_invoke;refine orcS (by kernel_rfl) ?_
 simp only [zi,Nat.reduceAdd];subst hI;simp only [nrmA,nrmB,nrlB,reduceCtorEq,HO.pack.injEq,HO.obj.injEq]
 exact⟨hneed.1,hneed.2.1,by decide,hneed.2.2⟩
def yQ:Know Tryz.prog:=⟨176,tH,Wq⟩
def yP:Know Tryz.prog:=⟨176,fun I=>zx I (tH I),zf Wq⟩
def YG (I:Alg):KU
 |[.v (.one (.ptr 0 0)),.v (.one (.p (.int .i64 id)))],[.pack [.obj 78 [.ptr 1 0,.ptr 2 0],.pack [.obj 106 [.row 1,.p (.int .i64 n)],.row .upl 82 l],.pack [.obj 108 [.row 1,.p (.int .i64 s)],.row .byte 5 b]]]=>(fun(l:List Upl) (b:Str)=>(some (.one ⟨I.hid (zI l n∧n≤200000∧b.length≤100000),(.ret (.v (.one (.p (.int .i64 (I.hid (wrtC l n b ⟨4,id,0,[]⟩))))))),[.pack [.obj 78 [.ptr 1 0,.ptr 2 0],.pack [.obj 106 [.row 1,.p (.int .i64 (I.hid (wrtN l n b ⟨4,id,0,[]⟩)))],.row .upl 82 (I.hid (wrtL l n b ⟨4,id,0,[]⟩))],.pack [.obj 108 [.row 1,.p (.int .i64 s)],.row .byte 5 (I.hid (wrtB l n b ⟨4,id,0,[]⟩))]]]⟩):Option CT)) l b
 |_,_=>none
theorem zbU:zu Tryz.prog 139 (YG alg):=by
 intro args hp r h;unfold YG at h;split at h<;>cases h
 rename_i id n l s b
 revert l;intro(l:List Upl)
 simp only [CT.Good,zh];intro hneed
 refine spH Tryz.func139 (by kernel_rfl) { XT with keep:=some [0,1,4]} [vO,vN] (by kernel_rfl) ?_
 intro I X hI hX
 refine orcL ?_;go_invoke;refine orcS (by kernel_rfl) ?_
 simp only [zi,Nat.reduceAdd];subst hI;simp only [nrmA,nrmB,nrlB,reduceCtorEq,HO.pack.injEq,HO.obj.injEq]
 exact⟨hneed.1,hneed.2.1,by decide,hneed.2.2⟩
def xN:Know Tryz.prog:=⟨139,YG,zbU⟩
def xM:Know Tryz.prog:=⟨139,fun I=>zx I (YG I),zf zbU⟩
def Zh (I:Alg):KU
 |[.v (.one (.ptr 0 0)),.v (.one (.p (.int .i64 id)))],[.pack [.obj 78 [.ptr 1 0,.ptr 2 0],.pack [.obj 106 [.row 1,.p (.int .i64 n)],.row .upl 82 l],.pack [.obj 108 [.row 1,.p (.int .i64 s)],.row .byte 5 b]]]=>(fun(l:List Upl) (b:Str)=>(some (.one ⟨I.hid (zI l n∧n≤200000∧b.length≤100000),(.ret (.v (.one (.p (.int .i64 (I.hid (wrtC l n b ⟨5,id,0,[]⟩))))))),[.pack [.obj 78 [.ptr 1 0,.ptr 2 0],.pack [.obj 106 [.row 1,.p (.int .i64 (I.hid (wrtN l n b ⟨5,id,0,[]⟩)))],.row .upl 82 (I.hid (wrtL l n b ⟨5,id,0,[]⟩))],.pack [.obj 108 [.row 1,.p (.int .i64 s)],.row .byte 5 (I.hid (wrtB l n b ⟨5,id,0,[]⟩))]]]⟩):Option CT)) l b
 |_,_=>none
theorem zal:zu Tryz.prog 81 (Zh alg):=by
 intro args hp r h;unfold Zh at h;split at h<;>cases h
 rename_i id n l s b
 revert l;intro(l:List Upl)
 simp only [CT.Good,zh];intro hneed
 refine spH Tryz.func81 (by kernel_rfl) { XT with keep:=some [0,1,4]} [vO,vN] (by kernel_rfl) ?_
 intro I X hI hX
 refine orcL ?_;go_invoke;refine orcS (by kernel_rfl) ?_
 simp only [zi,Nat.reduceAdd];subst hI;simp only [nrmA,nrmB,nrlB,reduceCtorEq,HO.pack.injEq,HO.obj.injEq]
 exact⟨hneed.1,hneed.2.1,by decide,hneed.2.2⟩
def zhO:Know Tryz.prog:=⟨81,Zh,zal⟩
def zhN:Know Tryz.prog:=⟨81,fun I=>zx I (Zh I),zf zal⟩
def Wp (I:Alg):KU
 |[.v (.one (.ptr 0 0)),.v (.one (.p (.int .i64 id)))],[.pack [.obj 78 [.ptr 1 0,.ptr 2 0],.pack [.obj 106 [.row 1,.p (.int .i64 n)],.row .upl 82 l],.pack [.obj 108 [.row 1,.p (.int .i64 s)],.row .byte 5 b]]]=>(fun(l:List Upl) (b:Str)=>(some (.one ⟨I.hid (zI l n∧n≤200000∧b.length≤100000),(.ret (.v (.one (.p (.int .i64 (I.hid (wrtC l n b ⟨6,id,0,[]⟩))))))),[.pack [.obj 78 [.ptr 1 0,.ptr 2 0],.pack [.obj 106 [.row 1,.p (.int .i64 (I.hid (wrtN l n b ⟨6,id,0,[]⟩)))],.row .upl 82 (I.hid (wrtL l n b ⟨6,id,0,[]⟩))],.pack [.obj 108 [.row 1,.p (.int .i64 s)],.row .byte 5 (I.hid (wrtB l n b ⟨6,id,0,[]⟩))]]]⟩):Option CT)) l b
 |_,_=>none
theorem zfi:zu Tryz.prog 64 (Wp alg):=by
 intro args hp r h;unfold Wp at h;split at h<;>cases h
 rename_i id n l s b
 revert l;intro(l:List Upl)
 simp only [CT.Good,zh];intro hneed
 refine spH Tryz.func64 (by kernel_rfl) { XT with keep:=some [0,1,4]} [vO,vN] (by kernel_rfl) ?_
 intro I X hI hX
 refine orcL ?_;go_invoke;refine orcS (by kernel_rfl) ?_
 simp only [zi,Nat.reduceAdd];subst hI;simp only [nrmA,nrmB,nrlB,reduceCtorEq,HO.pack.injEq,HO.obj.injEq]
 exact⟨hneed.1,hneed.2.1,by decide,hneed.2.2⟩
def znT:Know Tryz.prog:=⟨64,Wp,zfi⟩
def znS:Know Tryz.prog:=⟨64,fun I=>zx I (Wp I),zf zfi⟩
def YE (I:Alg):KU
 |[.v (.one (.ptr 0 0))],[.pack [.obj 78 [.ptr 1 0,.ptr 2 0],.pack [.obj 106 [.row 1,.p (.int .i64 n)],.row .upl 82 l],.pack [.obj 108 [.row 1,.p (.int .i64 s)],.row .byte 5 b]]]=>(fun(l:List Upl) (b:Str)=>(some (.one ⟨I.hid (True),(.ret (.tup [])),[.pack [.obj 78 [.ptr 1 0,.ptr 2 0],.pack [.obj 106 [.row 1,.p (.int .i64 n)],.row .upl 82 l],.pack [.obj 108 [.row 1,.p (.int .i64 (I.hid (b.length:Int)))],.row .byte 5 b]]]⟩):Option CT)) l b
 |_,_=>none
theorem zbS:zu Tryz.prog 65 (YE alg):=by
 intro args hp r h;unfold YE at h;split at h<;>cases h
 rename_i n l s b
 revert l;intro(l:List Upl)
 simp only [CT.Good,zh];intro _
 refine spH Tryz.func65 (by kernel_rfl) { XT with keep:=some [0]} [znI,znH] (by kernel_rfl) ?_
 intro I X hI hX
 refine orcL ?_;go_invoke;refine orcS (by kernel_rfl) ?_
 simp only [zi,Nat.reduceAdd];subst hI;simp only [nrmA,nrmB,nrlB,reduceCtorEq,HO.pack.injEq,HO.obj.injEq]
 try trivial
def zK:Know Tryz.prog:=⟨65,YE,zbS⟩
def zJ:Know Tryz.prog:=⟨65,fun I=>zx I (YE I),zf zbS⟩
def Wn (I:Alg):KU
 |[.v (.one (.ptr 0 0))],[.pack [.obj 78 [.ptr 1 0,.ptr 2 0],.pack [.obj 106 [.row 1,.p (.int .i64 n)],.row .upl 82 l],.pack [.obj 108 [.row 1,.p (.int .i64 s)],.row .byte 5 b]]]=>(fun(l:List Upl) (b:Str)=>(some (.one ⟨I.hid (b.length≤100000),(.ret (.tup [.one (.row 1),.one (.p (.int .i64 s))])),[.pack [.obj 78 [.ptr 1 0,.ptr 2 0],.pack [.obj 106 [.row 1,.p (.int .i64 n)],.row .upl 82 l],.pack [.obj 108 [.row 1,.p (.int .i64 s)],.row .byte 5 b]],.row .byte 5 b]⟩):Option CT)) l b
 |_,_=>none
theorem zfh:zu Tryz.prog 41 (Wn alg):=by
 intro args hp r h;unfold Wn at h;split at h<;>cases h
 rename_i n l s b
 revert l;intro(l:List Upl)
 simp only [CT.Good,zh];intro hneed
 refine spH Tryz.func41 (by kernel_rfl) { XT with keep:=some [0,2,3]} [zva,zu9,zeT,zeS] (by kernel_rfl) ?_
 intro I X hI hX
 refine orcL ?_;go_invoke;refine orcS (by kernel_rfl) ?_
 simp only [zi,Nat.reduceAdd];subst hI;simp only [nrmA,nrmB,nrlB,reduceCtorEq,HO.pack.injEq,HO.obj.injEq]
 (repeat' (first|refine ja ?_ ?_|intro _))<;>first|omega|exact jb|exact jc ‹False›|skip
def znR:Know Tryz.prog:=⟨41,Wn,zfh⟩
def znQ:Know Tryz.prog:=⟨41,fun I=>zx I (Wn I),zf zfh⟩
def Zg (I:Alg):KU
 |[.v (.one (.ptr 0 0)),.v (.one (.p (.int .i64 keep)))],[.pack [.obj 78 [.ptr 1 0,.ptr 2 0],.pack [.obj 106 [.row 1,.p (.int .i64 n)],.row .upl 82 l],.pack [.obj 108 [.row 1,.p (.int .i64 s)],.row .byte 5 b]]]=>(fun(l:List Upl) (b:Str)=>(some (.one ⟨I.hid (b.length≤100000∧0≤s∧s≤b.length),(.ret (.tup [])),[.pack [.obj 78 [.ptr 1 0,.ptr 2 0],.pack [.obj 106 [.row 1,.p (.int .i64 (I.hid ((crsP b s keep).2)))],.row .upl 82 (I.hid ((crsP b s keep).1))],.pack [.obj 108 [.row 1,.p (.int .i64 (I.hid ((crsB b s keep).length:Int)))],.row .byte 5 (I.hid (crsB b s keep))]]]⟩):Option CT)) l b
 |_,_=>none
set_option maxHeartbeats 4000000 in
theorem zak:zu Tryz.prog 66 (Zg alg):=by
 intro args hp r h;unfold Zg at h;split at h<;>cases h
 rename_i keep n l s b
 revert l;intro(l:List Upl)
 simp only [CT.Good,zh];intro hneed;obtain⟨hb,hs0,hs1⟩:=hneed;have h1:=ztO b s keep;have h2:=zeL b s keep;have h3:=zm0 (s:=s) (k:=keep) hb;have h4:=zjl (crB b s keep);unfold crsP;generalize hP:replay ([],0) (crsE b s keep)=pq;generalize hB:((crsB b s keep).length:Int)=bl at *
 refine spH Tryz.func66 (by kernel_rfl) { XT with fz:=[86],keep:=some [0,1,4,5,7,33,34,35]} [zhU,zhT,zhk,zhj,zeT,zeS,zlG,zlF,zqZ,zqY,zdu,zds] (by kernel_rfl) ?_
 intro I X hI hX
 refine orcL ?_;go_invoke;refine orcS (by kernel_rfl) ?_
 simp only [zi,Nat.reduceAdd]
 have hh: ∀ {α:Type} (x:α),I.hid x=x:=by subst hI;intros;rfl
 simp only [hh];unfold crsB at *;unfold crsE at *;rw [h1];generalize hb1:crB b s keep=b1 at *;generalize hu:zdb b1=u at *;generalize hb2:cuB b1 u=b2 at *;generalize hes:(Jrn.dec b1).1=es at *
 refine⟨⟨hb,hs0,hs1⟩,by omega,by omega,⟨by omega,by omega,by omega⟩,trivial,?_⟩
 refine lpH hI [zhU,zhT,zhk,zhj,zeT,zeS,zlG,zlF,zqZ,zqY,zdu,zds] hX [0,33,34,35] (fun(k:Nat)=>k≤es.length) (fun(k:Nat)=>⟨[(0,.v (.one (.ptr 0 0))),(33,.v (.one (.row 1))),(34,.v (.one (.p (.int .i64 ((I.len (α:=Ent) es)))))),(35,.v (.one (.p (.int .i64 k))))],[.pack [.obj 78 [.ptr 1 0,.ptr 2 0],.pack [.obj 106 [.row 1,.p (.int .i64 ((replay ([],0) (es.take k)).2))],.row .upl 82 ((replay ([],0) (es.take k)).1)],.pack [.obj 108 [.row 1,.p (.int .i64 bl)],.row .byte 5 b2]],.row .ent 148 es],46,none⟩) (fun(k:Nat)=>es.length - k) 0 (by kernel_rfl) (by kernel_rfl) ?_ ?_
 · exact jM _
 rintro k hk A hA;have ho:=zaF (es.take k) ([],0) zhP;have hn:=zdO (es.take k) ([],0);generalize hp:replay ([],0) (es.take k)=p at *
 refine orcL ?_;go_invoke;refine orcS (by kernel_rfl) ?_
 simp only [zi,Nat.reduceAdd];subst hI;simp only [nrmA,nrmB,nrlB,reduceCtorEq]
 have hnk:p.2≤200000:=by
  have:(es.take k).length≤es.length:=by rw [jv];omega
  have h30:=h3.1;simp only at hn;omega
 refine⟨fun c=>⟨⟨by omega,by omega⟩,⟨by omega,by omega⟩,⟨ho,by omega,?_⟩,⟨by omega,by omega⟩,?_⟩,fun c=> ?_⟩
 · rw [show es.getD k ⟨0,0,0,[]⟩=es[k]'(by omega) by simp [show k<es.length by omega]]
   have:=h3.2 _ (List.getElem_mem (l:=es) (n:=k) (by omega))
   omega
 · have hA:=hA (k+1) (by omega) (by omega)
   rw [zh8 _ (by omega),hp] at hA
   have hx:es.getD k ⟨0,0,0,[]⟩=es[k]'(by omega):=by simp [show k<es.length by omega]
   rw [hx];exact hA
 · rw [jq (by omega)] at hp
   rw [← hp,hP]
def zhM:Know Tryz.prog:=⟨66,Zg,zak⟩
def zhL:Know Tryz.prog:=⟨66,fun I=>zx I (Zg I),zf zak⟩
end Go.Proofs.YtnpmenpjagcheaaGreatDoor
namespace Go.Proofs.YtnpmenpjagcheaaGreatDoor
open Go Go.Sep Go.Ab
set_option maxRecDepth 100000
end Go.Proofs.YtnpmenpjagcheaaGreatDoor
namespace Go.Proofs.YtnpmenpjagcheaaGreatDoor
open Go Go.Sep Go.Ab
set_option maxRecDepth 100000
end Go.Proofs.YtnpmenpjagcheaaGreatDoor
namespace Go.Proofs.YtnpmenpjagcheaaGreatDoor
open Go Go.Sep Go.Ab
set_option maxRecDepth 100000
end Go.Proofs.YtnpmenpjagcheaaGreatDoor
namespace Go.Proofs.YtnpmenpjagcheaaGreatDoor
open Go Go.Sep Go.Ab Go.Jrn
set_option maxRecDepth 100000
structure Sto where
 l:List Upl
 n:Int
 b:Str
 s:Int
def zyI (n:Int) (x:Sst):Ent:=
 if x.op=0 then⟨1,n+1,x.n,x.text⟩ else if x.op=1 then⟨2,x.id,0,x.text⟩ else if x.op=2 then⟨3,x.id,x.n,[]⟩ else if x.op=3 then⟨4,x.id,0,[]⟩ else if x.op=4 then⟨5,x.id,0,[]⟩ else⟨6,x.id,0,[]⟩
end Go.Proofs.YtnpmenpjagcheaaGreatDoor
namespace Go.Proofs.YtnpmenpjagcheaaGreatDoor
open Go Go.Sep Go.Ab Go.Jrn
set_option maxRecDepth 100000
def YF (I:Alg):KU
 |[.v (.one (.ptr 0 0)),.v (.one (.p (.int .i64 m)))],[.pack [.obj 78 [.ptr 1 0,.ptr 2 0],.pack [.obj 106 [.row 1,.p (.int .i64 n)],.row .upl 82 l],.pack [.obj 108 [.row 1,.p (.int .i64 s)],.row .byte 5 b]]]=>(fun(l:List Upl) (b:Str)=>(some (.one ⟨I.hid (b.length≤100000),(.ret (.v (.one (.p (.bool (I.hid (zaE b m))))))),[.pack [.obj 78 [.ptr 1 0,.ptr 2 0],.pack [.obj 106 [.row 1,.p (.int .i64 n)],.row .upl 82 l],.pack [.obj 108 [.row 1,.p (.int .i64 s)],.row .byte 5 b]]]⟩):Option CT)) l b
 |_,_=>none
theorem zbT:zu Tryz.prog 167 (YF alg):=by
 intro args hp r h;unfold YF at h;split at h<;>cases h
 rename_i m n l s b
 revert l;intro(l:List Upl)
 simp only [CT.Good,zh];intro hneed
 refine spH Tryz.func167 (by kernel_rfl) { XT with keep:=some [0,1,4]} [zoS,zoR] (by kernel_rfl) ?_
 intro I X hI hX
 refine orcL ?_;go_invoke;refine orcS (by kernel_rfl) ?_
 simp only [zi,Nat.reduceAdd];subst hI;simp only [nrmA,nrmB,nrlB,reduceCtorEq,HO.pack.injEq,HO.obj.injEq]
 (repeat' (first|refine ja ?_ ?_|intro _))<;>first|omega|exact jb|exact jc ‹False›|skip
def yO:Know Tryz.prog:=⟨167,YF,zbT⟩
def yN:Know Tryz.prog:=⟨167,fun I=>zx I (YF I),zf zbT⟩
end Go.Proofs.YtnpmenpjagcheaaGreatDoor
namespace Go.Proofs.YtnpmenpjagcheaaGreatDoor
open Go Go.Sep Go.Ab
def rC:Str:=[47,102,105,108,101,115]
def wP:Str:=[47,102,105,108,101,115,47]
def verS:Str:=[49,46,48,46,48]
def zxz:Str:=[79,80,84,73,79,78,83]
def zbG:Str:=[80,79,83,84]
def zs7:Str:=[72,69,65,68]
def zaJ:Str:=[80,65,84,67,72]
def ztH:Str:=[68,69,76,69,84,69]
def zhG:Str:=[116,117,115,45,114,101,115,117,109,97,98,108,101]
def y8:Str:=[117,112,108,111,97,100,45,108,101,110,103,116,104]
def zac:Str:=[117,112,108,111,97,100,45,100,101,102,101,114,45,108,101,110,103,116,104]
def zhD:Str:=[117,112,108,111,97,100,45,109,101,116,97,100,97,116,97]
def ZY:Str:=[117,112,108,111,97,100,45,111,102,102,115,101,116]
def ZB:Str:=[99,111,110,116,101,110,116,45,116,121,112,101]
def octS:Str:=[97,112,112,108,105,99,97,116,105,111,110,47,111,102,102,115,101,116,43,111,99,116,101,116,45,115,116,114,101,97,109]
def zwO:Str:=[84,117,115,45,82,101,115,117,109,97,98,108,101]
def zno:Str:=[84,117,115,45,86,101,114,115,105,111,110]
def zwQ:Str:=[84,117,115,45,77,97,120,45,83,105,122,101]
def zwS:Str:=[84,117,115,45,69,120,116,101,110,115,105,111,110]
def zwR:Str:=[99,114,101,97,116,105,111,110,44,99,114,101,97,116,105,111,110,45,100,101,102,101,114,45,108,101,110,103,116,104,44,116,101,114,109,105,110,97,116,105,111,110]
def locN:Str:=[76,111,99,97,116,105,111,110]
def zaa:Str:=[85,112,108,111,97,100,45,79,102,102,115,101,116]
def zwK:Str:=[85,112,108,111,97,100,45,76,101,110,103,116,104]
def zwL:Str:=[85,112,108,111,97,100,45,68,101,102,101,114,45,76,101,110,103,116,104]
def zl2:Str:=[85,112,108,111,97,100,45,77,101,116,97,100,97,116,97]
def zyr:Str:=[67,97,99,104,101,45,67,111,110,116,114,111,108]
def zxD:Str:=[110,111,45,115,116,111,114,101]
def oneT (f:List Fld) (n:Str):Str × Int:=oneF (valsF f n)
def Xp (f:List Fld) (n:Str):Bool:=decide ((oneT f n).2=10)||(decide ((oneT f n).2=0)&&(numA (oneT f n).1 10 9).2)
def yc (f:List Fld) (n:Str):Int:=if(oneT f n).2=10 then -1 else(numA (oneT f n).1 10 9).1
def Vo (f:List Fld):Bool:=decide ((oneT f zac).2=10)||(decide ((oneT f zac).2=0)&&decide ((oneT f zac).1=[49]))
def zf9 (f:List Fld):Bool:=decide ((oneT f zac).2=0)
def Wu (c:Int):Int:=if c=10 then 404 else if c=17∨c=19 then 409 else if c=4 then 413 else if c=8∨c=16 then 507 else 400
def wsS (q:Sto) (e:Ent):Sto:=⟨wrtL q.l q.n q.b e,wrtN q.l q.n q.b e,wrtB q.l q.n q.b e,q.s⟩
def wsC (q:Sto) (e:Ent):Int:=wrtC q.l q.n q.b e
def syS (q:Sto):Sto:= { q with s:=(q.b.length:Int)}
def creE (q:Sto) (n:Int) (t:Str):Ent:=⟨1,q.n+1,n,t⟩
structure TA where
 st:Int
 fs:List Fld
 q:Sto
def wK (q:Sto) (f:List Fld):TA:=
 if Xp f y8=false then⟨400,[],q⟩
 else if Vo f=false then⟨400,[],q⟩
 else if decide (0≤yc f y8)=zf9 f then⟨400,[],q⟩
 else if(oneT f zhD).2=9 then⟨400,[],q⟩
 else if wsC q (creE q (yc f y8) (oneT f zhD).1)≠0 then⟨Wu (wsC q (creE q (yc f y8) (oneT f zhD).1)),[],q⟩
 else⟨201,[⟨locN,wP++decS (q.n+1)⟩],syS (wsS q (creE q (yc f y8) (oneT f zhD).1))⟩
def idB (t:Str):Bool:=Lib.hasPrefix t wP&&((numA (t.drop 7) 10 9).2&&decide (decS (numA (t.drop 7) 10 9).1=t.drop 7))
def idV (t:Str):Int:=(numA (t.drop 7) 10 9).1
def uplB (q:Sto) (t:Str):Bool:=idB t&&getB q.l (idV t)
def lenF (u:Upl):Fld:=if u.size<0 then⟨zwL,[49]⟩ else⟨zwK,decS u.size⟩
def zbC (u:Upl):List Fld:=[⟨zaa,decS (u.bytes.length:Int)⟩,lenF u,⟨zyr,zxD⟩]++(if u.note=[] then [] else [⟨zl2,u.note⟩])
def uD (q:Sto) (u:Upl) (f:List Fld) (body:Str):TA:=
 if(oneT f ZB).2=9 then⟨400,[],q⟩
 else if(xI (oneT f ZB).1).2≠0∨(xI (oneT f ZB).1).1.word≠octS then⟨415,[],q⟩
 else if Xp f ZY=false then⟨400,[],q⟩
 else if yc f ZY<0 then⟨400,[],q⟩
 else if yc f ZY≠(u.bytes.length:Int) then⟨409,[],q⟩
 else if Xp f y8=false then⟨400,[],q⟩
 else if 0≤yc f y8∧0≤u.size∧yc f y8≠u.size then⟨400,[],q⟩
 else if 0≤yc f y8∧u.size<0∧(2000<yc f y8∨yc f y8<yc f ZY+(body.length:Int)) then⟨413,[],q⟩
 else if zaE q.b ((body.length:Int)+60)=false then⟨507,[],q⟩
 else if(if apG q.l u.id (yc f ZY) then 17 else wsC q (apE u.id body))≠0 then⟨Wu (if apG q.l u.id (yc f ZY) then 17 else wsC q (apE u.id body)),[],q⟩
 else if 0≤yc f y8∧u.size<0 then
  if wsC (wsS q (apE u.id body)) ⟨3,u.id,yc f y8,[]⟩≠0 then⟨Wu (wsC (wsS q (apE u.id body)) ⟨3,u.id,yc f y8,[]⟩),[],wsS q (apE u.id body)⟩
  else⟨204,[⟨zaa,decS (yc f ZY+(body.length:Int))⟩],syS (wsS (wsS q (apE u.id body)) ⟨3,u.id,yc f y8,[]⟩)⟩
 else⟨204,[⟨zaa,decS (yc f ZY+(body.length:Int))⟩],syS (wsS q (apE u.id body))⟩
def zbK (q:Sto) (u:Upl):TA:=
 if wsC q ⟨4,u.id,0,[]⟩≠0 then⟨Wu (wsC q ⟨4,u.id,0,[]⟩),[],q⟩ else⟨204,[],syS (wsS q ⟨4,u.id,0,[]⟩)⟩
def yU (q:Sto) (m t:Str) (f:List Fld) (body:Str):TA:=
 if t=rC∧m=zxz then⟨204,[⟨zno,verS⟩,⟨zwQ,decS 2000⟩,⟨zwS,zwR⟩],q⟩
 else if(oneT f zhG).2=9 then⟨400,[],q⟩
 else if(oneT f zhG).1≠verS then⟨412,[⟨zno,verS⟩],q⟩
 else if t=rC then(if m≠zbG then⟨405,[],q⟩ else wK q f)
 else if uplB q t=false then⟨404,[],q⟩
 else if m=zs7 then⟨200,zbC (getU q.l (idV t)),q⟩
 else if m=zaJ then uD q (getU q.l (idV t)) f body
 else if m=ztH then zbK q (getU q.l (idV t))
 else⟨405,[],q⟩
def resT:Fld:=⟨zwO,verS⟩
end Go.Proofs.YtnpmenpjagcheaaGreatDoor
namespace Go.Proofs.YtnpmenpjagcheaaGreatDoor
open Go Go.Sep Go.Ab
def XY (n:Int):Str:=
 if n=200 then [79,75]
 else if n=201 then [67,114,101,97,116,101,100]
 else if n=204 then [78,111,32,67,111,110,116,101,110,116]
 else if n=400 then [66,97,100,32,82,101,113,117,101,115,116]
 else if n=404 then [78,111,116,32,70,111,117,110,100]
 else if n=405 then [77,101,116,104,111,100,32,78,111,116,32,65,108,108,111,119,101,100]
 else if n=409 then [67,111,110,102,108,105,99,116]
 else if n=412 then [80,114,101,99,111,110,100,105,116,105,111,110,32,70,97,105,108,101,100]
 else if n=413 then [67,111,110,116,101,110,116,32,84,111,111,32,76,97,114,103,101]
 else if n=415 then [85,110,115,117,112,112,111,114,116,101,100,32,77,101,100,105,97,32,84,121,112,101]
 else if n=507 then [73,110,115,117,102,102,105,99,105,101,110,116,32,83,116,111,114,97,103,101]
 else []
def badF:List Fld→Int
 |[]=>0
 |f::l=>if(textF f).2=0 then badF l else(textF f).2
def uX:List Fld→Str
 |[]=>[]
 |f::l=>(textF f).1++[13,10]++uX l
theorem zqn (a b:List Fld):uX (a++b)=uX a++uX b:=by
 induction a with
 |nil=>rfl
 |cons f l ih=>simp only [List.cons_append,uX,ih,jo]
def zgl (st:Int):Str:=[72,84,84,80,47,49,46,49,32]++decS st++[32]++XY st++[13,10]
def zdj (n:Int):Str:=[67,111,110,116,101,110,116,45,76,101,110,103,116,104,58,32]++decS n++[13,10,13,10]
def zwA:Str:=[99,111,110,116,101,110,116,45,108,101,110,103,116,104]
def Q7 (st:Int) (fs:List Fld):Int:=
 if XY st=[] then 11 else if 16≤fs.length then 8 else if 0<(valsF fs zwA).length then 12 else badF fs
def writeT (st:Int) (fs:List Fld) (body:Str):Str:=
 if Q7 st fs=0 then zgl st++uX fs++zdj body.length++body else []
theorem zaf (f:Fld):(textF f).1.length≤200:=by
 unfold textF
 split
 · simp
 split
 · simp
 split
 · simp
 · simp only [jk,jh,ji];omega
theorem qZ: ∀ l:List Fld,(uX l).length≤202 * l.length
 |[]=>by simp [uX]
 | f::l=>by
   have:=zaf f;have:=qZ l;simp only [uX,jk,jh,ji];omega
theorem zrI {n:Int} (h:XY n≠[]):n=200∨n=201∨n=204∨n=400∨n=404∨n=405∨n=409∨n=412∨n=413∨n=415∨n=507:=by
 refine Decidable.byContradiction fun hn=>h ?_;simp only [not_or] at hn
 simp [XY,hn]
theorem XW {n:Int} (h:XY n≠[]):200≤n∧n≤507∧(XY n).length≤30:=by
 rcases zrI h with rfl|rfl|rfl|rfl|rfl|rfl|rfl|rfl|rfl|rfl|rfl<;>decide
end Go.Proofs.YtnpmenpjagcheaaGreatDoor
namespace Go.Proofs.YtnpmenpjagcheaaGreatDoor
open Go Go.Sep Go.Ab
def ln0:Ln:=⟨[],false,0⟩
def zw8 (c:UInt8):Bool:=zau (c.toNat:Int)
def lnF (s:Ln) (c:UInt8):Ln × Str × Bool × Int:=
 if s.code≠0 then(s,[],false,s.code)
 else if s.cr then(if c=10 then(⟨[],false,0⟩,s.b,true,0) else(⟨s.b,s.cr,2⟩,[],false,2))
 else if c=10 then(⟨s.b,s.cr,2⟩,[],false,2)
 else if c=13 then(⟨s.b,true,s.code⟩,[],false,0)
 else if zw8 c=false then(⟨s.b,s.cr,3⟩,[],false,3)
 else if s.b.length=200 then(⟨s.b,s.cr,4⟩,[],false,4)
 else(⟨s.b++[c],s.cr,s.code⟩,[],false,0)
theorem Yf (s:Ln) (c:UInt8):(lnF s c).2.1.length≤s.b.length:=by
 unfold lnF
 repeat' split
 all_goals simp
theorem zsU (s:Ln) (c:UInt8):(lnF s c).1.b.length≤s.b.length+1:=by
 unfold lnF
 repeat' split
 all_goals simp
end Go.Proofs.YtnpmenpjagcheaaGreatDoor
namespace Go.Proofs.YtnpmenpjagcheaaGreatDoor
open Go Go.Sep Go.Ab
end Go.Proofs.YtnpmenpjagcheaaGreatDoor
namespace Go.Proofs.YtnpmenpjagcheaaGreatDoor
open Go Go.Sep Go.Ab
def Z8 (line:Str):Int × Bool:=numA (Lib.trimS (cutB line 59).1 [32,9]) 16 6
theorem zaQ: ∀ (s:Str) (n:Int),0≤n→0≤(numG 16 n s).1
 |[],n,h=>h
 | c::l,n,h=>by
   rw [numG]
   split
   · exact Int.le_refl _
   · exact zaQ l _ (by omega)
theorem TB (t:Str):0≤(Z8 t).1:=by
 unfold Z8 numA
 split
 · exact Int.le_refl _
 · exact zaQ _ _ (Int.le_refl _)
def ch0:Ch:=⟨ln0,0,0,0,0,0⟩
def chL (s:Ch) (t:Str):Ch × Int:=
 if s.pos=2 then(if t=[] then({ s with pos:=0},0) else(s,5))
 else if s.pos=0 then
  (if(Z8 t).2=false then(s,7)
  else if 4000 - s.all<(Z8 t).1 then(s,4)
  else if(Z8 t).1=0 then({ s with pos:=3},0)
  else({ s with pos:=1,left:=(Z8 t).1},0))
 else if s.pos=3 then
  (if t=[] then({ s with pos:=4},0)
  else if s.tails=16 then(s,8)
  else({ s with tails:=s.tails+1},(uF t).2))
 else(s,0)
def chF (s:Ch) (c:UInt8):Ch × Str × Bool × Int:=
 if s.code≠0 then(s,[],false,s.code)
 else if s.pos=4 then({ s with code:=18},[],false,18)
 else if s.pos=1 then({ s with left:=s.left - 1,all:=s.all+1,pos:=if s.left - 1=0 then 2 else 1},[c],false,0)
 else if(lnF s.ln c).2.2.2≠0 then({ s with ln:=(lnF s.ln c).1,code:=(lnF s.ln c).2.2.2},[],false,(lnF s.ln c).2.2.2)
 else if(lnF s.ln c).2.2.1=true then
  (if(chL { s with ln:=(lnF s.ln c).1} (lnF s.ln c).2.1).2≠0 then({ (chL { s with ln:=(lnF s.ln c).1} (lnF s.ln c).2.1).1 with code:=(chL { s with ln:=(lnF s.ln c).1} (lnF s.ln c).2.1).2},[],false,(chL { s with ln:=(lnF s.ln c).1} (lnF s.ln c).2.1).2)
  else((chL { s with ln:=(lnF s.ln c).1} (lnF s.ln c).2.1).1,[],decide ((chL { s with ln:=(lnF s.ln c).1} (lnF s.ln c).2.1).1.pos=4),0))
 else({ s with ln:=(lnF s.ln c).1},[],false,0)
inductive ChR where
 |more (out:Str) (held:Nat)
 |over (out rest:Str)
 |bad (out:Str) (e:Int) (rest:Str)
def ChR.pre (o:Str):ChR→ChR
 |.more p h=>.more (o++p) h
 |.over p r=>.over (o++p) r
 |.bad p e r=>.bad (o++p) e r
theorem ztS {s:Ch} {c:UInt8}:(chF s c).2.1.length≤1∧((chF s c).2.2.2≠0→(chF s c).2.1=[])∧((chF s c).2.2.1=true→(chF s c).2.2.2=0∧(chF s c).2.1=[]∧(chF s c).1.pos=4∧(chF s c).1.code=0)∧((chF s c).2.2.2≠0→(chF s c).2.2.1=false∧(chF s c).1.code=(chF s c).2.2.2):=by
 unfold chF
 split
 · simp
 rename_i h0
 split
 · simp
 split
 · simp
 split
 · simp
 split
 · split
   · simp
   · refine⟨by simp,by simp,fun h=>⟨rfl,rfl,by simpa using h,?_⟩,fun h=>absurd rfl h⟩
     have: ∀ (x:Ch) (t:Str),x.code=0→(chL x t).1.code=0:=by
      intro x t hx;unfold chL
      split
      · split<;>exact hx
      split
      · split
        · exact hx
        split
        · exact hx
        split<;>exact hx
      split
      · split
        · exact hx
        split<;>exact hx
      · exact hx
     exact this _ _ (by simpa using h0)
 · simp
end Go.Proofs.YtnpmenpjagcheaaGreatDoor
namespace Go.Proofs.YtnpmenpjagcheaaGreatDoor
open Go Go.Sep Go.Ab
def hd0:Hd:=⟨[],[],0,[],0⟩
def prt0:Prt:=⟨[],[],[],[]⟩
def evH (h:Hd):Evt:=⟨1,h,[],prt0,0⟩
def evB (b:Str):Evt:=⟨2,hd0,b,prt0,0⟩
def evE:Evt:=⟨3,hd0,[],prt0,0⟩
def evF (c:Int):Evt:=⟨4,hd0,[],prt0,c⟩
def uH (out:List Evt) (e:Evt):List Evt:=
 match out.getLast? with
 |some x=>if e.kind=2∧x.kind=2 then out.dropLast++[evB (x.bytes++e.bytes)] else out++[e]
 |none=>out++[e]
def yI (l:List Evt):List Evt:=l.foldl uH []
theorem xq (z:List Evt) (x e:Evt):uH (z++[x]) e=if e.kind=2∧x.kind=2 then z++[evB (x.bytes++e.bytes)] else z++[x]++[e]:=by
 unfold uH
 simp
theorem Yj (e:Evt):uH [] e=[e]:=rfl
end Go.Proofs.YtnpmenpjagcheaaGreatDoor
namespace Go.Proofs.YtnpmenpjagcheaaGreatDoor
open Go Go.Sep Go.Ab
def yF:Str→List Str
 |[]=>[[]]
 |c::r=>if c=32 then []::yF r else(match yF r with|[]=>[[c]]|w::ws=>(c::w)::ws)
theorem zbV (s:Str):yF s≠[]:=by
 cases s with
 |nil=>simp [yF]
 | cons c r=>
   simp only [yF]
   split
   · simp
   · split<;>simp
def Vq:Str:=[72,84,84,80,47,49,46,49]
def za4:Str:=[72,84,84,80,47,49,46,48]
def begM (s:Str):Int × Hd:=
 match yF s with
 | [a,b,c]=>
   if Xt a=false then(6,hd0)
   else if b.head?≠some 47∨b.contains 9=true then(5,hd0)
   else if c=Vq then(0,⟨a,b,1,[],0⟩)
   else if c=za4 then(0,⟨a,b,0,[],0⟩)
   else(11,⟨a,b,0,[],0⟩)
 |_=>(5,hd0)
def SB:Str:=[104,111,115,116]
def Yx:Str:=[99,111,110,116,101,110,116,45,108,101,110,103,116,104]
def zdh:Str:=[116,114,97,110,115,102,101,114,45,101,110,99,111,100,105,110,103]
def QT:Str:=[99,104,117,110,107,101,100]
def sizM (z0:Str) (n:Int):List Str→Int × Int
 |[]=>(n,0)
 |s::r=>if(numA s 10 9).2=false then(0,7) else if s≠z0 then(0,12) else sizM z0 (numA s 10 9).1 r
def lenM (mi:Int) (f:List Fld):Int × Int:=
 if valsF f zdh≠[] then
  if valsF f Yx≠[]∨mi=0 then(0,12)
  else if 1<(valsF f zdh).length∨lowS ((valsF f zdh).getD 0 [])≠QT then(0,11)
  else(-1,0)
 else if(sizM ((valsF f Yx).getD 0 []) 0 (valsF f Yx)).2≠0 then(0,(sizM ((valsF f Yx).getD 0 []) 0 (valsF f Yx)).2)
 else if 4000<(sizM ((valsF f Yx).getD 0 []) 0 (valsF f Yx)).1 then(0,4)
 else((sizM ((valsF f Yx).getD 0 []) 0 (valsF f Yx)).1,0)
def zv2 (mi:Int) (f:List Fld):Bool:=decide ((oneF (valsF f SB)).2=9)||(decide ((oneF (valsF f SB)).2=10)&&decide (mi=1))
def zyP (q:Rq) (e:Evt):Rq:= { q with out:=q.out++[e]}
def wU (q:Rq) (c:Int):Rq:= { q with pos:=4,out:=q.out++[evF c]}
def tK (q:Rq):Rq:= { q with out:=q.out++[evE],pos:=0,h:=hd0,own:=true}
def yA (q:Rq):Rq × Int:=
 if zv2 q.h.minor q.h.fields=true then(q,13)
 else if(lenM q.h.minor q.h.fields).2≠0 then({ q with own:=false},(lenM q.h.minor q.h.fields).2)
 else if(lenM q.h.minor q.h.fields).1=0 then(tK { q with h:= { q.h with length:=0},own:=false,out:=q.out++[evH { q.h with length:=0}]},0)
 else if 0<(lenM q.h.minor q.h.fields).1 then({ q with h:= { q.h with length:=(lenM q.h.minor q.h.fields).1},own:=false,out:=q.out++[evH { q.h with length:=(lenM q.h.minor q.h.fields).1}],pos:=2,left:=(lenM q.h.minor q.h.fields).1},0)
 else({ q with h:= { q.h with length:=(lenM q.h.minor q.h.fields).1},own:=false,out:=q.out++[evH { q.h with length:=(lenM q.h.minor q.h.fields).1}],pos:=3,ck:=some ch0},0)
def zO (q:Rq) (s:Str):Rq × Int:=
 if q.pos=0 then
  if s=[] then(q,0)
  else if(begM s).1=0 then({ q with h:=(begM s).2,pos:=1},0)
  else if(begM s).1=11 then({ q with h:=(begM s).2},11)
  else(q,(begM s).1)
 else if s=[] then yA q
 else if q.h.fields.length=16 then(q,8)
 else({ q with h:= { q.h with fields:=q.h.fields++[(uF s).1]}},(uF s).2)
def ckOf (q:Rq):Ch:=match q.ck with|some c=>c|none=>ch0
def rqF (q:Rq) (c:UInt8):Rq:=
 if q.pos=2 then
  if q.left - 1=0 then tK { q with out:=q.out++[evB [c]],left:=0} else { q with out:=q.out++[evB [c]],left:=q.left - 1}
 else if q.pos=3 then
  if(chF (ckOf q) c).2.2.2≠0 then wU { q with ck:=some (chF (ckOf q) c).1} (chF (ckOf q) c).2.2.2
  else if(chF (ckOf q) c).2.2.1=true then tK { q with ck:=some (chF (ckOf q) c).1,out:=if(chF (ckOf q) c).2.1≠[] then q.out++[evB (chF (ckOf q) c).2.1] else q.out}
  else { q with ck:=some (chF (ckOf q) c).1,out:=if(chF (ckOf q) c).2.1≠[] then q.out++[evB (chF (ckOf q) c).2.1] else q.out}
 else if q.pos=0∨q.pos=1 then
  if(lnF q.ln c).2.2.2≠0 then wU { q with ln:=(lnF q.ln c).1} (lnF q.ln c).2.2.2
  else if(lnF q.ln c).2.2.1=true then
   if(zO { q with ln:=(lnF q.ln c).1} (lnF q.ln c).2.1).2≠0 then wU (zO { q with ln:=(lnF q.ln c).1} (lnF q.ln c).2.1).1 (zO { q with ln:=(lnF q.ln c).1} (lnF q.ln c).2.1).2
   else(zO { q with ln:=(lnF q.ln c).1} (lnF q.ln c).2.1).1
  else { q with ln:=(lnF q.ln c).1}
 else q
def rq0:Rq:=⟨ln0,0,hd0,0,none,true,[]⟩
def uT (q:Rq) (b:Str):Rq:=b.foldl rqF q
def zM (q:Rq) (b:Str):Rq:=uT { q with out:=[]} b
end Go.Proofs.YtnpmenpjagcheaaGreatDoor
namespace Go.Proofs.YtnpmenpjagcheaaGreatDoor
open Go Go.Sep Go.Ab
def zoQ (q:Rq):Rq:= { q with out:=[]}
end Go.Proofs.YtnpmenpjagcheaaGreatDoor
namespace Go.Sep.P
theorem ZR {a b s:List UInt8} (ha:a<:+s) (hb:b<:+s) (h:a.length≤b.length):a<:+b:=List.suffix_of_suffix_length_le ha hb h
structure Top (m s:List UInt8) (b n:Nat):Prop where
 le:n≤b
 suf:m.take n<:+s
 top: ∀ k,k≤b→m.take k<:+s→k≤n
theorem Top.eq {m s:List UInt8} {b n n':Nat} (h:Top m s b n) (h':Top m s b n'):n=n':=
 Nat.le_antisymm (h'.top n h.le h.suf) (h.top n' h'.le h'.suf)
def tY (m s:List UInt8):Nat→Nat
 |0=>0
 |k+1=>if m.take (k+1)<:+s then k+1 else tY m s k
theorem wV (m s:List UInt8): ∀ b,Top m s b (tY m s b)
 |0=>⟨jL _,by simp [tY],fun k hk _=>hk⟩
 | b + 1=>by
   unfold tY
   split
   · rename_i h;exact⟨jL _,h,fun k hk _=>hk⟩
   · rename_i h
     have ih:=wV m s b;refine⟨Nat.le_succ_of_le ih.le,ih.suf,fun k hk hs=> ?_⟩
     rcases Nat.lt_or_ge k (b+1) with h1|h1
     · exact ih.top k (by omega) hs
     · have:k=b+1:=by omega
       subst this;exact(h hs).elim
def held (m s:List UInt8):Nat:=tY m s (m.length - 1)
def zX (m:List UInt8) (i:Nat):Nat:=tY m (m.take i) (i - 1)
theorem rH {m:List UInt8} {i:Nat} (h:0<i):zX m i<i:=by
 have:=(wV m (m.take i) (i - 1)).le;unfold zX;omega
def fall (m:List UInt8) (c:UInt8):Nat→Nat→Nat
 |0,n=>n
 |f+1,n=>if n=0 then 0 else if m[n]? =some c then n else fall m c f (zX m n)
theorem VK (m:List UInt8) (c:UInt8) (f:Nat):fall m c f 0=0:=by cases f<;>simp [fall]
theorem zhd (m:List UInt8) (c:UInt8): ∀ (f n:Nat),n≤f→∀ g,n≤g→fall m c f n=fall m c g n
 | 0,n,h,g,_=>by
   have:n=0:=by omega
   subst this;rw [VK,VK]
 | f + 1,n,h,g,hg=>by
   cases g with
   | zero=>
     have:n=0:=by omega
     subst this;rw [VK,VK]
   | succ g=>
     simp only [fall]
     split
     · rfl
     · split
       · rfl
       · rename_i h0 _
         have hb:=rH (m:=m) (i:=n) (by omega)
         exact zhd m c f _ (by omega) g (by omega)
structure zyB (m:List UInt8) (c:UInt8) (n j:Nat):Prop where
 le:j≤n
 suf:m.take j<:+m.take n
 top: ∀ k,k≤n→m.take k<:+m.take n→m[k]? =some c→k≤j
 fits:j=0∨m[j]? =some c
theorem ziM (m:List UInt8) (c:UInt8) (hm: ∀ k,k≤m.length→(m.take k).length=k): ∀ (f n:Nat),n≤f→n≤m.length→zyB m c n (fall m c f n)
 | 0,n,h,hn=>by
   have:n=0:=by omega
   subst this;exact⟨jL _,List.suffix_refl _,fun k hk _ _=>hk,.inl rfl⟩
 | f + 1,n,h,hn=>by
   simp only [fall]
   split
   · rename_i h0;subst h0;exact⟨jL _,List.suffix_refl _,fun k hk _ _=>hk,.inl rfl⟩
   · split
     · rename_i h0 h1;exact⟨jL _,List.suffix_refl _,fun k hk _ _=>hk,.inr h1⟩
     · rename_i h0 h1
       have hb:=rH (m:=m) (i:=n) (by omega)
       have ht:Top m (m.take n) (n - 1) (zX m n):=wV m (m.take n) (n - 1)
       have ih:=ziM m c hm f (zX m n) (by omega) (by omega)
       refine⟨by have:=ih.le;omega,ih.suf.trans ht.suf,fun k hk hs hc=> ?_,ih.fits⟩
       have hne:k≠n:=by rintro rfl;exact h1 hc
       have hkb:k≤zX m n:=ht.top k (by omega) hs
       refine ih.top k hkb (ZR hs ht.suf ?_) hc
       rw [hm k (by omega),hm _ (by omega)]
       exact hkb
theorem take_len {m:List UInt8}: ∀ k,k≤m.length→(m.take k).length=k:=fun k hk=>by simp;omega
theorem ZQ {m s:List UInt8} {k:Nat} {c:UInt8} (hk:k<m.length):m.take (k+1)<:+s++[c]↔m.take k<:+s∧m[k]? =some c:=by
 rw [jB hk,jm hk];constructor
 · rintro⟨t,ht⟩
   rw [← jo] at ht;have:=List.append_inj' ht rfl
   exact⟨⟨t,this.1⟩,by simpa using this.2⟩
 · rintro⟨⟨t,ht⟩,hc⟩
   have hc':m[k]=c:=by simpa using hc
   exact⟨t,by rw [← jo,ht,hc']⟩
theorem Top.step {m s:List UInt8} {b n:Nat} {c:UInt8} (h:Top m s b n) (hb:b<m.length):
  (m[fall m c n n]? =some c→Top m (s++[c]) (b+1) (fall m c n n+1))∧(m[fall m c n n]? ≠some c→Top m (s++[c]) (b+1) 0∧fall m c n n=0):=by
 have hn:n≤m.length:=by have:=h.le;omega
 have hf:=ziM m c take_len n n (jL _) hn;generalize fall m c n n=j at hf
 have hjl:j<m.length:=by have:=hf.le;have:=h.le;omega
 have key: ∀ k,k+1≤b+1→m.take (k+1)<:+s++[c]→k≤j∧m[k]? =some c:=by
  intro k hk hs
  obtain⟨h1,h2⟩:=(ZQ (by omega)).1 hs
  have h3:=h.top k (by omega) h1
  have h4:m.take k<:+m.take n:=ZR h1 h.suf (by rw [take_len k (by omega),take_len n hn];exact h3)
  exact⟨hf.top k h3 h4 h2,h2⟩
 constructor
 · intro hc
   refine⟨by have:=hf.le;have:=h.le;omega,(ZQ hjl).2 ⟨hf.suf.trans h.suf,hc⟩,fun k hk hs=> ?_⟩
   cases k with
   |zero=>omega
   |succ k=>have:=(key k hk hs).1;omega
 · intro hc
   have hj0:j=0:=hf.fits.resolve_right hc;subst hj0
   refine⟨⟨jM _,by simp,fun k hk hs=> ?_⟩,rfl⟩
   cases k with
   |zero=>omega
   | succ k=>
     obtain⟨h1,h2⟩:=key k hk hs
     have:k=0:=by omega
     subst this;exact(hc h2).elim
theorem zi5 {m:List UInt8} {i:Nat} (hi:i<m.length) (h0:0<i):
  zX m (i+1)=(if m[fall m m[i] (zX m i) (zX m i)]? =some m[i] then fall m m[i] (zX m i) (zX m i)+1 else 0):=by
 have ht:=wV m (m.take i) (i - 1)
 have hs:=ht.step (c:=m[i]) (by omega)
 have e:m.take i++[m[i]]=m.take (i+1):=(jB hi).symm
 rw [e,show i - 1+1=i by omega] at hs
 have hnew:=wV m (m.take (i+1)) (i+1 - 1)
 change Top m (m.take (i+1)) i (zX m (i+1)) at hnew
 change(m[fall m m[i] (zX m i) (zX m i)]? =some m[i]→_)∧_ at hs
 split
 · rename_i hc;exact hnew.eq (hs.1 hc)
 · rename_i hc;exact hnew.eq (hs.2 hc).1
theorem zqr {m:List UInt8} {n k j:Nat} (hj:0<j) (hk:k+j=n) (hn:n≤m.length) (h:m.take k++m.take j=m.take n):
  m.take k++m.take (j - zX m j)=m.take (k+(j - zX m j))∧m.take (k+(j - zX m j))++m.take (zX m j)=m.take n:=by
 have hb:=rH (m:=m) hj;have ht:Top m (m.take j) (j - 1) (zX m j):=wV m (m.take j) (j - 1);generalize zX m j=b at hb ht;obtain⟨t,e⟩:=ht.suf;have hl:=congrArg List.length e
 rw [jk,take_len b (by omega),take_len j (by omega)] at hl
 have e2:t=m.take (j - b):=by
  have h1:(m.take j).take t.length=t:=by rw [← e];simp
  rw [List.take_take,show min t.length j=j - b by omega] at h1
  exact h1.symm
 subst e2
 have e3:m.take n=(m.take k++m.take (j - b))++m.take b:=by rw [jo,e,h]
 have e4:m.take (k+(j - b))=m.take k++m.take (j - b):=by
  have h1:(m.take n).take (k+(j - b))=m.take (k+(j - b)):=by rw [List.take_take,show min (k+(j - b)) n=k+(j - b) by omega]
  rw [← h1,e3]
  exact List.take_left' (by rw [jk,take_len k (by omega),take_len _ (by omega)])
 exact⟨e4.symm,by rw [e4,e3]⟩
theorem zhc {m:List UInt8} {c:UInt8} {j:Nat} (h0:0<j) (h:m[j]? ≠some c):fall m c j j=fall m c (zX m j) (zX m j):=by
 have hb:=rH (m:=m) h0
 cases j with
 |zero=>omega
 | succ i=>
   rw [fall,if_neg (by omega),if_neg h]
   exact zhd m c _ _ (by omega) _ (jL _)
theorem Yq {m:List UInt8} {c:UInt8} {j:Nat} (h:j=0∨m[j]? =some c):fall m c j j=j:=by
 cases j with
 |zero=>rfl
 |succ i=>rw [fall,if_neg (by omega),if_pos (h.resolve_left (by omega))]
def feed (m:List UInt8) (n:Nat) (c:UInt8):List UInt8 × Nat × Bool:=
 let j:=fall m c n n
 let out:=m.take (n - j)
 if m[j]? =some c then(if j+1<m.length then(out,j+1,false) else(out,0,true)) else(out++[c],0,false)
end Go.Sep.P
namespace Go.Proofs.YtnpmenpjagcheaaGreatDoor
open Go Go.Sep Go.Ab
set_option maxRecDepth 100000
set_option linter.unusedSimpArgs false
set_option linter.unusedVariables false
def cfgS:Cfg:= { sl:=[⟨278,0,.byte,some 5⟩,⟨278,1,.int,some 3⟩],nr:=[6]}
def SH (m:Str):List Int:=(List.range (m.length+1)).map fun i=>((P.zX m i:Nat):Int)
theorem zrh (m:Str) (i:Int) (h0:0≤i) (h:i≤m.length):(SH m).getD i.toNat 0=(P.zX m i.toNat:Nat):=by
 unfold SH
 rw [jH,List.getElem?_map,List.getElem?_range (by omega)];rfl
theorem zrg (m:Str):(SH m).length=m.length+1:=by simp [SH]
def rE (m:Str) (n:Nat) (c:UInt8):Str × Nat × Bool:=if m=[] then([c],n,false) else P.feed m n c
def zes (I:Alg):KU
 |[.v (.one (.ptr 0 0)),.v (.one (.p (.int .u8 k)))],[.pack [.obj 278 [.row 1,.row 2,.p (.int .i64 n)],.row .byte 5 m,.row .int 3 bs]]=>(fun(m:Str) (bs:List Int)=>(some (.one ⟨I.hid (bs=SH m∧m.length≤1000000∧0≤n∧(m=[]∨n<m.length)∧0≤k∧k≤255),(.ret (.tup [.one (.row 1),.one (.p (.bool (I.hid ((rE m n.toNat (UInt8.ofNat k.toNat)).2.2))))])),[.pack [.obj 278 [.row 1,.row 2,.p (.int .i64 (I.hid ((rE m n.toNat (UInt8.ofNat k.toNat)).2.1:Int)))],.row .byte 5 m,.row .int 3 bs],.row .byte 5 (I.hid ((rE m n.toNat (UInt8.ofNat k.toNat)).1))]⟩):Option CT)) m bs
 |_,_=>none
theorem zqp:zu Tryz.prog 223 (zes alg):=by
 intro args hp r h;unfold zes at h;split at h<;>cases h
 rename_i k n m bs
 revert bs;intro(bs:List Int)
 simp only [CT.Good,zh];intro hneed;obtain⟨hbs,hl,hn0,hn,hk0,hk1⟩:=hneed;generalize hr:rE m n.toNat (UInt8.ofNat k.toNat)=r;obtain⟨out,n',fd⟩:=r
 refine spH Tryz.func223 (by kernel_rfl) { cfgS with keep:=some [0,1,4,5,6,7]} [] (by kernel_rfl) ?_
 intro I X hI hX
 refine orcL ?_;go_invoke;refine orcS (by kernel_rfl) ?_
 simp only [zi,Nat.reduceAdd];refine⟨fun h=> ?_,fun h=> ?_⟩
 · subst hI
   simp only [nrmA,nrmB] at h
   have:m=[]:=List.eq_nil_of_length_eq_zero (by omega)
   subst this;simp only [rE,if_true,Prod.mk.injEq] at hr;obtain⟨rfl,rfl,rfl⟩:=hr;simp only [nrmA,nrmB];refine⟨⟨hk0,hk1⟩,?_⟩;rw [Int.toNat_of_nonneg hn0]
 have hm:m≠[]:=by
  subst hI;simp only [nrmA,nrmB] at h;rintro rfl;simp at h
 have hm0:0<m.length:=by cases m<;>simp_all
 have hn:n<m.length:=hn.resolve_left hm;simp only [rE,if_neg hm] at hr
 refine lpH hI [qy] hX [0,1,6] (fun(p:Nat × Str)=>p.1≤n.toNat∧p.2.length+p.1=n.toNat∧P.fall m (UInt8.ofNat k.toNat) p.1 p.1=P.fall m (UInt8.ofNat k.toNat) n.toNat n.toNat∧p.2++m.take p.1=m.take n.toNat∧p.2=m.take p.2.length)
  (fun p=>⟨[(0,.v (.one (.ptr 0 0))),(1,.v (.one (.p (.int .u8 k)))),(6,.v (.one (.row 1)))],[.pack [.obj 278 [.row 1,.row 2,.p (.int .i64 p.1)],.row .byte 5 m,.row .int 3 bs],.row .byte 5 p.2],100,none⟩) (fun p=>p.1) (n.toNat,[])
  (by kernel_rfl) ?_ ⟨jL _,by simp,rfl,by simp,by simp⟩ ?_
 · simp only [Int.toNat_of_nonneg hn0];kernel_rfl
 rintro⟨j,o⟩ ⟨hjn,hoj,hfall,hcat,hpre⟩ A hA;simp only at hjn hoj hfall hcat hpre
 refine orcL ?_;go_invoke;refine orcS (by kernel_rfl) ?_
 simp only [zi,Nat.reduceAdd];subst hI hbs;simp only [nrmA,nrmB]
 have hb:=zrh m j (by omega) (by omega)
 simp only [jJ] at hb;have hbl:0<j→P.zX m j<j:=P.rH
 have hj:j<m.length:=by omega
 have hge:m.getD j 0=m[j]:=by simp [hj]
 rw [hb,zrg,hge]
 have hcc:(m[j].toNat:Int)=k↔m[j]? =some (UInt8.ofNat k.toNat):=by
  rw [jm hj,jw,← UInt8.toNat_inj,UInt8.toNat_ofNat'];omega
 simp only [hcc];have hfeed:=hr;simp only [P.feed] at hfeed;rw [← hfall] at hfeed
 refine⟨fun h0=>⟨by omega,by omega,fun hne=>⟨by omega,by omega,by omega,by omega,by simp only [jv];omega,?_⟩,fun heq=>⟨by omega,by omega,fun hne=>(hne heq).elim,fun _=>⟨by omega,fun hlt=> ?_,fun hlt=> ?_⟩⟩⟩,fun h0=>⟨by omega,by omega,fun hne=> ?_,fun heq=>⟨by omega,fun hlt=> ?_,fun hlt=> ?_⟩⟩⟩
 · obtain⟨h1,h2⟩:=P.zqr (m:=m) (n:=n.toNat) (k:=o.length) (j:=j) (by omega) (by omega) (by omega) (by rw [← hpre];exact hcat)
   have hx:(↑j - ↑(P.zX m j):Int).toNat=j - P.zX m j:=by omega
   have hbj:=hbl (by omega)
   rw [hx]
   refine hA (P.zX m j,o++m.take (j - P.zX m j)) ⟨by simp only;omega,?_,?_,?_,?_⟩ hbj
   · simp only [jk,jv];omega
   · rw [← hfall];exact(P.zhc (by omega) hne).symm
   · simp only;rw [← h2,← h1,← hpre]
   · have:(o++m.take (j - P.zX m j)).length=o.length+(j - P.zX m j):=by simp only [jk,jv];omega
     simp only;rw [this,← h1,← hpre]
 · have hstop:=P.Yq (c:=UInt8.ofNat k.toNat) (.inr heq)
   rw [hstop,if_pos heq,if_pos (by omega)] at hfeed
   simp only [Prod.mk.injEq] at hfeed;obtain⟨rfl,rfl,rfl⟩:=hfeed
   rw [show n.toNat - j=o.length by omega,← hpre]
   exact⟨rfl,rfl⟩
 · have hstop:=P.Yq (c:=UInt8.ofNat k.toNat) (.inr heq)
   rw [hstop,if_pos heq,if_neg (by omega)] at hfeed
   simp only [Prod.mk.injEq] at hfeed;obtain⟨rfl,rfl,rfl⟩:=hfeed
   rw [show n.toNat - j=o.length by omega,← hpre]
   exact⟨rfl,rfl⟩
 all_goals
  have hj0:j=0:=by omega
  subst hj0;have hstop:=P.Yq (m:=m) (c:=UInt8.ofNat k.toNat) (j:=0) (.inl rfl);rw [hstop] at hfeed
  rw [show n.toNat=o.length by omega,Nat.sub_zero,← hpre] at hfeed
 · rw [if_neg hne] at hfeed
   simp only [Prod.mk.injEq] at hfeed;obtain⟨rfl,rfl,rfl⟩:=hfeed
   exact⟨⟨hk0,hk1⟩,by simp only [jh,ji];omega,rfl,rfl⟩
 · rw [if_pos heq,if_pos (by omega)] at hfeed
   simp only [Prod.mk.injEq] at hfeed;obtain⟨rfl,rfl,rfl⟩:=hfeed;exact⟨rfl,rfl⟩
 · rw [if_pos heq,if_neg (by omega)] at hfeed
   simp only [Prod.mk.injEq] at hfeed;obtain⟨rfl,rfl,rfl⟩:=hfeed;exact⟨rfl,rfl⟩
def U5:Know Tryz.prog:=⟨223,zes,zqp⟩
def U4:Know Tryz.prog:=⟨223,fun I=>zx I (zes I),zf zqp⟩
def xW (m:Str) (i:Nat):List Int:=(List.range (m.length+1)).map fun q=>if q<i then((P.zX m q:Nat):Int) else 0
theorem zi4 (m:Str) (i:Nat) (h:m.length<i):xW m i=SH m:=by
 unfold xW SH;refine List.map_congr_left fun q hq=> ?_
 rw [if_pos (by have:=List.mem_range.1 hq;omega)]
theorem zi0 (m:Str):xW m 2=List.replicate (m.length+1) 0:=by
 unfold xW
 refine List.ext_getElem (by simp) fun q h1 h2=> ?_
 simp only [List.getElem_map,List.getElem_range,List.getElem_replicate]
 split
 · have:q=0∨q=1:=by omega
   rcases this with rfl|rfl
   · simp [P.zX,P.tY]
   · simp [P.zX,P.tY]
 · rfl
theorem zi2 (m:Str) (i:Nat):(xW m i).length=m.length+1:=by simp [xW]
theorem zi3 (m:Str) (i q:Nat) (h:q<i) (hm:q≤m.length):(xW m i).getD q 0=(P.zX m q:Nat):=by
 unfold xW
 rw [jH,List.getElem?_map,List.getElem?_range (by omega)]
 simp [h]
theorem zi1 (m:Str) (i:Nat):(xW m i).set i ((P.zX m i:Nat):Int)=xW m (i+1):=by
 unfold xW
 refine List.ext_getElem (by simp) fun q h1 h2=> ?_
 simp only [List.getElem_set,List.getElem_map,List.getElem_range]
 by_cases h:i=q
 · subst h;simp
 · rw [if_neg h]
   by_cases hq:q<i
   · rw [if_pos hq,if_pos (by omega)]
   · rw [if_neg hq,if_neg (by omega)]
def zkw (I:Alg):KU
 |[.v (.one (.p (.list .byte m)))],[]=>(fun(m:Str)=>(some (.one ⟨I.hid (m.length≤999999),(.ret (.v (.one (.ptr 0 0)))),[.pack [.obj 278 [.row 1,.row 2,.p (.int .i64 0)],.row .byte 5 m,.row .int 3 (I.hid (SH m))]]⟩):Option CT)) m
 |_,_=>none
theorem zun:zu Tryz.prog 222 (zkw alg):=by
 intro args hp r h;unfold zkw at h;split at h<;>cases h
 rename_i m;simp only [CT.Good,zh];intro hneed
 refine spH Tryz.func222 (by kernel_rfl) { cfgS with seam:=[2],keep:=some [0,2,3,4,5]} [ZE,qy] (by kernel_rfl) ?_
 intro I X hI hX
 refine orcL ?_;go_invoke;refine orcS (by kernel_rfl) ?_
 simp only [zi,Nat.reduceAdd]
 refine⟨?n1,⟨?n2,?n3,?n4,?n5,seam hI uq mixed [] hX [0,3] ⟨[(0,.v (.one (.p (.list .byte m)))),(3,.v (.one (.ptr 0 0)))],[.pack [.obj 278 [.row 1,.row 2,.p (.int .i64 0)],.row .byte 5 m,.row .int 3 ((I.rep (α:=Int) (I.add (I.len (α:=UInt8) m) 1) (0:Int)))]],60,none⟩ (by kernel_rfl) ?on⟩,?n3,?n4,?n5,?n2,seam hI uq mixed [] hX [0,3] _ (by kernel_rfl) ?on⟩
 case on=>
  have hrep:(I.rep (α:=Int) (I.add (I.len (α:=UInt8) m) 1) (0:Int))=xW m 2:=by
   subst hI;simp only [nrmA,nrmB];rw [zi0];rfl
  rw [hrep];generalize hb2:xW m 2=b2
  refine orcL ?_;go_invoke;refine orcS (by kernel_rfl) ?_
  simp only [zi,Nat.reduceAdd]
  refine lpH hI [ZE,qy] hX [0,3,5,4] (fun(g:Nat × Nat × List Int)=>match g with|(i,k,bs)=>1≤i∧(i≤m.length∨i=1)∧k=P.zX m i∧bs=xW m (i+1)) (fun(g:Nat × Nat × List Int)=>match g with|(i,k,bs)=>⟨[(0,.v (.one (.p (.list .byte m)))),(3,.v (.one (.ptr 0 0))),(5,.v (.one (.p (.int .i64 i)))),(4,.v (.one (.p (.int .i64 k))))],[.pack [.obj 278 [.row 1,.row 2,.p (.int .i64 0)],.row .byte 5 m,.row .int 3 bs]],60,none⟩) (fun(g:Nat × Nat × List Int)=>match g with|(i,k,bs)=>m.length - i) (1,0,b2) (by kernel_rfl) (by kernel_rfl) ?_ ?_
  · exact⟨jL _,.inr rfl,by simp [P.zX,P.tY],hb2.symm⟩
  rintro⟨i,k,bs⟩ ⟨hi,him,rfl,hbs⟩ A hA;simp only at hA;generalize hk:P.zX m i=k at hA
  refine orcL ?_;go_invoke;refine orcS (by kernel_rfl) ?_
  simp only [zi,Nat.reduceAdd];refine⟨fun hlt=> ?_,fun hlt=> ?_⟩
  · refine lpH hI [ZE,qy] hX [0,3,5,4] (fun(q:Nat)=>q≤k∧P.fall m (m.getD i 0) q q=P.fall m (m.getD i 0) k k) (fun(q:Nat)=>⟨[(0,.v (.one (.p (.list .byte m)))),(3,.v (.one (.ptr 0 0))),(5,.v (.one (.p (.int .i64 i)))),(4,.v (.one (.p (.int .i64 q))))],[.pack [.obj 278 [.row 1,.row 2,.p (.int .i64 0)],.row .byte 5 m,.row .int 3 bs]],60,none⟩) (fun(q:Nat)=>q) k (by kernel_rfl) (by kernel_rfl) ?_ ?_
    · exact⟨jL _,rfl⟩
    rintro q ⟨hq,hfall⟩ B hB
    refine orcL ?_;go_invoke;refine orcS (by kernel_rfl) ?_
    simp only [zi,Nat.reduceAdd];subst hI hbs;simp only [nrmA,nrmB] at hlt
    have hil:i<m.length:=by omega
    have hkl:k<i:=by rw [← hk];exact P.rH (by omega)
    have hql:q<m.length:=by omega
    have hst:=P.zi5 hil (by omega)
    have hgi:m.getD i 0=m[i]:=by simp [hil]
    have hgq:m.getD q 0=m[q]:=by simp [hql]
    have hg0:=zi3 m (i+1) q (by omega) (by omega)
    have hbl:0<q→P.zX m q<q:=P.rH;rw [hk] at hst;rw [hgi] at hfall;rw [← hfall] at hst;simp only [nrmA,nrmB]
    rw [hgi,hgq,zi2,hg0,show((i:Int)+1).toNat=i+1 by omega]
    have hset:=zi1 m (i+1)
    have hcc:m[i]=m[q]↔m[q]? =some m[i]:=by rw [jm hql];simp [eq_comm]
    have hA1:(q=0∨m[i]=m[q])→m[i]=m[q]→A ⟨[(0,.v (.one (.p (.list .byte m)))),(3,.v (.one (.ptr 0 0))),(5,.v (.one (.p (.int .i64 ((i:Int)+1))))),(4,.v (.one (.p (.int .i64 ((q:Int)+1)))))],[.pack [.obj 278 [.row 1,.row 2,.p (.int .i64 0)],.row .byte 5 m,.row .int 3 (((xW m (i+1)).set (i+1) ((q:Int)+1)))]],60,none⟩:=by
     intro h1 h2
     rw [P.Yq (by rw [← hcc];exact h1),if_pos (hcc.1 h2)] at hst
     have:=hA (i+1,q+1,xW m (i+2)) ⟨by omega,by omega,hst.symm,rfl⟩ (by simp only;omega)
     rw [hst] at hset;rw [← hset] at this;exact this
    have hA2:(q=0∨m[i]=m[q])→¬m[i]=m[q]→A ⟨[(0,.v (.one (.p (.list .byte m)))),(3,.v (.one (.ptr 0 0))),(5,.v (.one (.p (.int .i64 ((i:Int)+1))))),(4,.v (.one (.p (.int .i64 q))))],[.pack [.obj 278 [.row 1,.row 2,.p (.int .i64 0)],.row .byte 5 m,.row .int 3 (((xW m (i+1)).set (i+1) (q:Int)))]],60,none⟩:=by
     intro h1 h2;obtain rfl:q=0:=h1.resolve_right h2;rw [P.Yq (.inl rfl),if_neg (fun h=>h2 (hcc.2 h))] at hst
     have:=hA (i+1,0,xW m (i+2)) ⟨by omega,by omega,hst.symm,rfl⟩ (by simp only;omega)
     rw [hst] at hset;rw [← hset] at this;exact this
    (repeat' (first|refine ja ?_ ?_|intro _))<;>first|omega|exact jb|exact jc ‹False›|skip
    · refine hB (P.zX m q) ⟨by have:=hbl (by omega);omega,?_⟩ (hbl (by omega))
      rw [hgi,← P.zhc (by omega) (fun h=>‹¬m[i]=m[q]› (hcc.2 h)),hfall]
    · exact hA1 (.inr ‹_›) ‹_›
    · exact hA2 (.inr ‹_›) ‹_›
    · exact hA1 (.inl (by omega)) ‹_›
    · exact hA2 (.inl (by omega)) ‹_›
  · subst hI hbs
    simp only [nrmA,nrmB] at hlt
    rw [zi4 m _ (by omega)]
    exact⟨trivial,rfl⟩
 all_goals subst hI;simp only [nrmA,nrmB];try omega
def zum:Know Tryz.prog:=⟨222,zkw,zun⟩
def zul:Know Tryz.prog:=⟨222,fun I=>zx I (zkw I),zf zun⟩
end Go.Proofs.YtnpmenpjagcheaaGreatDoor
namespace Go.Proofs.YtnpmenpjagcheaaGreatDoor
open Go Go.Sep Go.Ab
set_option maxRecDepth 100000
def Vf (s:Str):Bool:= !decide (70<s.length)&&(XA s&&(decide (Lib.trimS s [32,9]=s)&&decide (s≠[])))
def Wy (b:Str) (c:UInt8):Str:=
 if c=47∨c=92 then []
 else if c=9∨zau (c.toNat:Int)=false∨c=34∨c=58 then b++[95]
 else if c=46∧b=[] then b
 else b++[c]
def zhS (s:Str):Str:=if(s.foldl Wy []).take 40=[] then [102,105,108,101] else(s.foldl Wy []).take 40
theorem zn7 (s:Str) (i:Nat) (h:i<s.length):(s.take (i+1)).foldl Wy []=Wy ((s.take i).foldl Wy []) (s.getD i 0):=by
 rw [jB h,List.foldl_append]
 simp [h]
theorem zsa (s:Str): ∀ b:Str,(s.foldl Wy b).length≤b.length+s.length:=by
 induction s with
 |nil=>intro b;simp
 | cons c r ih=>
   intro b;have h:=ih (Wy b c)
   have h2:(Wy b c).length≤b.length+1:=by
    unfold Wy
    repeat' split
    all_goals simp
   rw [List.foldl_cons,jh];omega
theorem zl3 (c:UInt8) (k:Nat) (h:k<256):(c.toNat:Int)=(k:Int)↔c=UInt8.ofNat k:=by
 constructor
 · intro e
   rw [← UInt8.toNat_inj,UInt8.toNat_ofNat',Nat.mod_eq_of_lt h];omega
 · intro e
   rw [e,UInt8.toNat_ofNat',Nat.mod_eq_of_lt h]
theorem zsb (b:Str) (c:UInt8):Wy b c=if(c.toNat:Int)=47 then [] else if(c.toNat:Int)=92 then [] else if(c.toNat:Int)=9 then b++[95] else if zau (c.toNat:Int)=false then b++[95] else if(c.toNat:Int)=34 then b++[95] else if(c.toNat:Int)=58 then b++[95] else if(c.toNat:Int)=46 then(if(b.length:Int)=0 then b else b++[c]) else b++[c]:=by
 have h0:(b.length:Int)=0↔b=[]:=by rw [← List.length_eq_zero_iff];omega
 have e1:(c.toNat:Int)=47↔c=47:=zl3 c 47 (by decide)
 have e2:(c.toNat:Int)=92↔c=92:=zl3 c 92 (by decide)
 have e3:(c.toNat:Int)=9↔c=9:=zl3 c 9 (by decide)
 have e4:(c.toNat:Int)=34↔c=34:=zl3 c 34 (by decide)
 have e5:(c.toNat:Int)=58↔c=58:=zl3 c 58 (by decide)
 have e6:(c.toNat:Int)=46↔c=46:=zl3 c 46 (by decide)
 simp only [e1,e2,e3,e4,e5,e6,h0];unfold Wy;generalize zau (c.toNat:Int)=k;clear e1 e2 e3 e4 e5 e6 h0
 repeat' split
 all_goals simp_all
def QA (I:Alg):KU
 |[.v (.one (.p (.str s)))],[]=>(fun(s:Str)=>(some (.one ⟨I.hid (s.length≤1000000),(.ret (.v (.one (.p (.str (I.hid (zhS s))))))),[]⟩):Option CT)) s
 |_,_=>none
theorem zlf:zu Tryz.prog 239 (QA alg):=by
 intro args hp r h;unfold QA at h;split at h<;>cases h
 rename_i s;simp only [CT.Good,zh];intro hneed
 refine spH Tryz.func239 (by kernel_rfl) { nr:=[3],keep:=some [0,2,3,4,5,7,8]} [wS,sD] (by kernel_rfl) ?_
 intro I X hI hX
 refine orcL ?_;go_invoke;refine orcS (by kernel_rfl) ?_
 simp only [zi,Nat.reduceAdd]
 refine lpH hI [wS,sD] hX [0,3,7,8] (fun(g:Nat × Str)=>match g with|(i,b)=>i≤s.length∧b=(s.take i).foldl Wy []) (fun(g:Nat × Str)=>match g with|(i,b)=>⟨[(0,.v (.one (.p (.str s)))),(3,.v (.one (.row 0))),(7,.v (.one (.p (.int .i64 ((I.len (α:=UInt8) s)))))),(8,.v (.one (.p (.int .i64 i))))],[.row .byte 5 b],63,none⟩) (fun(g:Nat × Str)=>match g with|(i,b)=>s.length - i) (0,[]) (by kernel_rfl) (by kernel_rfl) ?_ ?_
 · exact⟨jM _,rfl⟩
 rintro⟨i,b⟩ ⟨h1,h2⟩ A hA;simp only at hA h1 h2
 refine orcL ?_;go_invoke;refine orcS (by kernel_rfl) ?_
 simp only [zi,Nat.reduceAdd];subst hI;simp only [nrmA,nrmB,nrlB,reduceCtorEq];have hs:=zn7 s i;have hbl:=zsa (s.take i) [];rw [← h2] at hs hbl;rw [jv,ji] at hbl
 have hA2:i<s.length→_:=fun h=>hA (i+1,Wy b (s.getD i 0)) ⟨by simp only;omega,(hs h).symm⟩ (by simp only;omega)
 have l0:=(s.getD i 0).toNat_lt;rw [zsb] at hA2
 have hend: ¬ i<s.length→s.foldl Wy []=b:=fun h=>by rw [h2,jq (by omega)]
 have hm: ¬ i<s.length→zhS s=if b.take 40=[] then [102,105,108,101] else b.take 40:=fun h=>by unfold zhS;rw [hend h]
 have hn:0<b.length→¬ b.take 40=[]:=fun h k=>by have:=congrArg List.length k;rw [jv,ji] at this;omega
 generalize s.getD i 0=c at *
 (repeat' (first|refine ja ?_ ?_|intro _))<;>first|omega|exact jb|exact jc ‹False›|skip
 all_goals first
  |omega
  |exact⟨by omega,by omega⟩
  |(simp only [jr];omega)
  |(rw [hm (by omega),if_neg (hn (by omega))];first|rfl|exact(jq (by omega)).symm)
  |(rw [hm (by omega),if_pos (by rw [List.eq_nil_of_length_eq_zero (show b.length=0 by omega)];rfl)])
  |(have h:=hA2 (by omega);(repeat(first|rw [if_pos (by first|omega|assumption)] at h|rw [if_neg (by first|omega|assumption|simpa using ‹_=true›)] at h));simp only [Int.natCast_add,Int.natCast_one] at h;exact h)
def ztv:Know Tryz.prog:=⟨239,QA,zlf⟩
def ztu:Know Tryz.prog:=⟨239,fun I=>zx I (QA I),zf zlf⟩
def QD (I:Alg):KU
 |[.v (.one (.p (.str s)))],[]=>(fun(s:Str)=>(some (.one ⟨I.hid (s.length≤140737488355328),(.ret (.v (.one (.p (.bool (I.hid (Vf s))))))),[]⟩):Option CT)) s
 |_,_=>none
theorem zlm:zu Tryz.prog 221 (QD alg):=by
 intro args hp r h;unfold QD at h;split at h<;>cases h
 rename_i s;simp only [CT.Good,zh];intro hneed
 refine spH Tryz.func221 (by kernel_rfl) { keep:=some [0,2]} [wC,wB,V8,V7] (by kernel_rfl) ?_
 intro I X hI hX
 refine orcL ?_;go_invoke;refine orcS (by kernel_rfl) ?_
 simp only [zi,Nat.reduceAdd];subst hI;simp only [nrmA,nrmB,nrlB,reduceCtorEq];unfold Vf
 have h70:(70<s.length)↔((70:Int)<(s.length:Int)):=by omega
 simp only [h70]
 (repeat' (first|refine ja ?_ ?_|intro _))<;>first|omega|exact jb|exact jc ‹False›|skip
 all_goals first
  |omega
  |(rw [decide_eq_false (by omega),‹XA s=true›,decide_eq_true ‹Lib.trimS s _=s›];cases s<;>simp)
  |(simp_all;done)
def zll:Know Tryz.prog:=⟨221,QD,zlm⟩
def zlk:Know Tryz.prog:=⟨221,fun I=>zx I (QD I),zf zlm⟩
end Go.Proofs.YtnpmenpjagcheaaGreatDoor
namespace Go.Proofs.YtnpmenpjagcheaaGreatDoor
open Go Go.Sep Go.Ab
def pctM:Str→Option Str
 |[]=>some []
 | c ::r=>
   if c≠37 then(pctM r).map (c:: ·)
   else match r with
    |a::b::r'=>if hexK (a.toNat:Int)<0∨hexK (b.toNat:Int)<0 then none else(pctM r').map (UInt8.ofNat (16 * hexK (a.toNat:Int)+hexK (b.toNat:Int)).toNat:: ·)
    |_=>none
def utfS:Str:=[117,116,102,45,56,39,39]
def extM (s:Str):Option Str:=if s.length<7∨lowS (s.take 7)≠utfS then none else pctM (s.drop 7)
def rG:Str:=[99,111,110,116,101,110,116,45,100,105,115,112,111,115,105,116,105,111,110]
def zlE:Str:=[99,111,110,116,101,110,116,45,116,121,112,101]
def zuI:Str:=[102,111,114,109,45,100,97,116,97]
def zvK:Str:=[110,97,109,101]
def ztr:Str:=[102,105,108,101,110,97,109,101]
def zg9:Str:=[102,105,108,101,110,97,109,101,42]
def extV (s:Str):Str:=(extM s).getD []
def extB (s:Str):Bool:=(extM s).isSome
def zvw (f x:Str × Bool):Str:=if x.2=true then zhS (extV x.1) else if f.2=true then zhS f.1 else []
def partT (t:Str × Int):Str:=if t.2=0 then t.1 else []
def zsG (a:Str × Int) (m:Med × Int) (n f x:Str × Bool) (t:Str × Int):Prt × Int:=
 if a.2≠0 then(prt0,a.2)
 else if m.2≠0 then(prt0,m.2)
 else if m.1.word≠zuI then(prt0,11)
 else if n.2=false then(prt0,6)
 else if x.2=true∧extB x.1=false then(prt0,5)
 else if t.2=9 then(prt0,9)
 else(⟨n.1,zvw f x,partT t,[]⟩,0)
def Zn (l:List Fld):Prt × Int:=
 zsG (oneF (valsF l rG)) (xI (oneF (valsF l rG)).1) (getP (xI (oneF (valsF l rG)).1).1.params zvK) (getP (xI (oneF (valsF l rG)).1).1.params ztr) (getP (xI (oneF (valsF l rG)).1).1.params zg9) (oneF (valsF l zlE))
def evP (p:Prt):Evt:=⟨5,hd0,[],p,0⟩
def evO:Evt:=⟨6,hd0,[],prt0,0⟩
def xg (f:Fm) (c:Int):Fm:= { f with pos:=8,code:=c,out:=f.out++[evF c]}
def fmSk (f:Fm) (c:UInt8):Fm:= { f with held:=((rE f.mark f.held.toNat c).2.1:Int)}
def wE (f:Fm):Fm:=
 if(Zn f.fields).2≠0 then xg f (Zn f.fields).2
 else if f.parts=12 then xg f 8
 else fmSk (fmSk { f with parts:=f.parts+1,pos:=6,out:=f.out++[evP (Zn f.fields).1],skip:=2} 13) 10
def uN (f:Fm) (s:Str):Fm:=
 if s=[] then wE f
 else if f.fields.length=16 then xg f 8
 else if(uF s).2≠0 then xg f (uF s).2
 else { f with fields:=f.fields++[(uF s).1]}
def wu (f:Fm) (c:UInt8):Fm:=
 if f.pos=1∧c=45 then { f with pos:=2}
 else if f.pos=2∧c=45 then { f with pos:=7,out:=f.out++[evE]}
 else if f.pos≠2∧(c=32∨c=9) then { f with pos:=3}
 else if f.pos≠2∧c=13 then { f with pos:=4}
 else xg f 5
def uV (f:Fm) (c:UInt8):Str:=(rE f.mark f.held.toNat c).1.drop (min f.skip ((rE f.mark f.held.toNat c).1.length:Int)).toNat
def vI (f:Fm) (c:UInt8):Fm:=
 if(rE f.mark f.held.toNat c).2.2=false then
  { fmSk f c with skip:=f.skip - min f.skip ((rE f.mark f.held.toNat c).1.length:Int),out:=if f.pos=6∧uV f c≠[] then f.out++[evB (uV f c)] else f.out}
 else { fmSk f c with pos:=1,skip:=0,out:=if f.pos=6 then(if uV f c≠[] then f.out++[evB (uV f c),evO] else f.out++[evO]) else f.out}
def lnOf (f:Fm):Ln:=match f.ln with|some l=>l|none=>ln0
def fmF (f:Fm) (c:UInt8):Fm:=
 if f.pos=0∨f.pos=6 then vI f c
 else if f.pos=1∨f.pos=2∨f.pos=3 then wu f c
 else if f.pos=4 then(if c≠10 then xg f 2 else { f with pos:=5,ln:=some ln0,fields:=[]})
 else if f.pos=5 then
  if(lnF (lnOf f) c).2.2.2≠0 then xg { f with ln:=some (lnF (lnOf f) c).1} (lnF (lnOf f) c).2.2.2
  else if(lnF (lnOf f) c).2.2.1=true then uN { f with ln:=some (lnF (lnOf f) c).1} (lnF (lnOf f) c).2.1
  else { f with ln:=some (lnF (lnOf f) c).1}
 else f
def zbe (b:Str):Str:=[13,10,45,45]++b
def fm0 (b:Str):Fm:=fmSk (fmSk ⟨zbe b,0,SH (zbe b),0,none,[],0,0,0,[]⟩ 13) 10
def VA (f:Fm) (b:Str):Fm:=b.foldl fmF f
def y9 (f:Fm) (b:Str):Fm:=VA { f with out:=[]} b
def sW (f:Fm):Int:=if f.pos=8 then f.code else if f.pos=7 then 0 else 14
def prtS (l:List Prt) (e:Evt):List Prt:=
 if e.kind=5 then l++[e.part]
 else if e.kind=2 then(match l.getLast? with|some p=>l.dropLast++[{ p with bytes:=p.bytes++e.bytes}]|none=>l)
 else l
def Yb (b x:Str):List Prt × Int:=
 if Vf b=false then([],5)
 else if sW (y9 (fm0 b) x)≠0 then([],sW (y9 (fm0 b) x))
 else((yI (y9 (fm0 b) x).out).foldl prtS [],0)
end Go.Proofs.YtnpmenpjagcheaaGreatDoor
namespace Go.Proofs.YtnpmenpjagcheaaGreatDoor
open Go Go.Sep Go.Ab
set_option maxRecDepth 100000
def qh (I:Alg):KU
 |[.v (.one (.p (.str s))),.v (.one (.p (.str p)))],[]=>(fun(s p:Str)=>(some (.one ⟨I.hid (True),(.ret (.v (.one (.p (.bool (I.hid (Lib.hasPrefix s p))))))),[]⟩):Option CT)) s p
 |_,_=>none
theorem TS:zu Tryz.prog 79 (qh alg):=by
 intro args hp r h;unfold qh at h;split at h<;>cases h
 rename_i s p;simp only [CT.Good,zh];intro _
 refine Spc.of_below ⟨_,Tryz.func79,by kernel_rfl,by kernel_rfl⟩ fun S bs w vs _ hM=> ?_
 obtain⟨v,r,rfl⟩: ∃ v r,vs=v::r:=by cases vs with|nil=>exact hM.elim|cons v r=>exact⟨v,r,rfl⟩
 obtain⟨h1,hM⟩:=hM
 obtain⟨v2,r2,rfl⟩: ∃ v r2,r=v::r2:=by cases r with|nil=>exact hM.elim|cons v r=>exact⟨v,r,rfl⟩
 obtain⟨h2,hM⟩:=hM
 obtain rfl:r2=[]:=by cases r2 with|nil=>rfl|cons v r=>exact hM.elim
 cases h1 with
 | str _ hl1=>
   cases h2 with
   | str _ hl2=>
     refine⟨.bool (Lib.hasPrefix s p),.bool _,(Tryz.strings_HasPrefix (Sep.S s) (Sep.S p) w).mono fun e w' h=> ?_⟩;obtain⟨he,rfl⟩:=h;exact⟨he,Go.RowKit.Below.refl _ _⟩
def xA:Know Tryz.prog:=⟨79,qh,TS⟩
def xw:Know Tryz.prog:=⟨79,fun I=>zx I (qh I),zf TS⟩
def qx (I:Alg):KU
 |[.v (.one (.p (.str s))),.v (.one (.p (.str ([c]))))],[]=>(fun(s:Str)=>(some (.one ⟨I.hid (True),(.ret (.v (.one (.p (.bool (I.hid (decide (0≤Lib.indexByte s c)))))))),[]⟩):Option CT)) s
 |_,_=>none
theorem Sv:zu Tryz.prog 15 (qx alg):=by
 intro args hp r h;unfold qx at h;split at h<;>cases h
 rename_i s c;simp only [CT.Good,zh];intro _
 refine Spc.of_below ⟨_,Tryz.func15,by kernel_rfl,by kernel_rfl⟩ fun S bs w vs _ hM=> ?_
 obtain⟨v,r,rfl⟩: ∃ v r,vs=v::r:=by cases vs with|nil=>exact hM.elim|cons v r=>exact⟨v,r,rfl⟩
 obtain⟨h1,hM⟩:=hM
 obtain⟨v2,r2,rfl⟩: ∃ v r2,r=v::r2:=by cases r with|nil=>exact hM.elim|cons v r=>exact⟨v,r,rfl⟩
 obtain⟨h2,hM⟩:=hM
 obtain rfl:r2=[]:=by cases r2 with|nil=>rfl|cons v r=>exact hM.elim
 cases h1 with
 | str _ hl1=>
   cases h2 with
   | str _ hl2=>
     refine⟨.bool (decide (0≤Lib.indexByte s c)),.bool _,(Tryz.strings_Contains_one (Sep.S s) c w).mono fun e w' h=> ?_⟩;obtain⟨he,rfl⟩:=h;exact⟨he,Go.RowKit.Below.refl _ _⟩
def uS:Know Tryz.prog:=⟨15,qx,Sv⟩
def uQ:Know Tryz.prog:=⟨15,fun I=>zx I (qx I),zf Sv⟩
end Go.Proofs.YtnpmenpjagcheaaGreatDoor
namespace Go.Proofs.YtnpmenpjagcheaaGreatDoor
open Go Go.Sep Go.Ab
set_option maxRecDepth 100000
theorem zbB (s p:Str):(Lib.trimPrefix s p).length≤s.length:=by
 unfold Lib.trimPrefix
 split
 · simp
 · exact jL _
def qw (I:Alg):KU
 |[.v (.one (.p (.str s))),.v (.one (.p (.str p)))],[]=>(fun(s p:Str)=>(some (.one ⟨I.hid (True),(.ret (.tup [.one (.p (.str (I.hid (Lib.trimPrefix s p)))),.one (.p (.bool (I.hid (Lib.hasPrefix s p))))])),[]⟩):Option CT)) s p
 |_,_=>none
theorem Sr:zu Tryz.prog 172 (qw alg):=by
 intro args hp r h;unfold qw at h;split at h<;>cases h
 rename_i s p;simp only [CT.Good,zh];intro _
 refine Spc.of_below ⟨_,Tryz.func172,by kernel_rfl,by kernel_rfl⟩ fun S bs w vs _ hM=> ?_
 obtain⟨v,r,rfl⟩: ∃ v r,vs=v::r:=by cases vs with|nil=>exact hM.elim|cons v r=>exact⟨v,r,rfl⟩
 obtain⟨h1,hM⟩:=hM
 obtain⟨v2,r2,rfl⟩: ∃ v r2,r=v::r2:=by cases r with|nil=>exact hM.elim|cons v r=>exact⟨v,r,rfl⟩
 obtain⟨h2,hM⟩:=hM
 obtain rfl:r2=[]:=by cases r2 with|nil=>rfl|cons v r=>exact hM.elim
 cases h1 with
 | str _ hl1=>
   cases h2 with
   | str _ hl2=>
     refine⟨.tuple #[.string (Sep.S (Lib.trimPrefix s p)),.bool (Lib.hasPrefix s p)],⟨[.string (Sep.S (Lib.trimPrefix s p)),.bool (Lib.hasPrefix s p)],⟨.str _ (Nat.le_trans (zbB _ _) hl1),.bool _,trivial⟩,rfl⟩,(Tryz.strings_CutPrefix (Sep.S s) (Sep.S p) w).mono fun e w' h=> ?_⟩;obtain⟨he,rfl⟩:=h;exact⟨he,Go.RowKit.Below.refl _ _⟩
def Sm:Know Tryz.prog:=⟨172,qw,Sr⟩
def Sl:Know Tryz.prog:=⟨172,fun I=>zx I (qw I),zf Sr⟩
def FOk (f:List Fld):Prop:=f.length≤1000∧∀ x ∈ f,x.name.length≤1000000∧x.value.length≤1000000
def cfgT:Cfg:= { sl:=XT.sl++[⟨169,1000003,.byte,none⟩],fz:=[131]}
def SS (I:Alg):KU
 |[.v (.one (.p (.int .i64 st))),.v (.one (.p (.list .fld fs)))],[]=>(fun(fs:List Fld)=>(some (.one ⟨I.hid (True),(.pan (.ifc 164 true [.int .i64 st,.list .fld fs,.list .byte (I.hid ([]))])),[]⟩):Option CT)) fs
 |_,_=>none
theorem zjv:zu Tryz.prog 131 (SS alg):=by
 intro args hp r h;unfold SS at h;split at h<;>cases h
 rename_i st fs
 revert fs;intro(fs:List Fld)
 simp only [CT.Good,zh];intro _
 refine spH Tryz.func131 (by kernel_rfl) { keep:=some [0,1]} [] (by kernel_rfl) ?_
 intro I X hI hX
 refine orcL ?_;go_invoke;refine orcS (by kernel_rfl) ?_
 simp only [zi,Nat.reduceAdd]
 try trivial
def zS:Know Tryz.prog:=⟨131,SS,zjv⟩
def zQ:Know Tryz.prog:=⟨131,fun I=>zx I (SS I),zf zjv⟩
def Wj (I:Alg):KU
 |[.v (.one (.p (.str n))),.v (.one (.p (.str v)))],[]=>(fun(n v:Str)=>(some (.one ⟨I.hid (True),(.ret (.v (.agg [.p (.str n),.p (.str v)]))),[]⟩):Option CT)) n v
 |_,_=>none
theorem zff:zu Tryz.prog 100 (Wj alg):=by
 intro args hp r h;unfold Wj at h;split at h<;>cases h
 rename_i n v;simp only [CT.Good,zh];intro _
 refine spH Tryz.func100 (by kernel_rfl) { keep:=some [0,1,4]} [] (by kernel_rfl) ?_
 intro I X hI hX
 refine orcL ?_;go_invoke;refine orcS (by kernel_rfl) ?_
 simp only [zi,Nat.reduceAdd]
 try trivial
def yx:Know Tryz.prog:=⟨100,Wj,zff⟩
def yw:Know Tryz.prog:=⟨100,fun I=>zx I (Wj I),zf zff⟩
def zdn (I:Alg):KU
 |[.v (.one (.p (.int .i64 n)))],[]=>some (.one ⟨I.hid (0≤n∧n<1000000000),(.ret (.v (.one (.p (.str (I.hid (decS n))))))),[]⟩)
 |_,_=>none
theorem znB:zu Tryz.prog 132 (zdn alg):=by
 intro args hp r h;unfold zdn at h;split at h<;>cases h
 rename_i n;simp only [CT.Good,zh];intro hneed
 refine spH Tryz.func132 (by kernel_rfl) { keep:=some [0,2]} [qH,qG] (by kernel_rfl) ?_
 intro I X hI hX
 refine orcL ?_;go_invoke;refine orcS (by kernel_rfl) ?_
 simp only [zi,Nat.reduceAdd];subst hI;simp only [nrmA,nrmB]
 first|exact hneed|exact⟨hneed,trivial⟩|trace_state
def xU:Know Tryz.prog:=⟨132,zdn,znB⟩
def xR:Know Tryz.prog:=⟨132,fun I=>zx I (zdn I),zf znB⟩
theorem zwY (m t:Str) (mi:Int) (f:List Fld) (le:Int) (l:List Upl) (n:Int) (b:Str) (s:Int) (nm:Str) (hneed:(FOk f∧nm.length≤1000000)∧¬ (oneT f nm).2=9):Spc Tryz.prog 133 [.v (.one (.ptr 0 0)),.v (.one (.p (.str nm)))] [.obj 169 [.ptr 1 0,.p (.str m),.p (.str t),.p (.int .i64 mi),.p (.list .fld f),.p (.int .i64 le)],.pack [.obj 78 [.ptr 1 0,.ptr 2 0],.pack [.obj 106 [.row 1,.p (.int .i64 n)],.row .upl 82 l],.pack [.obj 108 [.row 1,.p (.int .i64 s)],.row .byte 5 b]]] (.ret (.tup [.one (.p (.str ((oneT f nm).1))),.one (.p (.bool (decide ((oneT f nm).2=0))))])) [.obj 169 [.ptr 1 0,.p (.str m),.p (.str t),.p (.int .i64 mi),.p (.list .fld f),.p (.int .i64 le)],.pack [.obj 78 [.ptr 1 0,.ptr 2 0],.pack [.obj 106 [.row 1,.p (.int .i64 n)],.row .upl 82 l],.pack [.obj 108 [.row 1,.p (.int .i64 s)],.row .byte 5 b]]]:=by
 obtain⟨⟨hf,hn⟩,h9⟩:=hneed
 refine spH Tryz.func133 (by kernel_rfl) { cfgT with keep:=some [0,1,4,5,6,7]} [Yt,Yr,zS,zQ] (by kernel_rfl) ?_
 intro I X hI hX
 refine orcL ?_;go_invoke;refine orcS (by kernel_rfl) ?_
 simp only [zi,Nat.reduceAdd];subst hI;unfold oneT at *;simp only [nrmA,nrmB,nrlB,reduceCtorEq]
 (repeat' (first|refine ja ?_ ?_|intro _))<;>first|omega|exact jb|exact jc ‹False›|skip
 all_goals first|exact hf.1|exact hn|exact hf.2|(exact(hf.2 _ ‹_›).1)|(exact(hf.2 _ ‹_›).2)|rfl|(exact⟨hf.1,hn,hf.2⟩)|(exfalso;exact h9 ‹_›)|(simp_all;done)|trace_state
theorem zwX (m t:Str) (mi:Int) (f:List Fld) (le:Int) (l:List Upl) (n:Int) (b:Str) (s:Int) (nm:Str) (hneed:(FOk f∧nm.length≤1000000)∧(oneT f nm).2=9):Spc Tryz.prog 133 [.v (.one (.ptr 0 0)),.v (.one (.p (.str nm)))] [.obj 169 [.ptr 1 0,.p (.str m),.p (.str t),.p (.int .i64 mi),.p (.list .fld f),.p (.int .i64 le)],.pack [.obj 78 [.ptr 1 0,.ptr 2 0],.pack [.obj 106 [.row 1,.p (.int .i64 n)],.row .upl 82 l],.pack [.obj 108 [.row 1,.p (.int .i64 s)],.row .byte 5 b]]] (.pan (.ifc 164 true [.int .i64 400,.list .fld ([]),.list .byte ([])])) [.obj 169 [.ptr 1 0,.p (.str m),.p (.str t),.p (.int .i64 mi),.p (.list .fld f),.p (.int .i64 le)],.pack [.obj 78 [.ptr 1 0,.ptr 2 0],.pack [.obj 106 [.row 1,.p (.int .i64 n)],.row .upl 82 l],.pack [.obj 108 [.row 1,.p (.int .i64 s)],.row .byte 5 b]]]:=by
 obtain⟨⟨hf,hn⟩,h9⟩:=hneed
 refine spH Tryz.func133 (by kernel_rfl) { cfgT with keep:=some [0,1,4,5,6,7]} [Yt,Yr,zS,zQ] (by kernel_rfl) ?_
 intro I X hI hX
 refine orcL ?_;go_invoke;refine orcS (by kernel_rfl) ?_
 simp only [zi,Nat.reduceAdd];subst hI;unfold oneT at *;simp only [nrmA,nrmB,nrlB,reduceCtorEq]
 (repeat' (first|refine ja ?_ ?_|intro _))<;>first|omega|exact jb|exact jc ‹False›|skip
 all_goals first|exact hf.1|exact hn|exact hf.2|(exact(hf.2 _ ‹_›).1)|(exact(hf.2 _ ‹_›).2)|rfl|(exact⟨hf.1,hn,hf.2⟩)|(exfalso;contradiction)|(simp_all;done)|trace_state
def zdm (I:Alg):KU
 |[.v (.one (.ptr 0 0)),.v (.one (.p (.str nm)))],[.obj 169 [.ptr 1 0,.p (.str m),.p (.str t),.p (.int .i64 mi),.p (.list .fld f),.p (.int .i64 le)],.pack [.obj 78 [.ptr 1 0,.ptr 2 0],.pack [.obj 106 [.row 1,.p (.int .i64 n)],.row .upl 82 l],.pack [.obj 108 [.row 1,.p (.int .i64 s)],.row .byte 5 b]]]=>(fun(m t:Str) (f:List Fld) (l:List Upl) (b nm:Str)=>(some (.br (I.hid (decide ((oneT f nm).2=9))) (.one ⟨I.hid ((FOk f∧nm.length≤1000000)∧(oneT f nm).2=9),(.pan (.ifc 164 true [.int .i64 400,.list .fld (I.hid ([])),.list .byte (I.hid ([]))])),[.obj 169 [.ptr 1 0,.p (.str m),.p (.str t),.p (.int .i64 mi),.p (.list .fld f),.p (.int .i64 le)],.pack [.obj 78 [.ptr 1 0,.ptr 2 0],.pack [.obj 106 [.row 1,.p (.int .i64 n)],.row .upl 82 l],.pack [.obj 108 [.row 1,.p (.int .i64 s)],.row .byte 5 b]]]⟩) (.one ⟨I.hid ((FOk f∧nm.length≤1000000)∧¬ (oneT f nm).2=9),(.ret (.tup [.one (.p (.str (I.hid ((oneT f nm).1)))),.one (.p (.bool (I.hid (decide ((oneT f nm).2=0)))))])),[.obj 169 [.ptr 1 0,.p (.str m),.p (.str t),.p (.int .i64 mi),.p (.list .fld f),.p (.int .i64 le)],.pack [.obj 78 [.ptr 1 0,.ptr 2 0],.pack [.obj 106 [.row 1,.p (.int .i64 n)],.row .upl 82 l],.pack [.obj 108 [.row 1,.p (.int .i64 s)],.row .byte 5 b]]]⟩)):Option CT)) m t f l b nm
 |_,_=>none
theorem znA:zu Tryz.prog 133 (zdm alg):=by
 intro args hp r h;unfold zdm at h
 split at h
 · cases h;exact⟨fun _ hn=>zwX _ _ _ _ _ _ _ _ _ _ hn,fun _ hn=>zwY _ _ _ _ _ _ _ _ _ _ hn⟩
 · cases h
def xQ:Know Tryz.prog:=⟨133,zdm,znA⟩
def xP:Know Tryz.prog:=⟨133,fun I=>zx I (zdm I),zf znA⟩
end Go.Proofs.YtnpmenpjagcheaaGreatDoor
namespace Go.Proofs.YtnpmenpjagcheaaGreatDoor
open Go Go.Sep Go.Ab
set_option maxRecDepth 100000
theorem qV (f:List Fld) (n:Str):(oneT f n).2=0∨(oneT f n).2=9∨(oneT f n).2=10:=by
 unfold oneT oneF
 repeat' split
 all_goals simp
theorem zu6 (m t:Str) (mi:Int) (f:List Fld) (le:Int) (l:List Upl) (n:Int) (b:Str) (s:Int) (nm:Str) (hneed:(FOk f∧nm.length≤1000000)∧Xp f nm=true):Spc Tryz.prog 169 [.v (.one (.ptr 0 0)),.v (.one (.p (.str nm)))] [.obj 169 [.ptr 1 0,.p (.str m),.p (.str t),.p (.int .i64 mi),.p (.list .fld f),.p (.int .i64 le)],.pack [.obj 78 [.ptr 1 0,.ptr 2 0],.pack [.obj 106 [.row 1,.p (.int .i64 n)],.row .upl 82 l],.pack [.obj 108 [.row 1,.p (.int .i64 s)],.row .byte 5 b]]] (.ret (.v (.one (.p (.int .i64 ((yc f nm))))))) [.obj 169 [.ptr 1 0,.p (.str m),.p (.str t),.p (.int .i64 mi),.p (.list .fld f),.p (.int .i64 le)],.pack [.obj 78 [.ptr 1 0,.ptr 2 0],.pack [.obj 106 [.row 1,.p (.int .i64 n)],.row .upl 82 l],.pack [.obj 108 [.row 1,.p (.int .i64 s)],.row .byte 5 b]]]:=by
 obtain⟨⟨hf,hn⟩,h9⟩:=hneed;have hcd:=qV f nm
 refine spH Tryz.func169 (by kernel_rfl) { cfgT with keep:=some [0,1,4,5,6,7]} [uf,vZ,zS,zQ,xQ,xP] (by kernel_rfl) ?_
 intro I X hI hX
 refine orcL ?_;go_invoke;refine orcS (by kernel_rfl) ?_
 simp only [zi,Nat.reduceAdd];subst hI;unfold Xp at h9;unfold yc;simp only [nrmA,nrmB,nrlB,reduceCtorEq]
 (repeat' (first|refine ja ?_ ?_|intro _))<;>first|omega|exact jb|exact jc ‹False›|skip
 all_goals first|omega|assumption|(exact hf)|exact hf.1|(exact(hf.2 _ ‹_›).1)|(exact(hf.2 _ ‹_›).2)|(exact⟨hf,by decide⟩)|(exact⟨⟨hf,by decide⟩,‹_›⟩)|(exfalso;simp_all;done)|(simp_all;done)|(simp_all;omega)|(rcases hcd with h|h|h<;>simp_all;done)|trace_state
theorem zu5 (m t:Str) (mi:Int) (f:List Fld) (le:Int) (l:List Upl) (n:Int) (b:Str) (s:Int) (nm:Str) (hneed:(FOk f∧nm.length≤1000000)∧Xp f nm=false):Spc Tryz.prog 169 [.v (.one (.ptr 0 0)),.v (.one (.p (.str nm)))] [.obj 169 [.ptr 1 0,.p (.str m),.p (.str t),.p (.int .i64 mi),.p (.list .fld f),.p (.int .i64 le)],.pack [.obj 78 [.ptr 1 0,.ptr 2 0],.pack [.obj 106 [.row 1,.p (.int .i64 n)],.row .upl 82 l],.pack [.obj 108 [.row 1,.p (.int .i64 s)],.row .byte 5 b]]] (.pan (.ifc 164 true [.int .i64 400,.list .fld ([]),.list .byte ([])])) [.obj 169 [.ptr 1 0,.p (.str m),.p (.str t),.p (.int .i64 mi),.p (.list .fld f),.p (.int .i64 le)],.pack [.obj 78 [.ptr 1 0,.ptr 2 0],.pack [.obj 106 [.row 1,.p (.int .i64 n)],.row .upl 82 l],.pack [.obj 108 [.row 1,.p (.int .i64 s)],.row .byte 5 b]]]:=by
 obtain⟨⟨hf,hn⟩,h9⟩:=hneed;have hcd:=qV f nm
 refine spH Tryz.func169 (by kernel_rfl) { cfgT with keep:=some [0,1,4,5,6,7]} [uf,vZ,zS,zQ,xQ,xP] (by kernel_rfl) ?_
 intro I X hI hX
 refine orcL ?_;go_invoke;refine orcS (by kernel_rfl) ?_
 simp only [zi,Nat.reduceAdd];subst hI;unfold Xp at h9;simp only [nrmA,nrmB,nrlB,reduceCtorEq]
 (repeat' (first|refine ja ?_ ?_|intro _))<;>first|omega|exact jb|exact jc ‹False›|skip
 all_goals first|omega|assumption|(exact hf)|exact hf.1|(exact(hf.2 _ ‹_›).1)|(exact(hf.2 _ ‹_›).2)|(exact⟨hf,by decide⟩)|(exact⟨⟨hf,by decide⟩,‹_›⟩)|(exfalso;simp_all;done)|(simp_all;done)|(simp_all;omega)|(rcases hcd with h|h|h<;>simp_all;done)|trace_state
def SX (I:Alg):KU
 |[.v (.one (.ptr 0 0)),.v (.one (.p (.str nm)))],[.obj 169 [.ptr 1 0,.p (.str m),.p (.str t),.p (.int .i64 mi),.p (.list .fld f),.p (.int .i64 le)],.pack [.obj 78 [.ptr 1 0,.ptr 2 0],.pack [.obj 106 [.row 1,.p (.int .i64 n)],.row .upl 82 l],.pack [.obj 108 [.row 1,.p (.int .i64 s)],.row .byte 5 b]]]=>(fun(m t:Str) (f:List Fld) (l:List Upl) (b nm:Str)=>(some (.br (I.hid (Xp f nm)) (.one ⟨I.hid ((FOk f∧nm.length≤1000000)∧Xp f nm=true),(.ret (.v (.one (.p (.int .i64 (I.hid (yc f nm))))))),[.obj 169 [.ptr 1 0,.p (.str m),.p (.str t),.p (.int .i64 mi),.p (.list .fld f),.p (.int .i64 le)],.pack [.obj 78 [.ptr 1 0,.ptr 2 0],.pack [.obj 106 [.row 1,.p (.int .i64 n)],.row .upl 82 l],.pack [.obj 108 [.row 1,.p (.int .i64 s)],.row .byte 5 b]]]⟩) (.one ⟨I.hid ((FOk f∧nm.length≤1000000)∧Xp f nm=false),(.pan (.ifc 164 true [.int .i64 400,.list .fld (I.hid ([])),.list .byte (I.hid ([]))])),[.obj 169 [.ptr 1 0,.p (.str m),.p (.str t),.p (.int .i64 mi),.p (.list .fld f),.p (.int .i64 le)],.pack [.obj 78 [.ptr 1 0,.ptr 2 0],.pack [.obj 106 [.row 1,.p (.int .i64 n)],.row .upl 82 l],.pack [.obj 108 [.row 1,.p (.int .i64 s)],.row .byte 5 b]]]⟩)):Option CT)) m t f l b nm
 |_,_=>none
theorem zjx:zu Tryz.prog 169 (SX alg):=by
 intro args hp r h;unfold SX at h
 split at h
 · cases h;exact⟨fun _ hn=>zu6 _ _ _ _ _ _ _ _ _ _ hn,fun _ hn=>zu5 _ _ _ _ _ _ _ _ _ _ hn⟩
 · cases h
def tC:Know Tryz.prog:=⟨169,SX,zjx⟩
def tu:Know Tryz.prog:=⟨169,fun I=>zx I (SX I),zf zjx⟩
theorem zrT (m t:Str) (mi:Int) (f:List Fld) (le:Int) (l:List Upl) (n:Int) (b:Str) (s:Int) (hneed:FOk f∧Vo f=true):Spc Tryz.prog 170 [.v (.one (.ptr 0 0))] [.obj 169 [.ptr 1 0,.p (.str m),.p (.str t),.p (.int .i64 mi),.p (.list .fld f),.p (.int .i64 le)],.pack [.obj 78 [.ptr 1 0,.ptr 2 0],.pack [.obj 106 [.row 1,.p (.int .i64 n)],.row .upl 82 l],.pack [.obj 108 [.row 1,.p (.int .i64 s)],.row .byte 5 b]]] (.ret (.v (.one (.p (.bool ((zf9 f))))))) [.obj 169 [.ptr 1 0,.p (.str m),.p (.str t),.p (.int .i64 mi),.p (.list .fld f),.p (.int .i64 le)],.pack [.obj 78 [.ptr 1 0,.ptr 2 0],.pack [.obj 106 [.row 1,.p (.int .i64 n)],.row .upl 82 l],.pack [.obj 108 [.row 1,.p (.int .i64 s)],.row .byte 5 b]]]:=by
 obtain⟨hf,h9⟩:=hneed;have hcd:=qV f zac;unfold zac at hcd
 refine spH Tryz.func170 (by kernel_rfl) { cfgT with keep:=some [0,2,3,4]} [zS,zQ,xQ,xP] (by kernel_rfl) ?_
 intro I X hI hX
 refine orcL ?_;go_invoke;refine orcS (by kernel_rfl) ?_
 simp only [zi,Nat.reduceAdd];subst hI;unfold Vo zac at h9;unfold zf9 zac;simp only [nrmA,nrmB,nrlB,reduceCtorEq]
 (repeat' (first|refine ja ?_ ?_|intro _))<;>first|omega|exact jb|exact jc ‹False›|skip
 all_goals first|omega|assumption|(exact hf)|exact hf.1|(exact(hf.2 _ ‹_›).1)|(exact(hf.2 _ ‹_›).2)|(exact⟨hf,by decide⟩)|(exact⟨⟨hf,by decide⟩,‹_›⟩)|(exfalso;simp_all;done)|(simp_all;done)|(simp_all;omega)|(rcases hcd with h|h|h<;>simp_all;done)|trace_state
theorem zrS (m t:Str) (mi:Int) (f:List Fld) (le:Int) (l:List Upl) (n:Int) (b:Str) (s:Int) (hneed:FOk f∧Vo f=false):Spc Tryz.prog 170 [.v (.one (.ptr 0 0))] [.obj 169 [.ptr 1 0,.p (.str m),.p (.str t),.p (.int .i64 mi),.p (.list .fld f),.p (.int .i64 le)],.pack [.obj 78 [.ptr 1 0,.ptr 2 0],.pack [.obj 106 [.row 1,.p (.int .i64 n)],.row .upl 82 l],.pack [.obj 108 [.row 1,.p (.int .i64 s)],.row .byte 5 b]]] (.pan (.ifc 164 true [.int .i64 400,.list .fld ([]),.list .byte ([])])) [.obj 169 [.ptr 1 0,.p (.str m),.p (.str t),.p (.int .i64 mi),.p (.list .fld f),.p (.int .i64 le)],.pack [.obj 78 [.ptr 1 0,.ptr 2 0],.pack [.obj 106 [.row 1,.p (.int .i64 n)],.row .upl 82 l],.pack [.obj 108 [.row 1,.p (.int .i64 s)],.row .byte 5 b]]]:=by
 obtain⟨hf,h9⟩:=hneed;have hcd:=qV f zac;unfold zac at hcd
 refine spH Tryz.func170 (by kernel_rfl) { cfgT with keep:=some [0,2,3,4]} [zS,zQ,xQ,xP] (by kernel_rfl) ?_
 intro I X hI hX
 refine orcL ?_;go_invoke;refine orcS (by kernel_rfl) ?_
 simp only [zi,Nat.reduceAdd];subst hI;unfold Vo zac at h9;simp only [nrmA,nrmB,nrlB,reduceCtorEq]
 (repeat' (first|refine ja ?_ ?_|intro _))<;>first|omega|exact jb|exact jc ‹False›|skip
 all_goals first|omega|assumption|(exact hf)|exact hf.1|(exact(hf.2 _ ‹_›).1)|(exact(hf.2 _ ‹_›).2)|(exact⟨hf,by decide⟩)|(exact⟨⟨hf,by decide⟩,‹_›⟩)|(exfalso;simp_all;done)|(simp_all;done)|(simp_all;omega)|(rcases hcd with h|h|h<;>simp_all;done)|trace_state
def Wi (I:Alg):KU
 |[.v (.one (.ptr 0 0))],[.obj 169 [.ptr 1 0,.p (.str m),.p (.str t),.p (.int .i64 mi),.p (.list .fld f),.p (.int .i64 le)],.pack [.obj 78 [.ptr 1 0,.ptr 2 0],.pack [.obj 106 [.row 1,.p (.int .i64 n)],.row .upl 82 l],.pack [.obj 108 [.row 1,.p (.int .i64 s)],.row .byte 5 b]]]=>(fun(m t:Str) (f:List Fld) (l:List Upl) (b:Str)=>(some (.br (I.hid (Vo f)) (.one ⟨I.hid (FOk f∧Vo f=true),(.ret (.v (.one (.p (.bool (I.hid (zf9 f))))))),[.obj 169 [.ptr 1 0,.p (.str m),.p (.str t),.p (.int .i64 mi),.p (.list .fld f),.p (.int .i64 le)],.pack [.obj 78 [.ptr 1 0,.ptr 2 0],.pack [.obj 106 [.row 1,.p (.int .i64 n)],.row .upl 82 l],.pack [.obj 108 [.row 1,.p (.int .i64 s)],.row .byte 5 b]]]⟩) (.one ⟨I.hid (FOk f∧Vo f=false),(.pan (.ifc 164 true [.int .i64 400,.list .fld (I.hid ([])),.list .byte (I.hid ([]))])),[.obj 169 [.ptr 1 0,.p (.str m),.p (.str t),.p (.int .i64 mi),.p (.list .fld f),.p (.int .i64 le)],.pack [.obj 78 [.ptr 1 0,.ptr 2 0],.pack [.obj 106 [.row 1,.p (.int .i64 n)],.row .upl 82 l],.pack [.obj 108 [.row 1,.p (.int .i64 s)],.row .byte 5 b]]]⟩)):Option CT)) m t f l b
 |_,_=>none
theorem zfe:zu Tryz.prog 170 (Wi alg):=by
 intro args hp r h;unfold Wi at h
 split at h
 · cases h;exact⟨fun _ hn=>zrT _ _ _ _ _ _ _ _ _ hn,fun _ hn=>zrS _ _ _ _ _ _ _ _ _ hn⟩
 · cases h
def znE:Know Tryz.prog:=⟨170,Wi,zfe⟩
def znD:Know Tryz.prog:=⟨170,fun I=>zx I (Wi I),zf zfe⟩
theorem zwW (c:Int) (hneed:c=0):Spc Tryz.prog 138 [.v (.one (.p (.int .i64 c)))] [] (.ret (.tup [])) []:=by
 refine spH Tryz.func138 (by kernel_rfl) { keep:=some [0,2,9,16]} [zS,zQ] (by kernel_rfl) ?_
 intro I X hI hX
 refine orcL ?_;go_invoke;refine orcS (by kernel_rfl) ?_
 simp only [zi,Nat.reduceAdd];subst hI;simp only [nrmA,nrmB,nrlB,reduceCtorEq]
 (repeat' (first|refine ja ?_ ?_|intro _))<;>first|omega|exact jb|exact jc ‹False›|skip
 all_goals first|omega|(simp_all;done)|trace_state
theorem zwV (c:Int) (hneed: ¬ c=0):Spc Tryz.prog 138 [.v (.one (.p (.int .i64 c)))] [] (.pan (.ifc 164 true [.int .i64 ((Wu c)),.list .fld ([]),.list .byte ([])])) []:=by
 generalize hr:Wu c=r;unfold Wu at hr
 refine spH Tryz.func138 (by kernel_rfl) { keep:=some [0,2,9,16]} [zS,zQ] (by kernel_rfl) ?_
 intro I X hI hX
 refine orcL ?_;go_invoke;refine orcS (by kernel_rfl) ?_
 simp only [zi,Nat.reduceAdd];subst hI;simp only [nrmA,nrmB,nrlB,reduceCtorEq]
 (repeat' (first|refine ja ?_ ?_|intro _))<;>first|omega|exact jb|exact jc ‹False›|skip
 all_goals first|omega|(((repeat(first|rewrite [if_pos (by first|omega|assumption|(simp only [*,or_self,or_true,true_or,or_false,false_or,jf,jg,jd,je,and_self,and_true,true_and];done)|(simp only [*];omega)|(simp [*];done)|(simp [*];omega))] at hr|rewrite [if_neg (by first|omega|assumption|(simp only [*,or_self,or_true,true_or,or_false,false_or,jf,jg,jd,je,and_self,and_true,true_and];done)|(simp only [*];omega)|(simp [*];done)|(simp [*];omega))] at hr)));omega)|(simp_all;done)|trace_state
def zdl (I:Alg):KU
 |[.v (.one (.p (.int .i64 c)))],[]=>some (.br (I.hid (decide (c=0))) (.one ⟨I.hid (c=0),(.ret (.tup [])),[]⟩) (.one ⟨I.hid (¬ c=0),(.pan (.ifc 164 true [.int .i64 (I.hid (Wu c)),.list .fld (I.hid ([])),.list .byte (I.hid ([]))])),[]⟩))
 |_,_=>none
theorem znz:zu Tryz.prog 138 (zdl alg):=by
 intro args hp r h;unfold zdl at h
 split at h
 · cases h;exact⟨fun _ hn=>zwW _ hn,fun _ hn=>zwV _ hn⟩
 · cases h
def vk:Know Tryz.prog:=⟨138,zdl,znz⟩
def vg:Know Tryz.prog:=⟨138,fun I=>zx I (zdl I),zf znz⟩
def zdo (I:Alg):KU
 |[.v (.agg [.p (.int .i64 id),.p (.int .i64 sz),.p (.str no),.p (.list .byte bb),.p (.int .i64 se)])],[]=>(fun(no bb:Str)=>(some (.one ⟨I.hid (sz<1000000000),(.ret (.v (.agg [.p (.str (I.hid ((lenF ⟨id,sz,no,bb,se⟩).name))),.p (.str (I.hid ((lenF ⟨id,sz,no,bb,se⟩).value)))]))),[]⟩):Option CT)) no bb
 |_,_=>none
theorem znC:zu Tryz.prog 173 (zdo alg):=by
 intro args hp r h;unfold zdo at h;split at h<;>cases h
 rename_i id sz no bb se;simp only [CT.Good,zh];intro hneed;generalize hr:lenF ⟨id,sz,no,bb,se⟩=r;obtain⟨a,v⟩:=r;unfold lenF at hr
 refine spH Tryz.func173 (by kernel_rfl) { keep:=some [0,1,2]} [yx,yw,xU,xR] (by kernel_rfl) ?_
 intro I X hI hX
 refine orcL ?_;go_invoke;refine orcS (by kernel_rfl) ?_
 simp only [zi,Nat.reduceAdd];subst hI;simp only [nrmA,nrmB,nrlB,reduceCtorEq,V0.agg.injEq];simp only at hr
 (repeat' (first|refine ja ?_ ?_|intro _))<;>first|omega|exact jb|exact jc ‹False›|skip
 all_goals first|omega|(((repeat(first|rewrite [if_pos (by first|omega|assumption|(simp only [*,or_self,or_true,true_or,or_false,false_or,jf,jg,jd,je,and_self,and_true,true_and];done)|(simp only [*];omega)|(simp [*];done)|(simp [*];omega))] at hr|rewrite [if_neg (by first|omega|assumption|(simp only [*,or_self,or_true,true_or,or_false,false_or,jf,jg,jd,je,and_self,and_true,true_and];done)|(simp only [*];omega)|(simp [*];done)|(simp [*];omega))] at hr)));cases hr;rfl)|(((repeat(first|rewrite [if_pos (by first|omega|assumption|(simp only [*,or_self,or_true,true_or,or_false,false_or,jf,jg,jd,je,and_self,and_true,true_and];done)|(simp only [*];omega)|(simp [*];done)|(simp [*];omega))] at hr|rewrite [if_neg (by first|omega|assumption|(simp only [*,or_self,or_true,true_or,or_false,false_or,jf,jg,jd,je,and_self,and_true,true_and];done)|(simp only [*];omega)|(simp [*];done)|(simp [*];omega))] at hr)));cases hr;simp [zwK,zwL];done)|(simp_all;done)|trace_state
def zu8:Know Tryz.prog:=⟨173,zdo,znC⟩
def zu7:Know Tryz.prog:=⟨173,fun I=>zx I (zdo I),zf znC⟩
end Go.Proofs.YtnpmenpjagcheaaGreatDoor
namespace Go.Proofs.YtnpmenpjagcheaaGreatDoor
open Go Go.Sep Go.Ab
set_option maxRecDepth 100000
theorem zd4 {f:List Fld} (hf:FOk f) (n:Str):(oneT f n).1.length≤1000000:=by
 unfold oneT oneF
 split
 · simp
 · split
   · rename_i h
     rw [jH]
     cases hq:(valsF f n)[0]? with
     |none=>simp
     | some y=>
       have:=List.mem_of_getElem? hq;unfold valsF at this;rw [List.mem_map] at this;obtain⟨x,hx,rfl⟩:=this;exact(hf.2 x (List.mem_filter.1 hx).1).2
   · simp
def YD (I:Alg):KU
 |[.v (.one (.ptr 0 0))],[.obj 169 [.ptr 1 0,.p (.str m),.p (.str t),.p (.int .i64 mi),.p (.list .fld f),.p (.int .i64 le)],.pack [.obj 78 [.ptr 1 0,.ptr 2 0],.pack [.obj 106 [.row 1,.p (.int .i64 n)],.row .upl 82 l],.pack [.obj 108 [.row 1,.p (.int .i64 s)],.row .byte 5 b]]]=>(fun(m t:Str) (f:List Fld) (l:List Upl) (b:Str)=>(some (.one ⟨I.hid (FOk f∧zI l n∧n≤200000∧b.length≤100000),(.pan (.ifc 164 true [.int .i64 (I.hid ((wK ⟨l,n,b,s⟩ f).st)),.list .fld (I.hid ((wK ⟨l,n,b,s⟩ f).fs)),.list .byte (I.hid ([]))])),[.obj 169 [.ptr 1 0,.p (.str m),.p (.str t),.p (.int .i64 mi),.p (.list .fld f),.p (.int .i64 le)],.pack [.obj 78 [.ptr 1 0,.ptr 2 0],.pack [.obj 106 [.row 1,.p (.int .i64 (I.hid ((wK ⟨l,n,b,s⟩ f).q.n)))],.row .upl 82 (I.hid ((wK ⟨l,n,b,s⟩ f).q.l))],.pack [.obj 108 [.row 1,.p (.int .i64 (I.hid ((wK ⟨l,n,b,s⟩ f).q.s)))],.row .byte 5 (I.hid ((wK ⟨l,n,b,s⟩ f).q.b))]]]⟩):Option CT)) m t f l b
 |_,_=>none
set_option maxHeartbeats 2000000 in
theorem zbR:zu Tryz.prog 134 (YD alg):=by
 intro args hp r h;unfold YD at h;split at h<;>cases h
 rename_i m t mi f le n l s b
 revert f l;intro(f:List Fld) (l:List Upl)
 simp only [CT.Good,zh];intro hneed;obtain⟨hf,hs,hn,hb⟩:=hneed;have hn0:=hs.n0;have hdl:=yE (n+1);have hcm:=qV f zhD;have hol:=zd4 hf zhD;generalize hr:wK ⟨l,n,b,s⟩ f=r;obtain⟨st,fs,⟨l',n',b',s'⟩⟩:=r;unfold wK creE wsC wsS syS at hr
 refine spH Tryz.func134 (by kernel_rfl) { cfgT with keep:=some [0,2,3,4,6,7]} [Tq,Tn,zK,zJ,zS,zQ,yx,yw,xU,xR,xQ,xP,tC,tu,znE,znD,vk,vg] (by kernel_rfl) ?_
 intro I X hI hX
 refine orcL ?_;go_invoke;refine orcS (by kernel_rfl) ?_
 simp only [zi,Nat.reduceAdd];subst hI;unfold y8 zhD at *;unfold locN wP at hr;simp only at hr;simp only [nrmA,nrmB,nrlB,reduceCtorEq,HO.pack.injEq,HO.obj.injEq]
 by_cases h1:Xp f [117,112,108,111,97,100,45,108,101,110,103,116,104]=false
 · rw [if_pos h1] at hr
   cases hr
   (repeat' (first|refine ja ?_ ?_|intro _))<;>first|omega|exact jb|exact jc ‹False›|skip
   all_goals first
    |omega
    |assumption
    |exact hs
    |exact hf.1
    |(exact(hf.2 _ ‹_›).1)
    |(exact(hf.2 _ ‹_›).2)
    |(simp only [jh,ji];omega)
    |(simp_all;done)
    |(exfalso;simp_all;done)
    |(simp only [wrtL,wrtN,wrtB,if_neg h5];done)
 rw [if_neg h1] at hr;simp only [Bool.not_eq_false] at h1
 by_cases h2:Vo f=false
 · rw [if_pos h2] at hr
   cases hr
   (repeat' (first|refine ja ?_ ?_|intro _))<;>first|omega|exact jb|exact jc ‹False›|skip
   all_goals first
    |omega
    |assumption
    |exact hs
    |exact hf.1
    |(exact(hf.2 _ ‹_›).1)
    |(exact(hf.2 _ ‹_›).2)
    |(simp only [jh,ji];omega)
    |(simp_all;done)
    |(exfalso;simp_all;done)
    |(simp only [wrtL,wrtN,wrtB,if_neg h5];done)
 rw [if_neg h2] at hr;simp only [Bool.not_eq_false] at h2
 by_cases h3:decide (0≤yc f [117,112,108,111,97,100,45,108,101,110,103,116,104])=zf9 f
 · rw [if_pos h3] at hr
   cases hr
   (repeat' (first|refine ja ?_ ?_|intro _))<;>first|omega|exact jb|exact jc ‹False›|skip
   all_goals first
    |omega
    |assumption
    |exact hs
    |exact hf.1
    |(exact(hf.2 _ ‹_›).1)
    |(exact(hf.2 _ ‹_›).2)
    |(simp only [jh,ji];omega)
    |(simp_all;done)
    |(exfalso;simp_all;done)
    |(simp only [wrtL,wrtN,wrtB,if_neg h5];done)
 rw [if_neg h3] at hr
 by_cases h4:(oneT f [117,112,108,111,97,100,45,109,101,116,97,100,97,116,97]).2=9
 · rw [if_pos h4] at hr
   cases hr
   (repeat' (first|refine ja ?_ ?_|intro _))<;>first|omega|exact jb|exact jc ‹False›|skip
   all_goals first
    |omega
    |assumption
    |exact hs
    |exact hf.1
    |(exact(hf.2 _ ‹_›).1)
    |(exact(hf.2 _ ‹_›).2)
    |(simp only [jh,ji];omega)
    |(simp_all;done)
    |(exfalso;simp_all;done)
    |(simp only [wrtL,wrtN,wrtB,if_neg h5];done)
 rw [if_neg h4] at hr;generalize(oneT f [117,112,108,111,97,100,45,109,101,116,97,100,97,116,97]).1=mt at *;generalize yc f [117,112,108,111,97,100,45,108,101,110,103,116,104]=nv at *
 by_cases h5:wrtC l n b ⟨1,n+1,nv,mt⟩=0
 · rw [if_neg (fun h=>h h5)] at hr
   cases hr;simp only [h5,if_true] at *
   (repeat' (first|refine ja ?_ ?_|intro _))<;>first|omega|exact jb|exact jc ‹False›|skip
   all_goals first
    |omega
    |assumption
    |exact hs
    |exact hf.1
    |(exact(hf.2 _ ‹_›).1)
    |(exact(hf.2 _ ‹_›).2)
    |(simp only [jh,ji];omega)
    |(simp_all;done)
    |(exfalso;simp_all;done)
    |(simp only [wrtL,wrtN,wrtB,if_neg h5];done)
 · rw [if_pos h5] at hr
   cases hr
   (repeat' (first|refine ja ?_ ?_|intro _))<;>first|omega|exact jb|exact jc ‹False›|skip
   all_goals first
    |omega
    |assumption
    |exact hs
    |exact hf.1
    |(exact(hf.2 _ ‹_›).1)
    |(exact(hf.2 _ ‹_›).2)
    |(simp only [jh,ji];omega)
    |(simp_all;done)
    |(exfalso;simp_all;done)
    |(simp only [wrtL,wrtN,wrtB,if_neg h5];done)
def qP:Know Tryz.prog:=⟨134,YD,zbR⟩
def qO:Know Tryz.prog:=⟨134,fun I=>zx I (YD I),zf zbR⟩
theorem zwU (m t:Str) (mi:Int) (f:List Fld) (le:Int) (l:List Upl) (n:Int) (b:Str) (s:Int) (hneed:zI l n∧uplB ⟨l,n,b,s⟩ t=true):Spc Tryz.prog 135 [.v (.one (.ptr 0 0))] [.obj 169 [.ptr 1 0,.p (.str m),.p (.str t),.p (.int .i64 mi),.p (.list .fld f),.p (.int .i64 le)],.pack [.obj 78 [.ptr 1 0,.ptr 2 0],.pack [.obj 106 [.row 1,.p (.int .i64 n)],.row .upl 82 l],.pack [.obj 108 [.row 1,.p (.int .i64 s)],.row .byte 5 b]]] (.ret (.v (.agg [.p (.int .i64 ((getU l (idV t)).id)),.p (.int .i64 ((getU l (idV t)).size)),.p (.str ((getU l (idV t)).note)),.p (.list .byte ((getU l (idV t)).bytes)),.p (.int .i64 ((getU l (idV t)).sent))]))) [.obj 169 [.ptr 1 0,.p (.str m),.p (.str t),.p (.int .i64 mi),.p (.list .fld f),.p (.int .i64 le)],.pack [.obj 78 [.ptr 1 0,.ptr 2 0],.pack [.obj 106 [.row 1,.p (.int .i64 n)],.row .upl 82 l],.pack [.obj 108 [.row 1,.p (.int .i64 s)],.row .byte 5 b]]]:=by
 obtain⟨hs,hu⟩:=hneed;have hnn:=wR (t.drop 7);have hnx:=wR (Lib.trimPrefix t wP)
 have htp:Lib.hasPrefix t wP=true→Lib.trimPrefix t wP=t.drop 7:=fun h=>by unfold Lib.trimPrefix;rw [if_pos h];rfl
 unfold uplB idB idV at hu
 try unfold idV
 refine spH Tryz.func135 (by kernel_rfl) { cfgT with keep:=some [0,2,3,4,5,6,7]} [uf,vZ,Zj,Zi,XC,XB,Sm,Sl,zS,zQ,xU,xR] (by kernel_rfl) ?_
 intro I X hI hX
 refine orcL ?_;go_invoke;refine orcS (by kernel_rfl) ?_
 simp only [zi,Nat.reduceAdd];subst hI;rw [show([47,102,105,108,101,115,47]:Str)=wP from rfl];simp only [nrmA,nrmB,nrlB,reduceCtorEq,HO.pack.injEq,HO.obj.injEq];generalize Lib.hasPrefix t wP=hb at *
 cases hb with
 | true=>
   rw [htp rfl] at *;generalize t.drop 7=tt at *;generalize numA tt 10 9=na at *;obtain⟨nv,ok⟩:=na;simp only [Bool.true_and] at *
   (repeat' (first|refine ja ?_ ?_|intro _))<;>first|omega|exact jb|exact jc ‹False›|skip
   all_goals first|omega|assumption|exact hs|(simp_all;done)|trace_state
 | false=>
   simp only [Bool.false_and] at *
   (repeat' (first|refine ja ?_ ?_|intro _))<;>first|omega|exact jb|exact jc ‹False›|skip
   all_goals first|omega|assumption|exact hs|(simp_all;done)|trace_state
theorem zwT (m t:Str) (mi:Int) (f:List Fld) (le:Int) (l:List Upl) (n:Int) (b:Str) (s:Int) (hneed:zI l n∧uplB ⟨l,n,b,s⟩ t=false):Spc Tryz.prog 135 [.v (.one (.ptr 0 0))] [.obj 169 [.ptr 1 0,.p (.str m),.p (.str t),.p (.int .i64 mi),.p (.list .fld f),.p (.int .i64 le)],.pack [.obj 78 [.ptr 1 0,.ptr 2 0],.pack [.obj 106 [.row 1,.p (.int .i64 n)],.row .upl 82 l],.pack [.obj 108 [.row 1,.p (.int .i64 s)],.row .byte 5 b]]] (.pan (.ifc 164 true [.int .i64 404,.list .fld ([]),.list .byte ([])])) [.obj 169 [.ptr 1 0,.p (.str m),.p (.str t),.p (.int .i64 mi),.p (.list .fld f),.p (.int .i64 le)],.pack [.obj 78 [.ptr 1 0,.ptr 2 0],.pack [.obj 106 [.row 1,.p (.int .i64 n)],.row .upl 82 l],.pack [.obj 108 [.row 1,.p (.int .i64 s)],.row .byte 5 b]]]:=by
 obtain⟨hs,hu⟩:=hneed;have hnn:=wR (t.drop 7);have hnx:=wR (Lib.trimPrefix t wP)
 have htp:Lib.hasPrefix t wP=true→Lib.trimPrefix t wP=t.drop 7:=fun h=>by unfold Lib.trimPrefix;rw [if_pos h];rfl
 unfold uplB idB idV at hu
 try unfold idV
 refine spH Tryz.func135 (by kernel_rfl) { cfgT with keep:=some [0,2,3,4,5,6,7]} [uf,vZ,Zj,Zi,XC,XB,Sm,Sl,zS,zQ,xU,xR] (by kernel_rfl) ?_
 intro I X hI hX
 refine orcL ?_;go_invoke;refine orcS (by kernel_rfl) ?_
 simp only [zi,Nat.reduceAdd];subst hI;rw [show([47,102,105,108,101,115,47]:Str)=wP from rfl];simp only [nrmA,nrmB,nrlB,reduceCtorEq,HO.pack.injEq,HO.obj.injEq];generalize Lib.hasPrefix t wP=hb at *
 cases hb with
 | true=>
   rw [htp rfl] at *;generalize t.drop 7=tt at *;generalize numA tt 10 9=na at *;obtain⟨nv,ok⟩:=na;simp only [Bool.true_and] at *
   (repeat' (first|refine ja ?_ ?_|intro _))<;>first|omega|exact jb|exact jc ‹False›|skip
   all_goals first|omega|assumption|exact hs|(simp_all;done)|trace_state
 | false=>
   simp only [Bool.false_and] at *
   (repeat' (first|refine ja ?_ ?_|intro _))<;>first|omega|exact jb|exact jc ‹False›|skip
   all_goals first|omega|assumption|exact hs|(simp_all;done)|trace_state
def zdk (I:Alg):KU
 |[.v (.one (.ptr 0 0))],[.obj 169 [.ptr 1 0,.p (.str m),.p (.str t),.p (.int .i64 mi),.p (.list .fld f),.p (.int .i64 le)],.pack [.obj 78 [.ptr 1 0,.ptr 2 0],.pack [.obj 106 [.row 1,.p (.int .i64 n)],.row .upl 82 l],.pack [.obj 108 [.row 1,.p (.int .i64 s)],.row .byte 5 b]]]=>(fun(m t:Str) (f:List Fld) (l:List Upl) (b:Str)=>(some (.br (I.hid (uplB ⟨l,n,b,s⟩ t)) (.one ⟨I.hid (zI l n∧uplB ⟨l,n,b,s⟩ t=true),(.ret (.v (.agg [.p (.int .i64 (I.hid ((getU l (idV t)).id))),.p (.int .i64 (I.hid ((getU l (idV t)).size))),.p (.str (I.hid ((getU l (idV t)).note))),.p (.list .byte (I.hid ((getU l (idV t)).bytes))),.p (.int .i64 (I.hid ((getU l (idV t)).sent)))]))),[.obj 169 [.ptr 1 0,.p (.str m),.p (.str t),.p (.int .i64 mi),.p (.list .fld f),.p (.int .i64 le)],.pack [.obj 78 [.ptr 1 0,.ptr 2 0],.pack [.obj 106 [.row 1,.p (.int .i64 n)],.row .upl 82 l],.pack [.obj 108 [.row 1,.p (.int .i64 s)],.row .byte 5 b]]]⟩) (.one ⟨I.hid (zI l n∧uplB ⟨l,n,b,s⟩ t=false),(.pan (.ifc 164 true [.int .i64 404,.list .fld (I.hid ([])),.list .byte (I.hid ([]))])),[.obj 169 [.ptr 1 0,.p (.str m),.p (.str t),.p (.int .i64 mi),.p (.list .fld f),.p (.int .i64 le)],.pack [.obj 78 [.ptr 1 0,.ptr 2 0],.pack [.obj 106 [.row 1,.p (.int .i64 n)],.row .upl 82 l],.pack [.obj 108 [.row 1,.p (.int .i64 s)],.row .byte 5 b]]]⟩)):Option CT)) m t f l b
 |_,_=>none
theorem znw:zu Tryz.prog 135 (zdk alg):=by
 intro args hp r h;unfold zdk at h
 split at h
 · cases h;exact⟨fun _ hn=>zwU _ _ _ _ _ _ _ _ _ hn,fun _ hn=>zwT _ _ _ _ _ _ _ _ _ hn⟩
 · cases h
def zai:Know Tryz.prog:=⟨135,zdk,znw⟩
def zah:Know Tryz.prog:=⟨135,fun I=>zx I (zdk I),zf znw⟩
def SQ (I:Alg):KU
 |[.v (.one (.ptr 0 0)),.v (.agg [.p (.int .i64 ui),.p (.int .i64 uz),.p (.str uo),.p (.list .byte ub),.p (.int .i64 us)])],[.obj 169 [.ptr 1 0,.p (.str m),.p (.str t),.p (.int .i64 mi),.p (.list .fld f),.p (.int .i64 le)],.pack [.obj 78 [.ptr 1 0,.ptr 2 0],.pack [.obj 106 [.row 1,.p (.int .i64 n)],.row .upl 82 l],.pack [.obj 108 [.row 1,.p (.int .i64 s)],.row .byte 5 b]]]=>(fun(m t:Str) (f:List Fld) (l:List Upl) (b uo ub:Str)=>(some (.one ⟨I.hid (uz<1000000000∧ub.length<1000000),(.pan (.ifc 164 true [.int .i64 200,.list .fld (I.hid (zbC ⟨ui,uz,uo,ub,us⟩)),.list .byte (I.hid ([]))])),[.obj 169 [.ptr 1 0,.p (.str m),.p (.str t),.p (.int .i64 mi),.p (.list .fld f),.p (.int .i64 le)],.pack [.obj 78 [.ptr 1 0,.ptr 2 0],.pack [.obj 106 [.row 1,.p (.int .i64 n)],.row .upl 82 l],.pack [.obj 108 [.row 1,.p (.int .i64 s)],.row .byte 5 b]]]⟩):Option CT)) m t f l b uo ub
 |_,_=>none
theorem zju:zu Tryz.prog 136 (SQ alg):=by
 intro args hp r h;unfold SQ at h;split at h<;>cases h
 rename_i ui uz uo ub us m t mi f le n l s b
 revert f l;intro(f:List Fld) (l:List Upl)
 simp only [CT.Good,zh];intro hneed;obtain⟨h1,h2⟩:=hneed;generalize hr:zbC ⟨ui,uz,uo,ub,us⟩=r;unfold zbC at hr;generalize hl:lenF ⟨ui,uz,uo,ub,us⟩=lf at hr;obtain⟨ln,lv⟩:=lf
 refine spH Tryz.func136 (by kernel_rfl) { cfgT with keep:=some [0,1,3,4]} [zS,zQ,yx,yw,xU,xR,zu8,zu7] (by kernel_rfl) ?_
 intro I X hI hX
 refine orcL ?_;go_invoke;refine orcS (by kernel_rfl) ?_
 simp only [zi,Nat.reduceAdd];subst hI;simp only at hr;simp only [nrmA,nrmB,nrlB,reduceCtorEq,HO.pack.injEq,HO.obj.injEq];rw [hl]
 (repeat' (first|refine ja ?_ ?_|intro _))<;>first|omega|exact jb|exact jc ‹False›|skip
 all_goals first|omega|with_reducible assumption|(subst hr;simp_all;done)|(subst hr;(simp_all [zaa,zyr,zxD,zl2]);done)|trace_state
def X8:Know Tryz.prog:=⟨136,SQ,zju⟩
def X7:Know Tryz.prog:=⟨136,fun I=>zx I (SQ I),zf zju⟩
end Go.Proofs.YtnpmenpjagcheaaGreatDoor
namespace Go.Proofs.YtnpmenpjagcheaaGreatDoor
open Go Go.Sep Go.Ab
set_option maxRecDepth 100000
theorem qM {l:List Upl} {n:Int} {b:Str} {e:Ent} (h:e.kind≠1):wrtN l n b e=n:=by
 unfold wrtN UC;rw [if_neg h]
 split<;>rfl
def Wh (I:Alg):KU
 |[.v (.one (.ptr 0 0)),.v (.agg [.p (.int .i64 ui),.p (.int .i64 uz),.p (.str uo),.p (.list .byte ub),.p (.int .i64 us)]),.v (.one (.p (.list .byte body)))],[.obj 169 [.ptr 1 0,.p (.str m),.p (.str t),.p (.int .i64 mi),.p (.list .fld f),.p (.int .i64 le)],.pack [.obj 78 [.ptr 1 0,.ptr 2 0],.pack [.obj 106 [.row 1,.p (.int .i64 n)],.row .upl 82 l],.pack [.obj 108 [.row 1,.p (.int .i64 s)],.row .byte 5 b]]]=>(fun(m t:Str) (f:List Fld) (l:List Upl) (b uo ub body:Str)=>(some (.one ⟨I.hid (FOk f∧zI l n∧n≤200000∧b.length≤100000∧body.length≤100000∧ub.length≤1000000∧uz≤1000000),(.pan (.ifc 164 true [.int .i64 (I.hid ((uD ⟨l,n,b,s⟩ ⟨ui,uz,uo,ub,us⟩ f body).st)),.list .fld (I.hid ((uD ⟨l,n,b,s⟩ ⟨ui,uz,uo,ub,us⟩ f body).fs)),.list .byte (I.hid ([]))])),[.obj 169 [.ptr 1 0,.p (.str m),.p (.str t),.p (.int .i64 mi),.p (.list .fld f),.p (.int .i64 le)],.pack [.obj 78 [.ptr 1 0,.ptr 2 0],.pack [.obj 106 [.row 1,.p (.int .i64 (I.hid ((uD ⟨l,n,b,s⟩ ⟨ui,uz,uo,ub,us⟩ f body).q.n)))],.row .upl 82 (I.hid ((uD ⟨l,n,b,s⟩ ⟨ui,uz,uo,ub,us⟩ f body).q.l))],.pack [.obj 108 [.row 1,.p (.int .i64 (I.hid ((uD ⟨l,n,b,s⟩ ⟨ui,uz,uo,ub,us⟩ f body).q.s)))],.row .byte 5 (I.hid ((uD ⟨l,n,b,s⟩ ⟨ui,uz,uo,ub,us⟩ f body).q.b))]]]⟩):Option CT)) m t f l b uo ub body
 |_,_=>none
set_option maxHeartbeats 8000000 in
theorem zfd:zu Tryz.prog 137 (Wh alg):=by
 intro args hp r h;unfold Wh at h;split at h<;>cases h
 rename_i ui uz uo ub us body m t mi f le n l s b
 revert f l;intro(f:List Fld) (l:List Upl)
 simp only [CT.Good,zh];intro hneed;obtain⟨hf,hs,hn,hb,hbl,hub,huz⟩:=hneed;have hn0:=hs.n0;have hcm:=qV f ZB;have hol:=zd4 hf ZB;have hs2:=QY hs b (apE ui body)
 have hnn:wrtN l n b (apE ui body)=n:=qM (by simp [apE])
 have hbb:=Zb (l:=l) (n:=n) (b:=b) (apE ui body) hb;generalize hr:uD ⟨l,n,b,s⟩ ⟨ui,uz,uo,ub,us⟩ f body=r;obtain⟨st,fs,⟨l',n',b',s'⟩⟩:=r;unfold uD wsC wsS syS at hr;simp only at hr
 refine spH Tryz.func137 (by kernel_rfl) { cfgT with seam:=[5,10,17],keep:=some [0,1,2,4,6,8,9,10,11]} [wM,wL,yS,yR,yQ,yP,zK,zJ,yO,yN,zS,zQ,yx,yw,xU,xR,xQ,xP,tC,tu,vk,vg] (by kernel_rfl) ?_
 intro I X hI hX
 refine orcL ?_;go_invoke;refine orcS (by kernel_rfl) ?_
 simp only [zi,Nat.reduceAdd]
 have hh: ∀ {α:Type} (x:α),I.hid x=x:=by subst hI;intros;rfl
 have key17: ∀ (nv sz:Int),nv=(ub.length:Int)→(if(if apG l ui nv then 17 else wrtC l n b (apE ui body))≠0 then(⟨Wu (if apG l ui nv then 17 else wrtC l n b (apE ui body)),[],⟨l,n,b,s⟩⟩:TA)
  else if 0≤sz∧uz<0 then
   if wrtC (wrtL l n b (apE ui body)) (wrtN l n b (apE ui body)) (wrtB l n b (apE ui body)) ⟨3,ui,sz,[]⟩≠0 then(⟨Wu (wrtC (wrtL l n b (apE ui body)) (wrtN l n b (apE ui body)) (wrtB l n b (apE ui body)) ⟨3,ui,sz,[]⟩),[],⟨wrtL l n b (apE ui body),wrtN l n b (apE ui body),wrtB l n b (apE ui body),s⟩⟩:TA)
   else(⟨204,[⟨zaa,decS (nv+(body.length:Int))⟩],⟨wrtL (wrtL l n b (apE ui body)) (wrtN l n b (apE ui body)) (wrtB l n b (apE ui body)) ⟨3,ui,sz,[]⟩,wrtN (wrtL l n b (apE ui body)) (wrtN l n b (apE ui body)) (wrtB l n b (apE ui body)) ⟨3,ui,sz,[]⟩,wrtB (wrtL l n b (apE ui body)) (wrtN l n b (apE ui body)) (wrtB l n b (apE ui body)) ⟨3,ui,sz,[]⟩,((wrtB (wrtL l n b (apE ui body)) (wrtN l n b (apE ui body)) (wrtB l n b (apE ui body)) ⟨3,ui,sz,[]⟩).length:Int)⟩⟩:TA)
  else(⟨204,[⟨zaa,decS (nv+(body.length:Int))⟩],⟨wrtL l n b (apE ui body),wrtN l n b (apE ui body),wrtB l n b (apE ui body),((wrtB l n b (apE ui body)).length:Int)⟩⟩:TA))=⟨st,fs,⟨l',n',b',s'⟩⟩→Ok Tryz.prog X (fun o h=>o=AOut.pan (C.ifc 164 true [P.int IntKind.i64 st,P.list U.fld fs,P.list U.byte []])∧h=[HO.obj 169 [C.ptr 1 0,C.p (P.str m),C.p (P.str t),C.p (P.int IntKind.i64 mi),C.p (P.list U.fld f),C.p (P.int IntKind.i64 le)],HO.pack [HO.obj 78 [C.ptr 1 0,C.ptr 2 0],HO.pack [HO.obj 106 [C.row 1,C.p (P.int IntKind.i64 n')],HO.row U.upl 82 l'],HO.pack [HO.obj 108 [C.row 1,C.p (P.int IntKind.i64 s')],HO.row U.byte 5 b']]]) (go I tab { cfgT with seam:=[5,10,17],keep:=some [0,1,2,4,6,8,9,10,11]} [wM,wL,yS,yR,yQ,yP,zK,zJ,yO,yN,zS,zQ,yx,yw,xU,xR,xQ,xP,tC,tu,vk,vg] [⟨vM Tryz.f137,finK I tab { cfgT with seam:=[5,10,17],keep:=some [0,1,2,4,6,8,9,10,11]} 2 Tryz.f137⟩] 0 [1,1,1,1,1,1,1,1,0] ⟨[(0,.v (.one (.ptr 0 0))),(1,.v (.agg [.p (.int .i64 ui),.p (.int .i64 uz),.p (.str uo),.p (.list .byte ub),.p (.int .i64 us)])),(2,.v (.one (.p (.list .byte body)))),(4,.v (.one (.ptr 2 0))),(10,.v (.one (.p (.int .i64 nv)))),(11,.v (.one (.p (.int .i64 sz))))],[.obj 169 [.ptr 1 0,.p (.str m),.p (.str t),.p (.int .i64 mi),.p (.list .fld f),.p (.int .i64 le)],.pack [.obj 78 [.ptr 1 0,.ptr 2 0],.pack [.obj 106 [.row 1,.p (.int .i64 n)],.row .upl 82 l],.pack [.obj 108 [.row 1,.p (.int .i64 s)],.row .byte 5 b]],.pack [.obj 82 [.p (.int .i64 ui),.p (.int .i64 uz),.p (.str uo),.p (.list .byte ub),.p (.int .i64 us)]]],131,none⟩):=by
  intro nv sz hnv hr
  refine orcL ?_;go_invoke;refine orcS (by kernel_rfl) ?_
  simp only [zi,Nat.reduceAdd];clear hX hcm hol;unfold zaa at hr;unfold apE at *;subst hI;simp only [nrmA,nrmB,nrlB,reduceCtorEq,HO.pack.injEq,HO.obj.injEq]
  by_cases hg:apG l ui nv=true
  · simp only [hg,if_true] at hr ⊢
    rw [if_pos (by decide)] at hr
    clear hs2 hnn hbb;simp only [TA.mk.injEq,Sto.mk.injEq] at hr;obtain⟨q1,q2,q3,q4,q5,q6⟩:=hr;subst q1 q2 q3 q4 q5 q6;simp only [nrmA,nrmB,nrlB,reduceCtorEq,HO.pack.injEq,HO.obj.injEq,decide_true,decide_false,je,jd,forall_const,false_implies,true_implies,jf,jg]
    (repeat' (first|refine ja ?_ ?_|intro _))<;>first|omega|exact jb|exact jc ‹False›|skip
    all_goals first
     |with_reducible rfl
     |with_reducible assumption
     |omega
     |exact hs
     |exact hf.1
     |(exact(hf.2 _ ‹_›).1)
     |(exact(hf.2 _ ‹_›).2)
     |exact⟨hf,by decide⟩
     |exact⟨⟨hf,by decide⟩,by assumption⟩
     |(simp only [jh,ji];omega)
     |(exfalso;simp_all;done)
  simp only [hg,jd,if_false] at hr ⊢;clear hg
  by_cases h1:wrtC l n b ⟨2,ui,0,body⟩=0
  · rw [if_neg (fun h=>h h1)] at hr
    simp only [h1] at ⊢
    clear h1;generalize wrtL l n b ⟨2,ui,0,body⟩=l2 at *;generalize wrtN l n b ⟨2,ui,0,body⟩=n2 at *;generalize wrtB l n b ⟨2,ui,0,body⟩=b2 at *
    by_cases h2:0≤sz∧uz<0
    · rw [if_pos h2] at hr
      by_cases h3:wrtC l2 n2 b2 ⟨3,ui,sz,[]⟩=0
      · rw [if_neg (fun h=>h h3)] at hr
        simp only [TA.mk.injEq,Sto.mk.injEq] at hr;obtain⟨q1,q2,q3,q4,q5,q6⟩:=hr;subst q1 q2 q3 q4 q5 q6
        simp only [h3] at ⊢
        clear h3;simp only [nrmA,nrmB,nrlB,reduceCtorEq,HO.pack.injEq,HO.obj.injEq,decide_true,decide_false,je,jd,forall_const,false_implies,true_implies,jf,jg]
        (repeat' (first|refine ja ?_ ?_|intro _))<;>first|omega|exact jb|exact jc ‹False›|skip
        all_goals first
         |with_reducible rfl
         |with_reducible assumption
         |omega
         |exact hs
         |exact hf.1
         |(exact(hf.2 _ ‹_›).1)
         |(exact(hf.2 _ ‹_›).2)
         |exact⟨hf,by decide⟩
         |exact⟨⟨hf,by decide⟩,by assumption⟩
         |(simp only [jh,ji];omega)
         |(exfalso;simp_all;done)
      · rw [if_pos h3] at hr
        simp only [TA.mk.injEq,Sto.mk.injEq] at hr;obtain⟨q1,q2,q3,q4,q5,q6⟩:=hr;subst q1 q2 q3 q4 q5 q6
        have e1:wrtL l2 n2 b2 ⟨3,ui,sz,[]⟩=l2:=by simp only [wrtL,if_neg h3]
        have e2:wrtN l2 n2 b2 ⟨3,ui,sz,[]⟩=n2:=by simp only [wrtN,if_neg h3]
        have e3:wrtB l2 n2 b2 ⟨3,ui,sz,[]⟩=b2:=by simp only [wrtB,if_neg h3]
        rw [e1,e2,e3];clear e1 e2 e3;generalize wrtC l2 n2 b2 ⟨3,ui,sz,[]⟩=c3 at *;simp only [nrmA,nrmB,nrlB,reduceCtorEq,HO.pack.injEq,HO.obj.injEq,decide_true,decide_false,je,jd,forall_const,false_implies,true_implies,jf,jg,h3]
        (repeat' (first|refine ja ?_ ?_|intro _))<;>first|omega|exact jb|exact jc ‹False›|skip
        all_goals first
         |with_reducible rfl
         |with_reducible assumption
         |omega
         |exact hs
         |exact hf.1
         |(exact(hf.2 _ ‹_›).1)
         |(exact(hf.2 _ ‹_›).2)
         |exact⟨hf,by decide⟩
         |exact⟨⟨hf,by decide⟩,by assumption⟩
         |(simp only [jh,ji];omega)
         |(exfalso;simp_all;done)
    · rw [if_neg h2] at hr
      simp only [TA.mk.injEq,Sto.mk.injEq] at hr;obtain⟨q1,q2,q3,q4,q5,q6⟩:=hr;subst q1 q2 q3 q4 q5 q6;simp only [nrmA,nrmB,nrlB,reduceCtorEq,HO.pack.injEq,HO.obj.injEq,decide_true,decide_false,je,jd,forall_const,false_implies,true_implies,jf,jg]
      (repeat' (first|refine ja ?_ ?_|intro _))<;>first|omega|exact jb|exact jc ‹False›|skip
      all_goals first
       |with_reducible rfl
       |with_reducible assumption
       |omega
       |exact hs
       |exact hf.1
       |(exact(hf.2 _ ‹_›).1)
       |(exact(hf.2 _ ‹_›).2)
       |exact⟨hf,by decide⟩
       |exact⟨⟨hf,by decide⟩,by assumption⟩
       |(simp only [jh,ji];omega)
       |(exfalso;simp_all;done)
  · rw [if_pos h1] at hr
    simp only [TA.mk.injEq,Sto.mk.injEq] at hr;obtain⟨q1,q2,q3,q4,q5,q6⟩:=hr;subst q1 q2 q3 q4 q5 q6
    have e1:wrtL l n b ⟨2,ui,0,body⟩=l:=by simp only [wrtL,if_neg h1]
    have e2:wrtN l n b ⟨2,ui,0,body⟩=n:=by simp only [wrtN,if_neg h1]
    have e3:wrtB l n b ⟨2,ui,0,body⟩=b:=by simp only [wrtB,if_neg h1]
    rw [e1,e2,e3];clear e1 e2 e3 hs2 hnn hbb;generalize wrtC l n b ⟨2,ui,0,body⟩=c2 at *;simp only [nrmA,nrmB,nrlB,reduceCtorEq,HO.pack.injEq,HO.obj.injEq,decide_true,decide_false,je,jd,forall_const,false_implies,true_implies,jf,jg,h1]
    (repeat' (first|refine ja ?_ ?_|intro _))<;>first|omega|exact jb|exact jc ‹False›|skip
    all_goals first
     |with_reducible rfl
     |with_reducible assumption
     |omega
     |exact hs
     |exact hf.1
     |(exact(hf.2 _ ‹_›).1)
     |(exact(hf.2 _ ‹_›).2)
     |exact⟨hf,by decide⟩
     |exact⟨⟨hf,by decide⟩,by assumption⟩
     |(simp only [jh,ji];omega)
     |(exfalso;simp_all;done)
 have key10: ∀ (nv:Int),nv=(ub.length:Int)→(if Xp f y8=false then(⟨400,[],⟨l,n,b,s⟩⟩:TA)
  else if 0≤yc f y8∧0≤uz∧yc f y8≠uz then(⟨400,[],⟨l,n,b,s⟩⟩:TA)
  else if 0≤yc f y8∧uz<0∧(2000<yc f y8∨yc f y8<nv+(body.length:Int)) then(⟨413,[],⟨l,n,b,s⟩⟩:TA)
  else if zaE b ((body.length:Int)+60)=false then(⟨507,[],⟨l,n,b,s⟩⟩:TA)
  else(if(if apG l ui nv then 17 else wrtC l n b (apE ui body))≠0 then(⟨Wu (if apG l ui nv then 17 else wrtC l n b (apE ui body)),[],⟨l,n,b,s⟩⟩:TA)
  else if 0≤(yc f y8)∧uz<0 then
   if wrtC (wrtL l n b (apE ui body)) (wrtN l n b (apE ui body)) (wrtB l n b (apE ui body)) ⟨3,ui,(yc f y8),[]⟩≠0 then(⟨Wu (wrtC (wrtL l n b (apE ui body)) (wrtN l n b (apE ui body)) (wrtB l n b (apE ui body)) ⟨3,ui,(yc f y8),[]⟩),[],⟨wrtL l n b (apE ui body),wrtN l n b (apE ui body),wrtB l n b (apE ui body),s⟩⟩:TA)
   else(⟨204,[⟨zaa,decS (nv+(body.length:Int))⟩],⟨wrtL (wrtL l n b (apE ui body)) (wrtN l n b (apE ui body)) (wrtB l n b (apE ui body)) ⟨3,ui,(yc f y8),[]⟩,wrtN (wrtL l n b (apE ui body)) (wrtN l n b (apE ui body)) (wrtB l n b (apE ui body)) ⟨3,ui,(yc f y8),[]⟩,wrtB (wrtL l n b (apE ui body)) (wrtN l n b (apE ui body)) (wrtB l n b (apE ui body)) ⟨3,ui,(yc f y8),[]⟩,((wrtB (wrtL l n b (apE ui body)) (wrtN l n b (apE ui body)) (wrtB l n b (apE ui body)) ⟨3,ui,(yc f y8),[]⟩).length:Int)⟩⟩:TA)
  else(⟨204,[⟨zaa,decS (nv+(body.length:Int))⟩],⟨wrtL l n b (apE ui body),wrtN l n b (apE ui body),wrtB l n b (apE ui body),((wrtB l n b (apE ui body)).length:Int)⟩⟩:TA)))=⟨st,fs,⟨l',n',b',s'⟩⟩→Ok Tryz.prog X (fun o h=>o=AOut.pan (C.ifc 164 true [P.int IntKind.i64 st,P.list U.fld fs,P.list U.byte []])∧h=[HO.obj 169 [C.ptr 1 0,C.p (P.str m),C.p (P.str t),C.p (P.int IntKind.i64 mi),C.p (P.list U.fld f),C.p (P.int IntKind.i64 le)],HO.pack [HO.obj 78 [C.ptr 1 0,C.ptr 2 0],HO.pack [HO.obj 106 [C.row 1,C.p (P.int IntKind.i64 n')],HO.row U.upl 82 l'],HO.pack [HO.obj 108 [C.row 1,C.p (P.int IntKind.i64 s')],HO.row U.byte 5 b']]]) (go I tab { cfgT with seam:=[5,10,17],keep:=some [0,1,2,4,6,8,9,10,11]} [wM,wL,yS,yR,yQ,yP,zK,zJ,yO,yN,zS,zQ,yx,yw,xU,xR,xQ,xP,tC,tu,vk,vg] [⟨vM Tryz.f137,finK I tab { cfgT with seam:=[5,10,17],keep:=some [0,1,2,4,6,8,9,10,11]} 2 Tryz.f137⟩] 0 [1,1,1,1,1,1,0] ⟨[(0,.v (.one (.ptr 0 0))),(1,.v (.agg [.p (.int .i64 ui),.p (.int .i64 uz),.p (.str uo),.p (.list .byte ub),.p (.int .i64 us)])),(2,.v (.one (.p (.list .byte body)))),(4,.v (.one (.ptr 2 0))),(10,.v (.one (.p (.int .i64 nv))))],[.obj 169 [.ptr 1 0,.p (.str m),.p (.str t),.p (.int .i64 mi),.p (.list .fld f),.p (.int .i64 le)],.pack [.obj 78 [.ptr 1 0,.ptr 2 0],.pack [.obj 106 [.row 1,.p (.int .i64 n)],.row .upl 82 l],.pack [.obj 108 [.row 1,.p (.int .i64 s)],.row .byte 5 b]],.pack [.obj 82 [.p (.int .i64 ui),.p (.int .i64 uz),.p (.str uo),.p (.list .byte ub),.p (.int .i64 us)]]],131,none⟩):=by
  intro nv hnv hr
  refine orcL ?_;go_invoke;refine orcS (by kernel_rfl) ?_
  simp only [zi,Nat.reduceAdd];clear hcm hol hs2 hnn hbb;subst hI;unfold y8 at *;simp only [nrmA,nrmB,nrlB,reduceCtorEq,HO.pack.injEq,HO.obj.injEq];generalize yc f [117,112,108,111,97,100,45,108,101,110,103,116,104]=sz at *
  by_cases hd1:Xp f [117,112,108,111,97,100,45,108,101,110,103,116,104]=false
  · rw [if_pos hd1] at hr
    simp only [TA.mk.injEq,Sto.mk.injEq] at hr;obtain⟨q1,q2,q3,q4,q5,q6⟩:=hr;subst q1 q2 q3 q4 q5 q6;simp only [nrmA,nrmB,nrlB,reduceCtorEq,HO.pack.injEq,HO.obj.injEq,decide_true,decide_false,je,jd,forall_const,false_implies,true_implies,jf,jg,hd1]
    (repeat' (first|refine ja ?_ ?_|intro _))<;>first|omega|exact jb|exact jc ‹False›|skip
    all_goals first
     |with_reducible rfl
     |with_reducible assumption
     |omega
     |exact hs
     |exact hf.1
     |(exact(hf.2 _ ‹_›).1)
     |(exact(hf.2 _ ‹_›).2)
     |exact⟨hf,by decide⟩
     |exact⟨⟨hf,by decide⟩,by assumption⟩
     |(simp only [jh,ji];omega)
     |(exfalso;simp_all;done)
  rw [if_neg hd1] at hr
  try simp only [Bool.not_eq_false] at hd1
  simp only [nrmA,nrmB,nrlB,reduceCtorEq,HO.pack.injEq,HO.obj.injEq,decide_true,decide_false,je,jd,forall_const,false_implies,true_implies,jf,jg,hd1]
  by_cases hd2:0≤sz∧0≤uz∧sz≠uz
  · rw [if_pos hd2] at hr
    simp only [TA.mk.injEq,Sto.mk.injEq] at hr;obtain⟨q1,q2,q3,q4,q5,q6⟩:=hr;subst q1 q2 q3 q4 q5 q6
    (repeat' (first|refine ja ?_ ?_|intro _))<;>first|omega|exact jb|exact jc ‹False›|skip
    all_goals first
     |with_reducible rfl
     |with_reducible assumption
     |omega
     |exact hs
     |exact hf.1
     |(exact(hf.2 _ ‹_›).1)
     |(exact(hf.2 _ ‹_›).2)
     |exact⟨hf,by decide⟩
     |exact⟨⟨hf,by decide⟩,by assumption⟩
     |(simp only [jh,ji];omega)
     |(exfalso;simp_all;done)
  rw [if_neg hd2] at hr
  by_cases hd3:0≤sz∧uz<0∧(2000<sz∨sz<nv+(body.length:Int))
  · rw [if_pos hd3] at hr
    simp only [TA.mk.injEq,Sto.mk.injEq] at hr;obtain⟨q1,q2,q3,q4,q5,q6⟩:=hr;subst q1 q2 q3 q4 q5 q6
    (repeat' (first|refine ja ?_ ?_|intro _))<;>first|omega|exact jb|exact jc ‹False›|skip
    all_goals first
     |with_reducible rfl
     |with_reducible assumption
     |omega
     |exact hs
     |exact hf.1
     |(exact(hf.2 _ ‹_›).1)
     |(exact(hf.2 _ ‹_›).2)
     |exact⟨hf,by decide⟩
     |exact⟨⟨hf,by decide⟩,by assumption⟩
     |(simp only [jh,ji];omega)
     |(exfalso;simp_all;done)
  rw [if_neg hd3] at hr
  by_cases hd4:zaE b ((body.length:Int)+60)=false
  · rw [if_pos hd4] at hr
    simp only [TA.mk.injEq,Sto.mk.injEq] at hr;obtain⟨q1,q2,q3,q4,q5,q6⟩:=hr;subst q1 q2 q3 q4 q5 q6;simp only [nrmA,nrmB,nrlB,reduceCtorEq,HO.pack.injEq,HO.obj.injEq,decide_true,decide_false,je,jd,forall_const,false_implies,true_implies,jf,jg,hd4]
    (repeat' (first|refine ja ?_ ?_|intro _))<;>first|omega|exact jb|exact jc ‹False›|skip
    all_goals first
     |with_reducible rfl
     |with_reducible assumption
     |omega
     |exact hs
     |exact hf.1
     |(exact(hf.2 _ ‹_›).1)
     |(exact(hf.2 _ ‹_›).2)
     |exact⟨hf,by decide⟩
     |exact⟨⟨hf,by decide⟩,by assumption⟩
     |(simp only [jh,ji];omega)
     |(exfalso;simp_all;done)
  rw [if_neg hd4] at hr
  try simp only [Bool.not_eq_false] at hd4
  simp only [nrmA,nrmB,nrlB,reduceCtorEq,HO.pack.injEq,HO.obj.injEq,decide_true,decide_false,je,jd,forall_const,false_implies,true_implies,jf,jg,hd4]
  (repeat' (first|refine ja ?_ ?_|intro _))<;>first|omega|exact jb|exact jc ‹False›|skip
  all_goals first
   |(with_reducible show Ok _ _ _ _;(try(exfalso;omega));exact seam rfl uq mixed [wM,wL,yS,yR,yQ,yP,zK,zJ,yO,yN,zS,zQ,yx,yw,xU,xR,xQ,xP,tC,tu,vk,vg] hX [0,1,2,4,10,11] ⟨[(0,.v (.one (.ptr 0 0))),(1,.v (.agg [.p (.int .i64 ui),.p (.int .i64 uz),.p (.str uo),.p (.list .byte ub),.p (.int .i64 us)])),(2,.v (.one (.p (.list .byte body)))),(4,.v (.one (.ptr 2 0))),(10,.v (.one (.p (.int .i64 nv)))),(11,.v (.one (.p (.int .i64 sz))))],[.obj 169 [.ptr 1 0,.p (.str m),.p (.str t),.p (.int .i64 mi),.p (.list .fld f),.p (.int .i64 le)],.pack [.obj 78 [.ptr 1 0,.ptr 2 0],.pack [.obj 106 [.row 1,.p (.int .i64 n)],.row .upl 82 l],.pack [.obj 108 [.row 1,.p (.int .i64 s)],.row .byte 5 b]],.pack [.obj 82 [.p (.int .i64 ui),.p (.int .i64 uz),.p (.str uo),.p (.list .byte ub),.p (.int .i64 us)]]],131,none⟩ (by kernel_rfl) (key17 nv sz hnv hr))
   |with_reducible rfl
   |with_reducible assumption
   |omega
   |exact hs
   |exact hf.1
   |(exact(hf.2 _ ‹_›).1)
   |(exact(hf.2 _ ‹_›).2)
   |exact⟨hf,by decide⟩
   |exact⟨⟨hf,by decide⟩,by assumption⟩
   |(simp only [jh,ji];omega)
   |(exfalso;simp_all;done)
 have key5: ∀ (_u:Unit),(if Xp f ZY=false then(⟨400,[],⟨l,n,b,s⟩⟩:TA)
  else if yc f ZY<0 then(⟨400,[],⟨l,n,b,s⟩⟩:TA)
  else if yc f ZY≠(ub.length:Int) then(⟨409,[],⟨l,n,b,s⟩⟩:TA)
  else(if Xp f y8=false then(⟨400,[],⟨l,n,b,s⟩⟩:TA)
  else if 0≤yc f y8∧0≤uz∧yc f y8≠uz then(⟨400,[],⟨l,n,b,s⟩⟩:TA)
  else if 0≤yc f y8∧uz<0∧(2000<yc f y8∨yc f y8<(yc f ZY)+(body.length:Int)) then(⟨413,[],⟨l,n,b,s⟩⟩:TA)
  else if zaE b ((body.length:Int)+60)=false then(⟨507,[],⟨l,n,b,s⟩⟩:TA)
  else(if(if apG l ui (yc f ZY) then 17 else wrtC l n b (apE ui body))≠0 then(⟨Wu (if apG l ui (yc f ZY) then 17 else wrtC l n b (apE ui body)),[],⟨l,n,b,s⟩⟩:TA)
  else if 0≤(yc f y8)∧uz<0 then
   if wrtC (wrtL l n b (apE ui body)) (wrtN l n b (apE ui body)) (wrtB l n b (apE ui body)) ⟨3,ui,(yc f y8),[]⟩≠0 then(⟨Wu (wrtC (wrtL l n b (apE ui body)) (wrtN l n b (apE ui body)) (wrtB l n b (apE ui body)) ⟨3,ui,(yc f y8),[]⟩),[],⟨wrtL l n b (apE ui body),wrtN l n b (apE ui body),wrtB l n b (apE ui body),s⟩⟩:TA)
   else(⟨204,[⟨zaa,decS ((yc f ZY)+(body.length:Int))⟩],⟨wrtL (wrtL l n b (apE ui body)) (wrtN l n b (apE ui body)) (wrtB l n b (apE ui body)) ⟨3,ui,(yc f y8),[]⟩,wrtN (wrtL l n b (apE ui body)) (wrtN l n b (apE ui body)) (wrtB l n b (apE ui body)) ⟨3,ui,(yc f y8),[]⟩,wrtB (wrtL l n b (apE ui body)) (wrtN l n b (apE ui body)) (wrtB l n b (apE ui body)) ⟨3,ui,(yc f y8),[]⟩,((wrtB (wrtL l n b (apE ui body)) (wrtN l n b (apE ui body)) (wrtB l n b (apE ui body)) ⟨3,ui,(yc f y8),[]⟩).length:Int)⟩⟩:TA)
  else(⟨204,[⟨zaa,decS ((yc f ZY)+(body.length:Int))⟩],⟨wrtL l n b (apE ui body),wrtN l n b (apE ui body),wrtB l n b (apE ui body),((wrtB l n b (apE ui body)).length:Int)⟩⟩:TA))))=⟨st,fs,⟨l',n',b',s'⟩⟩→Ok Tryz.prog X (fun o h=>o=AOut.pan (C.ifc 164 true [P.int IntKind.i64 st,P.list U.fld fs,P.list U.byte []])∧h=[HO.obj 169 [C.ptr 1 0,C.p (P.str m),C.p (P.str t),C.p (P.int IntKind.i64 mi),C.p (P.list U.fld f),C.p (P.int IntKind.i64 le)],HO.pack [HO.obj 78 [C.ptr 1 0,C.ptr 2 0],HO.pack [HO.obj 106 [C.row 1,C.p (P.int IntKind.i64 n')],HO.row U.upl 82 l'],HO.pack [HO.obj 108 [C.row 1,C.p (P.int IntKind.i64 s')],HO.row U.byte 5 b']]]) (go I tab { cfgT with seam:=[5,10,17],keep:=some [0,1,2,4,6,8,9,10,11]} [wM,wL,yS,yR,yQ,yP,zK,zJ,yO,yN,zS,zQ,yx,yw,xU,xR,xQ,xP,tC,tu,vk,vg] [⟨vM Tryz.f137,finK I tab { cfgT with seam:=[5,10,17],keep:=some [0,1,2,4,6,8,9,10,11]} 2 Tryz.f137⟩] 0 [1,1,1,1,0] ⟨[(0,.v (.one (.ptr 0 0))),(1,.v (.agg [.p (.int .i64 ui),.p (.int .i64 uz),.p (.str uo),.p (.list .byte ub),.p (.int .i64 us)])),(2,.v (.one (.p (.list .byte body)))),(4,.v (.one (.ptr 2 0)))],[.obj 169 [.ptr 1 0,.p (.str m),.p (.str t),.p (.int .i64 mi),.p (.list .fld f),.p (.int .i64 le)],.pack [.obj 78 [.ptr 1 0,.ptr 2 0],.pack [.obj 106 [.row 1,.p (.int .i64 n)],.row .upl 82 l],.pack [.obj 108 [.row 1,.p (.int .i64 s)],.row .byte 5 b]],.pack [.obj 82 [.p (.int .i64 ui),.p (.int .i64 uz),.p (.str uo),.p (.list .byte ub),.p (.int .i64 us)]]],131,none⟩):=by
  intro _ hr
  refine orcL ?_;go_invoke;refine orcS (by kernel_rfl) ?_
  simp only [zi,Nat.reduceAdd];clear hcm hol hs2 hnn hbb key17;subst hI;unfold ZY at *;simp only [nrmA,nrmB,nrlB,reduceCtorEq,HO.pack.injEq,HO.obj.injEq];generalize yc f [117,112,108,111,97,100,45,111,102,102,115,101,116]=nv at *
  by_cases hd5:Xp f [117,112,108,111,97,100,45,111,102,102,115,101,116]=false
  · rw [if_pos hd5] at hr
    simp only [TA.mk.injEq,Sto.mk.injEq] at hr;obtain⟨q1,q2,q3,q4,q5,q6⟩:=hr;subst q1 q2 q3 q4 q5 q6;simp only [nrmA,nrmB,nrlB,reduceCtorEq,HO.pack.injEq,HO.obj.injEq,decide_true,decide_false,je,jd,forall_const,false_implies,true_implies,jf,jg,hd5]
    (repeat' (first|refine ja ?_ ?_|intro _))<;>first|omega|exact jb|exact jc ‹False›|skip
    all_goals first
     |with_reducible rfl
     |with_reducible assumption
     |omega
     |exact hs
     |exact hf.1
     |(exact(hf.2 _ ‹_›).1)
     |(exact(hf.2 _ ‹_›).2)
     |exact⟨hf,by decide⟩
     |exact⟨⟨hf,by decide⟩,by assumption⟩
     |(simp only [jh,ji];omega)
     |(exfalso;simp_all;done)
  rw [if_neg hd5] at hr
  try simp only [Bool.not_eq_false] at hd5
  simp only [nrmA,nrmB,nrlB,reduceCtorEq,HO.pack.injEq,HO.obj.injEq,decide_true,decide_false,je,jd,forall_const,false_implies,true_implies,jf,jg,hd5]
  by_cases hd6:nv<0
  · rw [if_pos hd6] at hr
    simp only [TA.mk.injEq,Sto.mk.injEq] at hr;obtain⟨q1,q2,q3,q4,q5,q6⟩:=hr;subst q1 q2 q3 q4 q5 q6
    (repeat' (first|refine ja ?_ ?_|intro _))<;>first|omega|exact jb|exact jc ‹False›|skip
    all_goals first
     |with_reducible rfl
     |with_reducible assumption
     |omega
     |exact hs
     |exact hf.1
     |(exact(hf.2 _ ‹_›).1)
     |(exact(hf.2 _ ‹_›).2)
     |exact⟨hf,by decide⟩
     |exact⟨⟨hf,by decide⟩,by assumption⟩
     |(simp only [jh,ji];omega)
     |(exfalso;simp_all;done)
  rw [if_neg hd6] at hr
  by_cases hd7:nv≠(ub.length:Int)
  · rw [if_pos hd7] at hr
    simp only [TA.mk.injEq,Sto.mk.injEq] at hr;obtain⟨q1,q2,q3,q4,q5,q6⟩:=hr;subst q1 q2 q3 q4 q5 q6
    (repeat' (first|refine ja ?_ ?_|intro _))<;>first|omega|exact jb|exact jc ‹False›|skip
    all_goals first
     |with_reducible rfl
     |with_reducible assumption
     |omega
     |exact hs
     |exact hf.1
     |(exact(hf.2 _ ‹_›).1)
     |(exact(hf.2 _ ‹_›).2)
     |exact⟨hf,by decide⟩
     |exact⟨⟨hf,by decide⟩,by assumption⟩
     |(simp only [jh,ji];omega)
     |(exfalso;simp_all;done)
  rw [if_neg hd7] at hr
  (repeat' (first|refine ja ?_ ?_|intro _))<;>first|omega|exact jb|exact jc ‹False›|skip
  all_goals first
   |(with_reducible show Ok _ _ _ _;(try(exfalso;omega));exact seam rfl uq mixed [wM,wL,yS,yR,yQ,yP,zK,zJ,yO,yN,zS,zQ,yx,yw,xU,xR,xQ,xP,tC,tu,vk,vg] hX [0,1,2,4,10] ⟨[(0,.v (.one (.ptr 0 0))),(1,.v (.agg [.p (.int .i64 ui),.p (.int .i64 uz),.p (.str uo),.p (.list .byte ub),.p (.int .i64 us)])),(2,.v (.one (.p (.list .byte body)))),(4,.v (.one (.ptr 2 0))),(10,.v (.one (.p (.int .i64 nv))))],[.obj 169 [.ptr 1 0,.p (.str m),.p (.str t),.p (.int .i64 mi),.p (.list .fld f),.p (.int .i64 le)],.pack [.obj 78 [.ptr 1 0,.ptr 2 0],.pack [.obj 106 [.row 1,.p (.int .i64 n)],.row .upl 82 l],.pack [.obj 108 [.row 1,.p (.int .i64 s)],.row .byte 5 b]],.pack [.obj 82 [.p (.int .i64 ui),.p (.int .i64 uz),.p (.str uo),.p (.list .byte ub),.p (.int .i64 us)]]],131,none⟩ (by kernel_rfl) (key10 nv (by omega) hr))
   |with_reducible rfl
   |with_reducible assumption
   |omega
   |exact hs
   |exact hf.1
   |(exact(hf.2 _ ‹_›).1)
   |(exact(hf.2 _ ‹_›).2)
   |exact⟨hf,by decide⟩
   |exact⟨⟨hf,by decide⟩,by assumption⟩
   |(simp only [jh,ji];omega)
   |(exfalso;simp_all;done)
 clear hs2 hnn hbb key17 key10;subst hI;rw [show([99,111,110,116,101,110,116,45,116,121,112,101]:Str)=ZB from rfl];rw [show([97,112,112,108,105,99,97,116,105,111,110,47,111,102,102,115,101,116,43,111,99,116,101,116,45,115,116,114,101,97,109]:Str)=octS from rfl];simp only [nrmA,nrmB,nrlB,reduceCtorEq,HO.pack.injEq,HO.obj.injEq]
 have hcl:ZB.length≤1000000:=by decide
 generalize oneT f ZB=oc at *;obtain⟨ov,oc⟩:=oc
 try simp only at *
 generalize xI ov=pm at *;obtain⟨⟨pw,pp⟩,pc⟩:=pm
 try simp only at *
 by_cases hd8:oc=9
 · rw [if_pos hd8] at hr
   simp only [TA.mk.injEq,Sto.mk.injEq] at hr;obtain⟨q1,q2,q3,q4,q5,q6⟩:=hr;subst q1 q2 q3 q4 q5 q6;simp only [nrmA,nrmB,nrlB,reduceCtorEq,HO.pack.injEq,HO.obj.injEq,decide_true,decide_false,je,jd,forall_const,false_implies,true_implies,jf,jg,hd8]
   (repeat' (first|refine ja ?_ ?_|intro _))<;>first|omega|exact jb|exact jc ‹False›|skip
   all_goals first
    |with_reducible rfl
    |with_reducible assumption
    |omega
    |exact hs
    |exact hf.1
    |(exact(hf.2 _ ‹_›).1)
    |(exact(hf.2 _ ‹_›).2)
    |exact⟨hf,by decide⟩
    |exact⟨⟨hf,by decide⟩,by assumption⟩
    |(simp only [jh,ji];omega)
    |(exfalso;simp_all;done)
 rw [if_neg hd8] at hr
 try simp only [Bool.not_eq_false] at hd8
 simp only [nrmA,nrmB,nrlB,reduceCtorEq,HO.pack.injEq,HO.obj.injEq,decide_true,decide_false,je,jd,forall_const,false_implies,true_implies,jf,jg,hd8]
 by_cases hd9:pc≠0∨pw≠octS
 · rw [if_pos hd9] at hr
   simp only [TA.mk.injEq,Sto.mk.injEq] at hr;obtain⟨q1,q2,q3,q4,q5,q6⟩:=hr;subst q1 q2 q3 q4 q5 q6
   (repeat' (first|refine ja ?_ ?_|intro _))<;>first|omega|exact jb|exact jc ‹False›|skip
   all_goals first
    |with_reducible rfl
    |with_reducible assumption
    |omega
    |exact hs
    |exact hf.1
    |(exact(hf.2 _ ‹_›).1)
    |(exact(hf.2 _ ‹_›).2)
    |exact⟨hf,by decide⟩
    |exact⟨⟨hf,by decide⟩,by assumption⟩
    |(simp only [jh,ji];omega)
    |(exfalso;simp_all;done)
 rw [if_neg hd9] at hr;simp only [not_or,ne_eq,Decidable.not_not] at hd9;obtain⟨g1,g2⟩:=hd9;clear hcm;subst g1 g2;simp only [nrmA,nrmB,nrlB,reduceCtorEq,HO.pack.injEq,HO.obj.injEq,jf,false_implies,true_and,and_true]
 (repeat' (first|refine ja ?_ ?_|intro _))<;>first|omega|exact jb|exact jc ‹False›|skip
 all_goals first
  |(with_reducible show Ok _ _ _ _;(try(exfalso;omega));exact seam rfl uq mixed [wM,wL,yS,yR,yQ,yP,zK,zJ,yO,yN,zS,zQ,yx,yw,xU,xR,xQ,xP,tC,tu,vk,vg] hX [0,1,2,4] ⟨[(0,.v (.one (.ptr 0 0))),(1,.v (.agg [.p (.int .i64 ui),.p (.int .i64 uz),.p (.str uo),.p (.list .byte ub),.p (.int .i64 us)])),(2,.v (.one (.p (.list .byte body)))),(4,.v (.one (.ptr 2 0)))],[.obj 169 [.ptr 1 0,.p (.str m),.p (.str t),.p (.int .i64 mi),.p (.list .fld f),.p (.int .i64 le)],.pack [.obj 78 [.ptr 1 0,.ptr 2 0],.pack [.obj 106 [.row 1,.p (.int .i64 n)],.row .upl 82 l],.pack [.obj 108 [.row 1,.p (.int .i64 s)],.row .byte 5 b]],.pack [.obj 82 [.p (.int .i64 ui),.p (.int .i64 uz),.p (.str uo),.p (.list .byte ub),.p (.int .i64 us)]]],131,none⟩ (by kernel_rfl) (key5 () hr))
  |with_reducible rfl
  |with_reducible assumption
  |omega
  |exact hs
  |exact hf.1
  |(exact(hf.2 _ ‹_›).1)
  |(exact(hf.2 _ ‹_›).2)
  |exact⟨hf,by decide⟩
  |exact⟨⟨hf,by decide⟩,by assumption⟩
  |(simp only [jh,ji];omega)
  |(exfalso;simp_all;done)
  |skip
 exact seam rfl uq mixed [wM,wL,yS,yR,yQ,yP,zK,zJ,yO,yN,zS,zQ,yx,yw,xU,xR,xQ,xP,tC,tu,vk,vg] hX [0,1,2,4] ⟨[(0,.v (.one (.ptr 0 0))),(1,.v (.agg [.p (.int .i64 ui),.p (.int .i64 uz),.p (.str uo),.p (.list .byte ub),.p (.int .i64 us)])),(2,.v (.one (.p (.list .byte body)))),(4,.v (.one (.ptr 2 0)))],[.obj 169 [.ptr 1 0,.p (.str m),.p (.str t),.p (.int .i64 mi),.p (.list .fld f),.p (.int .i64 le)],.pack [.obj 78 [.ptr 1 0,.ptr 2 0],.pack [.obj 106 [.row 1,.p (.int .i64 n)],.row .upl 82 l],.pack [.obj 108 [.row 1,.p (.int .i64 s)],.row .byte 5 b]],.pack [.obj 82 [.p (.int .i64 ui),.p (.int .i64 uz),.p (.str uo),.p (.list .byte ub),.p (.int .i64 us)]]],131,none⟩ (by kernel_rfl) (key5 () hr)
def Z5:Know Tryz.prog:=⟨137,Wh,zfd⟩
def Z4:Know Tryz.prog:=⟨137,fun I=>zx I (Wh I),zf zfd⟩
end Go.Proofs.YtnpmenpjagcheaaGreatDoor
namespace Go.Proofs.YtnpmenpjagcheaaGreatDoor
open Go Go.Sep Go.Ab
set_option maxRecDepth 100000
theorem zmE {l:List Upl} {n:Int} (h:zI l n) (id:Int):(getU l id).bytes.length≤2000∧(getU l id).size≤2000:=by
 unfold getU
 split
 · rename_i hi
   rw [wI hi];have:=h.each _ (List.getElem_mem hi);exact⟨this.bl,this.s2⟩
 · decide
def X9 (I:Alg):KU
 |[.v (.one (.ptr 0 0)),.v (.one (.p (.list .byte body)))],[.obj 169 [.ptr 1 0,.p (.str m),.p (.str t),.p (.int .i64 mi),.p (.list .fld f),.p (.int .i64 le)],.pack [.obj 78 [.ptr 1 0,.ptr 2 0],.pack [.obj 106 [.row 1,.p (.int .i64 n)],.row .upl 82 l],.pack [.obj 108 [.row 1,.p (.int .i64 s)],.row .byte 5 b]]]=>(fun(m t:Str) (f:List Fld) (l:List Upl) (b body:Str)=>(some (.one ⟨I.hid (FOk f∧zI l n∧n≤200000∧b.length≤100000∧body.length≤100000),(.pan (.ifc 164 true [.int .i64 (I.hid ((yU ⟨l,n,b,s⟩ m t f body).st)),.list .fld (I.hid ((yU ⟨l,n,b,s⟩ m t f body).fs)),.list .byte (I.hid ([]))])),[.obj 169 [.ptr 1 0,.p (.str m),.p (.str t),.p (.int .i64 mi),.p (.list .fld f),.p (.int .i64 le)],.pack [.obj 78 [.ptr 1 0,.ptr 2 0],.pack [.obj 106 [.row 1,.p (.int .i64 (I.hid ((yU ⟨l,n,b,s⟩ m t f body).q.n)))],.row .upl 82 (I.hid ((yU ⟨l,n,b,s⟩ m t f body).q.l))],.pack [.obj 108 [.row 1,.p (.int .i64 (I.hid ((yU ⟨l,n,b,s⟩ m t f body).q.s)))],.row .byte 5 (I.hid ((yU ⟨l,n,b,s⟩ m t f body).q.b))]]]⟩):Option CT)) m t f l b body
 |_,_=>none
set_option maxHeartbeats 8000000 in
theorem zfc:zu Tryz.prog 101 (X9 alg):=by
 intro args hp r h;unfold X9 at h;split at h<;>cases h
 rename_i body m t mi f le n l s b
 revert f l;intro(f:List Fld) (l:List Upl)
 simp only [CT.Good,zh];intro hneed;obtain⟨hf,hs,hn,hb,hbl⟩:=hneed;have hn0:=hs.n0;have hus:=zmE hs (idV t);generalize hr:yU ⟨l,n,b,s⟩ m t f body=r;obtain⟨st,fs,⟨l',n',b',s'⟩⟩:=r;unfold yU at hr
 try simp only at hr
 refine spH Tryz.func101 (by kernel_rfl) { cfgT with seam:=[3,10],keep:=some [0,1,4,5,7,55]} [xN,xM,zK,zJ,zS,zQ,yx,yw,xU,xR,xQ,xP,vk,vg,qP,qO,zai,zah,X8,X7,Z5,Z4] (by kernel_rfl) ?_
 intro I X hI hX
 refine orcL ?_;go_invoke;refine orcS (by kernel_rfl) ?_
 simp only [zi,Nat.reduceAdd]
 have key10: ∀ (_u:Unit),(if uplB ⟨l,n,b,s⟩ t=false then(⟨404,[],⟨l,n,b,s⟩⟩:TA)
  else if m=zs7 then(⟨200,zbC (getU l (idV t)),⟨l,n,b,s⟩⟩:TA)
  else if m=zaJ then uD ⟨l,n,b,s⟩ (getU l (idV t)) f body
  else if m=ztH then zbK ⟨l,n,b,s⟩ (getU l (idV t))
  else(⟨405,[],⟨l,n,b,s⟩⟩:TA))=⟨st,fs,⟨l',n',b',s'⟩⟩→Ok Tryz.prog X (fun o h=>o=AOut.pan (C.ifc 164 true [P.int IntKind.i64 st,P.list U.fld fs,P.list U.byte []])∧h=[HO.obj 169 [C.ptr 1 0,C.p (P.str m),C.p (P.str t),C.p (P.int IntKind.i64 mi),C.p (P.list U.fld f),C.p (P.int IntKind.i64 le)],HO.pack [HO.obj 78 [C.ptr 1 0,C.ptr 2 0],HO.pack [HO.obj 106 [C.row 1,C.p (P.int IntKind.i64 n')],HO.row U.upl 82 l'],HO.pack [HO.obj 108 [C.row 1,C.p (P.int IntKind.i64 s')],HO.row U.byte 5 b']]]) (go I tab { cfgT with seam:=[3,10],keep:=some [0,1,4,5,7,55]} [xN,xM,zK,zJ,zS,zQ,yx,yw,xU,xR,xQ,xP,vk,vg,qP,qO,zai,zah,X8,X7,Z5,Z4] [⟨vM Tryz.f101,finK I tab { cfgT with seam:=[3,10],keep:=some [0,1,4,5,7,55]} 2 Tryz.f101⟩] 0 [1,1,1,1,0] ⟨[(0,.v (.one (.ptr 0 0))),(1,.v (.one (.p (.list .byte body))))],[.obj 169 [.ptr 1 0,.p (.str m),.p (.str t),.p (.int .i64 mi),.p (.list .fld f),.p (.int .i64 le)],.pack [.obj 78 [.ptr 1 0,.ptr 2 0],.pack [.obj 106 [.row 1,.p (.int .i64 n)],.row .upl 82 l],.pack [.obj 108 [.row 1,.p (.int .i64 s)],.row .byte 5 b]]],84,none⟩):=by
  intro _ hr
  refine orcL ?_;go_invoke;refine orcS (by kernel_rfl) ?_
  simp only [zi,Nat.reduceAdd];subst hI;unfold zs7 zaJ ztH at hr;unfold zbK wsC wsS syS at hr
  try simp only at hr
  simp only [nrmA,nrmB,nrlB,reduceCtorEq,HO.pack.injEq,HO.obj.injEq];generalize getU l (idV t)=u at *;obtain⟨ui,uz,uo,ub,us⟩:=u
  try simp only at *
  by_cases hd1:uplB ⟨l,n,b,s⟩ t=false
  · rw [if_pos hd1] at hr
    simp only [TA.mk.injEq,Sto.mk.injEq] at hr;obtain⟨q1,q2,q3,q4,q5,q6⟩:=hr;subst q1 q2 q3 q4 q5 q6
    try simp only [nrmA,nrmB,nrlB,reduceCtorEq,HO.pack.injEq,HO.obj.injEq,decide_true,decide_false,je,jd,forall_const,false_implies,true_implies,jf,jg,hd1]
    (repeat' (first|refine ja ?_ ?_|intro _))<;>first|omega|exact jb|exact jc ‹False›|skip
    all_goals first
     |with_reducible rfl
     |with_reducible assumption
     |omega
     |exact hs
     |exact hf.1
     |(exact(hf.2 _ ‹_›).1)
     |(exact(hf.2 _ ‹_›).2)
     |exact⟨hf,by decide⟩
     |exact⟨⟨hf,by decide⟩,by assumption⟩
     |(simp only [jh,ji];omega)
     |(exfalso;simp_all;done)
  rw [if_neg hd1] at hr
  try simp only [Bool.not_eq_false,ne_eq,Decidable.not_not] at hd1
  try simp only [nrmA,nrmB,nrlB,reduceCtorEq,HO.pack.injEq,HO.obj.injEq,decide_true,decide_false,je,jd,forall_const,false_implies,true_implies,jf,jg,hd1]
  by_cases hd2:m=[72,69,65,68]
  · rw [if_pos hd2] at hr
    simp only [TA.mk.injEq,Sto.mk.injEq] at hr;obtain⟨q1,q2,q3,q4,q5,q6⟩:=hr;subst q1 q2 q3 q4 q5 q6
    try simp only [nrmA,nrmB,nrlB,reduceCtorEq,HO.pack.injEq,HO.obj.injEq,decide_true,decide_false,je,jd,forall_const,false_implies,true_implies,jf,jg,hd2]
    (repeat' (first|refine ja ?_ ?_|intro _))<;>first|omega|exact jb|exact jc ‹False›|skip
    all_goals first
     |with_reducible rfl
     |with_reducible assumption
     |omega
     |exact hs
     |exact hf.1
     |(exact(hf.2 _ ‹_›).1)
     |(exact(hf.2 _ ‹_›).2)
     |exact⟨hf,by decide⟩
     |exact⟨⟨hf,by decide⟩,by assumption⟩
     |(simp only [jh,ji];omega)
     |(exfalso;simp_all;done)
  rw [if_neg hd2] at hr
  try simp only [Bool.not_eq_false,ne_eq,Decidable.not_not] at hd2
  try simp only [nrmA,nrmB,nrlB,reduceCtorEq,HO.pack.injEq,HO.obj.injEq,decide_true,decide_false,je,jd,forall_const,false_implies,true_implies,jf,jg,hd2]
  by_cases hd3:m=[80,65,84,67,72]
  · rw [if_pos hd3] at hr
    simp only [nrmA,nrmB,nrlB,reduceCtorEq,HO.pack.injEq,HO.obj.injEq,decide_true,decide_false,je,jd,forall_const,false_implies,true_implies,jf,jg,hd3,hr]
    (repeat' (first|refine ja ?_ ?_|intro _))<;>first|omega|exact jb|exact jc ‹False›|skip
    all_goals first
     |with_reducible rfl
     |with_reducible assumption
     |omega
     |exact hs
     |exact hf.1
     |(exact(hf.2 _ ‹_›).1)
     |(exact(hf.2 _ ‹_›).2)
     |exact⟨hf,by decide⟩
     |exact⟨⟨hf,by decide⟩,by assumption⟩
     |(simp only [jh,ji];omega)
     |(exfalso;simp_all;done)
  rw [if_neg hd3] at hr
  try simp only [Bool.not_eq_false,ne_eq,Decidable.not_not] at hd3
  try simp only [nrmA,nrmB,nrlB,reduceCtorEq,HO.pack.injEq,HO.obj.injEq,decide_true,decide_false,je,jd,forall_const,false_implies,true_implies,jf,jg,hd3]
  by_cases hd:m=[68,69,76,69,84,69]
  · rw [if_pos hd] at hr
    by_cases h1:wrtC l n b ⟨4,ui,0,[]⟩=0
    · rw [if_neg (fun h=>h h1)] at hr
      simp only [TA.mk.injEq,Sto.mk.injEq] at hr;obtain⟨q1,q2,q3,q4,q5,q6⟩:=hr;subst q1 q2 q3 q4 q5 q6;simp only [nrmA,nrmB,nrlB,reduceCtorEq,HO.pack.injEq,HO.obj.injEq,decide_true,decide_false,je,jd,forall_const,false_implies,true_implies,jf,jg,hd,h1]
      (repeat' (first|refine ja ?_ ?_|intro _))<;>first|omega|exact jb|exact jc ‹False›|skip
      all_goals first
       |with_reducible rfl
       |with_reducible assumption
       |omega
       |exact hs
       |exact hf.1
       |(exact(hf.2 _ ‹_›).1)
       |(exact(hf.2 _ ‹_›).2)
       |exact⟨hf,by decide⟩
       |exact⟨⟨hf,by decide⟩,by assumption⟩
       |(simp only [jh,ji];omega)
       |(exfalso;simp_all;done)
    · rw [if_pos h1] at hr
      simp only [TA.mk.injEq,Sto.mk.injEq] at hr;obtain⟨q1,q2,q3,q4,q5,q6⟩:=hr;subst q1 q2 q3 q4 q5 q6
      have e1:wrtL l n b ⟨4,ui,0,[]⟩=l:=by simp only [wrtL,if_neg h1]
      have e2:wrtN l n b ⟨4,ui,0,[]⟩=n:=by simp only [wrtN,if_neg h1]
      have e3:wrtB l n b ⟨4,ui,0,[]⟩=b:=by simp only [wrtB,if_neg h1]
      try rw [e1,e2,e3]
      simp only [nrmA,nrmB,nrlB,reduceCtorEq,HO.pack.injEq,HO.obj.injEq,decide_true,decide_false,je,jd,forall_const,false_implies,true_implies,jf,jg,hd,h1]
      (repeat' (first|refine ja ?_ ?_|intro _))<;>first|omega|exact jb|exact jc ‹False›|skip
      all_goals first
       |with_reducible rfl
       |with_reducible assumption
       |omega
       |exact hs
       |exact hf.1
       |(exact(hf.2 _ ‹_›).1)
       |(exact(hf.2 _ ‹_›).2)
       |exact⟨hf,by decide⟩
       |exact⟨⟨hf,by decide⟩,by assumption⟩
       |(simp only [jh,ji];omega)
       |(exfalso;simp_all;done)
  · rw [if_neg hd] at hr
    simp only [TA.mk.injEq,Sto.mk.injEq] at hr;obtain⟨q1,q2,q3,q4,q5,q6⟩:=hr;subst q1 q2 q3 q4 q5 q6;simp only [nrmA,nrmB,nrlB,reduceCtorEq,HO.pack.injEq,HO.obj.injEq,decide_true,decide_false,je,jd,forall_const,false_implies,true_implies,jf,jg,hd]
    (repeat' (first|refine ja ?_ ?_|intro _))<;>first|omega|exact jb|exact jc ‹False›|skip
    all_goals first
     |with_reducible rfl
     |with_reducible assumption
     |omega
     |exact hs
     |exact hf.1
     |(exact(hf.2 _ ‹_›).1)
     |(exact(hf.2 _ ‹_›).2)
     |exact⟨hf,by decide⟩
     |exact⟨⟨hf,by decide⟩,by assumption⟩
     |(simp only [jh,ji];omega)
     |(exfalso;simp_all;done)
 have key3: ∀ (q:Bool),q=decide (t=rC)→(if(oneT f zhG).2=9 then(⟨400,[],⟨l,n,b,s⟩⟩:TA)
  else if(oneT f zhG).1≠verS then(⟨412,[⟨zno,verS⟩],⟨l,n,b,s⟩⟩:TA)
  else if t=rC then(if m≠zbG then(⟨405,[],⟨l,n,b,s⟩⟩:TA) else wK ⟨l,n,b,s⟩ f)
  else(if uplB ⟨l,n,b,s⟩ t=false then(⟨404,[],⟨l,n,b,s⟩⟩:TA)
  else if m=zs7 then(⟨200,zbC (getU l (idV t)),⟨l,n,b,s⟩⟩:TA)
  else if m=zaJ then uD ⟨l,n,b,s⟩ (getU l (idV t)) f body
  else if m=ztH then zbK ⟨l,n,b,s⟩ (getU l (idV t))
  else(⟨405,[],⟨l,n,b,s⟩⟩:TA)))=⟨st,fs,⟨l',n',b',s'⟩⟩→Ok Tryz.prog X (fun o h=>o=AOut.pan (C.ifc 164 true [P.int IntKind.i64 st,P.list U.fld fs,P.list U.byte []])∧h=[HO.obj 169 [C.ptr 1 0,C.p (P.str m),C.p (P.str t),C.p (P.int IntKind.i64 mi),C.p (P.list U.fld f),C.p (P.int IntKind.i64 le)],HO.pack [HO.obj 78 [C.ptr 1 0,C.ptr 2 0],HO.pack [HO.obj 106 [C.row 1,C.p (P.int IntKind.i64 n')],HO.row U.upl 82 l'],HO.pack [HO.obj 108 [C.row 1,C.p (P.int IntKind.i64 s')],HO.row U.byte 5 b']]]) (go I tab { cfgT with seam:=[3,10],keep:=some [0,1,4,5,7,55]} [xN,xM,zK,zJ,zS,zQ,yx,yw,xU,xR,xQ,xP,vk,vg,qP,qO,zai,zah,X8,X7,Z5,Z4] [⟨vM Tryz.f101,finK I tab { cfgT with seam:=[3,10],keep:=some [0,1,4,5,7,55]} 2 Tryz.f101⟩] 0 [1,1,0,0] ⟨[(0,.v (.one (.ptr 0 0))),(1,.v (.one (.p (.list .byte body)))),(4,.v (.one (.p (.bool q))))],[.obj 169 [.ptr 1 0,.p (.str m),.p (.str t),.p (.int .i64 mi),.p (.list .fld f),.p (.int .i64 le)],.pack [.obj 78 [.ptr 1 0,.ptr 2 0],.pack [.obj 106 [.row 1,.p (.int .i64 n)],.row .upl 82 l],.pack [.obj 108 [.row 1,.p (.int .i64 s)],.row .byte 5 b]]],84,none⟩):=by
  intro q hq hr
  refine orcL ?_;go_invoke;refine orcS (by kernel_rfl) ?_
  simp only [zi,Nat.reduceAdd];subst hI;rw [show([116,117,115,45,114,101,115,117,109,97,98,108,101]:Str)=zhG from rfl];unfold verS zbG at hr;unfold zno at hr
  have htl:zhG.length≤1000000:=by decide
  simp only [nrmA,nrmB,nrlB,reduceCtorEq,HO.pack.injEq,HO.obj.injEq];generalize oneT f zhG=oc at *;obtain⟨ov,oc⟩:=oc
  try simp only at *
  by_cases hd4:oc=9
  · rw [if_pos hd4] at hr
    simp only [TA.mk.injEq,Sto.mk.injEq] at hr;obtain⟨q1,q2,q3,q4,q5,q6⟩:=hr;subst q1 q2 q3 q4 q5 q6
    try simp only [nrmA,nrmB,nrlB,reduceCtorEq,HO.pack.injEq,HO.obj.injEq,decide_true,decide_false,je,jd,forall_const,false_implies,true_implies,jf,jg,hd4]
    (repeat' (first|refine ja ?_ ?_|intro _))<;>first|omega|exact jb|exact jc ‹False›|skip
    all_goals first
     |with_reducible rfl
     |with_reducible assumption
     |omega
     |exact hs
     |exact hf.1
     |(exact(hf.2 _ ‹_›).1)
     |(exact(hf.2 _ ‹_›).2)
     |exact⟨hf,by decide⟩
     |exact⟨⟨hf,by decide⟩,by assumption⟩
     |(simp only [jh,ji];omega)
     |(exfalso;simp_all;done)
  rw [if_neg hd4] at hr
  try simp only [Bool.not_eq_false,ne_eq,Decidable.not_not] at hd4
  try simp only [nrmA,nrmB,nrlB,reduceCtorEq,HO.pack.injEq,HO.obj.injEq,decide_true,decide_false,je,jd,forall_const,false_implies,true_implies,jf,jg,hd4]
  by_cases hd5:ov≠[49,46,48,46,48]
  · rw [if_pos hd5] at hr
    simp only [TA.mk.injEq,Sto.mk.injEq] at hr;obtain⟨q1,q2,q3,q4,q5,q6⟩:=hr;subst q1 q2 q3 q4 q5 q6
    try simp only [nrmA,nrmB,nrlB,reduceCtorEq,HO.pack.injEq,HO.obj.injEq,decide_true,decide_false,je,jd,forall_const,false_implies,true_implies,jf,jg,hd5]
    (repeat' (first|refine ja ?_ ?_|intro _))<;>first|omega|exact jb|exact jc ‹False›|skip
    all_goals first
     |with_reducible rfl
     |with_reducible assumption
     |omega
     |exact hs
     |exact hf.1
     |(exact(hf.2 _ ‹_›).1)
     |(exact(hf.2 _ ‹_›).2)
     |exact⟨hf,by decide⟩
     |exact⟨⟨hf,by decide⟩,by assumption⟩
     |(simp only [jh,ji];omega)
     |(exfalso;simp_all;done)
  rw [if_neg hd5] at hr
  try simp only [Bool.not_eq_false,ne_eq,Decidable.not_not] at hd5
  try simp only [nrmA,nrmB,nrlB,reduceCtorEq,HO.pack.injEq,HO.obj.injEq,decide_true,decide_false,je,jd,forall_const,false_implies,true_implies,jf,jg,hd5]
  by_cases hff:t=rC
  · rw [if_pos hff] at hr
    rw [decide_eq_true hff] at hq;subst hq;simp only [nrmA,nrmB,nrlB,reduceCtorEq,HO.pack.injEq,HO.obj.injEq,decide_true,decide_false,je,jd,forall_const,false_implies,true_implies,jf,jg]
    by_cases hd6:m≠[80,79,83,84]
    · rw [if_pos hd6] at hr
      simp only [TA.mk.injEq,Sto.mk.injEq] at hr;obtain⟨q1,q2,q3,q4,q5,q6⟩:=hr;subst q1 q2 q3 q4 q5 q6
      try simp only [nrmA,nrmB,nrlB,reduceCtorEq,HO.pack.injEq,HO.obj.injEq,decide_true,decide_false,je,jd,forall_const,false_implies,true_implies,jf,jg,hd6]
      (repeat' (first|refine ja ?_ ?_|intro _))<;>first|omega|exact jb|exact jc ‹False›|skip
      all_goals first
       |with_reducible rfl
       |with_reducible assumption
       |omega
       |exact hs
       |exact hf.1
       |(exact(hf.2 _ ‹_›).1)
       |(exact(hf.2 _ ‹_›).2)
       |exact⟨hf,by decide⟩
       |exact⟨⟨hf,by decide⟩,by assumption⟩
       |(simp only [jh,ji];omega)
       |(exfalso;simp_all;done)
    rw [if_neg hd6] at hr
    try simp only [Bool.not_eq_false,ne_eq,Decidable.not_not] at hd6
    try simp only [nrmA,nrmB,nrlB,reduceCtorEq,HO.pack.injEq,HO.obj.injEq,decide_true,decide_false,je,jd,forall_const,false_implies,true_implies,jf,jg,hd6]
    simp only [nrmA,nrmB,nrlB,reduceCtorEq,HO.pack.injEq,HO.obj.injEq,decide_true,decide_false,je,jd,forall_const,false_implies,true_implies,jf,jg,hr]
    (repeat' (first|refine ja ?_ ?_|intro _))<;>first|omega|exact jb|exact jc ‹False›|skip
    all_goals first
     |with_reducible rfl
     |with_reducible assumption
     |omega
     |exact hs
     |exact hf.1
     |(exact(hf.2 _ ‹_›).1)
     |(exact(hf.2 _ ‹_›).2)
     |exact⟨hf,by decide⟩
     |exact⟨⟨hf,by decide⟩,by assumption⟩
     |(simp only [jh,ji];omega)
     |(exfalso;simp_all;done)
  · rw [if_neg hff] at hr
    rw [decide_eq_false hff] at hq;subst hq;simp only [nrmA,nrmB,nrlB,reduceCtorEq,HO.pack.injEq,HO.obj.injEq,decide_true,decide_false,je,jd,forall_const,false_implies,true_implies,jf,jg]
    (repeat' (first|refine ja ?_ ?_|intro _))<;>first|omega|exact jb|exact jc ‹False›|skip
    all_goals first
     |((with_reducible show Ok _ _ _ _);(try(exfalso;omega));exact seam rfl uq mixed [xN,xM,zK,zJ,zS,zQ,yx,yw,xU,xR,xQ,xP,vk,vg,qP,qO,zai,zah,X8,X7,Z5,Z4] hX [0,1] ⟨[(0,.v (.one (.ptr 0 0))),(1,.v (.one (.p (.list .byte body))))],[.obj 169 [.ptr 1 0,.p (.str m),.p (.str t),.p (.int .i64 mi),.p (.list .fld f),.p (.int .i64 le)],.pack [.obj 78 [.ptr 1 0,.ptr 2 0],.pack [.obj 106 [.row 1,.p (.int .i64 n)],.row .upl 82 l],.pack [.obj 108 [.row 1,.p (.int .i64 s)],.row .byte 5 b]]],84,none⟩ (by kernel_rfl) (key10 () hr))
     |with_reducible rfl
     |with_reducible assumption
     |omega
     |exact hs
     |exact hf.1
     |(exact(hf.2 _ ‹_›).1)
     |(exact(hf.2 _ ‹_›).2)
     |exact⟨hf,by decide⟩
     |exact⟨⟨hf,by decide⟩,by assumption⟩
     |(simp only [jh,ji];omega)
     |(exfalso;simp_all;done)
 clear key10;subst hI;unfold zxz zno verS zwQ zwS zwR at hr;rw [show([47,102,105,108,101,115]:Str)=rC from rfl];simp only [nrmA,nrmB,nrlB,reduceCtorEq,HO.pack.injEq,HO.obj.injEq]
 by_cases hd7:t=rC∧m=[79,80,84,73,79,78,83]
 · rw [if_pos hd7] at hr
   simp only [TA.mk.injEq,Sto.mk.injEq] at hr;obtain⟨q1,q2,q3,q4,q5,q6⟩:=hr;subst q1 q2 q3 q4 q5 q6
   try simp only [nrmA,nrmB,nrlB,reduceCtorEq,HO.pack.injEq,HO.obj.injEq,decide_true,decide_false,je,jd,forall_const,false_implies,true_implies,jf,jg,hd7]
   (repeat' (first|refine ja ?_ ?_|intro _))<;>first|omega|exact jb|exact jc ‹False›|skip
   all_goals first
    |with_reducible rfl
    |with_reducible assumption
    |omega
    |exact hs
    |exact hf.1
    |(exact(hf.2 _ ‹_›).1)
    |(exact(hf.2 _ ‹_›).2)
    |exact⟨hf,by decide⟩
    |exact⟨⟨hf,by decide⟩,by assumption⟩
    |(simp only [jh,ji];omega)
    |(exfalso;simp_all;done)
 rw [if_neg hd7] at hr
 try simp only [Bool.not_eq_false,ne_eq,Decidable.not_not] at hd7
 try simp only [nrmA,nrmB,nrlB,reduceCtorEq,HO.pack.injEq,HO.obj.injEq,decide_true,decide_false,je,jd,forall_const,false_implies,true_implies,jf,jg,hd7]
 have hbeq:(t == rC)=decide (t=rC):=by rw [Bool.eq_iff_iff];simp
 (repeat' (first|refine ja ?_ ?_|intro _))<;>first|omega|exact jb|exact jc ‹False›|skip
 all_goals first
  |((with_reducible show Ok _ _ _ _);(try(exfalso;omega));exact seam rfl uq mixed [xN,xM,zK,zJ,zS,zQ,yx,yw,xU,xR,xQ,xP,vk,vg,qP,qO,zai,zah,X8,X7,Z5,Z4] hX [0,1,4] ⟨[(0,.v (.one (.ptr 0 0))),(1,.v (.one (.p (.list .byte body)))),(4,.v (.one (.p (.bool ((t == rC))))))],[.obj 169 [.ptr 1 0,.p (.str m),.p (.str t),.p (.int .i64 mi),.p (.list .fld f),.p (.int .i64 le)],.pack [.obj 78 [.ptr 1 0,.ptr 2 0],.pack [.obj 106 [.row 1,.p (.int .i64 n)],.row .upl 82 l],.pack [.obj 108 [.row 1,.p (.int .i64 s)],.row .byte 5 b]]],84,none⟩ (by kernel_rfl) (key3 _ hbeq hr))
  |with_reducible rfl
  |with_reducible assumption
  |omega
  |exact hs
  |exact hf.1
  |(exact(hf.2 _ ‹_›).1)
  |(exact(hf.2 _ ‹_›).2)
  |exact⟨hf,by decide⟩
  |exact⟨⟨hf,by decide⟩,by assumption⟩
  |(simp only [jh,ji];omega)
  |(exfalso;simp_all;done)
def zny:Know Tryz.prog:=⟨101,X9,zfc⟩
def znx:Know Tryz.prog:=⟨101,fun I=>zx I (X9 I),zf zfc⟩
end Go.Proofs.YtnpmenpjagcheaaGreatDoor
namespace Go.Proofs.YtnpmenpjagcheaaGreatDoor
open Go Go.Sep Go.Ab
set_option maxRecDepth 100000
theorem te {c:Prop} [Decidable c] {a b:TA} (ha:a.fs.length≤4) (hb:b.fs.length≤4):(if c then a else b).fs.length≤4:=by split<;>assumption
theorem Uu (q:Sto) (m t:Str) (f:List Fld) (body:Str):(yU q m t f body).fs.length≤4:=by
 have h1:(wK q f).fs.length≤4:=by
  unfold wK
  repeat' split
  all_goals simp
 have h2: ∀ u,(uD q u f body).fs.length≤4:=fun u=>by
  unfold uD
  repeat' refine te ?_ ?_
  all_goals simp
 have h3: ∀ u,(zbK q u).fs.length≤4:=fun u=>by unfold zbK;split<;>simp
 have h4: ∀ u,(zbC u).length≤4:=fun u=>by unfold zbC;split<;>simp
 unfold yU
 repeat' split
 all_goals first|exact h1|exact h2 _|exact h3 _|exact h4 _|simp
theorem zwZ (m t:Str) (mi:Int) (f:List Fld) (le:Int) (l:List Upl) (n:Int) (b:Str) (s st:Int) (fs:List Fld) (hfs:fs.length≤1000):SpcD Tryz.prog 99 [.ptr 2 0] (.pan (.ifc 164 true [.int .i64 st,.list .fld fs,.list .byte []])) [.pack [.obj 78 [.ptr 1 0,.ptr 2 0],.pack [.obj 106 [.row 1,.p (.int .i64 n)],.row .upl 82 l],.pack [.obj 108 [.row 1,.p (.int .i64 s)],.row .byte 5 b]],.obj 102 [.p (.str m),.p (.str t),.p (.int .i64 mi),.p (.list .fld f),.p (.int .i64 le)],.obj 141 [.p (.int .i64 0),.nilS,.nilS],.obj 169 [.ptr 0 0,.p (.str m),.p (.str t),.p (.int .i64 mi),.p (.list .fld f),.p (.int .i64 le)]] .ret [.pack [.obj 78 [.ptr 1 0,.ptr 2 0],.pack [.obj 106 [.row 1,.p (.int .i64 n)],.row .upl 82 l],.pack [.obj 108 [.row 1,.p (.int .i64 s)],.row .byte 5 b]],.pack [.obj 102 [.p (.str m),.p (.str t),.p (.int .i64 mi),.p (.list .fld f),.p (.int .i64 le)]],.pack [.obj 141 [.p (.int .i64 st),.row 1,.p (.list .byte [])],.row .fld 144 (resT::fs)],.obj 169 [.ptr 0 0,.p (.str m),.p (.str t),.p (.int .i64 mi),.p (.list .fld f),.p (.int .i64 le)]]:=by
 refine Uo uq mixed Tryz.func99 (by kernel_rfl) cfgT [yx,yw] (rest:=_) rfl (by kernel_rfl) ?_
 intro I X hI hX
 refine orcL ?_;go_invoke;refine orcS (by kernel_rfl) ?_
 simp only [zi,Nat.reduceAdd];subst hI;simp only [nrmA,nrmB,nrlB,reduceCtorEq,HO.pack.injEq,HO.obj.injEq,jh,ji,List.cons_append,List.nil_append];unfold resT zwO verS
 (repeat' (first|refine ja ?_ ?_|intro _))<;>first|omega|exact jb|exact jc ‹False›|skip
 all_goals first|omega|trivial|rfl|trace_state
def zyG:Door Tryz.prog where
 g:=99
 c :=fun _ m caps hp=>match m,caps,hp with
   |.pan (.ifc 164 true [.int .i64 st,.list .fld fs,.list .byte bb]),[.ptr 2 0],[.pack [.obj 78 [.ptr 1 0,.ptr 2 0],.pack [.obj 106 [.row 1,.p (.int .i64 n)],.row .upl 82 l],.pack [.obj 108 [.row 1,.p (.int .i64 s)],.row .byte 5 b]],.obj 102 [.p (.str m),.p (.str t),.p (.int .i64 mi),.p (.list .fld f),.p (.int .i64 le)],.obj 141 [.p (.int .i64 z0),.nilS,.nilS],.obj 169 [.ptr 0 0,.p (.str m1),.p (.str t1),.p (.int .i64 mi1),.p (.list .fld f1),.p (.int .i64 le1)]]=>some (fs.length≤1000∧bb=[]∧z0=0∧m1=m∧t1=t∧mi1=mi∧f1=f∧le1=le,.ret,[.pack [.obj 78 [.ptr 1 0,.ptr 2 0],.pack [.obj 106 [.row 1,.p (.int .i64 n)],.row .upl 82 l],.pack [.obj 108 [.row 1,.p (.int .i64 s)],.row .byte 5 b]],.pack [.obj 102 [.p (.str m),.p (.str t),.p (.int .i64 mi),.p (.list .fld f),.p (.int .i64 le)]],.pack [.obj 141 [.p (.int .i64 st),.row 1,.p (.list .byte [])],.row .fld 144 (resT::fs)],.obj 169 [.ptr 0 0,.p (.str m),.p (.str t),.p (.int .i64 mi),.p (.list .fld f),.p (.int .i64 le)]])
   |_,_,_=>none
 ok:=by
  intro m caps hp p m' hp' h hp1
  split at h
  · cases h
    obtain⟨h1,rfl,rfl,rfl,rfl,rfl,rfl,rfl⟩:=hp1;exact zwZ _ _ _ _ _ _ _ _ _ _ _ h1
  · cases h
def zjy (I:Alg):KU
 |[.v (.one (.ptr 0 0)),.v (.agg [.p (.str m),.p (.str t),.p (.int .i64 mi),.p (.list .fld f),.p (.int .i64 le)]),.v (.one (.p (.list .byte body)))],[.pack [.obj 78 [.ptr 1 0,.ptr 2 0],.pack [.obj 106 [.row 1,.p (.int .i64 n)],.row .upl 82 l],.pack [.obj 108 [.row 1,.p (.int .i64 s)],.row .byte 5 b]]]=>(fun(m t:Str) (f:List Fld) (l:List Upl) (b body:Str)=>(some (.one ⟨I.hid (FOk f∧zI l n∧n≤200000∧b.length≤100000∧body.length≤100000),(.ret (.v (.agg [.p (.int .i64 (I.hid ((yU ⟨l,n,b,s⟩ m t f body).st))),.p (.list .fld (I.hid (resT::(yU ⟨l,n,b,s⟩ m t f body).fs))),.p (.list .byte (I.hid ([])))]))),[.pack [.obj 78 [.ptr 1 0,.ptr 2 0],.pack [.obj 106 [.row 1,.p (.int .i64 (I.hid ((yU ⟨l,n,b,s⟩ m t f body).q.n)))],.row .upl 82 (I.hid ((yU ⟨l,n,b,s⟩ m t f body).q.l))],.pack [.obj 108 [.row 1,.p (.int .i64 (I.hid ((yU ⟨l,n,b,s⟩ m t f body).q.s)))],.row .byte 5 (I.hid ((yU ⟨l,n,b,s⟩ m t f body).q.b))]]]⟩):Option CT)) m t f l b body
 |_,_=>none
theorem zt1:zu Tryz.prog 80 (zjy alg):=by
 intro args hp r h;unfold zjy at h;split at h<;>cases h
 rename_i m t mi f le body n l s b
 revert f l;intro(f:List Fld) (l:List Upl)
 simp only [CT.Good,zh];intro hneed;have hfew:=Uu ⟨l,n,b,s⟩ m t f body;generalize hr:yU ⟨l,n,b,s⟩ m t f body=r at hfew;obtain⟨st,fs,⟨l',n',b',s'⟩⟩:=r
 refine zw2 uq mixed Tryz.func80 (by kernel_rfl) { cfgT with keep:=some [0,1,2,4,6,7]} [zny,znx] zyG (by kernel_rfl) ?_
 intro I X hI hX
 refine orcL ?_;go_invoke;refine orcS (by kernel_rfl) ?_
 simp only [zi,Nat.reduceAdd];subst hI;simp only at hfew;simp only [nrmA,nrmB,nrlB,reduceCtorEq,V0.agg.injEq,HO.pack.injEq,HO.obj.injEq];simp only [hr]
 (repeat' (first|refine ja ?_ ?_|intro _))<;>first|omega|exact jb|exact jc ‹False›|skip
 all_goals first|omega|rfl|assumption|exact hneed.2.1|exact hneed.1.1|(exact(hneed.1.2 _ ‹_›).1)|(exact(hneed.1.2 _ ‹_›).2)|trace_state
def znG:Know Tryz.prog:=⟨80,zjy,zt1⟩
def znF:Know Tryz.prog:=⟨80,fun I=>zx I (zjy I),zf zt1⟩
def zfS (t:Str):Bool:=decide (t=rC)||Lib.hasPrefix t wP
def SV (I:Alg):KU
 |[.v (.one (.p (.str t)))],[]=>(fun(t:Str)=>(some (.one ⟨I.hid (t.length≤1000000),(.ret (.v (.one (.p (.bool (I.hid (zfS t))))))),[]⟩):Option CT)) t
 |_,_=>none
theorem zjw:zu Tryz.prog 129 (SV alg):=by
 intro args hp r h;unfold SV at h;split at h<;>cases h
 rename_i t;simp only [CT.Good,zh];intro hneed;generalize hr:zfS t=r;unfold zfS at hr
 refine spH Tryz.func129 (by kernel_rfl) { cfgT with keep:=some [0,2]} [xA,xw] (by kernel_rfl) ?_
 intro I X hI hX
 refine orcL ?_;go_invoke;refine orcS (by kernel_rfl) ?_
 simp only [zi,Nat.reduceAdd];subst hI;rw [show([47,102,105,108,101,115]:Str)=rC from rfl]
 try rw [show([47,102,105,108,101,115,47]:Str)=wP from rfl]
 simp only [nrmA,nrmB,nrlB,reduceCtorEq,V0.agg.injEq]
 by_cases h1:t=rC
 · rw [decide_eq_true h1,Bool.true_or] at hr
   subst hr;simp only [nrmA,nrmB,nrlB,reduceCtorEq,h1]
   (repeat' (first|refine ja ?_ ?_|intro _))<;>first|omega|exact jb|exact jc ‹False›|skip
   all_goals first|omega|rfl|assumption|(simp_all;done)|trace_state
 · rw [decide_eq_false h1,Bool.false_or] at hr
   simp only [nrmA,nrmB,nrlB,reduceCtorEq,h1]
   (repeat' (first|refine ja ?_ ?_|intro _))<;>first|omega|exact jb|exact jc ‹False›|skip
   all_goals first|omega|rfl|assumption|(simp_all;done)|trace_state
def zrR:Know Tryz.prog:=⟨129,SV,zjw⟩
def zrQ:Know Tryz.prog:=⟨129,fun I=>zx I (SV I),zf zjw⟩
end Go.Proofs.YtnpmenpjagcheaaGreatDoor
namespace Go.Proofs.YtnpmenpjagcheaaGreatDoor
open Go Go.Sep Go.Ab
def zxT:Str:=[47,102,111,114,109]
def zmM:Str:=[102,105,108,101,110,97,109,101,32]
def zxE:Str:=[109,117,108,116,105,112,97,114,116,47,102,111,114,109,45,100,97,116,97]
def bndT:Str:=[98,111,117,110,100,97,114,121]
structure GA where
 r:Rpl
 q:Sto
def Xq (st:Int):Rpl:=⟨st,[],[]⟩
def sQ (f:List Fld) (body:Str):List Prt × Int:=
 if(oneT f ZB).2≠0 then([],415)
 else if(xI (oneT f ZB).1).2≠0∨(xI (oneT f ZB).1).1.word≠zxE∨(getP (xI (oneT f ZB).1).1.params bndT).2=false then([],415)
 else if(Yb (getP (xI (oneT f ZB).1).1.params bndT).1 body).2≠0 then([],400)
 else((Yb (getP (xI (oneT f ZB).1).1.params bndT).1 body).1,0)
def apCd (q:Sto) (id off:Int) (x:Str):Int:=if apG q.l id off then 17 else wsC q (apE id x)
def apQ (q:Sto) (id off:Int) (x:Str):Sto:=if apG q.l id off then q else wsS q (apE id x)
def zbL (id:Int):Ent:=⟨4,id,0,[]⟩
def tV (q:Sto) (p:Prt):Ent:=creE q (p.bytes.length:Int) (zmM++p.file)
def zea (q:Sto) (p:Prt):Int:=if wsC q (tV q p)≠0 then wsC q (tV q p) else apCd (wsS q (tV q p)) (q.n+1) 0 p.bytes
def qF (q:Sto) (p:Prt):Sto:=
 if wsC q (tV q p)≠0 then wsS q (tV q p)
 else if apCd (wsS q (tV q p)) (q.n+1) 0 p.bytes≠0 then wsS (apQ (wsS q (tV q p)) (q.n+1) 0 p.bytes) (zbL (q.n+1))
 else apQ (wsS q (tV q p)) (q.n+1) 0 p.bytes
def VQ (q:Sto):List Int→Sto
 |[]=>q
 |k::r=>VQ (wsS q (zbL k)) r
def znr (t:Str) (id:Int) (p:Prt):Str:=t++(decS id++[32]++p.file++[10])
def rD (q:Sto) (ids:List Int) (t:Str):List Prt→GA
 |[]=>⟨⟨201,[],t⟩,syS q⟩
 | p::r=>
   if p.file=[] then rD q ids t r
   else if zea q p≠0 then⟨Xq (if zea q p=4 then 413 else 507),syS (VQ (qF q p) ids)⟩
   else rD (qF q p) (ids++[q.n+1]) (znr t (q.n+1) p) r
def XD:List Prt→Int
 |[]=>0
 |p::r=>((p.bytes.length:Int)+200)+XD r
def XP (q:Sto) (f:List Fld) (body:Str):GA:=
 if(sQ f body).2≠0 then⟨Xq (sQ f body).2,q⟩
 else if zaE q.b (XD (sQ f body).1)=false then⟨Xq 507,q⟩
 else rD q [] [] (sQ f body).1
def rplT (x:TA):Rpl:=⟨x.st,resT::x.fs,[]⟩
def ansG (q:Sto) (m t:Str) (f:List Fld) (body:Str):GA:=
 if zfS t then⟨rplT (yU q m t f body),(yU q m t f body).q⟩
 else if t≠zxT then⟨Xq 404,q⟩
 else if m≠zbG then⟨Xq 405,q⟩
 else XP q f body
def zbw (r:Rpl):Str:=writeT r.status r.fields r.body
structure GE where
 q:Sto
 h:Hd
 b:Str
 i:Bool
 w:Bool
 o:Str
def zwn (c:Int):Rpl:=Xq (if c=4 then 413 else 400)
def evG (x:GE) (e:Evt):GE:=
 if e.kind=1 then { x with h:=e.head,b:=[],i:=true,w:=true}
 else if e.kind=2 then { x with b:=x.b++e.bytes}
 else if e.kind=3 then⟨(ansG x.q x.h.method x.h.target x.h.fields x.b).q,x.h,x.b,false,false,x.o++zbw (ansG x.q x.h.method x.h.target x.h.fields x.b).r⟩
 else if e.kind=4 then { x with i:=false,o:=x.o++zbw (zwn e.code)}
 else x
def evsG (x:GE) (l:List Evt):GE:=l.foldl evG x
def fedE (q:Sto) (c:Cn) (b:Str):GE:=evsG ⟨q,c.h,c.body,c.live,c.own,[]⟩ (yI (zM c.q b).out)
def fedC (q:Sto) (c:Cn) (b:Str):Cn:=⟨zM c.q b,(fedE q c b).h,(fedE q c b).b,(fedE q c b).i,(fedE q c b).w⟩
def cn0:Cn:=⟨rq0,hd0,[],false,true⟩
structure GS where
 q:Sto
 c0:Cn
 c1:Cn
 c2:Cn
 c3:Cn
def GS.at (g:GS) (k:Int):Cn:=if k=0 then g.c0 else if k=1 then g.c1 else if k=2 then g.c2 else g.c3
def GS.put (g:GS) (k:Int) (c:Cn) (q:Sto):GS:=⟨q,if k=0 then c else g.c0,if k=1 then c else g.c1,if k=2 then c else g.c2,if k=3 then c else g.c3⟩
def inG (k:Int):Bool:=decide (0≤k)&&decide (k<4)
def zs8 (c:Cn):Bool:=c.live&&(decide (c.h.method=zaJ)&&(decide (c.body≠[])&&Lib.hasPrefix c.h.target wP))
def UJ (q:Sto) (c:Cn):Sto:=if zs8 c then(yU q c.h.method c.h.target c.h.fields c.body).q else q
def gs0:GS:=⟨⟨[],0,[],0⟩,cn0,cn0,cn0,cn0⟩
end Go.Proofs.YtnpmenpjagcheaaGreatDoor
namespace Go.Proofs.YtnpmenpjagcheaaGreatDoor
open Go Go.Sep Go.Ab
set_option maxRecDepth 100000
def zda (I:Alg):KU
 |[.v (.one (.p (.int .i64 n)))],[]=>some (.one ⟨I.hid (True),(.ret (.v (.one (.p (.str (I.hid (XY n))))))),[]⟩)
 |_,_=>none
theorem zni:zu Tryz.prog 165 (zda alg):=by
 intro args hp r h;unfold zda at h;split at h<;>cases h
 rename_i n;simp only [CT.Good,zh];intro _;generalize hr:XY n=r
 refine spH Tryz.func165 (by kernel_rfl) { keep:=some [0,2,3]} [] (by kernel_rfl) ?_
 intro I X hI hX
 refine orcL ?_;go_invoke;refine orcS (by kernel_rfl) ?_
 simp only [zi,Nat.reduceAdd];subst hI;simp only [nrmA,nrmB];unfold XY at hr
 (repeat' (first|refine ja ?_ ?_|intro _))<;>first|omega|exact jb|exact jc ‹False›|skip
 all_goals((repeat(first|rewrite [if_pos (by first|omega|assumption|(simp only [*,or_self,or_true,true_or,or_false,false_or,jf,jg,jd,je,and_self,and_true,true_and];done)|(simp only [*];omega)|(simp [*];done)|(simp [*];omega))] at hr|rewrite [if_neg (by first|omega|assumption|(simp only [*,or_self,or_true,true_or,or_false,false_or,jf,jg,jd,je,and_self,and_true,true_and];done)|(simp only [*];omega)|(simp [*];done)|(simp [*];omega))] at hr));exact hr)
def znh:Know Tryz.prog:=⟨165,zda,zni⟩
def zng:Know Tryz.prog:=⟨165,fun I=>zx I (zda I),zf zni⟩
theorem zhu {fs:List Fld} {i:Nat} (h:i<fs.length):badF (fs.drop i)=if(textF (fs.getD i ⟨[],[]⟩)).2=0 then badF (fs.drop (i+1)) else(textF (fs.getD i ⟨[],[]⟩)).2:=by
 rw [jE h,badF];simp [h]
theorem zcR {fs:List Fld} {i:Nat} (h:i<fs.length):uX (fs.take (i+1))=uX (fs.take i)++(textF (fs.getD i ⟨[],[]⟩)).1++[13,10]:=by
 rw [jB h,zqn];simp [uX,h]
theorem zpW {st:Int} (h:XY st≠[]):(zgl st).length≤100:=by
 have:=yE st;have:=(XW h).2.2;unfold zgl
 simp;omega
def WX (I:Alg):KU
 |[.v (.agg [.p (.int .i64 st),.p (.list .fld fs),.p (.list .byte b)])],[]=>(fun(fs:List Fld) (b:Str)=>(some (.one ⟨I.hid ((fs.length≤100∧∀ f ∈ fs,f.name.length≤1000000∧f.value.length≤1000000)∧b.length≤9000),(.ret (.tup [.one (.p (.list .byte (I.hid (writeT st fs b)))),.one (.p (.int .i64 (I.hid (Q7 st fs))))])),[]⟩):Option CT)) fs b
 |_,_=>none
set_option maxHeartbeats 4000000 in
theorem zfJ:zu Tryz.prog 128 (WX alg):=by
 intro args hp r h;unfold WX at h;split at h<;>cases h
 rename_i st fs b
 revert fs;intro(fs:List Fld)
 simp only [CT.Good,zh];intro hneed;obtain⟨⟨hfl,hf⟩,hb⟩:=hneed;generalize hc:Q7 st fs=c;generalize ht:writeT st fs b=t;have hwf:=XW (n:=st);have hdl:=yE st;have hhl:=zpW (st:=st);have hbl:=yE (b.length:Int);have hclen:[99,111,110,116,101,110,116,45,108,101,110,103,116,104]=zwA:=rfl
 refine spH Tryz.func128 (by kernel_rfl) { rl:=[0],keep:=some [0,1,2,3,4,6,7,8,37,38,39]} [zdf,zde,XR,XQ,qH,qG,znh,zng] (by kernel_rfl) ?_
 intro I X hI hX
 refine orcL ?_;go_invoke;refine orcS (by kernel_rfl) ?_
 simp only [zi,Nat.reduceAdd];rw [hclen]
 (repeat' (first|refine ja ?_ ?_|intro _))
 all_goals try(subst hI;(simp only [nrmA,nrmB,nrlB,reduceCtorEq] at *);first|done|trivial|(unfold writeT at ht;unfold Q7 at ht hc;((repeat(first|rewrite [if_pos (by first|omega|assumption|(simp only [*,or_self,or_true,true_or,or_false,false_or,jf,jg,jd,je,and_self,and_true,true_and];done)|(simp only [*];omega)|(simp [*];done)|(simp [*];omega))] at hc|rewrite [if_neg (by first|omega|assumption|(simp only [*,or_self,or_true,true_or,or_false,false_or,jf,jg,jd,je,and_self,and_true,true_and];done)|(simp only [*];omega)|(simp [*];done)|(simp [*];omega))] at hc)));subst hc;((repeat(first|rewrite [if_pos (by first|omega|assumption|(simp only [*,or_self,or_true,true_or,or_false,false_or,jf,jg,jd,je,and_self,and_true,true_and];done)|(simp only [*];omega)|(simp [*];done)|(simp [*];omega))] at ht|rewrite [if_neg (by first|omega|assumption|(simp only [*,or_self,or_true,true_or,or_false,false_or,jf,jg,jd,je,and_self,and_true,true_and];done)|(simp only [*];omega)|(simp [*];done)|(simp [*];omega))] at ht)));subst ht;exact⟨rfl,rfl⟩)|(have:=hwf ‹_›;simp only [jk,jh,ji];omega)|(have:=hwf ‹_›;omega)|exact⟨by omega,by decide,hf⟩)
 have hok:XY st≠[]∧fs.length<16∧¬ 0<(valsF fs zwA).length:=by
  subst hI;simp only [nrmA,nrmB,nrlB,reduceCtorEq] at *
  exact⟨by assumption,by omega,by omega⟩
 have hc2:c=badF fs:=by
  rw [← hc,Q7,if_neg hok.1,if_neg (by omega),if_neg hok.2.2]
 have ht2:badF fs=0→t=zgl st++uX fs++zdj b.length++b:=fun h=>by
  rw [← ht,writeT,hc,hc2,if_pos h]
 have ht3:badF fs≠0→t=[]:=fun h=>by rw [← ht,writeT,hc,hc2,if_neg h]
 refine lpH hI [zdf,zde,XR,XQ,qH,qG,znh,zng] hX [1,3,4,37,38,39] (fun(g:Nat × Str)=>match g with|(i,o)=>i≤fs.length∧o=zgl st++uX (fs.take i)∧badF fs=badF (fs.drop i)) (fun(g:Nat × Str)=>match g with|(i,o)=>⟨[(1,.v (.one (.ptr 0 0))),(3,.v (.one (.p (.int .i64 0)))),(4,.v (.one (.row 1))),(37,.v (.one (.p (.list .fld fs)))),(38,.v (.one (.p (.int .i64 ((I.len (α:=Fld) fs)))))),(39,.v (.one (.p (.int .i64 i))))],[.pack [.obj 141 [.p (.int .i64 st),.p (.list .fld fs),.p (.list .byte b)]],.row .byte 5 o],68,none⟩) (fun(g:Nat × Str)=>match g with|(i,o)=>fs.length - i) (0,(I.app (I.app (I.app (I.app ([72,84,84,80,47,49,46,49,32]:Str) (I.hid (decS st))) [32]) (I.hid (XY st))) [13,10])) (by kernel_rfl) (by kernel_rfl) ?_ ?_
 · refine⟨jM _,?_,rfl⟩
   subst hI;simp only [ZP,zh,zgl,List.take_zero,uX,List.append_nil]
 rintro⟨i,o⟩ ⟨h1,h2,h3⟩ A hA;simp only at hA h1 h2 h3
 refine orcL ?_;go_invoke;refine orcS (by kernel_rfl) ?_
 simp only [zi,Nat.reduceAdd];subst hI;simp only [nrmA,nrmB,nrlB,reduceCtorEq]
 have hx:i<fs.length→(fs.getD i ⟨[],[]⟩) ∈ fs:=fun h=>by rw [show fs.getD i ⟨[],[]⟩=fs[i] by simp [h]];exact List.getElem_mem h
 have hd:i<fs.length→_:=fun h=>zhu (fs:=fs) (i:=i) h;have hk:i<fs.length→_:=fun h=>zcR (fs:=fs) (i:=i) h
 have hol:(uX (fs.take i)).length≤202 * 16:=by
  have:=qZ (fs.take i);rw [jv] at this;have:=hok.2.1;omega
 have hhl:=hhl hok.1
 have hol2:o.length≤4000:=by rw [h2,jk];omega
 have hend: ¬ i<fs.length→badF fs=0∧uX (fs.take i)=uX fs:=fun h=>by
  rw [h3,jF (by omega),jq (by omega)];exact⟨rfl,rfl⟩
 have hfi:=fun h=>hf _ (hx h);have htl:=fun f=>zaf f;generalize fs.getD i ⟨[],[]⟩=x at *;have e0:(⟨x.name,x.value⟩:Fld)=x:=rfl;rw [e0];have htl:=htl x
 refine⟨fun c1=>⟨⟨by omega,by omega⟩,⟨by omega,by omega⟩,hfi (by omega),fun c2=> ?_,fun c2=>⟨?_,?_,by omega,?_⟩⟩,fun c1=> ?_⟩
 · have hd:=hd (by omega)
   rw [if_neg c2] at hd
   exact⟨(ht3 (by rw [h3,hd];exact c2)).symm,by rw [hc2,h3,hd]⟩
 · simp only [jh,ji];omega
 · simp only [jk,jh,ji];omega
 · have hd:=hd (by omega)
   rw [if_pos c2] at hd
   exact hA (i+1,o++((textF x).1++[13,10])) ⟨by simp only;omega,by simp only;rw [hk (by omega),h2];simp only [jo],by simp only;rw [h3,hd]⟩ (by simp only;omega)
 · obtain⟨e1,e2⟩:=hend (by omega)
   simp only [jk,jh,ji]
   refine⟨by omega,by omega,by omega,by omega,by omega,?_,by rw [hc2,e1]⟩
   rw [ht2 e1,h2,e2];unfold zdj;simp only [jo]
def zoX:Know Tryz.prog:=⟨128,WX,zfJ⟩
def zoW:Know Tryz.prog:=⟨128,fun I=>zx I (WX I),zf zfJ⟩
end Go.Proofs.YtnpmenpjagcheaaGreatDoor
namespace Go.Proofs.YtnpmenpjagcheaaGreatDoor
open Go Go.Sep Go.Ab
set_option maxRecDepth 100000
def zbq (s p:Str):Str × Bool:=if s.length<p.length∨lowS (s.take p.length)≠p then([],false) else(s.drop p.length,true)
def zew (I:Alg):KU
 |[.v (.one (.p (.str s))),.v (.one (.p (.str p)))],[]=>(fun(s p:Str)=>(some (.one ⟨I.hid (s.length≤1000000∧p.length≤100),(.ret (.tup [.one (.p (.str (I.hid ((zbq s p).1)))),.one (.p (.bool (I.hid ((zbq s p).2))))])),[]⟩):Option CT)) s p
 |_,_=>none
theorem zqx:zu Tryz.prog 240 (zew alg):=by
 intro args hp r h;unfold zew at h;split at h<;>cases h
 rename_i s p;simp only [CT.Good,zh];intro hneed;obtain⟨h1,h2⟩:=hneed;generalize hr:zbq s p=r;obtain⟨a,k⟩:=r
 refine spH Tryz.func240 (by kernel_rfl) { keep:=some [0,1,4,5]} [wG,wF] (by kernel_rfl) ?_
 intro I X hI hX
 refine orcL ?_;go_invoke;refine orcS (by kernel_rfl) ?_
 simp only [zi,Nat.reduceAdd];subst hI;unfold zbq at hr;simp only [nrmA,nrmB,nrlB,reduceCtorEq]
 (repeat' (first|refine ja ?_ ?_|intro _))<;>first|omega|exact jb|exact jc ‹False›|skip
 all_goals first
  |omega
  |(simp only [jv];omega)
  |(rw [if_pos (Or.inl (by omega))] at hr;cases hr;rfl)
  |(rw [if_pos (Or.inr ‹_›)] at hr;cases hr;rfl)
  |(rw [if_neg (fun h=>h.elim (fun h=>by omega) (fun h=>h ‹_›))] at hr;cases hr;first|rfl|exact jq (by simp))
def zqw:Know Tryz.prog:=⟨240,zew,zqx⟩
def zqv:Know Tryz.prog:=⟨240,fun I=>zx I (zew I),zf zqx⟩
theorem zyW {r:Str} {i:Nat} (h:i<r.length) (k: ¬ r.getD i 0=37):pctM (r.drop i)=(pctM (r.drop (i+1))).map (r.getD i 0:: ·):=by
 have e:r.getD i 0=r[i]:=by simp [h]
 rw [e] at k;rw [jE h,pctM.eq_def];simp only;rw [if_pos k,e]
theorem zyV {r:Str} {i:Nat} (h:i<r.length) (k:r.getD i 0=37) (h2:r.length≤i+2):pctM (r.drop i)=none:=by
 have e:r.getD i 0=r[i]:=by simp [h]
 rw [e] at k;rw [jE h,pctM.eq_def];simp only [k,ne_eq,jf,if_false]
 have hl:(r.drop (i+1)).length≤1:=by rw [jC];omega
 match hd:r.drop (i+1),hl with
 |[],_=>rfl
 |[_],_=>rfl
 |_::_::_,h=>simp at h
theorem zyX {r:Str} {i:Nat} (h:i+2<r.length) (k:r.getD i 0=37):pctM (r.drop i)=if hexK ((r.getD (i+1) 0).toNat:Int)<0∨hexK ((r.getD (i+2) 0).toNat:Int)<0 then none else(pctM (r.drop (i+3))).map (UInt8.ofNat (16 * hexK ((r.getD (i+1) 0).toNat:Int)+hexK ((r.getD (i+2) 0).toNat:Int)).toNat:: ·):=by
 have h0:i<r.length:=by omega
 have h1:i+1<r.length:=by omega
 have e0:r.getD i 0=r[i]:=by simp [h0]
 have e1:r.getD (i+1) 0=r[i+1]:=by simp [h1]
 have e2:r.getD (i+2) 0=r[i+2]:=by simp [h]
 rw [e0] at k
 rw [jE h0,jE h1,jE h,pctM,if_neg (by simp [k]),e1,e2]
def zev (I:Alg):KU
 |[.v (.one (.p (.str s)))],[]=>(fun(s:Str)=>(some (.one ⟨I.hid (s.length≤1000000),(.ret (.tup [.one (.p (.str (I.hid (extV s)))),.one (.p (.bool (I.hid (extB s))))])),[]⟩):Option CT)) s
 |_,_=>none
theorem zqu:zu Tryz.prog 238 (zev alg):=by
 intro args hp r h;unfold zev at h;split at h<;>cases h
 rename_i s;simp only [CT.Good,zh];intro hneed;unfold extV extB;generalize hr:extM s=r
 refine spH Tryz.func238 (by kernel_rfl) { nr:=[6],keep:=some [0,2,3,4,5,6,7]} [TR,TQ,zqw,zqv] (by kernel_rfl) ?_
 intro I X hI hX
 refine orcL ?_;go_invoke;refine orcS (by kernel_rfl) ?_
 simp only [zi,Nat.reduceAdd];rw [show([117,116,102,45,56,39,39]:Str)=utfS from rfl]
 have hc:extM s=if(zbq s utfS).2=false then none else pctM (zbq s utfS).1:=by
  unfold extM zbq
  by_cases h:s.length<7∨lowS (s.take 7)≠utfS
  · rw [if_pos h,if_pos (show s.length<utfS.length∨lowS (s.take utfS.length)≠utfS from h)];rfl
  · rw [if_neg h,if_neg (show ¬ (s.length<utfS.length∨lowS (s.take utfS.length)≠utfS) from h)];rfl
 have hl:(zbq s utfS).1.length≤1000000:=by
  unfold zbq
  split
  · simp
  · simp only [jC];omega
 rw [hc] at hr;generalize(zbq s utfS).2=k at *;generalize(zbq s utfS).1=R at *
 have h7:utfS.length≤100:=by decide
 (repeat' (first|refine ja ?_ ?_|intro _))
 all_goals try(subst hI;(simp only [nrmA,nrmB,nrlB,reduceCtorEq] at *);first|done|trivial|omega|exact⟨hneed,h7⟩|(rw [if_pos ‹_›] at hr;rw [← hr];exact⟨rfl,rfl⟩))
 have hk:k=true:=by
  subst hI;simp only [nrmA,nrmB,nrlB,reduceCtorEq] at *
  simpa using ‹_›
 rw [hk] at hr;simp only [je,if_false] at hr
 rw [show I.hid R=R by subst hI;rfl]
 refine lpH hI [TR,TQ,zqw,zqv] hX [4,6,7] (fun(g:Nat × Str)=>match g with|(i,b)=>i≤R.length∧b.length≤i∧r=(pctM (R.drop i)).map (b++ ·)) (fun(g:Nat × Str)=>match g with|(i,b)=>⟨[(4,.v (.one (.p (.str R)))),(6,.v (.one (.row 0))),(7,.v (.one (.p (.int .i64 i))))],[.row .byte 5 b],72,none⟩) (fun(g:Nat × Str)=>match g with|(i,b)=>R.length - i) (0,[]) (by kernel_rfl) (by kernel_rfl) ?_ ?_
 · refine⟨jM _,jL _,?_⟩
   rw [List.drop_zero,hr]
   cases r<;>rfl
 rintro⟨i,b⟩ ⟨h1,h2,h3⟩ A hA;simp only at hA h1 h2 h3
 refine orcL ?_;go_invoke;refine orcS (by kernel_rfl) ?_
 simp only [zi,Nat.reduceAdd];subst hI;simp only [nrmA,nrmB,nrlB,reduceCtorEq]
 have e1:((i:Int)+1).toNat=i+1:=by omega
 have e2:((i:Int)+2).toNat=i+2:=by omega
 rw [e1,e2]
 have b37:(R.getD i 0).toNat=37↔R.getD i 0=37:=⟨fun h=>UInt8.toNat_inj.1 h,fun h=>by rw [h];rfl⟩
 have g0:i<R.length→¬ R.getD i 0=37→_:=fun h k=>zyW h k;have g1:i<R.length→R.getD i 0=37→R.length≤i+2→_:=fun h k=>zyV h k;have g2:i+2<R.length→R.getD i 0=37→_:=fun h k=>zyX h k;have l0:=(R.getD i 0).toNat_lt;have l1:=(R.getD (i+1) 0).toNat_lt;have l2:=(R.getD (i+2) 0).toNat_lt
 have m1:=zeh (k:=((R.getD (i+1) 0).toNat:Int)) ⟨by omega,by omega⟩
 have m2:=zeh (k:=((R.getD (i+2) 0).toNat:Int)) ⟨by omega,by omega⟩
 have hend: ¬ i<R.length→r=some b:=fun h=>by rw [h3,jF (by omega)];simp [pctM]
 have hA2:=fun(c:UInt8) (j:Nat) (h:i<j) (hj:j≤R.length) (e:pctM (R.drop i)=(pctM (R.drop j)).map (c:: ·))=>hA (j,b++[c]) ⟨hj,by rw [jk,jr];omega,by rw [h3,e,Option.map_map];congr 1;funext x;simp⟩ (by simp only;omega)
 generalize R.getD i 0=x0 at *;generalize R.getD (i+1) 0=x1 at *;generalize R.getD (i+2) 0=x2 at *
 refine⟨fun c=>⟨by omega,fun c2=>⟨by omega,by omega,by simp only [jr];omega,by omega,?_⟩,fun c2=> ?_⟩,fun c=> ?_⟩
 · have:=hA2 x0 (i+1) (by omega) (by omega) (g0 (by omega) (fun h=>c2 (by have:=b37.2 h;omega)))
   simp only [Int.natCast_add,Int.natCast_one] at this;exact this
 · have hx:x0=37:=b37.1 (by omega)
   subst hx
   have gs:R.length≤i+2→r=none:=fun h=>by rw [h3,g1 (by omega) rfl h];rfl
   have gm:=fun h=>g2 h rfl
   have gn:i+2<R.length→(hexK (x1.toNat:Int)<0∨hexK (x2.toNat:Int)<0)→r=none:=fun h k=>by rw [h3,gm h,if_pos k];rfl
   have gy:i+2<R.length→¬ hexK (x1.toNat:Int)<0→¬ hexK (x2.toNat:Int)<0→_:=fun h k k2=>hA2 (UInt8.ofNat (16 * hexK (x1.toNat:Int)+hexK (x2.toNat:Int)).toNat) (i+3) (by omega) (by omega) (by rw [gm h,if_neg (fun q=>q.elim k k2)])
   have wr: ¬ hexK (x1.toNat:Int)<0→¬ hexK (x2.toNat:Int)<0→IntKind.u8.wrap (16 * hexK (x1.toNat:Int)+hexK (x2.toNat:Int))=16 * hexK (x1.toNat:Int)+hexK (x2.toNat:Int):=fun k k2=>zyE _ ⟨by omega,by omega⟩
   (repeat' (first|refine ja ?_ ?_|intro _))<;>first|omega|exact jb|exact jc ‹False›|skip
   all_goals first
    |omega
    |(rw [gs (by omega)];done)
    |(rw [gs (by omega)];rfl)
    |(rw [gn (by omega) (Or.inl ‹_›)];rfl)
    |(rw [gn (by omega) (Or.inr ‹_›)];rfl)
    |(rw [wr ‹_› ‹_›];omega)
    |(simp only [jr];omega)
    |(rw [wr ‹_› ‹_›,show(i:Int)+2+1=((i+3:Nat):Int) by omega];exact gy (by omega) ‹_› ‹_›)
 · rw [hend (by omega)]
   exact⟨rfl,rfl⟩
def zwr:Know Tryz.prog:=⟨238,zev,zqu⟩
def zwq:Know Tryz.prog:=⟨238,fun I=>zx I (zev I),zf zqu⟩
end Go.Proofs.YtnpmenpjagcheaaGreatDoor
namespace Go.Proofs.YtnpmenpjagcheaaGreatDoor
open Go Go.Sep Go.Ab
set_option maxRecDepth 100000
theorem zdS: ∀ (n:Nat) (r:Str),r.length≤n→∀ v,pctM r=some v→v.length≤r.length
 |n,[],_,v,h=>by rw [pctM] at h;cases h;exact jL _
 |0,c::r,h,_,_=>by simp at h
 | n + 1,c::r,hl,v,h=>by
   rw [jh] at hl;rw [pctM.eq_def] at h;simp only at h
   split at h
   · cases hp:pctM r with
     |none=>rw [hp] at h;cases h
     | some u=>
       rw [hp] at h;cases h
       have:=zdS n r (by omega) u hp
       simp only [jh];omega
   · split at h
     · rename_i a b r'
       split at h
       · cases h
       · cases hp:pctM r' with
         |none=>rw [hp] at h;cases h
         | some u=>
           rw [hp] at h;cases h
           have:=zdS n r' (by simp only [jh] at hl;omega) u hp
           simp only [jh];omega
     · cases h
theorem zty (s:Str):(extV s).length≤s.length:=by
 unfold extV extM
 split
 · simp
 · cases h:pctM (s.drop 7) with
   |none=>simp
   | some v=>
     have:=zdS _ _ (jL _) v h;rw [jC] at this;simp only [Option.getD_some];omega
def PsOk (N:Nat) (l:List Fld):Prop:=l.length≤8∧∀ f ∈ l,f.value.length≤N
theorem zpp (N:Nat): ∀ (n:Nat) (s:Str) (ps:List Fld),s.length≤N→PsOk N ps→PsOk N (medL n s ps).2.1
 |0,s,ps,_,h=>h
 | n + 1, s,ps,hs,h=>by
   rw [medL];have h1:=wQ (s.drop 1);have h2:=zdT (skS (s.drop 1));have h3:=wQ (parM (skS (s.drop 1))).2.2;rw [jC] at h1
   split
   · split
     · exact h
     · split
       · exact h
       · split
         · exact h
         · rename_i h8
           refine zpp N n _ _ (by omega) ⟨by rw [jk,jr];have:=h.1;omega,fun f hf=> ?_⟩
           rcases List.mem_append.1 hf with h5|h5
           · exact h.2 f h5
           · rw [List.mem_singleton.1 h5];omega
   · split<;>exact h
theorem zfO (s:Str):PsOk s.length (xI s).1.params:=by
 have h0:PsOk s.length []:=⟨by decide,fun f h=>by cases h⟩
 have hb: ∀ w t:Str,t.length≤s.length→PsOk s.length (medB w t).2.1.params:=fun w t ht=>by
  have h1:=wQ t
  exact zpp s.length _ _ [] (by omega) h0
 have h1:=wQ s;have h2:=wZ (skS s);have h3:=wZ ((tokE (skS s)).drop 1);rw [jC] at h3
 have hm:PsOk s.length (wo s).2.1.params:=by
  unfold wo medA
  split
  · exact h0
  · split
    · split
      · exact h0
      · exact hb _ _ (by omega)
    · exact hb _ _ (by omega)
 unfold xI
 split
 · exact h0
 · split
   · exact hm
   · exact h0
theorem zkY {N:Nat} {l:List Fld} (h: ∀ f ∈ l,f.value.length≤N) (n:Str):(getP l n).1.length≤N:=by
 unfold getP
 cases hf:l.find? (fun f=>f.name == n) with
 |none=>simp
 |some f=>exact h f (List.mem_of_find?_eq_some hf)
theorem zsL {N:Nat} {l:List Fld} (h: ∀ f ∈ l,f.value.length≤N) (n:Str):(oneF (valsF l n)).1.length≤N:=by
 unfold oneF
 split
 · simp
 · split
   · rename_i h1
     match hv:valsF l n,h1 with
     | [x],_=>
       have:x ∈ valsF l n:=by rw [hv];exact List.mem_singleton.2 rfl
       unfold valsF at this;obtain⟨f,hf,rfl⟩:=List.mem_map.1 this;exact h f (List.mem_filter.1 hf).1
   · simp
def QC (I:Alg):KU
 |[.v (.one (.p (.list .fld l)))],[]=>(fun(l:List Fld)=>(some (.one ⟨I.hid (l.length≤1000∧∀ f ∈ l,f.name.length≤1000000∧f.value.length≤1000000),(.ret (.tup [.agg [.p (.str (I.hid ((Zn l).1.name))),.p (.str (I.hid ((Zn l).1.file))),.p (.str (I.hid ((Zn l).1.type))),.nilS],.one (.p (.int .i64 (I.hid ((Zn l).2))))])),[]⟩):Option CT)) l
 |_,_=>none
theorem zlj:zu Tryz.prog 237 (QC alg):=by
 intro args hp r h;unfold QC at h;split at h<;>cases h
 rename_i l
 revert l;intro(l:List Fld)
 simp only [CT.Good,zh];intro hneed;obtain⟨hl,hf⟩:=hneed;generalize hr:Zn l=r
 refine spH Tryz.func237 (by kernel_rfl) { raw:=true,keep:=some [0,2,3,4,5,6,7,8,9,10,11,12,13,77]} [Yt,Yr,ztv,ztu,zwr,zwq,UG,UF,wM,wL] (by kernel_rfl) ?_
 intro I X hI hX
 refine orcL ?_;go_invoke;refine orcS (by kernel_rfl) ?_
 simp only [zi,Nat.reduceAdd]
 try rw [show([99,111,110,116,101,110,116,45,100,105,115,112,111,115,105,116,105,111,110]:Str)=rG from rfl]
 try rw [show([99,111,110,116,101,110,116,45,116,121,112,101]:Str)=zlE from rfl]
 try rw [show([102,111,114,109,45,100,97,116,97]:Str)=zuI from rfl]
 try rw [show([102,105,108,101,110,97,109,101]:Str)=ztr from rfl]
 try rw [show([102,105,108,101,110,97,109,101,42]:Str)=zg9 from rfl]
 try rw [show([110,97,109,101]:Str)=zvK from rfl]
 have hk1:rG.length≤1000000:=by decide
 have hk2:zlE.length≤1000000:=by decide
 have hv:=zsL (fun f h=>(hf f h).2) rG;have hp:=zfO (oneF (valsF l rG)).1;have hg:=fun n=>zkY hp.2 n;have hg1:=hg zg9;have hg2:=hg ztr;have hx:=zty (getP (xI (oneF (valsF l rG)).1).1.params zg9).1;unfold Zn at hr;subst hI;simp only [nrmA,nrmB,nrlB,reduceCtorEq];have hpl:=hp.1;clear hp hg;generalize oneF (valsF l zlE)=t at *;generalize getP (xI (oneF (valsF l rG)).1).1.params zg9=x at *;generalize getP (xI (oneF (valsF l rG)).1).1.params ztr=f at *;generalize getP (xI (oneF (valsF l rG)).1).1.params zvK=n at *;generalize xI (oneF (valsF l rG)).1=m at *;generalize oneF (valsF l rG)=a at *;unfold zsG zvw partT at hr
 (repeat' (first|refine ja ?_ ?_|intro _))<;>first|omega|exact jb|exact jc ‹False›|skip
 all_goals first
  |omega
  |exact hl
  |exact hk1
  |exact hk2
  |exact(hf _ ‹_›).1
  |exact(hf _ ‹_›).2
  |exact absurd (‹extB x.fst=true›.symm.trans ‹extB x.fst=false›) (by decide)
  |(subst hr;clear hf hX hv hg1 hg2 hx hpl hl hk1 hk2;simp [*,prt0];done)
def zli:Know Tryz.prog:=⟨237,QC,zlj⟩
def zlh:Know Tryz.prog:=⟨237,fun I=>zx I (QC I),zf zlj⟩
end Go.Proofs.YtnpmenpjagcheaaGreatDoor
namespace Go.Proofs.YtnpmenpjagcheaaGreatDoor
open Go Go.Sep Go.Ab
set_option maxRecDepth 100000
def zwB:Cfg:= { sl:=[⟨154,0,.byte,some 5⟩]}
def Qk (I:Alg):KU
 |[],[]=>some (.one ⟨I.hid (True),(.ret (.v (.one (.ptr 0 0)))),[.pack [.obj 154 [.row 1,.p (.bool false),.p (.int .i64 0)],.row .byte 5 (I.hid ([]))]]⟩)
 |_,_=>none
theorem zkK:zu Tryz.prog 67 (Qk alg):=by
 intro args hp r h;unfold Qk at h;split at h<;>cases h
 simp only [CT.Good,zh];intro _
 refine spH Tryz.func67 (by kernel_rfl) { zwB with keep:=some [0]} [] (by kernel_rfl) ?_
 intro I X hI hX
 refine orcL ?_;go_invoke;refine orcS (by kernel_rfl) ?_
 simp only [zi,Nat.reduceAdd];trivial
def Qj:Know Tryz.prog:=⟨67,Qk,zkK⟩
def Qi:Know Tryz.prog:=⟨67,fun I=>zx I (Qk I),zf zkK⟩
def Vk (I:Alg):KU
 |[.v (.one (.ptr 0 0)),.v (.one (.p (.int .i64 c)))],[.pack [.obj 154 [.row 1,.p (.bool cr),.p (.int .i64 code)],.row .byte 5 b]]=>(fun(b:Str)=>(some (.one ⟨I.hid (True),(.ret (.tup [.one (.p (.str (I.hid ([])))),.one (.p (.bool false)),.one (.p (.int .i64 c))])),[.pack [.obj 154 [.row 1,.p (.bool cr),.p (.int .i64 c)],.row .byte 5 b]]⟩):Option CT)) b
 |_,_=>none
theorem zf3:zu Tryz.prog 161 (Vk alg):=by
 intro args hp r h;unfold Vk at h;split at h<;>cases h
 rename_i c cr code b;simp only [CT.Good,zh];intro _
 refine spH Tryz.func161 (by kernel_rfl) { zwB with keep:=some [0,1,4,5,6]} [] (by kernel_rfl) ?_
 intro I X hI hX
 refine orcL ?_;go_invoke;refine orcS (by kernel_rfl) ?_
 simp only [zi,Nat.reduceAdd];subst hI;simp only [nrmA,nrmB,nrlB,reduceCtorEq,HO.pack.injEq,HO.obj.injEq]
 try trivial
def zpw:Know Tryz.prog:=⟨161,Vk,zf3⟩
def zpv:Know Tryz.prog:=⟨161,fun I=>zx I (Vk I),zf zf3⟩
def Vj (I:Alg):KU
 |[.v (.one (.ptr 0 0)),.v (.one (.p (.int .u8 k)))],[.pack [.obj 154 [.row 1,.p (.bool cr),.p (.int .i64 code)],.row .byte 5 b]]=>(fun(b:Str)=>(some (.one ⟨I.hid (0≤k∧k≤255∧b.length≤1000000),(.ret (.tup [.one (.p (.str (I.hid ((lnF ⟨b,cr,code⟩ (UInt8.ofNat k.toNat)).2.1)))),.one (.p (.bool (I.hid ((lnF ⟨b,cr,code⟩ (UInt8.ofNat k.toNat)).2.2.1)))),.one (.p (.int .i64 (I.hid ((lnF ⟨b,cr,code⟩ (UInt8.ofNat k.toNat)).2.2.2))))])),[.pack [.obj 154 [.row 1,.p (.bool (I.hid ((lnF ⟨b,cr,code⟩ (UInt8.ofNat k.toNat)).1.cr))),.p (.int .i64 (I.hid ((lnF ⟨b,cr,code⟩ (UInt8.ofNat k.toNat)).1.code)))],.row .byte 5 (I.hid ((lnF ⟨b,cr,code⟩ (UInt8.ofNat k.toNat)).1.b))]]⟩):Option CT)) b
 |_,_=>none
set_option maxHeartbeats 4000000 in
theorem zf2:zu Tryz.prog 126 (Vj alg):=by
 intro args hp r h;unfold Vj at h;split at h<;>cases h
 rename_i k cr code b;simp only [CT.Good,zh];intro hneed;obtain⟨hk0,hk1,hbl⟩:=hneed
 have hkk:((UInt8.ofNat k.toNat).toNat:Int)=k:=by rw [UInt8.toNat_ofNat',Nat.mod_eq_of_lt (by omega)];omega
 generalize hr:lnF ⟨b,cr,code⟩ (UInt8.ofNat k.toNat)=r
 have h10:UInt8.ofNat k.toNat=10↔k=10:=⟨fun h=>by rw [h] at hkk;exact hkk.symm,fun h=>by subst h;rfl⟩
 have h13:UInt8.ofNat k.toNat=13↔k=13:=⟨fun h=>by rw [h] at hkk;exact hkk.symm,fun h=>by subst h;rfl⟩
 unfold lnF zw8 at hr;rw [hkk] at hr;simp only [h10,h13] at hr;obtain⟨⟨rb,rc,rcode⟩,rt,ro,re⟩:=r
 refine spH Tryz.func126 (by kernel_rfl) { zwB with nr:=[8],keep:=some [0,1,4,5,6,7]} [wS,sD,zpw,zpv] (by kernel_rfl) ?_
 intro I X hI hX
 refine orcL ?_;go_invoke;refine orcS (by kernel_rfl) ?_
 simp only [zi,Nat.reduceAdd];subst hI;simp only [nrmA,nrmB,nrlB,reduceCtorEq,HO.pack.injEq,HO.obj.injEq];generalize UInt8.ofNat k.toNat=c at *;cases cr
 all_goals simp only [jd,if_false,if_true] at hr
 all_goals(repeat' (first|refine ja ?_ ?_|intro _))<;>first|omega|exact jb|exact jc ‹False›|skip
 all_goals first
  |omega
  |(exfalso;simp at *;done)
  |(((repeat(first|rewrite [if_pos (by first|omega|assumption|(simp only [*,or_self,or_true,true_or,or_false,false_or,jf,jg,jd,je,and_self,and_true,true_and];done)|(simp only [*];omega)|(simp [*];done)|(simp [*];omega))] at hr|rewrite [if_neg (by first|omega|assumption|(simp only [*,or_self,or_true,true_or,or_false,false_or,jf,jg,jd,je,and_self,and_true,true_and];done)|(simp only [*];omega)|(simp [*];done)|(simp [*];omega))] at hr)));cases hr;first|rfl|done|with_reducible assumption|exact⟨rfl,rfl,rfl⟩|(simp;done)|(simp;omega))
def sV:Know Tryz.prog:=⟨126,Vj,zf2⟩
def sU:Know Tryz.prog:=⟨126,fun I=>zx I (Vj I),zf zf2⟩
end Go.Proofs.YtnpmenpjagcheaaGreatDoor
namespace Go.Proofs.YtnpmenpjagcheaaGreatDoor
open Go Go.Sep Go.Ab
set_option maxRecDepth 100000
def cfgF:Cfg:= { sl:=[⟨154,0,.byte,some 5⟩,⟨278,0,.byte,some 5⟩,⟨278,1,.int,some 3⟩,⟨275,3,.fld,some 144⟩,⟨275,7,.evt,some 138⟩]}
def wX (f:Fm):Prop:=f.out.length≤10000000
def fm9 (f:Fm):Prop:=f.out.length≤9000000
theorem u8k {k:Int} (h0:0≤k) (h1:k≤255) (n:Nat) (hn:n<256):(UInt8.ofNat k.toNat=UInt8.ofNat n)=(k=n):=by
 rw [← UInt8.toNat_inj,UInt8.toNat_ofNat',UInt8.toNat_ofNat',Nat.mod_eq_of_lt hn,Nat.mod_eq_of_lt (by omega)]
 exact propext ⟨fun h=>by omega,fun h=>by omega⟩
def VD (I:Alg):KU
 |[.v (.one (.ptr 0 0)),.v (.agg [.p (.int .i64 k),.p (.str ea),.p (.str eb),.p (.int .i64 ei),.p (.list .fld ef),.p (.int .i64 en),.p (.list .byte ebs),.p (.str ex),.p (.str ey),.p (.str ez),.p (.nl et),.p (.int .i64 ec)])],[.abs (.fm ⟨m,hd,bs,p,none,fs,pa,sk,co,out⟩)]=>(fun(m:Str) (bs:List Int) (fs:List Fld) (out:List Evt) (ea eb:Str) (ef:List Fld) (ebs ex ey ez et:Str)=>(some (.one ⟨I.hid (wX ⟨m,hd,bs,p,none,fs,pa,sk,co,out⟩),(.ret (.tup [])),[.abs (.fm ⟨m,hd,bs,p,none,fs,pa,sk,co,(I.hid (out++[⟨k,⟨ea,eb,ei,ef,en⟩,ebs,⟨ex,ey,ez,et⟩,ec⟩]))⟩)]⟩):Option CT)) m bs fs out ea eb ef ebs ex ey ez et
 |_,_=>none
theorem zgU:zu Tryz.prog 235 (VD alg):=by
 intro args hp r h;unfold VD at h;split at h<;>cases h
 rename_i k ea eb ei ef en ebs ex ey ez et ec m hd bs p fs pa sk co out
 revert ef bs fs out;intro(ef:List Fld) (bs:List Int) (fs:List Fld) (out:List Evt)
 simp only [CT.Good,zh];intro hneed;unfold wX at hneed;simp only at hneed
 refine spH Tryz.func235 (by kernel_rfl) { cfgF with keep:=some [0,1,3]} [] (by kernel_rfl) ?_
 intro I X hI hX
 refine orcL ?_;go_invoke;refine orcS (by kernel_rfl) ?_
 simp only [zi,Nat.reduceAdd];subst hI;simp only [nrmA,nrmB,nrlB,reduceCtorEq,HO.abs.injEq,Gh.fm.injEq,Fm.mk.injEq]
 (repeat' (first|refine ja ?_ ?_|intro _))<;>first|omega|exact jb|exact jc ‹False›|skip
 all_goals first
  |omega
  |rfl
  |with_reducible assumption
  |(simp only [jh,ji];omega)
  |(unfold wX;simp only;omega)
  |(simp;done)
def vH:Know Tryz.prog:=⟨235,VD,zgU⟩
def vG:Know Tryz.prog:=⟨235,fun I=>zx I (VD I),zf zgU⟩
def VB (I:Alg):KU
 |[.v (.one (.ptr 0 0)),.v (.agg [.p (.int .i64 k),.p (.str ea),.p (.str eb),.p (.int .i64 ei),.p (.list .fld ef),.p (.int .i64 en),.p (.list .byte ebs),.p (.str ex),.p (.str ey),.p (.str ez),.p (.nl et),.p (.int .i64 ec)])],[.abs (.fm ⟨m,hd,bs,p,some ln,fs,pa,sk,co,out⟩)]=>(fun(m:Str) (bs:List Int) (fs:List Fld) (out:List Evt) (ea eb:Str) (ef:List Fld) (ebs ex ey ez et:Str)=>(some (.one ⟨I.hid (wX ⟨m,hd,bs,p,some ln,fs,pa,sk,co,out⟩),(.ret (.tup [])),[.abs (.fm ⟨m,hd,bs,p,some ln,fs,pa,sk,co,(I.hid (out++[⟨k,⟨ea,eb,ei,ef,en⟩,ebs,⟨ex,ey,ez,et⟩,ec⟩]))⟩)]⟩):Option CT)) m bs fs out ea eb ef ebs ex ey ez et
 |_,_=>none
theorem zgT:zu Tryz.prog 235 (VB alg):=by
 intro args hp r h;unfold VB at h;split at h<;>cases h
 rename_i k ea eb ei ef en ebs ex ey ez et ec m hd bs p ln fs pa sk co out
 revert ef bs fs out;intro(ef:List Fld) (bs:List Int) (fs:List Fld) (out:List Evt)
 simp only [CT.Good,zh];intro hneed;unfold wX at hneed;simp only at hneed
 refine spH Tryz.func235 (by kernel_rfl) { cfgF with keep:=some [0,1,3]} [vH,vG] (by kernel_rfl) ?_
 intro I X hI hX
 refine orcL ?_;go_invoke;refine orcS (by kernel_rfl) ?_
 simp only [zi,Nat.reduceAdd];subst hI;simp only [nrmA,nrmB,nrlB,reduceCtorEq,HO.abs.injEq,Gh.fm.injEq,Fm.mk.injEq]
 (repeat' (first|refine ja ?_ ?_|intro _))<;>first|omega|exact jb|exact jc ‹False›|skip
 all_goals first
  |omega
  |rfl
  |with_reducible assumption
  |(simp only [jh,ji];omega)
  |(unfold wX;simp only;omega)
  |(simp;done)
def uM:Know Tryz.prog:=⟨235,VB,zgT⟩
def uK:Know Tryz.prog:=⟨235,fun I=>zx I (VB I),zf zgT⟩
theorem zk8 (m:Str) (hd:Int) (bs:List Int) (p:Int) (fs:List Fld) (pa sk co:Int) (out:List Evt) (c:Int) (hneed:wX ⟨m,hd,bs,p,none,fs,pa,sk,co,out⟩):Spc Tryz.prog 233 [.v (.one (.ptr 0 0)),.v (.one (.p (.int .i64 c)))] [.abs (.fm ⟨m,hd,bs,p,none,fs,pa,sk,co,out⟩)] (.ret (.tup [])) [.abs (.fm ((xg ⟨m,hd,bs,p,none,fs,pa,sk,co,out⟩ c)))]:=by
 unfold wX at hneed;simp only at hneed
 refine spH Tryz.func233 (by kernel_rfl) { cfgF with keep:=some [0,1]} [vH,vG,uM,uK] (by kernel_rfl) ?_
 intro I X hI hX
 refine orcL ?_;go_invoke;refine orcS (by kernel_rfl) ?_
 simp only [zi,Nat.reduceAdd];subst hI;simp only [nrmA,nrmB,nrlB,reduceCtorEq,HO.abs.injEq,Gh.fm.injEq,Fm.mk.injEq]
 (repeat' (first|refine ja ?_ ?_|intro _))<;>first|omega|exact jb|exact jc ‹False›|skip
 all_goals first
  |omega
  |rfl
  |with_reducible assumption
  |(simp only [jh,ji];omega)
  |(unfold wX;simp only;omega)
  |(simp;done)
def Xc (I:Alg):KU
 |[.v (.one (.ptr 0 0)),.v (.one (.p (.int .i64 c)))],[.abs (.fm ⟨m,hd,bs,p,none,fs,pa,sk,co,out⟩)]=>(fun(m:Str) (bs:List Int) (fs:List Fld) (out:List Evt)=>(some (.one ⟨I.hid (wX ⟨m,hd,bs,p,none,fs,pa,sk,co,out⟩),(.ret (.tup [])),[.abs (.fm (I.hid (xg ⟨m,hd,bs,p,none,fs,pa,sk,co,out⟩ c)))]⟩):Option CT)) m bs fs out
 |_,_=>none
theorem zcI:zu Tryz.prog 233 (Xc alg):=by
 intro args hp r h;unfold Xc at h
 split at h
 · cases h;exact fun hn=>zk8 _ _ _ _ _ _ _ _ _ _ hn
 · cases h
def zmR:Know Tryz.prog:=⟨233,Xc,zcI⟩
def zmQ:Know Tryz.prog:=⟨233,fun I=>zx I (Xc I),zf zcI⟩
theorem ztn (m:Str) (hd:Int) (bs:List Int) (p:Int) (ln:Ln) (fs:List Fld) (pa sk co:Int) (out:List Evt) (c:Int) (hneed:wX ⟨m,hd,bs,p,some ln,fs,pa,sk,co,out⟩):Spc Tryz.prog 233 [.v (.one (.ptr 0 0)),.v (.one (.p (.int .i64 c)))] [.abs (.fm ⟨m,hd,bs,p,some ln,fs,pa,sk,co,out⟩)] (.ret (.tup [])) [.abs (.fm ((xg ⟨m,hd,bs,p,some ln,fs,pa,sk,co,out⟩ c)))]:=by
 unfold wX at hneed;simp only at hneed
 refine spH Tryz.func233 (by kernel_rfl) { cfgF with keep:=some [0,1]} [vH,vG,uM,uK,zmR,zmQ] (by kernel_rfl) ?_
 intro I X hI hX
 refine orcL ?_;go_invoke;refine orcS (by kernel_rfl) ?_
 simp only [zi,Nat.reduceAdd];subst hI;simp only [nrmA,nrmB,nrlB,reduceCtorEq,HO.abs.injEq,Gh.fm.injEq,Fm.mk.injEq]
 (repeat' (first|refine ja ?_ ?_|intro _))<;>first|omega|exact jb|exact jc ‹False›|skip
 all_goals first
  |omega
  |rfl
  |with_reducible assumption
  |(simp only [jh,ji];omega)
  |(unfold wX;simp only;omega)
  |(simp;done)
def VI (I:Alg):KU
 |[.v (.one (.ptr 0 0)),.v (.one (.p (.int .i64 c)))],[.abs (.fm f)]=>some (.one ⟨I.hid (wX f),(.ret (.tup [])),[.abs (.fm (I.hid (xg f c)))]⟩)
 |_,_=>none
theorem zg2:zu Tryz.prog 233 (VI alg):=by
 intro args hp r h;unfold VI at h;split at h<;>cases h
 rename_i c f;simp only [CT.Good,zh];intro hneed;obtain⟨m,hd,bs,p,ln,fs,pa,sk,co,out⟩:=f
 cases ln with
 |none=>exact zk8 m hd bs p fs pa sk co out c hneed
 |some ln=>exact ztn m hd bs p ln fs pa sk co out c hneed
def uP:Know Tryz.prog:=⟨233,VI,zg2⟩
def uO:Know Tryz.prog:=⟨233,fun I=>zx I (VI I),zf zg2⟩
theorem zcN (m:Str) (hd:Int) (bs:List Int) (p:Int) (fs:List Fld) (pa sk co:Int) (out:List Evt) (k:Int) (hneed:wX ⟨m,hd,bs,p,none,fs,pa,sk,co,out⟩∧0≤k∧k≤255):Spc Tryz.prog 232 [.v (.one (.ptr 0 0)),.v (.one (.p (.int .u8 k)))] [.abs (.fm ⟨m,hd,bs,p,none,fs,pa,sk,co,out⟩)] (.ret (.tup [])) [.abs (.fm ((wu ⟨m,hd,bs,p,none,fs,pa,sk,co,out⟩ (UInt8.ofNat k.toNat))))]:=by
 obtain⟨hneed,h0,h1⟩:=hneed;have hc:=fun n=>u8k h0 h1 n
 have h45:(UInt8.ofNat k.toNat=45)=(k=45):=hc 45 (by decide)
 have h32:(UInt8.ofNat k.toNat=32)=(k=32):=hc 32 (by decide)
 have h9:(UInt8.ofNat k.toNat=9)=(k=9):=hc 9 (by decide)
 have h13:(UInt8.ofNat k.toNat=13)=(k=13):=hc 13 (by decide)
 clear hc;generalize UInt8.ofNat k.toNat=c at *;unfold wX at hneed;simp only at hneed;generalize hr:wu ⟨m,hd,bs,p,none,fs,pa,sk,co,out⟩ c=r;unfold wu at hr;simp only [h45,h32,h9,h13] at hr
 refine spH Tryz.func232 (by kernel_rfl) { cfgF with keep:=some [0,1,4]} [vH,vG,uM,uK,uP,uO] (by kernel_rfl) ?_
 intro I X hI hX
 refine orcL ?_;go_invoke;refine orcS (by kernel_rfl) ?_
 simp only [zi,Nat.reduceAdd];subst hI;simp only [nrmA,nrmB,nrlB,reduceCtorEq,HO.abs.injEq,Gh.fm.injEq]
 (repeat' (first|refine ja ?_ ?_|intro _))<;>first|omega|exact jb|exact jc ‹False›|skip
 all_goals first
  |omega
  |(unfold wX;simp only;omega)
  |(subst hr;simp [*,xg,evE,hd0,prt0];done)
def ql (I:Alg):KU
 |[.v (.one (.ptr 0 0)),.v (.one (.p (.int .u8 k)))],[.abs (.fm ⟨m,hd,bs,p,none,fs,pa,sk,co,out⟩)]=>(fun(m:Str) (bs:List Int) (fs:List Fld) (out:List Evt)=>(some (.one ⟨I.hid (wX ⟨m,hd,bs,p,none,fs,pa,sk,co,out⟩∧0≤k∧k≤255),(.ret (.tup [])),[.abs (.fm (I.hid (wu ⟨m,hd,bs,p,none,fs,pa,sk,co,out⟩ (UInt8.ofNat k.toNat))))]⟩):Option CT)) m bs fs out
 |_,_=>none
theorem TV:zu Tryz.prog 232 (ql alg):=by
 intro args hp r h;unfold ql at h
 split at h
 · cases h;exact fun hn=>zcN _ _ _ _ _ _ _ _ _ _ hn
 · cases h
def zg5:Know Tryz.prog:=⟨232,ql,TV⟩
def zg4:Know Tryz.prog:=⟨232,fun I=>zx I (ql I),zf TV⟩
theorem zmS (m:Str) (hd:Int) (bs:List Int) (p:Int) (ln:Ln) (fs:List Fld) (pa sk co:Int) (out:List Evt) (k:Int) (hneed:wX ⟨m,hd,bs,p,some ln,fs,pa,sk,co,out⟩∧0≤k∧k≤255):Spc Tryz.prog 232 [.v (.one (.ptr 0 0)),.v (.one (.p (.int .u8 k)))] [.abs (.fm ⟨m,hd,bs,p,some ln,fs,pa,sk,co,out⟩)] (.ret (.tup [])) [.abs (.fm ((wu ⟨m,hd,bs,p,some ln,fs,pa,sk,co,out⟩ (UInt8.ofNat k.toNat))))]:=by
 obtain⟨hneed,h0,h1⟩:=hneed;have hc:=fun n=>u8k h0 h1 n
 have h45:(UInt8.ofNat k.toNat=45)=(k=45):=hc 45 (by decide)
 have h32:(UInt8.ofNat k.toNat=32)=(k=32):=hc 32 (by decide)
 have h9:(UInt8.ofNat k.toNat=9)=(k=9):=hc 9 (by decide)
 have h13:(UInt8.ofNat k.toNat=13)=(k=13):=hc 13 (by decide)
 clear hc;generalize UInt8.ofNat k.toNat=c at *;unfold wX at hneed;simp only at hneed;generalize hr:wu ⟨m,hd,bs,p,some ln,fs,pa,sk,co,out⟩ c=r;unfold wu at hr;simp only [h45,h32,h9,h13] at hr
 refine spH Tryz.func232 (by kernel_rfl) { cfgF with keep:=some [0,1,4]} [vH,vG,uM,uK,uP,uO,zg5,zg4] (by kernel_rfl) ?_
 intro I X hI hX
 refine orcL ?_;go_invoke;refine orcS (by kernel_rfl) ?_
 simp only [zi,Nat.reduceAdd];subst hI;simp only [nrmA,nrmB,nrlB,reduceCtorEq,HO.abs.injEq,Gh.fm.injEq]
 (repeat' (first|refine ja ?_ ?_|intro _))<;>first|omega|exact jb|exact jc ‹False›|skip
 all_goals first
  |omega
  |(unfold wX;simp only;omega)
  |(subst hr;simp [*,xg,evE,hd0,prt0];done)
def Zy (I:Alg):KU
 |[.v (.one (.ptr 0 0)),.v (.one (.p (.int .u8 k)))],[.abs (.fm f)]=>some (.one ⟨I.hid (wX f∧0≤k∧k≤255),(.ret (.tup [])),[.abs (.fm (I.hid (wu f (UInt8.ofNat k.toNat))))]⟩)
 |_,_=>none
theorem zbk:zu Tryz.prog 232 (Zy alg):=by
 intro args hp r h;unfold Zy at h;split at h<;>cases h
 rename_i k f;simp only [CT.Good,zh];intro hneed;obtain⟨m,hd,bs,p,ln,fs,pa,sk,co,out⟩:=f
 cases ln with
 |none=>exact zcN m hd bs p fs pa sk co out k hneed
 |some ln=>exact zmS m hd bs p ln fs pa sk co out k hneed
def zbj:Know Tryz.prog:=⟨232,Zy,zbk⟩
def zbi:Know Tryz.prog:=⟨232,fun I=>zx I (Zy I),zf zbk⟩
structure FmS (f:Fm):Prop where
 bs:f.bs=SH f.mark
 ml:f.mark.length≤1000000
 h0:0≤f.held
 h1:f.mark=[]∨f.held<f.mark.length
 s0:0≤f.skip∧f.skip≤2
theorem zg3 (m:Str) (hd:Int) (bs:List Int) (p:Int) (fs:List Fld) (pa sk co:Int) (out:List Evt) (k:Int) (hneed:fm9 ⟨m,hd,bs,p,none,fs,pa,sk,co,out⟩∧FmS ⟨m,hd,bs,p,none,fs,pa,sk,co,out⟩∧0≤k∧k≤255):Spc Tryz.prog 231 [.v (.one (.ptr 0 0)),.v (.one (.p (.int .u8 k)))] [.abs (.fm ⟨m,hd,bs,p,none,fs,pa,sk,co,out⟩)] (.ret (.tup [])) [.abs (.fm ((vI ⟨m,hd,bs,p,none,fs,pa,sk,co,out⟩ (UInt8.ofNat k.toNat))))]:=by
 obtain⟨hneed,⟨hbs,hml,hh0,hh1,hs0⟩,h0,h1⟩:=hneed;unfold fm9 at hneed;simp only at hneed hbs hml hh0 hh1 hs0;generalize hr:vI ⟨m,hd,bs,p,none,fs,pa,sk,co,out⟩ (UInt8.ofNat k.toNat)=r;unfold vI uV fmSk at hr;simp only [Int.min_def] at hr
 refine spH Tryz.func231 (by kernel_rfl) { cfgF with fz:=[235],keep:=some [0,1,4,5,6]} [U5,U4,vH,vG,uM,uK] (by kernel_rfl) ?_
 intro I X hI hX
 refine orcL ?_;go_invoke;refine orcS (by kernel_rfl) ?_
 simp only [zi,Nat.reduceAdd];generalize rE m hd.toNat (UInt8.ofNat k.toNat)=q at *;obtain⟨o,n2,fd⟩:=q;subst hI;simp only [nrmA,nrmB,nrlB,reduceCtorEq,HO.abs.injEq,Gh.fm.injEq];simp only at hr
 have hn:0≤(if sk≤(o.length:Int) then sk else(o.length:Int))∧(if sk≤(o.length:Int) then sk else(o.length:Int))≤o.length∧(if sk≤(o.length:Int) then sk else(o.length:Int))≤sk:=by split<;>omega
 generalize(if sk≤(o.length:Int) then sk else(o.length:Int))=n at *
 rw [jq (show(o.drop n.toNat).length≤o.length - n.toNat by rw [jC];exact jL _)]
 have hne:0<(o.length:Int) - n→¬ o.drop n.toNat=[]:=fun h k=>by have:=congrArg List.length k;rw [jC,ji] at this;omega
 have hnn: ¬ 0<(o.length:Int) - n→o.drop n.toNat=[]:=fun h=>jF (by omega)
 generalize o.drop n.toNat=D at *
 (repeat' (first|refine ja ?_ ?_|intro _))<;>first|omega|exact jb|exact jc ‹False›|skip
 all_goals first
  |omega
  |with_reducible assumption
  |(unfold wX;simp only [jk,jr];omega)
  |(have hne:=hne (by omega);clear hnn;subst hr;simp [*,evB,evO,hd0,prt0];done)
  |(have hnn:=hnn (by omega);clear hne;subst hr;simp [*,evB,evO,hd0,prt0];done)
  |(clear hne hnn;subst hr;simp [*,evB,evO,hd0,prt0];done)
def Zx (I:Alg):KU
 |[.v (.one (.ptr 0 0)),.v (.one (.p (.int .u8 k)))],[.abs (.fm ⟨m,hd,bs,p,none,fs,pa,sk,co,out⟩)]=>(fun(m:Str) (bs:List Int) (fs:List Fld) (out:List Evt)=>(some (.one ⟨I.hid (fm9 ⟨m,hd,bs,p,none,fs,pa,sk,co,out⟩∧FmS ⟨m,hd,bs,p,none,fs,pa,sk,co,out⟩∧0≤k∧k≤255),(.ret (.tup [])),[.abs (.fm (I.hid (vI ⟨m,hd,bs,p,none,fs,pa,sk,co,out⟩ (UInt8.ofNat k.toNat))))]⟩):Option CT)) m bs fs out
 |_,_=>none
theorem zbh:zu Tryz.prog 231 (Zx alg):=by
 intro args hp r h;unfold Zx at h
 split at h
 · cases h;exact fun hn=>zg3 _ _ _ _ _ _ _ _ _ _ hn
 · cases h
def ziH:Know Tryz.prog:=⟨231,Zx,zbh⟩
def ziG:Know Tryz.prog:=⟨231,fun I=>zx I (Zx I),zf zbh⟩
theorem zqi (m:Str) (hd:Int) (bs:List Int) (p:Int) (ln:Ln) (fs:List Fld) (pa sk co:Int) (out:List Evt) (k:Int) (hneed:fm9 ⟨m,hd,bs,p,some ln,fs,pa,sk,co,out⟩∧FmS ⟨m,hd,bs,p,some ln,fs,pa,sk,co,out⟩∧0≤k∧k≤255):Spc Tryz.prog 231 [.v (.one (.ptr 0 0)),.v (.one (.p (.int .u8 k)))] [.abs (.fm ⟨m,hd,bs,p,some ln,fs,pa,sk,co,out⟩)] (.ret (.tup [])) [.abs (.fm ((vI ⟨m,hd,bs,p,some ln,fs,pa,sk,co,out⟩ (UInt8.ofNat k.toNat))))]:=by
 obtain⟨hneed,⟨hbs,hml,hh0,hh1,hs0⟩,h0,h1⟩:=hneed;unfold fm9 at hneed;simp only at hneed hbs hml hh0 hh1 hs0;generalize hr:vI ⟨m,hd,bs,p,some ln,fs,pa,sk,co,out⟩ (UInt8.ofNat k.toNat)=r;unfold vI uV fmSk at hr;simp only [Int.min_def] at hr
 refine spH Tryz.func231 (by kernel_rfl) { cfgF with fz:=[235],keep:=some [0,1,4,5,6]} [U5,U4,vH,vG,uM,uK,ziH,ziG] (by kernel_rfl) ?_
 intro I X hI hX
 refine orcL ?_;go_invoke;refine orcS (by kernel_rfl) ?_
 simp only [zi,Nat.reduceAdd];generalize rE m hd.toNat (UInt8.ofNat k.toNat)=q at *;obtain⟨o,n2,fd⟩:=q;subst hI;simp only [nrmA,nrmB,nrlB,reduceCtorEq,HO.abs.injEq,Gh.fm.injEq];simp only at hr
 have hn:0≤(if sk≤(o.length:Int) then sk else(o.length:Int))∧(if sk≤(o.length:Int) then sk else(o.length:Int))≤o.length∧(if sk≤(o.length:Int) then sk else(o.length:Int))≤sk:=by split<;>omega
 generalize(if sk≤(o.length:Int) then sk else(o.length:Int))=n at *
 rw [jq (show(o.drop n.toNat).length≤o.length - n.toNat by rw [jC];exact jL _)]
 have hne:0<(o.length:Int) - n→¬ o.drop n.toNat=[]:=fun h k=>by have:=congrArg List.length k;rw [jC,ji] at this;omega
 have hnn: ¬ 0<(o.length:Int) - n→o.drop n.toNat=[]:=fun h=>jF (by omega)
 generalize o.drop n.toNat=D at *
 (repeat' (first|refine ja ?_ ?_|intro _))<;>first|omega|exact jb|exact jc ‹False›|skip
 all_goals first
  |omega
  |with_reducible assumption
  |(unfold wX;simp only [jk,jr];omega)
  |(have hne:=hne (by omega);clear hnn;subst hr;simp [*,evB,evO,hd0,prt0];done)
  |(have hnn:=hnn (by omega);clear hne;subst hr;simp [*,evB,evO,hd0,prt0];done)
  |(clear hne hnn;subst hr;simp [*,evB,evO,hd0,prt0];done)
def Xe (I:Alg):KU
 |[.v (.one (.ptr 0 0)),.v (.one (.p (.int .u8 k)))],[.abs (.fm f)]=>some (.one ⟨I.hid (fm9 f∧FmS f∧0≤k∧k≤255),(.ret (.tup [])),[.abs (.fm (I.hid (vI f (UInt8.ofNat k.toNat))))]⟩)
 |_,_=>none
theorem zcM:zu Tryz.prog 231 (Xe alg):=by
 intro args hp r h;unfold Xe at h;split at h<;>cases h
 rename_i k f;simp only [CT.Good,zh];intro hneed;obtain⟨m,hd,bs,p,ln,fs,pa,sk,co,out⟩:=f
 cases ln with
 |none=>exact zg3 m hd bs p fs pa sk co out k hneed
 |some ln=>exact zqi m hd bs p ln fs pa sk co out k hneed
def zcL:Know Tryz.prog:=⟨231,Xe,zcM⟩
def zcK:Know Tryz.prog:=⟨231,fun I=>zx I (Xe I),zf zcM⟩
end Go.Proofs.YtnpmenpjagcheaaGreatDoor
namespace Go.Proofs.YtnpmenpjagcheaaGreatDoor
open Go Go.Sep Go.Ab
set_option maxRecDepth 100000
theorem ztt (m:Str) (n:Nat) (c:UInt8):m=[]∨(rE m n c).2.1<m.length:=by
 unfold rE
 by_cases h:m=[]
 · exact .inl h
 · rw [if_neg h]
   have h0:0<m.length:=by cases m<;>simp_all
   unfold P.feed;simp only
   repeat' split
   all_goals first|exact .inr h0|(right;assumption)
theorem VJ (m:Str) (n:Nat) (c:UInt8):m=[]∨(((rE m n c).2.1:Nat):Int)<m.length:=(ztt m n c).imp id fun h=>by omega
theorem zib (l:List Fld):(Zn l).1.bytes=[]:=by
 unfold Zn zsG
 repeat' split
 all_goals rfl
def FdOk (f:List Fld):Prop:=f.length≤1000∧∀ x ∈ f,x.name.length≤1000000∧x.value.length≤1000000
structure FmB (f:Fm):Prop where
 few:f.out.length≤9000000
 sk:FmS f
 fd:FdOk f.fields
 p0:0≤f.parts∧f.parts≤12
theorem zql (m:Str) (hd:Int) (bs:List Int) (p:Int) (fs:List Fld) (pa sk co:Int) (out:List Evt) (hneed:FmB ⟨m,hd,bs,p,none,fs,pa,sk,co,out⟩):Spc Tryz.prog 236 [.v (.one (.ptr 0 0))] [.abs (.fm ⟨m,hd,bs,p,none,fs,pa,sk,co,out⟩)] (.ret (.tup [])) [.abs (.fm ((wE ⟨m,hd,bs,p,none,fs,pa,sk,co,out⟩)))]:=by
 obtain⟨h9,⟨hbs,hml,hh0,hh1,hs0⟩,⟨hfl,hff⟩,hp0⟩:=hneed;simp only at h9 hbs hml hh0 hh1 hs0 hfl hff hp0;generalize hr:wE ⟨m,hd,bs,p,none,fs,pa,sk,co,out⟩=r;have hb:=zib fs;unfold wE at hr;simp only [xg,fmSk,evP,evF,jJ] at hr
 refine spH Tryz.func236 (by kernel_rfl) { cfgF with keep:=some [0,2,3]} [U5,U4,zli,zlh,vH,vG,uM,uK,uP,uO] (by kernel_rfl) ?_
 intro I X hI hX
 refine orcL ?_;go_invoke;refine orcS (by kernel_rfl) ?_
 simp only [zi,Nat.reduceAdd];have hl1:=VJ m hd.toNat 13;generalize Zn fs=P at *;obtain⟨⟨a,b,c,d⟩,e⟩:=P;simp only at hb hr;subst hb;subst hI;simp only [nrmA,nrmB,nrlB,reduceCtorEq,HO.abs.injEq,Gh.fm.injEq]
 (repeat' (first|refine ja ?_ ?_|intro _))<;>first|omega|exact jb|exact jc ‹False›|skip
 all_goals first
  |omega
  |with_reducible assumption
  |exact(hff _ ‹_›).1
  |exact(hff _ ‹_›).2
  |(unfold wX;simp only [jk,jr];omega)
  |exact hl1
  |(subst hr;simp [*,evF,hd0,prt0,xg];done)
theorem zqk (m:Str) (hd:Int) (bs:List Int) (p:Int) (ln:Ln) (fs:List Fld) (pa sk co:Int) (out:List Evt) (hneed:FmB ⟨m,hd,bs,p,some ln,fs,pa,sk,co,out⟩):Spc Tryz.prog 236 [.v (.one (.ptr 0 0))] [.abs (.fm ⟨m,hd,bs,p,some ln,fs,pa,sk,co,out⟩)] (.ret (.tup [])) [.abs (.fm ((wE ⟨m,hd,bs,p,some ln,fs,pa,sk,co,out⟩)))]:=by
 obtain⟨h9,⟨hbs,hml,hh0,hh1,hs0⟩,⟨hfl,hff⟩,hp0⟩:=hneed;simp only at h9 hbs hml hh0 hh1 hs0 hfl hff hp0;generalize hr:wE ⟨m,hd,bs,p,some ln,fs,pa,sk,co,out⟩=r;have hb:=zib fs;unfold wE at hr;simp only [xg,fmSk,evP,evF,jJ] at hr
 refine spH Tryz.func236 (by kernel_rfl) { cfgF with keep:=some [0,2,3]} [U5,U4,zli,zlh,vH,vG,uM,uK,uP,uO] (by kernel_rfl) ?_
 intro I X hI hX
 refine orcL ?_;go_invoke;refine orcS (by kernel_rfl) ?_
 simp only [zi,Nat.reduceAdd];have hl1:=VJ m hd.toNat 13;generalize Zn fs=P at *;obtain⟨⟨a,b,c,d⟩,e⟩:=P;simp only at hb hr;subst hb;subst hI;simp only [nrmA,nrmB,nrlB,reduceCtorEq,HO.abs.injEq,Gh.fm.injEq]
 (repeat' (first|refine ja ?_ ?_|intro _))<;>first|omega|exact jb|exact jc ‹False›|skip
 all_goals first
  |omega
  |with_reducible assumption
  |exact(hff _ ‹_›).1
  |exact(hff _ ‹_›).2
  |(unfold wX;simp only [jk,jr];omega)
  |exact hl1
  |(subst hr;simp [*,evF,hd0,prt0,xg];done)
def Xf (I:Alg):KU
 |[.v (.one (.ptr 0 0))],[.abs (.fm f)]=>some (.one ⟨I.hid (FmB f),(.ret (.tup [])),[.abs (.fm (I.hid (wE f)))]⟩)
 |_,_=>none
theorem zcQ:zu Tryz.prog 236 (Xf alg):=by
 intro args hp r h;unfold Xf at h;split at h<;>cases h
 rename_i f;simp only [CT.Good,zh];intro hneed;obtain⟨m,hd,bs,p,ln,fs,pa,sk,co,out⟩:=f
 cases ln with
 |none=>exact zql m hd bs p fs pa sk co out hneed
 |some ln=>exact zqk m hd bs p ln fs pa sk co out hneed
def zcP:Know Tryz.prog:=⟨236,Xf,zcQ⟩
def zcO:Know Tryz.prog:=⟨236,fun I=>zx I (Xf I),zf zcQ⟩
theorem zti (m:Str) (hd:Int) (bs:List Int) (p:Int) (fs:List Fld) (pa sk co:Int) (out:List Evt) (s:Str) (hneed:FmB ⟨m,hd,bs,p,none,fs,pa,sk,co,out⟩∧s.length≤1000000):Spc Tryz.prog 234 [.v (.one (.ptr 0 0)),.v (.one (.p (.str s)))] [.abs (.fm ⟨m,hd,bs,p,none,fs,pa,sk,co,out⟩)] (.ret (.tup [])) [.abs (.fm ((uN ⟨m,hd,bs,p,none,fs,pa,sk,co,out⟩ s)))]:=by
 obtain⟨⟨h9,hS,⟨hfl,hff⟩,hp0⟩,hs⟩:=hneed;simp only at h9 hfl hff hp0;generalize hr:uN ⟨m,hd,bs,p,none,fs,pa,sk,co,out⟩ s=r;unfold uN at hr;simp only at hr
 refine spH Tryz.func234 (by kernel_rfl) { cfgF with keep:=some [0,1,4,5]} [Va,W9,uP,uO,zcP,zcO] (by kernel_rfl) ?_
 intro I X hI hX
 refine orcL ?_;go_invoke;refine orcS (by kernel_rfl) ?_
 simp only [zi,Nat.reduceAdd];generalize uF s=y at *;obtain⟨⟨a,b⟩,e⟩:=y;subst hI;simp only [nrmA,nrmB,nrlB,reduceCtorEq,HO.abs.injEq,Gh.fm.injEq]
 (repeat' (first|refine ja ?_ ?_|intro _))<;>first|omega|exact jb|exact jc ‹False›|skip
 all_goals first
  |omega
  |with_reducible assumption
  |exact⟨h9,hS,⟨hfl,hff⟩,hp0⟩
  |(unfold wX;simp only;omega)
  |(simp only [jr];omega)
  |(subst hr;simp [*,xg];done)
  |(subst hr;rw [if_pos ‹s=[]›];done)
  |(subst hr;rw [if_neg ‹¬ s=[]›,if_pos (by omega)];done)
  |(subst hr;rw [if_neg ‹¬ s=[]›,if_neg (by omega),if_pos ‹¬ e=0›];done)
  |(subst hr;rw [if_neg ‹¬ s=[]›,if_neg (by omega),if_neg (fun h=>h ‹e=0›)];done)
theorem zth (m:Str) (hd:Int) (bs:List Int) (p:Int) (ln:Ln) (fs:List Fld) (pa sk co:Int) (out:List Evt) (s:Str) (hneed:FmB ⟨m,hd,bs,p,some ln,fs,pa,sk,co,out⟩∧s.length≤1000000):Spc Tryz.prog 234 [.v (.one (.ptr 0 0)),.v (.one (.p (.str s)))] [.abs (.fm ⟨m,hd,bs,p,some ln,fs,pa,sk,co,out⟩)] (.ret (.tup [])) [.abs (.fm ((uN ⟨m,hd,bs,p,some ln,fs,pa,sk,co,out⟩ s)))]:=by
 obtain⟨⟨h9,hS,⟨hfl,hff⟩,hp0⟩,hs⟩:=hneed;simp only at h9 hfl hff hp0;generalize hr:uN ⟨m,hd,bs,p,some ln,fs,pa,sk,co,out⟩ s=r;unfold uN at hr;simp only at hr
 refine spH Tryz.func234 (by kernel_rfl) { cfgF with keep:=some [0,1,4,5]} [Va,W9,uP,uO,zcP,zcO] (by kernel_rfl) ?_
 intro I X hI hX
 refine orcL ?_;go_invoke;refine orcS (by kernel_rfl) ?_
 simp only [zi,Nat.reduceAdd];generalize uF s=y at *;obtain⟨⟨a,b⟩,e⟩:=y;subst hI;simp only [nrmA,nrmB,nrlB,reduceCtorEq,HO.abs.injEq,Gh.fm.injEq]
 (repeat' (first|refine ja ?_ ?_|intro _))<;>first|omega|exact jb|exact jc ‹False›|skip
 all_goals first
  |omega
  |with_reducible assumption
  |exact⟨h9,hS,⟨hfl,hff⟩,hp0⟩
  |(unfold wX;simp only;omega)
  |(simp only [jr];omega)
  |(subst hr;simp [*,xg];done)
  |(subst hr;rw [if_pos ‹s=[]›];done)
  |(subst hr;rw [if_neg ‹¬ s=[]›,if_pos (by omega)];done)
  |(subst hr;rw [if_neg ‹¬ s=[]›,if_neg (by omega),if_pos ‹¬ e=0›];done)
  |(subst hr;rw [if_neg ‹¬ s=[]›,if_neg (by omega),if_neg (fun h=>h ‹e=0›)];done)
def VG (I:Alg):KU
 |[.v (.one (.ptr 0 0)),.v (.one (.p (.str s)))],[.abs (.fm f)]=>(fun(s:Str)=>(some (.one ⟨I.hid (FmB f∧s.length≤1000000),(.ret (.tup [])),[.abs (.fm (I.hid (uN f s)))]⟩):Option CT)) s
 |_,_=>none
theorem zgZ:zu Tryz.prog 234 (VG alg):=by
 intro args hp r h;unfold VG at h;split at h<;>cases h
 rename_i s f;simp only [CT.Good,zh];intro hneed;obtain⟨m,hd,bs,p,ln,fs,pa,sk,co,out⟩:=f
 cases ln with
 |none=>exact zti m hd bs p fs pa sk co out s hneed
 |some ln=>exact zth m hd bs p ln fs pa sk co out s hneed
def zgY:Know Tryz.prog:=⟨234,VG,zgZ⟩
def zgX:Know Tryz.prog:=⟨234,fun I=>zx I (VG I),zf zgZ⟩
end Go.Proofs.YtnpmenpjagcheaaGreatDoor
namespace Go.Proofs.YtnpmenpjagcheaaGreatDoor
open Go Go.Sep Go.Ab
set_option maxRecDepth 100000
theorem zfN (s:Str):(uF s).1.name.length≤s.length∧(uF s).1.value.length≤s.length:=by
 have h:=ZA s 58;have ht:=zjr (cutB s 58).2.1 [32,9];unfold uF
 repeat' split
 all_goals simp only [ji]
 all_goals omega
end Go.Proofs.YtnpmenpjagcheaaGreatDoor
namespace Go.Proofs.YtnpmenpjagcheaaGreatDoor
open Go Go.Sep Go.Ab
set_option maxRecDepth 100000
structure FmI (f:Fm) (i:Nat):Prop where
 bs:f.bs=SH f.mark
 ml:f.mark.length≤1000
 h0:0≤f.held
 h1:f.held<f.mark.length
 s0:0≤f.skip∧f.skip≤2
 p0:0≤f.parts∧f.parts≤12
 fl:f.fields.length≤16
 ff: ∀ x ∈ f.fields,x.name.length≤i∧x.value.length≤i
 lb: ∀ l,f.ln=some l→l.b.length≤i
 p5:f.pos=5→f.ln≠none
 on:f.out.length≤4 * i
theorem zcG {f:Fm} {i:Nat} (h:FmI f i) (c:UInt8):FmI (fmSk f c) i:=by
 have hl:=(VJ f.mark f.held.toNat c).resolve_left fun e=>by have h1:=h.h1;have h0:=h.h0;rw [e,ji] at h1;omega
 exact⟨h.bs,h.ml,Int.natCast_nonneg _,hl,h.s0,h.p0,h.fl,h.ff,h.lb,h.p5,h.on⟩
theorem zk7 {f:Fm} {i j:Nat} (h:FmI f i) (k:i≤j):FmI f j:=by
 obtain⟨a,b,c,d,e,f1,g,h1,h2,h3,h4⟩:=h
 exact⟨a,b,c,d,e,f1,g,fun x m=>by have:=h1 x m;omega,fun l e=>by have:=h2 l e;omega,h3,by omega⟩
theorem Yp {f:Fm} {i:Nat} (h:FmI f i) {p co sk pa:Int} {o:List Evt} (ho:o.length≤4 * i) (hp:p=5→f.ln≠none) (hs:0≤sk∧sk≤2) (hpa:0≤pa∧pa≤12):FmI { f with pos:=p,code:=co,out:=o,skip:=sk,parts:=pa} i:=
 ⟨h.bs,h.ml,h.h0,h.h1,hs,hpa,h.fl,h.ff,h.lb,hp,ho⟩
theorem Zw {f:Fm} {i:Nat} (h:FmI f i) (ho:f.out.length+1≤4 * i) (c:Int):FmI (xg f c) i:=
 Yp h (by simp only [jk,jr];omega) (fun h=>absurd h (by decide)) h.s0 h.p0
theorem zmT {f:Fm} {i:Nat} (h:FmI f i) (ho:f.out.length+1≤4 * i) (c:UInt8):FmI (wu f c) i:=by
 unfold wu
 repeat' split
 · exact Yp h h.on (fun h=>absurd h (by decide)) h.s0 h.p0
 · exact Yp h (by simp only [jk,jr];omega) (fun h=>absurd h (by decide)) h.s0 h.p0
 · exact Yp h h.on (fun h=>absurd h (by decide)) h.s0 h.p0
 · exact Yp h h.on (fun h=>absurd h (by decide)) h.s0 h.p0
 · exact Zw h ho 5
theorem zqj {f:Fm} {i:Nat} (h:FmI f i) (ho:f.out.length+2≤4 * i) (c:UInt8):FmI (vI f c) i:=by
 have hs:=zcG h c;have h2:=h.s0;unfold vI
 split
 · refine Yp (f:=fmSk f c) hs ?_ h.p5 ?_ h.p0
   · split
     · simp only [jk,jr];omega
     · exact h.on
   · rw [Int.min_def]
     split<;>omega
 · refine Yp (f:=fmSk f c) hs ?_ (fun h=>absurd h (by decide)) (by decide) h.p0
   repeat' split
   all_goals first|exact h.on|(simp only [jk,jr,jh,ji];omega)
theorem zqm {f:Fm} {i:Nat} (h:FmI f i) (ho:f.out.length+1≤4 * i):FmI (wE f) i:=by
 have h2:=h.p0;unfold wE
 split
 · exact Zw h ho _
 · split
   · exact Zw h ho _
   · refine zcG (zcG ?_ _) _
     exact Yp h (by simp only [jk,jr];omega) (fun h=>absurd h (by decide)) (by decide) (by omega)
theorem ztj {f:Fm} {i:Nat} (h:FmI f i) (ho:f.out.length+1≤4 * i) {s:Str} (hs:s.length≤i):FmI (uN f s) i:=by
 unfold uN
 split
 · exact zqm h ho
 · split
   · exact Zw h ho _
   · split
     · exact Zw h ho _
     · rename_i h16 _
       have hp:=zfN s;refine⟨h.bs,h.ml,h.h0,h.h1,h.s0,h.p0,?_,fun x hx=> ?_,h.lb,h.p5,h.on⟩
       · have:=h.fl
         simp only [jk,jr];omega
       · rcases List.mem_append.1 hx with h5|h5
         · exact h.ff x h5
         · rw [List.mem_singleton.1 h5];omega
theorem zto {f:Fm} {i:Nat} (h:FmI f i) (c:UInt8):FmI (fmF f c) (i+1):=by
 have hm:=zk7 h (show i≤i+1 by omega)
 have ho:f.out.length+2≤4 * (i+1):=by have:=h.on;omega
 unfold fmF
 split
 · exact zqj hm ho c
 · split
   · exact zmT hm (by omega) c
   · split
     · split
       · exact Zw hm (by omega) 2
       · exact⟨hm.bs,hm.ml,hm.h0,hm.h1,hm.s0,hm.p0,by simp,(fun x hx=>by cases hx),(fun l e=>by cases e;simp [ln0]),(fun _ e=>by cases e),hm.on⟩
     · split
       · have hb:=zsU (lnOf f) c
         have hl:=Yf (lnOf f) c
         have hn:(lnOf f).b.length≤i:=by
          unfold lnOf
          cases e:f.ln with
          |none=>simp [ln0]
          |some l=>exact h.lb l e
         have hk:FmI { f with ln:=some (lnF (lnOf f) c).1} (i+1):=⟨hm.bs,hm.ml,hm.h0,hm.h1,hm.s0,hm.p0,hm.fl,hm.ff,(fun l e=>by cases e;omega),(fun _ e=>by cases e),hm.on⟩
         split
         · exact Zw hk (by simp only;omega) _
         · split
           · exact ztj hk (by simp only;omega) (by omega)
           · exact hk
       · exact hm
theorem zsS (k:Int) (hneed:False):Spc Tryz.prog 126 [.v (.one (.p (.val (.pointer none)))),.v (.one (.p (.int .u8 k)))] [] (.ret (.tup [.one (.p (.str ([]))),.one (.p (.bool false)),.one (.p (.int .i64 0))])) []:=hneed.elim
def Y1 (I:Alg):KU
 |[.v (.one (.p (.val (.pointer none)))),.v (.one (.p (.int .u8 k)))],[]=>some (.one ⟨I.hid (False),(.ret (.tup [.one (.p (.str (I.hid ([])))),.one (.p (.bool false)),.one (.p (.int .i64 0))])),[]⟩)
 |_,_=>none
theorem zcp:zu Tryz.prog 126 (Y1 alg):=by
 intro args hp r h;unfold Y1 at h
 split at h
 · cases h;exact fun hn=>zsS _ hn
 · cases h
def zco:Know Tryz.prog:=⟨126,Y1,zcp⟩
def zcn:Know Tryz.prog:=⟨126,fun I=>zx I (Y1 I),zf zcp⟩
def fmN (f:Fm):Prop:=∃ i:Nat,i≤1000000∧FmI f i
theorem zwi (m:Str) (hd:Int) (bs:List Int) (p:Int) (fs:List Fld) (pa sk co:Int) (out:List Evt) (k:Int) (hneed:fmN ⟨m,hd,bs,p,none,fs,pa,sk,co,out⟩∧0≤k∧k≤255):Spc Tryz.prog 224 [.v (.one (.ptr 0 0)),.v (.one (.p (.int .u8 k)))] [.abs (.fm ⟨m,hd,bs,p,none,fs,pa,sk,co,out⟩)] (.ret (.tup [])) [.abs (.fm ((fmF ⟨m,hd,bs,p,none,fs,pa,sk,co,out⟩ (UInt8.ofNat k.toNat))))]:=by
 obtain⟨⟨i,hi,hI0⟩,hk0,hk1⟩:=hneed;obtain⟨g1,g2,g3,g4,g5,g6,g7,g8,g9,g10,g11⟩:=hI0;simp only at g1 g2 g3 g4 g5 g6 g7 g8 g9 g10 g11
 have g2:=Nat.le_trans g2 (show 1000≤1000000 by decide)
 have hfd:FdOk fs:=⟨by omega,fun x hx=>by have:=g8 x hx;omega⟩
 have h10:=u8k hk0 hk1 10 (by decide)
 have h10:(UInt8.ofNat k.toNat=10)=(k=10):=h10;generalize hr:fmF ⟨m,hd,bs,p,none,fs,pa,sk,co,out⟩ (UInt8.ofNat k.toNat)=r;unfold fmF lnOf at hr;simp only [h10] at hr;have hll:=trivial
 refine spH Tryz.func224 (by kernel_rfl) { cfgF with keep:=some [0,1,4,5,6,10,11,17]} [Qj,Qi,sV,sU,zco,zcn,uP,uO,zbj,zbi,zcL,zcK,zgY,zgX] (by kernel_rfl) ?_
 intro I X hI hX
 refine orcL ?_;go_invoke;refine orcS (by kernel_rfl) ?_
 simp only [zi,Nat.reduceAdd];subst hI;simp only [nrmA,nrmB,nrlB,reduceCtorEq,HO.abs.injEq,Gh.fm.injEq]
 (repeat' (first|refine ja ?_ ?_|intro _))<;>first|omega|exact jb|exact jc ‹False›|skip
 all_goals first
  |omega
  |with_reducible assumption
  |(refine⟨by simp only;omega,⟨g1,g2,g3,.inr g4,g5⟩,?_⟩;done)
  |exact⟨g1,g2,g3,.inr g4,g5⟩
  |exact⟨by simp only;omega,⟨g1,g2,g3,.inr g4,g5⟩,hfd,g6⟩
  |exact Nat.le_trans hll (by omega)
  |(unfold wX;simp only;omega)
  |(unfold fm9;simp only;omega)
  |(exact absurd rfl (g10 ‹_›))
  |(subst hr;simp [*,ln0];done)
theorem zwh (m:Str) (hd:Int) (bs:List Int) (p:Int) (ln:Ln) (fs:List Fld) (pa sk co:Int) (out:List Evt) (k:Int) (hneed:fmN ⟨m,hd,bs,p,some ln,fs,pa,sk,co,out⟩∧0≤k∧k≤255):Spc Tryz.prog 224 [.v (.one (.ptr 0 0)),.v (.one (.p (.int .u8 k)))] [.abs (.fm ⟨m,hd,bs,p,some ln,fs,pa,sk,co,out⟩)] (.ret (.tup [])) [.abs (.fm ((fmF ⟨m,hd,bs,p,some ln,fs,pa,sk,co,out⟩ (UInt8.ofNat k.toNat))))]:=by
 obtain⟨⟨i,hi,hI0⟩,hk0,hk1⟩:=hneed;obtain⟨g1,g2,g3,g4,g5,g6,g7,g8,g9,g10,g11⟩:=hI0;simp only at g1 g2 g3 g4 g5 g6 g7 g8 g9 g10 g11
 have g2:=Nat.le_trans g2 (show 1000≤1000000 by decide)
 have hfd:FdOk fs:=⟨by omega,fun x hx=>by have:=g8 x hx;omega⟩
 have h10:=u8k hk0 hk1 10 (by decide)
 have h10:(UInt8.ofNat k.toNat=10)=(k=10):=h10;generalize hr:fmF ⟨m,hd,bs,p,some ln,fs,pa,sk,co,out⟩ (UInt8.ofNat k.toNat)=r;unfold fmF lnOf at hr;simp only [h10] at hr;have hll:=Yf ln (UInt8.ofNat k.toNat);have hlb:=g9 ln rfl
 refine spH Tryz.func224 (by kernel_rfl) { cfgF with keep:=some [0,1,4,5,6,10,11,17]} [Qj,Qi,sV,sU,zco,zcn,uP,uO,zbj,zbi,zcL,zcK,zgY,zgX] (by kernel_rfl) ?_
 intro I X hI hX
 refine orcL ?_;go_invoke;refine orcS (by kernel_rfl) ?_
 simp only [zi,Nat.reduceAdd];subst hI;simp only [nrmA,nrmB,nrlB,reduceCtorEq,HO.abs.injEq,Gh.fm.injEq]
 (repeat' (first|refine ja ?_ ?_|intro _))<;>first|omega|exact jb|exact jc ‹False›|skip
 all_goals first
  |omega
  |with_reducible assumption
  |(refine⟨by simp only;omega,⟨g1,g2,g3,.inr g4,g5⟩,?_⟩;done)
  |exact⟨g1,g2,g3,.inr g4,g5⟩
  |exact⟨by simp only;omega,⟨g1,g2,g3,.inr g4,g5⟩,hfd,g6⟩
  |exact Nat.le_trans hll (by omega)
  |(unfold wX;simp only;omega)
  |(unfold fm9;simp only;omega)
  |(exact absurd rfl (g10 ‹_›))
  |(subst hr;simp [*,ln0];done)
def Qz (I:Alg):KU
 |[.v (.one (.ptr 0 0)),.v (.one (.p (.int .u8 k)))],[.abs (.fm f)]=>some (.one ⟨I.hid (fmN f∧0≤k∧k≤255),(.ret (.tup [])),[.abs (.fm (I.hid (fmF f (UInt8.ofNat k.toNat))))]⟩)
 |_,_=>none
theorem zk9:zu Tryz.prog 224 (Qz alg):=by
 intro args hp r h;unfold Qz at h;split at h<;>cases h
 rename_i k f;simp only [CT.Good,zh];intro hneed;obtain⟨m,hd,bs,p,ln,fs,pa,sk,co,out⟩:=f
 cases ln with
 |none=>exact zwi m hd bs p fs pa sk co out k hneed
 |some ln=>exact zwh m hd bs p ln fs pa sk co out k hneed
def Qy:Know Tryz.prog:=⟨224,Qz,zk9⟩
def Qx:Know Tryz.prog:=⟨224,fun I=>zx I (Qz I),zf zk9⟩
end Go.Proofs.YtnpmenpjagcheaaGreatDoor
namespace Go.Proofs.YtnpmenpjagcheaaGreatDoor
open Go Go.Sep Go.Ab
set_option maxRecDepth 100000
def zF (l:List Evt):Nat:=(l.map fun e=>e.bytes.length).sum
theorem yh (a b:List Evt):zF (a++b)=zF a+zF b:=by simp [zF]
theorem yX (e:Evt):zF [e]=e.bytes.length:=by simp [zF]
theorem zpH (o:List Evt) (e:Evt):zF (uH o e)≤zF o+e.bytes.length:=by
 rcases List.eq_nil_or_concat o with rfl|⟨z,x,rfl⟩
 · rw [Yj,yX];omega
 · rw [List.concat_eq_append,xq]
   split
   · rw [yh,yh,yX,yX];simp only [evB,jk];omega
   · rw [yh _ [e],yX e];exact jL _
theorem Y2 (l:List Evt) (e:Evt):yI (l++[e])=uH (yI l) e:=by simp [yI,List.foldl_append]
theorem za0 (l:List Evt):zF (yI l)≤zF l:=by
 suffices ∀ l o:List Evt,zF (l.foldl uH o)≤zF o+zF l by have:=this l [];simpa [yI,zF] using this
 intro l
 induction l with
 |nil=>intro o;simp [zF]
 | cons e r ih=>
   intro o;have h1:=ih (uH o e);have h2:=zpH o e
   have h3:zF (e::r)=e.bytes.length+zF r:=by simp [zF]
   rw [List.foldl_cons];omega
theorem zpI (o:List Evt) (e:Evt):(uH o e).length≤o.length+1:=by
 rcases List.eq_nil_or_concat o with rfl|⟨z,x,rfl⟩
 · simp [Yj]
 · rw [List.concat_eq_append,xq]
   split<;>simp
theorem zmW (l:List Evt) (i:Nat):zF (l.take i)≤zF l:=by
 have:=yh (l.take i) (l.drop i);rw [List.take_append_drop] at this;omega
theorem VO {l:List Evt} {e:Evt} (h:e ∈ l):e.bytes.length≤zF l:=by
 obtain⟨a,b,rfl⟩:=List.append_of_mem h;have:=yh a (e::b)
 have h3:zF (e::b)=e.bytes.length+zF b:=by simp [zF]
 omega
theorem za1 (l:List Evt):(yI l).length≤l.length:=by
 suffices ∀ l o:List Evt,(l.foldl uH o).length≤o.length+l.length by have:=this l [];simpa [yI] using this
 intro l
 induction l with
 |nil=>intro o;simp
 | cons e r ih=>
   intro o;have h1:=ih (uH o e);have h2:=zpI o e;rw [List.foldl_cons,jh];omega
def WM (I:Alg):KU
 |[.v (.one (.row 0))],[.row .evt 138 l]=>(fun(l:List Evt)=>(some (.one ⟨I.hid (zF l≤1000000∧l.length≤10000000),(.ret (.v (.one (.row 1)))),[.row .evt 138 l,.row .evt 138 (I.hid (yI l))]⟩):Option CT)) l
 |_,_=>none
theorem zfB:zu Tryz.prog 94 (WM alg):=by
 intro args hp r h;unfold WM at h;split at h<;>cases h
 rename_i l
 revert l;intro(l:List Evt)
 simp only [CT.Good,zh];intro hneed;obtain⟨hn1,hn2⟩:=hneed
 refine spH Tryz.func94 (by kernel_rfl) { nr:=[3],keep:=some [0,2,3,5,6,7,8,9,10]} [] (by kernel_rfl) ?_
 intro I X hI hX
 refine orcL ?_;go_invoke;refine orcS (by kernel_rfl) ?_
 simp only [zi,Nat.reduceAdd]
 refine lpH hI [] hX [0,3,8,9,10] (fun(g:Nat × List Evt)=>match g with|(i,o)=>i≤l.length∧o=yI (l.take i)) (fun(g:Nat × List Evt)=>match g with|(i,o)=>⟨[(0,.v (.one (.row 0))),(3,.v (.one (.row 1))),(8,.v (.one (.row 0))),(9,.v (.one (.p (.int .i64 ((I.len (α:=Evt) l)))))),(10,.v (.one (.p (.int .i64 i))))],[.row .evt 138 l,.row .evt 138 o],52,none⟩) (fun(g:Nat × List Evt)=>match g with|(i,o)=>l.length - i) (0,[]) (by kernel_rfl) (by kernel_rfl) ?_ ?_
 · exact⟨jM _,rfl⟩
 rintro⟨i,o⟩ ⟨h1,h2⟩ A hA;simp only at hA h1 h2
 refine orcL ?_;go_invoke;refine orcS (by kernel_rfl) ?_
 simp only [zi,Nat.reduceAdd];subst hI;simp only [nrmA,nrmB,nrlB,reduceCtorEq];have hl1:=za1 (l.take i)
 have hl2:(l.take i).length≤i:=by rw [jv];omega
 have hl3:=za0 (l.take i)
 have hl4: ∀ x ∈ yI (l.take i),x.bytes.length≤1000000:=fun x h=>by
  have a:=VO h;have b:=zmW l i;omega
 have hw: ¬ i<l.length→o=yI l:=fun h=>by rw [h2,jq (by omega)]
 have hy:i<l.length→yI (l.take (i+1))=uH o (l.getD i ⟨0,⟨[],[],0,[],0⟩,[],⟨[],[],[],[]⟩,0⟩):=fun h=>by rw [jB h,Y2,h2];simp [h]
 have hl5:i<l.length→(l.getD i ⟨0,⟨[],[],0,[],0⟩,[],⟨[],[],[],[]⟩,0⟩).bytes.length≤1000000:=fun h=>by
  have:l.getD i ⟨0,⟨[],[],0,[],0⟩,[],⟨[],[],[],[]⟩,0⟩ ∈ l:=by simp [h]
  have:=VO this;omega
 rw [← h2] at hl1 hl4
 refine⟨fun c=> ?_,fun c=>hw (by omega)⟩
 have hlt:i<l.length:=by omega
 have hy:=hy hlt;have hl5:=hl5 hlt;generalize l.getD i ⟨0,⟨[],[],0,[],0⟩,[],⟨[],[],[],[]⟩,0⟩=e at *
 have hgo: ∀ r:List Evt,r=uH o e→(fun p:Nat × List Evt=>p.1≤l.length∧p.2=yI (l.take p.1)) (i+1,r):=fun r h=>⟨by simp only;omega,by simp only;rw [hy,h]⟩
 rcases List.eq_nil_or_concat o with he|⟨z,x,he⟩
 · subst he
   rw [Yj] at hgo;simp only [jh,ji]
   (repeat' (first|refine ja ?_ ?_|intro _))<;>first|omega|exact jb|exact jc ‹False›|skip
   all_goals first
    |omega
    |exact hA (i+1,_) (hgo _ rfl) (by simp only;omega)
 · rw [List.concat_eq_append] at he
   subst he;have hx:=hl4 x (List.mem_append_right _ (List.mem_singleton.2 rfl))
   have hz:(((z++[x]).length:Int) - 1).toNat=z.length:=by rw [jk,jr];omega
   have hg: ∀ d,(z++[x]).getD z.length d=x:=fun d=>by simp
   have hs: ∀ d,(z++[x]).set z.length d=z++[d]:=fun d=>by simp
   rw [xq] at hgo;rw [jk,jr] at hl1;simp only [hz,hg,hs];simp only [jk,jh,ji];clear hz hg hs
   (repeat' (first|refine ja ?_ ?_|intro _))<;>first|omega|exact jb|exact jc ‹False›|skip
   all_goals first
    |omega
    |(rw [if_pos ⟨‹e.kind=2›,‹x.kind=2›⟩] at hgo;exact hA (i+1,_) (hgo _ rfl) (by simp only;omega))
    |(rw [if_neg (fun h=>‹¬ e.kind=2› h.1)] at hgo;exact hA (i+1,_) (hgo _ rfl) (by simp only;omega))
    |(rw [if_neg (fun h=>‹¬ x.kind=2› h.2)] at hgo;exact hA (i+1,_) (hgo _ rfl) (by simp only;omega))
def xH:Know Tryz.prog:=⟨94,WM,zfB⟩
def xG:Know Tryz.prog:=⟨94,fun I=>zx I (WM I),zf zfB⟩
end Go.Proofs.YtnpmenpjagcheaaGreatDoor
namespace Go.Proofs.YtnpmenpjagcheaaGreatDoor
open Go Go.Sep Go.Ab
set_option maxRecDepth 100000
theorem zha {m:Str} {n:Nat} (h:m=[]∨n<m.length) (c:UInt8):(rE m n c).1.length+(rE m n c).2.1≤n+1:=by
 unfold rE
 by_cases h0:m=[]
 · rw [if_pos h0];simp only [jr];omega
 · rw [if_neg h0]
   have hn:n<m.length:=h.resolve_left h0
   have hf:=(P.ziM m c P.take_len n n (jL _) (by omega)).le
   unfold P.feed;simp only
   repeat' split
   all_goals simp only [jk,jr,jv]
   all_goals omega
theorem zuD (f:Fm) {i:Nat} (h:FmI f i) (c:UInt8):(fmSk f c).held.toNat≤f.held.toNat+1:=by
 have:=zha (m:=f.mark) (n:=f.held.toNat) (.inr (by have:=h.h0;have:=h.h1;omega)) c
 show(((rE f.mark f.held.toNat c).2.1:Nat):Int).toNat≤_
 rw [jJ];omega
theorem rF (o:List Evt) (e:Evt) (h:e.bytes=[]):zF (o++[e])=zF o:=by
 rw [yh,yX,h];rfl
theorem ziI {f:Fm} {i:Nat} (h:FmI f i):zF (wE f).out+(wE f).held.toNat≤zF f.out+f.held.toNat+2:=by
 have h2:=h.p0;unfold wE
 split
 · show zF (f.out++[evF _])+_≤_
   rw [rF _ _ rfl];simp only [xg];omega
 · split
   · show zF (f.out++[evF _])+_≤_
     rw [rF _ _ rfl];simp only [xg];omega
   · have hI:FmI { f with parts:=f.parts+1,pos:=6,out:=[],skip:=2} i:=⟨h.bs,h.ml,h.h0,h.h1,(show(0:Int)≤2∧(2:Int)≤2 by decide),by simp only;omega,h.fl,h.ff,h.lb,(fun e=>absurd (show(6:Int)=5 from e) (by decide)),jM _⟩
     have a:=zuD _ hI 13;have b:=zuD _ (zcG hI 13) 10
     show zF (f.out++[evP _])+(fmSk (fmSk { f with parts:=f.parts+1,pos:=6,out:=[],skip:=2} 13) 10).held.toNat≤_
     rw [rF _ _ rfl];simp only at a;omega
theorem zmN {f:Fm} {i:Nat} (h:FmI f i) (s:Str):zF (uN f s).out+(uN f s).held.toNat≤zF f.out+f.held.toNat+2:=by
 unfold uN
 split
 · exact ziI h
 · split
   · show zF (f.out++[evF _])+_≤_
     rw [rF _ _ rfl];simp only [xg];omega
   · split
     · show zF (f.out++[evF _])+_≤_
       rw [rF _ _ rfl];simp only [xg];omega
     · simp only;omega
theorem ziF {f:Fm} {i:Nat} (h:FmI f i) (c:UInt8):zF (fmF f c).out+(fmF f c).held.toNat≤zF f.out+f.held.toNat+2:=by
 have hfail: ∀ (f:Fm) (c:Int),zF (xg f c).out=zF f.out∧(xg f c).held=f.held:=fun f c=>⟨rF _ _ rfl,rfl⟩;unfold fmF
 split
 · have hp:=zha (m:=f.mark) (n:=f.held.toNat) (.inr (by have:=h.h0;have:=h.h1;omega)) c
   have hd:(uV f c).length≤(rE f.mark f.held.toNat c).1.length:=by unfold uV;rw [jC];omega
   have e0:(fmSk f c).held.toNat=(rE f.mark f.held.toNat c).2.1:=jJ _;unfold vI
   split
   · show zF (if f.pos=6∧uV f c≠[] then f.out++[evB (uV f c)] else f.out)+(fmSk f c).held.toNat≤_
     rw [e0]
     split
     · rw [yh,yX];simp only [evB];omega
     · omega
   · show zF (if f.pos=6 then(if uV f c≠[] then f.out++[evB (uV f c),evO] else f.out++[evO]) else f.out)+(fmSk f c).held.toNat≤_
     rw [e0]
     have e1:zF [evB (uV f c),evO]=(uV f c).length:=by simp [zF,evB,evO]
     have e2:zF [evO]=0:=rfl
     split
     · split
       · rw [yh,e1];omega
       · rw [yh,e2];omega
     · omega
 · split
   · unfold wu
     repeat' split
     all_goals first
      |(simp only;omega)
      |(rw [(hfail _ _).1,(hfail _ _).2];omega)
      |(show zF (f.out++[evE])+_≤_;rw [rF _ _ rfl];simp only;omega)
   · split
     · split
       · rw [(hfail _ _).1,(hfail _ _).2];omega
       · simp only;omega
     · split
       · split
         · rw [(hfail _ _).1,(hfail _ _).2];simp only;omega
         · split
           · have hn:(lnOf f).b.length≤i:=by
              unfold lnOf
              cases e:f.ln with
              |none=>simp [ln0]
              |some l=>exact h.lb l e
             have hb:=zsU (lnOf f) c
             have hm:=zk7 h (show i≤i+1 by omega)
             exact zmN (i:=i+1) (f:= { f with ln:=some (lnF (lnOf f) c).1}) ⟨hm.bs,hm.ml,hm.h0,hm.h1,hm.s0,hm.p0,hm.fl,hm.ff,(fun l e=>by cases e;omega),(fun _ e=>by cases e),hm.on⟩ _
           · simp only;omega
       · omega
theorem zqd (f:Fm) (b:Str) {i:Nat} (h:i<b.length):VA f (b.take (i+1))=fmF (VA f (b.take i)) (b.getD i 0):=by
 rw [show b.getD i 0=b[i] by simp [h],jB h]
 unfold VA;rw [List.foldl_append];rfl
theorem ziE: ∀ (b:Str) (f:Fm) (i:Nat),FmI f i→FmI (VA f b) (i+b.length)
 |[],f,i,h=>h
 | c::r,f,i,h=>by
   have:=ziE r (fmF f c) (i+1) (zto h c)
   rw [jh,show i+(r.length+1)=i+1+r.length by omega]
   exact this
def fmN0 (f:Fm) (b:Str):Prop:=∃ n,FmI { f with out:=[]} n∧n+b.length≤400000
theorem ztl (m:Str) (hd:Int) (bs:List Int) (p:Int) (fs:List Fld) (pa sk co:Int) (out:List Evt) (b:Str) (hneed:fmN0 ⟨m,hd,bs,p,none,fs,pa,sk,co,out⟩ b):Spc Tryz.prog 209 [.v (.one (.ptr 0 0)),.v (.one (.p (.list .byte b)))] [.abs (.fm ⟨m,hd,bs,p,none,fs,pa,sk,co,out⟩)] (.ret (.v (.one (.row 1)))) [.abs (.fm ((y9 ⟨m,hd,bs,p,none,fs,pa,sk,co,out⟩ b))),.row .evt 138 ((yI (y9 ⟨m,hd,bs,p,none,fs,pa,sk,co,out⟩ b).out))]:=by
 obtain⟨n,hI0,hnb⟩:=hneed;have hml:=hI0.ml;have hh1:=hI0.h1;have hh0:=hI0.h0;simp only at hml hh1 hh0
 have hh:hd.toNat≤1000:=by
  omega
 refine spH Tryz.func209 (by kernel_rfl) { cfgF with keep:=some [0,1,4,6,10,11,12]} [Qy,Qx,xH,xG] (by kernel_rfl) ?_
 intro I X hI hX
 refine orcL ?_;go_invoke;refine orcS (by kernel_rfl) ?_
 simp only [zi,Nat.reduceAdd];unfold y9;simp only at hI0 ⊢
 refine lpH hI [Qy,Qx,xH,xG] hX [0,10,11,12] (fun(g:Nat × Fm)=>match g with|(i,r)=>i≤b.length∧r=VA (⟨m,hd,bs,p,none,fs,pa,sk,co,[]⟩:Fm) (b.take i)∧FmI r (n+i)∧zF r.out+r.held.toNat≤hd.toNat+2 * i) (fun(g:Nat × Fm)=>match g with|(i,r)=>⟨[(0,.v (.one (.ptr 0 0))),(10,.v (.one (.p (.list .byte b)))),(11,.v (.one (.p (.int .i64 ((I.len (α:=UInt8) b)))))),(12,.v (.one (.p (.int .i64 i))))],[.abs (.fm r)],25,none⟩) (fun(g:Nat × Fm)=>match g with|(i,r)=>b.length - i) (0,(⟨m,hd,bs,p,none,fs,pa,sk,co,[]⟩:Fm)) (by kernel_rfl) (by kernel_rfl) ?_ ?_
 · exact⟨jM _,rfl,hI0,by simp [zF]⟩
 rintro⟨i,⟨m2,hd2,bs2,p2,ln2,fs2,pa2,sk2,co2,out2⟩⟩ ⟨h1,h2,h3,h4⟩ A hA;simp only at hA h1 h2 h3 h4
 have hrn:i<b.length→fmN _:=fun h=>⟨n+i,by omega,h3⟩
 have hgo:i<b.length→_:=fun h=>hA (i+1,fmF ⟨m2,hd2,bs2,p2,ln2,fs2,pa2,sk2,co2,out2⟩ (b.getD i 0)) ⟨by simp only;omega,by simp only;rw [zqd _ _ h,← h2],by simp only;exact zto h3 _,by simp only;have:=ziF h3 (b.getD i 0);simp only at this;omega⟩ (by simp only;omega)
 have hend: ¬ i<b.length→_:=fun h=>h2.trans (by rw [jq (by omega)])
 rcases ln2 with _|l2
 · have h0:=h1
   refine orcL ?_;go_invoke;refine orcS (by kernel_rfl) ?_
   simp only [zi,Nat.reduceAdd];subst hI;simp only [nrmA,nrmB,nrlB,reduceCtorEq,HO.abs.injEq,Gh.fm.injEq]
   by_cases hi:i<b.length
   · have hg:=hgo hi
     have hn:=hrn hi
     (repeat' (first|refine ja ?_ ?_|intro _))<;>first|omega|exact jb|exact jc ‹False›|skip
     all_goals first|omega|exact hg|exact hn|contradiction|(have:=(b.getD i 0).toNat_lt;omega)|trace_state
   · have hg:=hend hi
     rw [← hg];have hon:=h3.on;simp only at hon
     (repeat' (first|refine ja ?_ ?_|intro _))<;>first|omega|exact jb|exact jc ‹False›|skip
     all_goals first|omega|rfl|contradiction|exact⟨by omega,by omega⟩|trace_state
 · have h0:=h1
   refine orcL ?_;go_invoke;refine orcS (by kernel_rfl) ?_
   simp only [zi,Nat.reduceAdd];subst hI;simp only [nrmA,nrmB,nrlB,reduceCtorEq,HO.abs.injEq,Gh.fm.injEq]
   by_cases hi:i<b.length
   · have hg:=hgo hi
     have hn:=hrn hi
     (repeat' (first|refine ja ?_ ?_|intro _))<;>first|omega|exact jb|exact jc ‹False›|skip
     all_goals first|omega|exact hg|exact hn|contradiction|(have:=(b.getD i 0).toNat_lt;omega)|trace_state
   · have hg:=hend hi
     rw [← hg];have hon:=h3.on;simp only at hon
     (repeat' (first|refine ja ?_ ?_|intro _))<;>first|omega|exact jb|exact jc ‹False›|skip
     all_goals first|omega|rfl|contradiction|exact⟨by omega,by omega⟩|trace_state
theorem ztk (m:Str) (hd:Int) (bs:List Int) (p:Int) (ln:Ln) (fs:List Fld) (pa sk co:Int) (out:List Evt) (b:Str) (hneed:fmN0 ⟨m,hd,bs,p,some ln,fs,pa,sk,co,out⟩ b):Spc Tryz.prog 209 [.v (.one (.ptr 0 0)),.v (.one (.p (.list .byte b)))] [.abs (.fm ⟨m,hd,bs,p,some ln,fs,pa,sk,co,out⟩)] (.ret (.v (.one (.row 1)))) [.abs (.fm ((y9 ⟨m,hd,bs,p,some ln,fs,pa,sk,co,out⟩ b))),.row .evt 138 ((yI (y9 ⟨m,hd,bs,p,some ln,fs,pa,sk,co,out⟩ b).out))]:=by
 obtain⟨n,hI0,hnb⟩:=hneed;have hml:=hI0.ml;have hh1:=hI0.h1;have hh0:=hI0.h0;simp only at hml hh1 hh0
 have hh:hd.toNat≤1000:=by
  omega
 refine spH Tryz.func209 (by kernel_rfl) { cfgF with keep:=some [0,1,4,6,10,11,12]} [Qy,Qx,xH,xG] (by kernel_rfl) ?_
 intro I X hI hX
 refine orcL ?_;go_invoke;refine orcS (by kernel_rfl) ?_
 simp only [zi,Nat.reduceAdd];unfold y9;simp only at hI0 ⊢
 refine lpH hI [Qy,Qx,xH,xG] hX [0,10,11,12] (fun(g:Nat × Fm)=>match g with|(i,r)=>i≤b.length∧r=VA (⟨m,hd,bs,p,some ln,fs,pa,sk,co,[]⟩:Fm) (b.take i)∧FmI r (n+i)∧zF r.out+r.held.toNat≤hd.toNat+2 * i) (fun(g:Nat × Fm)=>match g with|(i,r)=>⟨[(0,.v (.one (.ptr 0 0))),(10,.v (.one (.p (.list .byte b)))),(11,.v (.one (.p (.int .i64 ((I.len (α:=UInt8) b)))))),(12,.v (.one (.p (.int .i64 i))))],[.abs (.fm r)],25,none⟩) (fun(g:Nat × Fm)=>match g with|(i,r)=>b.length - i) (0,(⟨m,hd,bs,p,some ln,fs,pa,sk,co,[]⟩:Fm)) (by kernel_rfl) (by kernel_rfl) ?_ ?_
 · exact⟨jM _,rfl,hI0,by simp [zF]⟩
 rintro⟨i,⟨m2,hd2,bs2,p2,ln2,fs2,pa2,sk2,co2,out2⟩⟩ ⟨h1,h2,h3,h4⟩ A hA;simp only at hA h1 h2 h3 h4
 have hrn:i<b.length→fmN _:=fun h=>⟨n+i,by omega,h3⟩
 have hgo:i<b.length→_:=fun h=>hA (i+1,fmF ⟨m2,hd2,bs2,p2,ln2,fs2,pa2,sk2,co2,out2⟩ (b.getD i 0)) ⟨by simp only;omega,by simp only;rw [zqd _ _ h,← h2],by simp only;exact zto h3 _,by simp only;have:=ziF h3 (b.getD i 0);simp only at this;omega⟩ (by simp only;omega)
 have hend: ¬ i<b.length→_:=fun h=>h2.trans (by rw [jq (by omega)])
 rcases ln2 with _|l2
 · have h0:=h1
   refine orcL ?_;go_invoke;refine orcS (by kernel_rfl) ?_
   simp only [zi,Nat.reduceAdd];subst hI;simp only [nrmA,nrmB,nrlB,reduceCtorEq,HO.abs.injEq,Gh.fm.injEq]
   by_cases hi:i<b.length
   · have hg:=hgo hi
     have hn:=hrn hi
     (repeat' (first|refine ja ?_ ?_|intro _))<;>first|omega|exact jb|exact jc ‹False›|skip
     all_goals first|omega|exact hg|exact hn|contradiction|(have:=(b.getD i 0).toNat_lt;omega)|trace_state
   · have hg:=hend hi
     rw [← hg];have hon:=h3.on;simp only at hon
     (repeat' (first|refine ja ?_ ?_|intro _))<;>first|omega|exact jb|exact jc ‹False›|skip
     all_goals first|omega|rfl|contradiction|exact⟨by omega,by omega⟩|trace_state
 · have h0:=h1
   refine orcL ?_;go_invoke;refine orcS (by kernel_rfl) ?_
   simp only [zi,Nat.reduceAdd];subst hI;simp only [nrmA,nrmB,nrlB,reduceCtorEq,HO.abs.injEq,Gh.fm.injEq]
   by_cases hi:i<b.length
   · have hg:=hgo hi
     have hn:=hrn hi
     (repeat' (first|refine ja ?_ ?_|intro _))<;>first|omega|exact jb|exact jc ‹False›|skip
     all_goals first|omega|exact hg|exact hn|contradiction|(have:=(b.getD i 0).toNat_lt;omega)|trace_state
   · have hg:=hend hi
     rw [← hg];have hon:=h3.on;simp only at hon
     (repeat' (first|refine ja ?_ ?_|intro _))<;>first|omega|exact jb|exact jc ‹False›|skip
     all_goals first|omega|rfl|contradiction|exact⟨by omega,by omega⟩|trace_state
def VH (I:Alg):KU
 |[.v (.one (.ptr 0 0)),.v (.one (.p (.list .byte b)))],[.abs (.fm f)]=>(fun(b:Str)=>(some (.one ⟨I.hid (fmN0 f b),(.ret (.v (.one (.row 1)))),[.abs (.fm (I.hid (y9 f b))),.row .evt 138 (I.hid (yI (y9 f b).out))]⟩):Option CT)) b
 |_,_=>none
theorem zg1:zu Tryz.prog 209 (VH alg):=by
 intro args hp r h;unfold VH at h;split at h<;>cases h
 rename_i b f;simp only [CT.Good,zh];intro hneed;obtain⟨m,hd,bs,p,ln,fs,pa,sk,co,out⟩:=f
 cases ln with
 |none=>exact ztl m hd bs p fs pa sk co out b hneed
 |some ln=>exact ztk m hd bs p ln fs pa sk co out b hneed
def zbg:Know Tryz.prog:=⟨209,VH,zg1⟩
def zbf:Know Tryz.prog:=⟨209,fun I=>zx I (VH I),zf zg1⟩
theorem zqh (m:Str) (hd:Int) (bs:List Int) (p:Int) (fs:List Fld) (pa sk co:Int) (out:List Evt):Spc Tryz.prog 210 [.v (.one (.ptr 0 0))] [.abs (.fm ⟨m,hd,bs,p,none,fs,pa,sk,co,out⟩)] (.ret (.v (.one (.p (.int .i64 ((sW ⟨m,hd,bs,p,none,fs,pa,sk,co,out⟩))))))) [.abs (.fm ⟨m,hd,bs,p,none,fs,pa,sk,co,out⟩)]:=by
 generalize hr:sW ⟨m,hd,bs,p,none,fs,pa,sk,co,out⟩=r;unfold sW at hr;simp only at hr
 refine spH Tryz.func210 (by kernel_rfl) { cfgF with keep:=some [0,2,6]} [] (by kernel_rfl) ?_
 intro I X hI hX
 refine orcL ?_;go_invoke;refine orcS (by kernel_rfl) ?_
 simp only [zi,Nat.reduceAdd];subst hI;simp only [nrmA,nrmB,nrlB,reduceCtorEq,HO.abs.injEq,Gh.fm.injEq]
 (repeat' (first|refine ja ?_ ?_|intro _))<;>first|omega|exact jb|exact jc ‹False›|skip
 all_goals first|omega|rfl|(subst hr;simp [*];done)|trace_state
theorem zqg (m:Str) (hd:Int) (bs:List Int) (p:Int) (ln:Ln) (fs:List Fld) (pa sk co:Int) (out:List Evt):Spc Tryz.prog 210 [.v (.one (.ptr 0 0))] [.abs (.fm ⟨m,hd,bs,p,some ln,fs,pa,sk,co,out⟩)] (.ret (.v (.one (.p (.int .i64 ((sW ⟨m,hd,bs,p,some ln,fs,pa,sk,co,out⟩))))))) [.abs (.fm ⟨m,hd,bs,p,some ln,fs,pa,sk,co,out⟩)]:=by
 generalize hr:sW ⟨m,hd,bs,p,some ln,fs,pa,sk,co,out⟩=r;unfold sW at hr;simp only at hr
 refine spH Tryz.func210 (by kernel_rfl) { cfgF with keep:=some [0,2,6]} [] (by kernel_rfl) ?_
 intro I X hI hX
 refine orcL ?_;go_invoke;refine orcS (by kernel_rfl) ?_
 simp only [zi,Nat.reduceAdd];subst hI;simp only [nrmA,nrmB,nrlB,reduceCtorEq,HO.abs.injEq,Gh.fm.injEq]
 (repeat' (first|refine ja ?_ ?_|intro _))<;>first|omega|exact jb|exact jc ‹False›|skip
 all_goals first|omega|rfl|(subst hr;simp [*];done)|trace_state
def Xd (I:Alg):KU
 |[.v (.one (.ptr 0 0))],[.abs (.fm f)]=>some (.one ⟨I.hid (True),(.ret (.v (.one (.p (.int .i64 (I.hid (sW f))))))),[.abs (.fm f)]⟩)
 |_,_=>none
theorem zcJ:zu Tryz.prog 210 (Xd alg):=by
 intro args hp r h;unfold Xd at h;split at h<;>cases h
 rename_i f;simp only [CT.Good,zh];intro _;obtain⟨m,hd,bs,p,ln,fs,pa,sk,co,out⟩:=f
 cases ln with
 |none=>exact zqh m hd bs p fs pa sk co out
 |some ln=>exact zqg m hd bs p ln fs pa sk co out
def U0:Know Tryz.prog:=⟨210,Xd,zcJ⟩
def UZ:Know Tryz.prog:=⟨210,fun I=>zx I (Xd I),zf zcJ⟩
def VF (I:Alg):KU
 |[.v (.one (.p (.str s)))],[]=>(fun(s:Str)=>(some (.one ⟨I.hid (s.length≤140737488355328∧Vf s=true),(.ret (.tup [.one (.ptr 0 0),.one (.p (.int .i64 0))])),[.abs (.fm (I.hid (fm0 s)))]⟩):Option CT)) s
 |_,_=>none
theorem zgW:zu Tryz.prog 208 (VF alg):=by
 intro args hp r h;unfold VF at h;split at h<;>cases h
 rename_i s;simp only [CT.Good,zh];intro hneed;obtain⟨hs,hm⟩:=hneed
 have hl:s.length≤70:=by unfold Vf at hm;simp at hm;omega
 generalize hr:fm0 s=r;unfold fm0 fmSk at hr;simp only [jJ] at hr
 refine spH Tryz.func208 (by kernel_rfl) { cfgF with keep:=some [0,2,3,4]} [U5,U4,zum,zul,zll,zlk] (by kernel_rfl) ?_
 intro I X hI hX
 refine orcL ?_;go_invoke;refine orcS (by kernel_rfl) ?_
 simp only [zi,Nat.reduceAdd];unfold zbe at hr;subst hI;simp only [nrmA,nrmB,nrlB,reduceCtorEq,HO.abs.injEq,Gh.fm.injEq]
 have hM:([13,10,45,45]++s).length=s.length+4:=by simp
 generalize([13,10,45,45]++s:Str)=M at *;have h1:=VJ M 0 13
 (repeat' (first|refine ja ?_ ?_|intro _))<;>first|omega|exact jb|exact jc ‹False›|skip
 all_goals first
  |omega
  |exact .inr (by omega)
  |exact h1
  |exact Int.natCast_nonneg _
  |exact absurd (hm.symm.trans ‹Vf s=false›) (by decide)
  |(subst hr;rfl)
  |(simp only [jh,ji];omega)
def zbd:Know Tryz.prog:=⟨208,VF,zgW⟩
def zbc:Know Tryz.prog:=⟨208,fun I=>zx I (VF I),zf zgW⟩
theorem zwg (s:Str) (hneed:s.length≤140737488355328∧Vf s=false):Spc Tryz.prog 208 [.v (.one (.p (.str s)))] [] (.ret (.tup [.one (.p (.val (.pointer none))),.one (.p (.int .i64 5))])) []:=by
 obtain⟨hs,hm⟩:=hneed
 refine spH Tryz.func208 (by kernel_rfl) { cfgF with keep:=some [0,2,3,4]} [U5,U4,zum,zul,zll,zlk,zbd,zbc] (by kernel_rfl) ?_
 intro I X hI hX
 refine orcL ?_;go_invoke;refine orcS (by kernel_rfl) ?_
 simp only [zi,Nat.reduceAdd];subst hI;simp only [nrmA,nrmB,nrlB,reduceCtorEq]
 exact⟨hs,fun _=>trivial,by simp [hm]⟩
end Go.Proofs.YtnpmenpjagcheaaGreatDoor
namespace Go.Proofs.YtnpmenpjagcheaaGreatDoor
open Go Go.Sep Go.Ab
inductive GR:List Evt→Prop
 |nil:GR []
 |other {l:List Evt} {e:Evt} (h:GR l) (h2:e.kind≠2) (h5:e.kind=5→e.part.bytes=[]):GR (l++[e])
 |body {l:List Evt} {x e:Evt} (h:GR (l++[x])) (hx:x.kind=5∨x.kind=2) (h2:e.kind=2) (hb:e.bytes≠[]):GR (l++[x]++[e])
inductive GJ:List Evt→Prop
 |nil:GJ []
 |other {l:List Evt} {e:Evt} (h:GJ l) (h2:e.kind≠2) (h5:e.kind=5→e.part.bytes=[]):GJ (l++[e])
 |body {l:List Evt} {x e:Evt} (h:GJ (l++[x])) (hx:x.kind=5) (h2:e.kind=2) (hb:e.bytes≠[]):GJ (l++[x]++[e])
theorem zv3 {l:List Evt} {x:Evt} (h:GR (l++[x])): ∃ z y,yI (l++[x])=z++[y]∧y.kind=x.kind∧(x.kind≠2→y=x):=by
 rw [Y2]
 rcases List.eq_nil_or_concat (yI l) with hn|⟨z,y,hz⟩
 · rw [hn,Yj];exact⟨[],x,rfl,rfl,fun _=>rfl⟩
 · rw [hz,List.concat_eq_append,xq]
   split
   · rename_i h;exact⟨z,_,rfl,h.1.symm,fun k=>absurd h.1 k⟩
   · exact⟨z++[y],x,rfl,rfl,fun _=>rfl⟩
theorem zv5 {z:List Evt} {y:Evt} (h:GJ (z++[y])) (k:y.kind=2): ∃ l x,z=l++[x]∧GJ (l++[x])∧x.kind=5∧y.bytes≠[]:=by
 generalize hw:z++[y]=w at h
 cases h with
 |nil=>simp at hw
 | other h h2 h5=>
   have:=List.append_inj' hw rfl;have e:=List.singleton_inj.1 this.2;exact absurd (e▸k) h2
 | body h hx h2 hb=>
   have:=List.append_inj' hw rfl;have e:=List.singleton_inj.1 this.2
   exact⟨_,_,this.1,h,hx,by rw [e];exact hb⟩
theorem zy4 {l:List Evt} (h:GR l):GJ (yI l):=by
 induction h with
 |nil=>exact .nil
 | @other l e h h2 h5 ih=>
   rw [Y2]
   rcases List.eq_nil_or_concat (yI l) with hn|⟨z,y,hz⟩
   · rw [hn,Yj];exact GJ.other (l:=[]) .nil h2 h5
   · rw [hz,List.concat_eq_append] at ih ⊢
     rw [xq,if_neg (fun k=>h2 k.1)];exact .other ih h2 h5
 | @body l x e h hx h2 hb ih=>
   obtain⟨z,y,hz,hk,hy⟩:=zv3 h;rw [Y2,hz,xq];rw [hz] at ih
   by_cases k:y.kind=2
   · rw [if_pos ⟨h2,k⟩]
     obtain⟨l',x',rfl,g1,g2,g3⟩:=zv5 ih k;refine .body g1 g2 rfl ?_;simp only [evB];intro h;exact g3 (List.append_eq_nil_iff.1 h).1
   · rw [if_neg (fun h=>k h.2)]
     exact .body ih (by rcases hx with hx|hx;rw [hk];exact hx;exact absurd (hk.trans hx) k) h2 hb
def GI (l:List Evt) (i:Nat) (d:Evt):Prop:=((l.getD i d).kind=2→(l.getD i d).bytes≠[]∧∃ j,i=j+1∧(l.getD j d).kind=5)∧((l.getD i d).kind=5→(l.getD i d).part.bytes=[])
theorem zgn {a b:List Evt} {i:Nat} (h:i<a.length) (d:Evt):(a++b).getD i d=a.getD i d:=by
 rw [jH,jy h,← jH]
theorem zy5 {l:List Evt} (h:GJ l) (d:Evt): ∀ i,i<l.length→GI l i d:=by
 induction h with
 |nil=>intro i hi;simp at hi
 | @other l e h h2 h5 ih=>
   intro i hi;rw [jk,jr] at hi
   by_cases k:i<l.length
   · obtain⟨a,b⟩:=ih i k
     unfold GI;rw [zgn k];refine⟨fun q=> ?_,b⟩;obtain⟨a1,j,rfl,a2⟩:=a q
     exact⟨a1,j,rfl,by rw [zgn (by omega)];exact a2⟩
   · have e1:(l++[e]).getD i d=e:=by rw [show i=l.length by omega];simp
     unfold GI;rw [e1];exact⟨fun q=>absurd q h2,h5⟩
 | @body l x e h hx h2 hb ih=>
   intro i hi;rw [jk,jr] at hi
   by_cases k:i<(l++[x]).length
   · obtain⟨a,b⟩:=ih i k
     unfold GI;rw [zgn k];refine⟨fun q=> ?_,b⟩;obtain⟨a1,j,rfl,a2⟩:=a q
     exact⟨a1,j,rfl,by rw [zgn (by omega)];exact a2⟩
   · have hl:(l++[x]).length=l.length+1:=by simp
     have hi2:i=l.length+1:=by omega
     subst hi2
     have e1:(l++[x]++[e]).getD (l.length+1) d=e:=by rw [← hl];simp
     have e2:(l++[x]++[e]).getD l.length d=x:=by rw [zgn (by omega)];simp
     unfold GI;rw [e1]
     exact⟨fun _=>⟨hb,l.length,rfl,by rw [e2];exact hx⟩,fun q=>absurd (h2.symm.trans q) (by decide)⟩
def GM (f:Fm):Prop:=GR f.out∧(f.pos=6→∃ l x,f.out=l++[x]∧(x.kind=5∨x.kind=2))
theorem zpY {f:Fm} (h:GR f.out) {e:Evt} (h2:e.kind≠2) (h5:e.kind=5→e.part.bytes=[]):GR (f.out++[e]):=.other h h2 h5
theorem XO {f:Fm} (h:GM f) (c:Int):GM (xg f c):=⟨zpY h.1 (show(4:Int)≠2 by decide) (fun e=>absurd (show(4:Int)=5 from e) (by decide)),fun e=>absurd (show(8:Int)=6 from e) (by decide)⟩
theorem zs9 {f:Fm} (h:GM f):GM (wE f):=by
 unfold wE
 split
 · exact XO h _
 · split
   · exact XO h _
   · exact⟨zpY h.1 (show(5:Int)≠2 by decide) (fun _=>zib f.fields),fun _=>⟨_,_,rfl,.inl rfl⟩⟩
theorem zv4 {f:Fm} (h:GM f) (s:Str):GM (uN f s):=by
 unfold uN
 split
 · exact zs9 h
 · split
   · exact XO h _
   · split
     · exact XO h _
     · exact h
theorem gm_f {f:Fm} (h:GM f) (c:UInt8):GM (fmF f c):=by
 have hno: ∀ {n:Int},n≠6→n=6→∃ l x,f.out=l++[x]∧(x.kind=5∨x.kind=2):=fun a b=>absurd b a;unfold fmF
 split
 · unfold vI
   split
   · show GR (if f.pos=6∧uV f c≠[] then f.out++[evB (uV f c)] else f.out)∧(f.pos=6→∃ l x,(if f.pos=6∧uV f c≠[] then f.out++[evB (uV f c)] else f.out)=l++[x]∧(x.kind=5∨x.kind=2))
     split
     · rename_i k
       obtain⟨l,x,e,hx⟩:=h.2 k.1;refine⟨?_,fun _=>⟨f.out,_,rfl,.inr rfl⟩⟩;have:=h.1;rw [e] at this ⊢;exact .body this hx rfl k.2
     · exact h
   · show GR (if f.pos=6 then(if uV f c≠[] then f.out++[evB (uV f c),evO] else f.out++[evO]) else f.out)∧((1:Int)=6→_)
     refine⟨?_,fun e=>absurd e (by decide)⟩
     split
     · rename_i k
       obtain⟨l,x,e,hx⟩:=h.2 k
       split
       · rename_i k2
         rw [show f.out++[evB (uV f c),evO]=f.out++[evB (uV f c)]++[evO] by simp]
         refine .other ?_ (by decide) (fun q=>absurd (show(6:Int)=5 from q) (by decide))
         have:=h.1;rw [e] at this ⊢;exact .body this hx rfl k2
       · exact .other h.1 (by decide) (fun q=>absurd (show(6:Int)=5 from q) (by decide))
     · exact h.1
 · split
   · unfold wu
     split
     · exact⟨h.1,fun e=>absurd (show(2:Int)=6 from e) (by decide)⟩
     · split
       · exact⟨zpY h.1 (show(3:Int)≠2 by decide) (fun e=>absurd (show(3:Int)=5 from e) (by decide)),fun e=>absurd (show(7:Int)=6 from e) (by decide)⟩
       · split
         · exact⟨h.1,fun e=>absurd (show(3:Int)=6 from e) (by decide)⟩
         · split
           · exact⟨h.1,fun e=>absurd (show(4:Int)=6 from e) (by decide)⟩
           · exact XO h 5
   · split
     · split
       · exact XO h 2
       · exact⟨h.1,fun e=>absurd (show(5:Int)=6 from e) (by decide)⟩
     · split
       · have hk:GM { f with ln:=some (lnF (lnOf f) c).1}:=h
         split
         · exact XO hk _
         · split
           · exact zv4 hk _
           · exact hk
       · exact h
theorem zuv: ∀ (b:Str) (f:Fm),GM f→GM (VA f b)
 |[],f,h=>h
 |c::r,f,h=>zuv r (fmF f c) (gm_f h c)
theorem zoV (s b:Str) (d:Evt): ∀ i,i<(yI (y9 (fm0 s) b).out).length→GI (yI (y9 (fm0 s) b).out) i d:=
 zy5 (zy4 (zuv b { fm0 s with out:=[]} ⟨.nil,fun e=>absurd (show(0:Int)=6 from e) (by decide)⟩).1) d
theorem zwj {s:Str} (h:s.length≤70):FmI { fm0 s with out:=[]} 0:=by
 have h0:FmI ⟨zbe s,0,SH (zbe s),0,none,[],0,0,0,[]⟩ 0:=
  ⟨rfl,by unfold zbe;simp;omega,Int.le_refl _,by unfold zbe;simp;omega,⟨Int.le_refl _,(show(0:Int)≤2 by decide)⟩,⟨Int.le_refl _,(show(0:Int)≤12 by decide)⟩,jM _,(fun x hx=>by cases hx),(fun l e=>by cases e),(fun e=>absurd (show(0:Int)=5 from e) (by decide)),jM _⟩
 exact zcG (zcG h0 13) 10
theorem zfK (l:List Evt) (d:Evt) {i:Nat} (h:i<l.length):(l.take (i+1)).foldl prtS []=prtS ((l.take i).foldl prtS []) (l.getD i d):=by
 rw [jB h,List.foldl_append]
 simp [h]
theorem zo1 {l:List Evt} {d:Evt} {i:Nat} (h:i<l.length) (hg: ∀ j,j<l.length→GI l j d) (k:(l.getD i d).kind=2): ∃ z p,(l.take i).foldl prtS []=z++[p]∧p.bytes=[]∧(l.getD i d).bytes≠[]:=by
 obtain⟨hb,j,rfl,hj⟩:=(hg i h).1 k
 refine⟨(l.take j).foldl prtS [],(l.getD j d).part,?_,(hg j (by omega)).2 hj,hb⟩
 rw [zfK l d (show j<l.length by omega),prtS,if_pos hj]
theorem zsE (l:List Evt): ∀ o:List Prt,(l.foldl prtS o).length≤o.length+l.length:=by
 induction l with
 |nil=>intro o;simp
 | cons e r ih=>
   intro o;have h:=ih (prtS o e)
   have h2 :(prtS o e).length≤o.length+1:=by
    unfold prtS
    split
    · simp
    · split
      · split
        · rename_i p hp
          simp only [jk,List.length_dropLast,jr];omega
        · omega
      · omega
   rw [List.foldl_cons,jh];omega
theorem zgS: ∀ (b:Str) (f:Fm) (i:Nat),FmI f i→zF (VA f b).out+(VA f b).held.toNat≤zF f.out+f.held.toNat+2 * b.length
 |[],f,i,h=>by simp [VA]
 | c::r,f,i,h=>by
   have h1:=zgS r (fmF f c) (i+1) (zto h c);have h2:=ziF h c;rw [jh]
   show zF (VA (fmF f c) r).out+(VA (fmF f c) r).held.toNat≤_
   omega
theorem zg0 {s b:Str} (h:s.length≤70):(yI (y9 (fm0 s) b).out).length≤4 * b.length∧zF (yI (y9 (fm0 s) b).out)≤1000+2 * b.length:=by
 have hI:=zwj h;have h1:(y9 (fm0 s) b).out.length≤4 * (0+b.length):=(ziE b _ 0 hI).on;have h2:zF (y9 (fm0 s) b).out+(y9 (fm0 s) b).held.toNat≤0+(fm0 s).held.toNat+2 * b.length:=zgS b _ 0 hI;have h3:=za1 (y9 (fm0 s) b).out;have h4:=za0 (y9 (fm0 s) b).out;have h5:(fm0 s).held<(fm0 s).mark.length:=hI.h1;have h6:(fm0 s).mark.length≤1000:=hI.ml;have h7:0≤(fm0 s).held:=hI.h0;omega
end Go.Proofs.YtnpmenpjagcheaaGreatDoor
namespace Go.Proofs.YtnpmenpjagcheaaGreatDoor
open Go Go.Sep Go.Ab
set_option maxRecDepth 100000
theorem zwp (s b:Str) (hneed:(s.length≤1000000∧b.length≤300000)∧Vf s=true):Spc Tryz.prog 192 [.v (.one (.p (.str s))),.v (.one (.p (.list .byte b)))] [] (.ret (.tup [.one (.p (.list .prt ((Yb s b).1))),.one (.p (.int .i64 ((Yb s b).2)))])) []:=by
 obtain⟨⟨hs,hb⟩,hm⟩:=hneed
 have hl:s.length≤70:=by unfold Vf at hm;simp at hm;omega
 have hI0:=zwj hl;have hg:=zoV s b ⟨0,⟨[],[],0,[],0⟩,[],⟨[],[],[],[]⟩,0⟩;have hle:=zg0 (b:=b) hl
 have hN:fmN0 (fm0 s) b:=⟨0,hI0,by omega⟩
 generalize hr:Yb s b=r;unfold Yb at hr
 rw [hm,if_neg (by decide)] at hr
 refine spH Tryz.func192 (by kernel_rfl) { cfgF with rl:=[0],nr:=[8],keep:=some [0,1,4,5,6,7,8,10,11,12,23,24,25,30]} [zbg,zbf,U0,UZ,zbd,zbc] (by kernel_rfl) ?_
 intro I X hI hX
 refine orcL ?_;go_invoke;refine orcS (by kernel_rfl) ?_
 simp only [zi,Nat.reduceAdd];generalize fm0 s=F0 at *;refine⟨?_,fun c=> ?_,fun _=>⟨?_,?_⟩⟩
 · subst hI;exact⟨by omega,hm⟩
 · subst hI;exact absurd c (by decide)
 · subst hI;exact hN
 rw [show I.hid F0=F0 by subst hI;rfl]
 rw [show I.hid (y9 F0 b)=y9 F0 b by subst hI;rfl]
 generalize y9 F0 b=F at *
 rw [show I.hid (yI F.out)=yI F.out by subst hI;rfl]
 generalize yI F.out=L at *
 refine lpH hI [zbg,zbf,U0,UZ,zbd,zbc] hX [6,8,23,24,25] (fun(g:Nat × List Prt)=>match g with|(i,o)=>i≤L.length∧o=(L.take i).foldl prtS []) (fun(g:Nat × List Prt)=>match g with|(i,o)=>⟨[(6,.v (.one (.ptr 0 0))),(8,.v (.one (.row 1))),(23,.v (.one (.row 2))),(24,.v (.one (.p (.int .i64 ((I.len (α:=Evt) L)))))),(25,.v (.one (.p (.int .i64 i))))],[.abs (.fm F),.row .prt 136 o,.row .evt 138 L],62,none⟩) (fun(g:Nat × List Prt)=>match g with|(i,o)=>L.length - i) (0,[]) (by kernel_rfl) (by kernel_rfl) ?_ ?_
 · exact⟨jM _,rfl⟩
 rintro⟨i,o⟩ ⟨h1,h2⟩ A hA;simp only at hA h1 h2
 refine orcL ?_;go_invoke;refine orcS (by kernel_rfl) ?_
 simp only [zi,Nat.reduceAdd];subst hI;simp only [nrmA,nrmB,nrlB,reduceCtorEq];have hlo:=zsE (L.take i) [];rw [← h2,jv,ji] at hlo;have hb2:i<L.length→_→_:=fun h k=>zo1 h hg k;have hs2:i<L.length→_:=fun h=>zfK L ⟨0,⟨[],[],0,[],0⟩,[],⟨[],[],[],[]⟩,0⟩ h
 have hsum:i<L.length→(L.getD i ⟨0,⟨[],[],0,[],0⟩,[],⟨[],[],[],[]⟩,0⟩).bytes.length≤zF L:=fun h=>by
  refine VO ?_
  rw [show L.getD i ⟨0,⟨[],[],0,[],0⟩,[],⟨[],[],[],[]⟩,0⟩=L[i] by simp [h]]
  exact List.getElem_mem h
 rw [← h2] at hb2 hs2
 have hgo:i<L.length→_:=fun h=>hA (i+1,prtS o (L.getD i ⟨0,⟨[],[],0,[],0⟩,[],⟨[],[],[],[]⟩,0⟩)) ⟨by simp only;omega,by simp only;rw [hs2 h]⟩ (by simp only;omega)
 have hend: ¬ i<L.length→L.foldl prtS []=o:=fun h=>by rw [h2,jq (by omega)]
 clear hg hs2 hA;generalize L.getD i ⟨0,⟨[],[],0,[],0⟩,[],⟨[],[],[],[]⟩,0⟩=x at *;simp only [Int.natCast_add,Int.natCast_one] at hgo;refine⟨fun c=> ?_,fun c=> ?_⟩
 · have hgo:=hgo (by omega)
   have hb2:=hb2 (by omega)
   have hsum:=hsum (by omega)
   by_cases k5:x.kind=5
   · rw [prtS,if_pos k5] at hgo
     (repeat' (first|refine ja ?_ ?_|intro _))<;>first|omega|exact jb|exact jc ‹False›|skip
     all_goals first
      |omega
      |(simp only [jr];omega)
      |exact hgo
      |exact absurd k5 ‹_›
   · by_cases k2:x.kind=2
     · obtain⟨z,p,hz,hp,hxb⟩:=hb2 k2
       have hxb:0<x.bytes.length:=by cases hq:x.bytes with|nil=>exact absurd hq hxb|cons _ _=>simp
       subst hz
       rw [show prtS (z++[p]) x=z++[⟨p.name,p.file,p.type,x.bytes⟩] by unfold prtS;rw [if_neg k5,if_pos k2];simp [hp]] at hgo
       have e1:(((z++[p]).length:Int) - 1).toNat=z.length:=by rw [jk,jr];omega
       have e2:(z++[p]).getD z.length ⟨[],[],[],[]⟩=p:=by simp
       have e3: ∀ q,(z++[p]).set z.length q=z++[q]:=fun q=>by simp
       simp only [e1,e2,e3,hp];simp only [jk,jr,ji];clear e1 e2 e3;rw [jk,jr] at hlo
       (repeat' (first|refine ja ?_ ?_|intro _))<;>first|omega|exact jb|exact jc ‹False›|skip
       all_goals first
        |omega
        |exact hgo
        |exact absurd k2 ‹_›
        |exact absurd ‹x.kind=5› k5
     · rw [prtS,if_neg k5,if_neg k2] at hgo
       (repeat' (first|refine ja ?_ ?_|intro _))<;>first|omega|exact jb|exact jc ‹False›|skip
       all_goals first
        |omega
        |exact hgo
        |exact absurd ‹x.kind=5› k5
        |exact absurd ‹x.kind=2› k2
 · have he:=hend (by omega)
   rw [he] at hr;subst hr
   (repeat' (first|refine ja ?_ ?_|intro _))<;>first|omega|exact jb|exact jc ‹False›|skip
   all_goals first
    |omega
    |(rw [if_pos ‹¬ sW F=0›];done)
    |(rw [if_neg (fun h=>h ‹sW F=0›)];done)
end Go.Proofs.YtnpmenpjagcheaaGreatDoor
namespace Go.Proofs.YtnpmenpjagcheaaGreatDoor
open Go Go.Sep Go.Ab
set_option maxRecDepth 100000
theorem zwf (s:Str) (hneed:s.length≤140737488355328∧Vf s=false):Spc Tryz.prog 208 [.v (.one (.p (.str s)))] [] (.ret (.tup [.one (.p (.val (.pointer none))),.one (.p (.int .i64 5))])) []:=zwg s hneed
def VE (I:Alg):KU
 |[.v (.one (.p (.str s)))],[]=>(fun(s:Str)=>(some (.one ⟨I.hid (s.length≤140737488355328∧Vf s=false),(.ret (.tup [.one (.p (.val (.pointer none))),.one (.p (.int .i64 5))])),[]⟩):Option CT)) s
 |_,_=>none
theorem zgV:zu Tryz.prog 208 (VE alg):=by
 intro args hp r h;unfold VE at h
 split at h
 · cases h;exact fun hn=>zwf _ hn
 · cases h
def zqf:Know Tryz.prog:=⟨208,VE,zgV⟩
def zqe:Know Tryz.prog:=⟨208,fun I=>zx I (VE I),zf zgV⟩
theorem ztm (b:Str) (hneed:False):Spc Tryz.prog 209 [.v (.one (.p (.val (.pointer none)))),.v (.one (.p (.list .byte b)))] [] (.ret (.v (.one (.row 0)))) [.row .evt 138 (([]:List Evt))]:=hneed.elim
def Xb (I:Alg):KU
 |[.v (.one (.p (.val (.pointer none)))),.v (.one (.p (.list .byte b)))],[]=>(fun(b:Str)=>(some (.one ⟨I.hid (False),(.ret (.v (.one (.row 0)))),[.row .evt 138 (I.hid ([]:List Evt))]⟩):Option CT)) b
 |_,_=>none
theorem zcH:zu Tryz.prog 209 (Xb alg):=by
 intro args hp r h;unfold Xb at h
 split at h
 · cases h;exact fun hn=>ztm _ hn
 · cases h
def zmP:Know Tryz.prog:=⟨209,Xb,zcH⟩
def zmO:Know Tryz.prog:=⟨209,fun I=>zx I (Xb I),zf zcH⟩
theorem zwo (s b:Str) (hneed:(s.length≤1000000∧b.length≤300000)∧Vf s=false):Spc Tryz.prog 192 [.v (.one (.p (.str s))),.v (.one (.p (.list .byte b)))] [] (.ret (.tup [.one (.p (.list .prt ((Yb s b).1))),.one (.p (.int .i64 ((Yb s b).2)))])) []:=by
 obtain⟨⟨hs,hb⟩,hm⟩:=hneed;generalize hr:Yb s b=r;unfold Yb at hr;rw [if_pos hm] at hr;subst hr
 refine spH Tryz.func192 (by kernel_rfl) { cfgF with rl:=[0],nr:=[8],keep:=some [0,1,4,5,6,7,8,10,11,12,23,24,25,30]} [zbg,zbf,zmP,zmO,U0,UZ,zqf,zqe] (by kernel_rfl) ?_
 intro I X hI hX
 refine orcL ?_;go_invoke;refine orcS (by kernel_rfl) ?_
 simp only [zi,Nat.reduceAdd];subst hI;simp only [nrmA,nrmB,nrlB,reduceCtorEq]
 exact⟨⟨by omega,hm⟩,fun _=>trivial,by decide⟩
def QB (I:Alg):KU
 |[.v (.one (.p (.str s))),.v (.one (.p (.list .byte b)))],[]=>(fun(s b:Str)=>(some (.one ⟨I.hid (s.length≤1000000∧b.length≤300000),(.ret (.tup [.one (.p (.list .prt (I.hid ((Yb s b).1)))),.one (.p (.int .i64 (I.hid ((Yb s b).2))))])),[]⟩):Option CT)) s b
 |_,_=>none
theorem zlg:zu Tryz.prog 192 (QB alg):=by
 intro args hp r h;unfold QB at h;split at h<;>cases h
 rename_i s b;simp only [CT.Good,zh];intro hneed
 cases hm:Vf s with
 |true=>exact zwp s b ⟨hneed,hm⟩
 |false=>exact zwo s b ⟨hneed,hm⟩
def ztx:Know Tryz.prog:=⟨192,QB,zlg⟩
def ztw:Know Tryz.prog:=⟨192,fun I=>zx I (QB I),zf zlg⟩
end Go.Proofs.YtnpmenpjagcheaaGreatDoor
