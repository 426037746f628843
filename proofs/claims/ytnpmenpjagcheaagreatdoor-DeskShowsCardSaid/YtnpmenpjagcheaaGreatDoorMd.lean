/- Texts of this proof, one behind the other: JrnG JrnP StoL StoA SplC SplS SplD StoB StoN TusL RplL LnL LnR ChkL Evt ReqL ReqP SeekL SeekM Mrk FrmL Pfx TusA TusB TusC TusD TusE TusF GatL RplA FrmA FrmB LnA FrmC FrmD FldP FrmE EvJ FrmF. -/
import Derived.Test.YtnpmenpjagcheaaGreatDoorMc
set_option linter.all false
namespace Go.Proofs.YtnpmenpjagcheaaGreatDoor
open Go Go.Sep Go.Ab
set_option maxRecDepth 100000
def cfgL:Cfg:= { sl:=[⟨108,0,.byte,some 5⟩]}
def zaQ (b:Str) (n:Int):Bool:=decide (0≤n∧n≤100000 - (b.length:Int))
def wrC (b x:Str):Int:=if b.length+x.length≤100000 then 0 else 16
def wrB (b x:Str):Str:=if b.length+x.length≤100000 then b++x else b
def crB (b:Str) (s n:Int):Str:=b.take (s+min (max n 0) (b.length - s)).toNat
def cuB (b:Str) (n:Int):Str:=if 0≤n∧n<b.length then b.take n.toNat else b
def cuS (b:Str) (s n:Int):Int:=if 0≤n∧n<b.length then min s n else s
def zeq (I:Alg):KU
 |[],[]=>some (.one ⟨I.hid (True),(.ret (.v (.one (.ptr 0 0)))),[.pack [.obj 108 [.row 1,.p (.int .i64 0)],.row .byte 5 (I.hid ([]))]]⟩)
 |_,_=>none
theorem zp9:zq Tryz.prog 37 (zeq alg):=by
 intro args hp r h;unfold zeq at h;split at h<;>cases h
 simp only [CT.Good,zh];intro _
 refine spH Tryz.func37 (by kernel_rfl) { cfgL with keep:=some [0]} [] (by kernel_rfl) ?_
 intro I X hI hX
 refine orcL ?_;go_invoke;refine orcS (by kernel_rfl) ?_
 simp only [zi,Nat.reduceAdd];trivial
def zwo:Know Tryz.prog:=⟨37,zeq,zp9⟩
def zwn:Know Tryz.prog:=⟨37,fun I=>zu I (zeq I),zf zp9⟩
def zdG (I:Alg):KU
 |[.v (.one (.ptr 0 0))],[.pack [.obj 108 [.row 1,.p (.int .i64 s)],.row .byte 5 b]]=>(fun(b:Str)=>(some (.one ⟨I.hid (True),(.ret (.v (.one (.p (.int .i64 s))))),[.pack [.obj 108 [.row 1,.p (.int .i64 s)],.row .byte 5 b]]⟩):Option CT)) b
 |_,_=>none
theorem zob:zq Tryz.prog 56 (zdG alg):=by
 intro args hp r h;unfold zdG at h;split at h<;>cases h
 rename_i s b;simp only [CT.Good,zh];intro _
 refine spH Tryz.func56 (by kernel_rfl) { cfgL with keep:=some [0,2]} [] (by kernel_rfl) ?_
 intro I X hI hX
 refine orcL ?_;go_invoke;refine orcS (by kernel_rfl) ?_
 simp only [zi,Nat.reduceAdd];trivial
def zvE:Know Tryz.prog:=⟨56,zdG,zob⟩
def zvD:Know Tryz.prog:=⟨56,fun I=>zu I (zdG I),zf zob⟩
def zad (I:Alg):KU
 |[.v (.one (.ptr 0 0))],[.pack [.obj 108 [.row 1,.p (.int .i64 s)],.row .byte 5 b]]=>(fun(b:Str)=>(some (.one ⟨I.hid (b.length≤100000000),(.ret (.v (.one (.row 1)))),[.pack [.obj 108 [.row 1,.p (.int .i64 s)],.row .byte 5 b],.row .byte 5 b]⟩):Option CT)) b
 |_,_=>none
theorem zmh:zq Tryz.prog 55 (zad alg):=by
 intro args hp r h;unfold zad at h;split at h<;>cases h
 rename_i s b;simp only [CT.Good,zh];intro hneed
 refine spH Tryz.func55 (by kernel_rfl) { cfgL with keep:=some [0,2]} [ZB,qy] (by kernel_rfl) ?_
 intro I X hI hX
 refine orcL ?_;go_invoke;refine orcS (by kernel_rfl) ?_
 simp only [zi,Nat.reduceAdd];subst hI;simp only [nrmA,nrmB];exact hneed
def ze6:Know Tryz.prog:=⟨55,zad,zmh⟩
def ze5:Know Tryz.prog:=⟨55,fun I=>zu I (zad I),zf zmh⟩
def zdF (I:Alg):KU
 |[.v (.one (.ptr 0 0))],[.pack [.obj 108 [.row 1,.p (.int .i64 s)],.row .byte 5 b]]=>(fun(b:Str)=>(some (.one ⟨I.hid (True),(.ret (.tup [])),[.pack [.obj 108 [.row 1,.p (.int .i64 (I.hid (b.length:Int)))],.row .byte 5 b]]⟩):Option CT)) b
 |_,_=>none
theorem zoa:zq Tryz.prog 84 (zdF alg):=by
 intro args hp r h;unfold zdF at h;split at h<;>cases h
 rename_i s b;simp only [CT.Good,zh];intro _
 refine spH Tryz.func84 (by kernel_rfl) { cfgL with keep:=some [0]} [] (by kernel_rfl) ?_
 intro I X hI hX
 refine orcL ?_;go_invoke;refine orcS (by kernel_rfl) ?_
 simp only [zi,Nat.reduceAdd];subst hI;simp only [nrmA,nrmB,nrlB,reduceCtorEq,HO.pack.injEq,HO.obj.injEq]
def zn9:Know Tryz.prog:=⟨84,zdF,zoa⟩
def zn8:Know Tryz.prog:=⟨84,fun I=>zu I (zdF I),zf zoa⟩
def zdZ (I:Alg):KU
 |[.v (.one (.ptr 0 0)),.v (.one (.p (.int .i64 n)))],[.pack [.obj 108 [.row 1,.p (.int .i64 s)],.row .byte 5 b]]=>(fun(b:Str)=>(some (.one ⟨I.hid (b.length≤100000000),(.ret (.v (.one (.p (.bool (I.hid (zaQ b n))))))),[.pack [.obj 108 [.row 1,.p (.int .i64 s)],.row .byte 5 b]]⟩):Option CT)) b
 |_,_=>none
theorem zpj:zq Tryz.prog 147 (zdZ alg):=by
 intro args hp r h;unfold zdZ at h;split at h<;>cases h
 rename_i n s b;simp only [CT.Good,zh];intro hneed
 refine spH Tryz.func147 (by kernel_rfl) { cfgL with keep:=some [0,1,4]} [] (by kernel_rfl) ?_
 intro I X hI hX
 refine orcL ?_;go_invoke;refine orcS (by kernel_rfl) ?_
 simp only [zi,Nat.reduceAdd];subst hI;simp only [nrmA,nrmB,nrlB,reduceCtorEq];unfold zaQ
 exact⟨fun h=>⟨by omega,decide_eq_decide.2 (by omega)⟩,fun h=>(decide_eq_false (by omega)).symm⟩
def zpi:Know Tryz.prog:=⟨147,zdZ,zpj⟩
def zph:Know Tryz.prog:=⟨147,fun I=>zu I (zdZ I),zf zpj⟩
def SV (I:Alg):KU
 |[.v (.one (.ptr 0 0)),.v (.one (.p (.list .byte x)))],[.pack [.obj 108 [.row 1,.p (.int .i64 s)],.row .byte 5 b]]=>(fun(b x:Str)=>(some (.one ⟨I.hid (b.length≤100000∧x.length≤100000000),(.ret (.v (.one (.p (.int .i64 (I.hid (wrC b x))))))),[.pack [.obj 108 [.row 1,.p (.int .i64 s)],.row .byte 5 (I.hid (wrB b x))]]⟩):Option CT)) b x
 |_,_=>none
theorem zjv:zq Tryz.prog 110 (SV alg):=by
 intro args hp r h;unfold SV at h;split at h<;>cases h
 rename_i x s b;simp only [CT.Good,zh];intro hneed
 refine spH Tryz.func110 (by kernel_rfl) { cfgL with keep:=some [0,1,4]} [zpi,zph] (by kernel_rfl) ?_
 intro I X hI hX
 refine orcL ?_;go_invoke;refine orcS (by kernel_rfl) ?_
 simp only [zi,Nat.reduceAdd];subst hI
 have hr:zaQ b (x.length:Int)=decide (b.length+x.length≤100000):=by unfold zaQ;exact decide_eq_decide.2 (by omega)
 simp only [nrmA,nrmB,nrlB,reduceCtorEq,HO.pack.injEq,HO.obj.injEq];rw [hr]
 by_cases hc:b.length+x.length≤100000
 · simp only [wrC,wrB,if_pos hc,decide_eq_true hc]
   simp only [nrmA,nrmB,nrlB,reduceCtorEq]
   exact⟨by omega,fun h=>h.elim,fun _=>by omega⟩
 · simp only [wrC,wrB,if_neg hc,decide_eq_false hc]
   simp only [nrmA,nrmB,nrlB,reduceCtorEq]
   exact⟨by omega,fun _=>trivial,fun h=>h.elim⟩
def zr9:Know Tryz.prog:=⟨110,SV,zjv⟩
def zr8:Know Tryz.prog:=⟨110,fun I=>zu I (SV I),zf zjv⟩
def QZ (I:Alg):KU
 |[.v (.one (.ptr 0 0)),.v (.one (.p (.int .i64 n)))],[.pack [.obj 108 [.row 1,.p (.int .i64 s)],.row .byte 5 b]]=>(fun(b:Str)=>(some (.one ⟨I.hid (b.length≤100000∧0≤s∧s≤b.length),(.ret (.tup [])),[.pack [.obj 108 [.row 1,.p (.int .i64 (I.hid ((crB b s n).length:Int)))],.row .byte 5 (I.hid (crB b s n))]]⟩):Option CT)) b
 |_,_=>none
theorem zl5:zq Tryz.prog 85 (QZ alg):=by
 intro args hp r h;unfold QZ at h;split at h<;>cases h
 rename_i n s b;simp only [CT.Good,zh];intro hneed
 refine spH Tryz.func85 (by kernel_rfl) { cfgL with cut:=[35],keep:=some [0,1,4]} [zn9,zn8] (by kernel_rfl) ?_
 intro I X hI hX
 refine orcL ?_;go_invoke;refine orcS (by kernel_rfl) ?_
 simp only [zi,Nat.reduceAdd];subst hI;simp only [nrmA,nrmB,nrlB,reduceCtorEq,HO.pack.injEq,HO.obj.injEq]
 obtain⟨K,hK,h0,hle⟩: ∃ K:Int,s+(if(if n≤0 then 0 else n)≤(b.length:Int) - s then(if n≤0 then 0 else n) else(b.length:Int) - s)=K∧s≤K∧K≤b.length:=⟨_,rfl,by omega,by omega⟩
 have hcr:crB b s n=b.take K.toNat:=by
  unfold crB;rw [← hK]
  congr 2
 rw [hK,hcr]
 exact⟨by omega,by omega,by omega,by omega,rfl,rfl⟩
def zl4:Know Tryz.prog:=⟨85,QZ,zl5⟩
def zl3:Know Tryz.prog:=⟨85,fun I=>zu I (QZ I),zf zl5⟩
def zeX (I:Alg):KU
 |[.v (.one (.ptr 0 0)),.v (.one (.p (.int .i64 n)))],[.pack [.obj 108 [.row 1,.p (.int .i64 s)],.row .byte 5 b]]=>(fun(b:Str)=>(some (.one ⟨I.hid (b.length≤100000∧0≤s∧s≤b.length),(.ret (.tup [])),[.pack [.obj 108 [.row 1,.p (.int .i64 (I.hid (cuS b s n)))],.row .byte 5 (I.hid (cuB b n))]]⟩):Option CT)) b
 |_,_=>none
theorem zru:zq Tryz.prog 87 (zeX alg):=by
 intro args hp r h;unfold zeX at h;split at h<;>cases h
 rename_i n s b;simp only [CT.Good,zh];intro hneed
 refine spH Tryz.func87 (by kernel_rfl) { cfgL with cut:=[22],keep:=some [0,1]} [] (by kernel_rfl) ?_
 intro I X hI hX
 refine orcL ?_;go_invoke;refine orcS (by kernel_rfl) ?_
 simp only [zi,Nat.reduceAdd];subst hI;simp only [nrmA,nrmB,nrlB,reduceCtorEq,HO.pack.injEq,HO.obj.injEq]
 refine⟨fun h1=>⟨fun h2=>⟨by omega,?_,?_⟩,fun h2=> ?_⟩,fun h1=> ?_⟩
 · unfold cuS;rw [if_pos (show 0≤n∧n<(b.length:Int) from⟨h1,h2⟩)];omega
 · unfold cuB;rw [if_pos (show 0≤n∧n<(b.length:Int) from⟨h1,h2⟩)]
 · unfold cuS cuB;rw [if_neg (show ¬ (0≤n∧n<(b.length:Int)) from fun h=>by omega),if_neg (show ¬ (0≤n∧n<(b.length:Int)) from fun h=>by omega)];exact⟨rfl,rfl⟩
 · unfold cuS cuB;rw [if_neg (show ¬ (0≤n∧n<(b.length:Int)) from fun h=>by omega),if_neg (show ¬ (0≤n∧n<(b.length:Int)) from fun h=>by omega)];exact⟨rfl,rfl⟩
def zrt:Know Tryz.prog:=⟨87,zeX,zru⟩
def zrr:Know Tryz.prog:=⟨87,fun I=>zu I (zeX I),zf zru⟩
end Go.Proofs.YtnpmenpjagcheaaGreatDoor
namespace Go.Jrn
open Go Go.Ab
theorem pow5 {i:Nat} (h:i<5):128 ^ (5 - i)=128 * 128 ^ (5 - (i+1)):=by
 rw [show 5 - i=(5 - (i+1))+1 by omega,Nat.pow_succ,Nat.mul_comm]
theorem zga: ∀ (s:Str) (i u:Nat) (v:Int) (r:Str),numF i u s=(v,r,true)→∃ x,v=((u+x * 128 ^ i:Nat):Int) - 1∧s=sev x++r∧(0<i→0<x)∧x<128 ^ (5 - i)
 |[],i,u,v,r,h=>by simp [numF] at h
 | c :: l,i,u,v,r,h=>by
   rw [numF] at h
   split at h
   · simp at h
   · rename_i h5
     have hp:=pow5 (i:=i) (by omega)
     have hpos:0<128 ^ (5 - (i+1)):=Nat.pow_pos (by omega)
     split at h
     · rename_i hc
       simp only [Prod.mk.injEq,decide_eq_true_eq] at h;obtain⟨rfl,rfl,h3⟩:=h
       refine⟨c.toNat,rfl,?_,by omega,by omega⟩
       rw [zfC hc,UInt8.ofNat_toNat];rfl
     · rename_i hc
       obtain⟨y,h1,h2,h3,h4⟩:=zga l (i+1) _ v r h
       have hy:=h3 (by omega)
       have hc2:c.toNat<256:=UInt8.toNat_lt c
       have h45:128 ^ (5 - (i+1))≤128 ^ 4:=Nat.pow_le_pow_right (by omega) (by omega)
       refine⟨c.toNat % 128+128 * y,?_,?_,by omega,?_⟩
       · rw [h1,Nat.pow_succ,Nat.add_mul]
         congr 2
         rw [Nat.add_assoc]
         congr 1
         rw [Nat.mul_comm (128 ^ i) 128,Nat.mul_comm 128 y,Nat.mul_assoc]
       · rw [zor (by omega) (by omega),h2,show(c.toNat % 128+128 * y) % 128+128=c.toNat by omega,show(c.toNat % 128+128 * y) / 128=y by omega,UInt8.ofNat_toNat];rfl
       · rw [hp];omega
theorem Qm {s r:Str} {v:Int} (h:num s=(v,r,true)): -1≤v∧v<34359738367∧s=sev (v+1).toNat++r:=by
 obtain⟨x,h1,h2,_,h4⟩:=zga s 0 0 v r h;simp only [Nat.pow_zero,Nat.mul_one,Nat.zero_add,Nat.sub_zero] at h1 h4
 have:(v+1).toNat=x:=by omega
 rw [this]
 exact⟨by omega,by omega,h2⟩
theorem zmt {s t:Str} {k i n:Int} (h:three s=some (k,i,n,t)):s=sev (k+1).toNat++sev (i+1).toNat++sev (n+1).toNat++t:=by
 unfold three at h
 split at h
 · rename_i k' r1 h1
   split at h
   · rename_i i' r2 h2
     split at h
     · rename_i n' r3 h3
       simp only [jw,Prod.mk.injEq] at h;obtain⟨rfl,rfl,rfl,rfl⟩:=h;obtain⟨_,_,e1⟩:=Qm h1;obtain⟨_,_,e2⟩:=Qm h2;obtain⟨_,_,e3⟩:=Qm h3;rw [e1,e2,e3];simp only [jo]
     · cases h
   · cases h
 · cases h
theorem zpG {s r:Str} {e:Ent} (h:oneM s=some (e,r)):mayM e=true∧s=encB e++r:=by
 unfold oneM at h
 split at h
 · rename_i hx
   simp only [jw,Prod.mk.injEq] at h;obtain⟨rfl,rfl⟩:=h;unfold oneX at hx ⊢
   split at hx
   · rename_i n q hn
     split at hx
     · cases hx
     · rename_i hc
       rw [if_neg hc]
       split at hx
       · rename_i k i m t ht
         simp only [ht];refine⟨hx,?_⟩;obtain⟨_,_,e1⟩:=Qm hn;have e2:=zmt ht
         have hl:(q.take n.toNat).length=n.toNat:=by rw [jv];omega
         have e3:enc3 ⟨k,i,m,t⟩=q.take n.toNat:=by rw [e2];rfl
         rw [encB,e3,hl,show n.toNat+1=(n+1).toNat by omega,jo,List.take_append_drop]
         exact e1
       · cases hx
   · cases hx
 · cases h
def qm:List Ent→Str
 |[]=>[]
 |e::l=>encB e++qm l
theorem zeM (a b:List Ent):qm (a++b)=qm a++qm b:=by
 induction a with
 |nil=>rfl
 |cons e l ih=>simp [qm,ih,jo]
theorem zeP: ∀ (f:Nat) (b:Str),b.length≤f→b=qm (dec b).1++(dec b).2∧∀ e ∈ (dec b).1,mayM e=true
 | f, b, hf=>by
   cases ho:oneM b with
   |none=>rw [zlV ho];exact⟨rfl,fun e h=>by cases h⟩
   | some p=>
     obtain⟨e,r⟩:=p;obtain⟨h1,h2⟩:=zpG ho;have hlt:=zeh ho
     cases f with
     |zero=>omega
     | succ f=>
       obtain⟨h3,h4⟩:=zeP f r (by omega)
       rw [zlU ho];refine⟨?_,fun x hx=> ?_⟩
       · simp only [qm]
         rw [jo,← h3];exact h2
       · cases hx with
         |head=>exact h1
         |tail _ h=>exact h4 x h
theorem zt8 {e:Ent} (h:mayM e=true):(encB e).length≤e.text.length+50:=by
 have h0:=vz ((enc3 e).length+1);have h1:=vz (e.kind+1).toNat;have h2:=vz (e.id+1).toNat;have h3:=vz (e.n+1).toNat;simp only [encB,enc3,jk] at h0 ⊢;omega
end Go.Jrn
namespace Go.Proofs.YtnpmenpjagcheaaGreatDoor
open Go Go.Sep Go.Ab Go.Jrn
def zd3 (l:List Upl) (n:Int) (e:Ent):Int:=
 if e.kind=1 then(if creC l e.n e.text=0∧¬ n+1=e.id then 20 else creC l e.n e.text)
 else if e.kind=2 then appC l e.id (getU l e.id).bytes.length e.text
 else if e.kind=3 then decC l e.id e.n
 else if e.kind=4 then droC l e.id
 else if e.kind=5 then begC l e.id
 else endC l e.id
def zd2 (l:List Upl) (n:Int) (e:Ent):List Upl:=
 if e.kind=1 then creL l n e.n e.text
 else if e.kind=2 then appL l e.id (getU l e.id).bytes.length e.text
 else if e.kind=3 then decL l e.id e.n
 else if e.kind=4 then droL l e.id
 else if e.kind=5 then begL l e.id
 else endL l e.id
def UC (l:List Upl) (n:Int) (e:Ent):Int:=if e.kind=1 then creN l n e.n e.text else n
theorem zpt {l:List Upl} {n:Int} (h:zI l n) (e:Ent):zI (zd2 l n e) (UC l n e):=by
 unfold zd2 UC
 split
 · exact zyQ h _ _
 split
 · exact zy5 h _ _ _
 split
 · exact zyM h _ _
 split
 · exact zyH h _
 split
 · exact zy0 h _
 · exact zyE h _
theorem zkE (l:List Upl) (n:Int) (e:Ent):n≤UC l n e∧UC l n e≤n+1:=by
 unfold UC creN
 split
 · split<;>omega
 · omega
def replay:List Upl × Int→List Ent→List Upl × Int
 |p,[]=>p
 |p,e::es=>replay (zd2 p.1 p.2 e,UC p.1 p.2 e) es
theorem Uy: ∀ (a b:List Ent) (p:List Upl × Int),replay p (a++b)=replay (replay p a) b
 |[],_,_=>rfl
 |_::a,b,_=>Uy a b _
theorem zaR: ∀ (es:List Ent) (p:List Upl × Int),zI p.1 p.2→zI (replay p es).1 (replay p es).2
 |[],_,h=>h
 |e::es,_,h=>zaR es _ (zpt h e)
theorem zd0: ∀ (es:List Ent) (p:List Upl × Int),(replay p es).2≤p.2+es.length
 |[],_=>by simp [replay]
 | e::es,p=>by
   have:=zd0 es (zd2 p.1 p.2 e,UC p.1 p.2 e);have:=zkE p.1 p.2 e;simp only [replay,jh] at *;omega
theorem zil {es:List Ent} {i:Nat} (p:List Upl × Int) (h:i<es.length):replay p (es.take (i+1))=(zd2 (replay p (es.take i)).1 (replay p (es.take i)).2 es[i],UC (replay p (es.take i)).1 (replay p (es.take i)).2 es[i]):=by
 rw [jB h,Uy];rfl
def wrtC (l:List Upl) (n:Int) (b:Str) (e:Ent):Int:=
 if ¬ zd3 l n e=0 then zd3 l n e else if ¬ encC e=0 then encC e else wrC b (encM e)
def wrtL (l:List Upl) (n:Int) (b:Str) (e:Ent):List Upl:=if wrtC l n b e=0 then zd2 l n e else l
def wrtN (l:List Upl) (n:Int) (b:Str) (e:Ent):Int:=if wrtC l n b e=0 then UC l n e else n
def wrtB (l:List Upl) (n:Int) (b:Str) (e:Ent):Str:=if wrtC l n b e=0 then b++encB e else b
theorem zaf {l:List Upl} {n:Int} (h:zI l n) (b:Str) (e:Ent):zI (wrtL l n b e) (wrtN l n b e):=by
 unfold wrtL wrtN
 split
 · exact zpt h e
 · exact h
theorem znA (l:List Upl) (n:Int) (b:Str) (e:Ent):n≤wrtN l n b e∧wrtN l n b e≤n+1:=by
 have:=zkE l n e;unfold wrtN
 split<;>omega
theorem zdj {l:List Upl} {n:Int} {b:Str} {e:Ent} (h:wrtC l n b e=0):zd3 l n e=0∧mayM e=true∧b.length+(encB e).length≤100000:=by
 unfold wrtC at h
 split at h
 · rename_i h1;exact absurd h h1
 rename_i h1
 split at h
 · rename_i h2;exact absurd h h2
 rename_i h2
 have hm:mayM e=true:=by
  unfold encC at h2
  cases hm:mayM e with
  |true=>rfl
  |false=>rw [hm] at h2;simp at h2
 unfold wrC at h
 split at h
 · rename_i h3
   refine⟨Decidable.not_not.1 h1,hm,?_⟩;unfold encM at h3;rw [if_pos hm] at h3;exact h3
 · cases h
theorem Za {l:List Upl} {n:Int} {b:Str} (e:Ent) (h:b.length≤100000):(wrtB l n b e).length≤100000:=by
 unfold wrtB
 split
 · rename_i h1
   rw [jk];exact(zdj h1).2.2
 · exact h
def crsB (b:Str) (s k:Int):Str:=cuB (crB b s k) (zdq (crB b s k))
def crsE (b:Str) (s k:Int):List Ent:=(Jrn.dec (crB b s k)).1
def crsP (b:Str) (s k:Int):List Upl × Int:=replay ([],0) (crsE b s k)
theorem zjy (b:Str):0≤zdq b∧zdq b≤b.length:=by
 have:=Jrn.zrl b;unfold zdq;omega
theorem zuk (b:Str) (s k:Int):cuS (crB b s k) (crB b s k).length (zdq (crB b s k))=(crsB b s k).length:=by
 have:=zjy (crB b s k);unfold crsB cuS cuB
 split
 · rw [jv];omega
 · rfl
theorem zeY (b:Str) (s k:Int):(crB b s k).length≤b.length:=by unfold crB;rw [jv];omega
theorem zul (b:Str) (s k:Int):(crsB b s k).length≤b.length:=by
 have:=zeY b s k;unfold crsB cuB
 split
 · rw [jv];omega
 · exact this
theorem zdb: ∀ {es:List Ent} {e:Ent},e ∈ es→(encB e).length≤(qm es).length
 | f::es,e,h=>by
   simp only [qm,jk]
   rcases List.mem_cons.1 h with rfl|h
   · omega
   · have:=zdb h;omega
theorem zt5 (e:Ent):e.text.length≤(encB e).length:=by unfold encB enc3;simp only [jk];omega
theorem znp {b:Str} {s k:Int} (h:b.length≤100000):(crsE b s k).length≤100000∧∀ e ∈ crsE b s k,e.text.length≤100000:=by
 have h1:=zeY b s k;have h2:=Jrn.zrl (crB b s k);have h3:=Jrn.zeP _ (crB b s k) (jL _);have h4:=congrArg List.length h3.1;rw [jk] at h4;unfold crsE
 refine⟨by omega,fun e he=> ?_⟩
 have:=zdb he;have:=zt5 e;omega
end Go.Proofs.YtnpmenpjagcheaaGreatDoor
namespace Go.Proofs.YtnpmenpjagcheaaGreatDoor
open Go Go.Sep Go.Ab Go.Jrn
set_option maxRecDepth 100000
def XT:Cfg:= { sl:=[⟨106,0,.upl,some 82⟩,⟨108,0,.byte,some 5⟩]}
def Wj (I:Alg):KU
 |[],[]=>some (.one ⟨I.hid (True),(.ret (.v (.one (.ptr 0 0)))),[.pack [.obj 78 [.ptr 1 0,.ptr 2 0],.pack [.obj 106 [.row 1,.p (.int .i64 0)],.row .upl 82 (I.hid ([]))],.pack [.obj 108 [.row 1,.p (.int .i64 0)],.row .byte 5 (I.hid ([]))]]]⟩)
 |_,_=>none
theorem zft:zq Tryz.prog 24 (Wj alg):=by
 intro args hp r h;unfold Wj at h;split at h<;>cases h
 simp only [CT.Good,zh];intro _
 refine spH Tryz.func24 (by kernel_rfl) { XT with keep:=some [0]} [zh6,zh5,zwo,zwn] (by kernel_rfl) ?_
 intro I X hI hX
 refine orcL ?_;go_invoke;refine orcS (by kernel_rfl) ?_
 simp only [zi,Nat.reduceAdd];subst hI;exact⟨trivial,trivial,trivial,rfl⟩
def zog:Know Tryz.prog:=⟨24,Wj,zft⟩
def zof:Know Tryz.prog:=⟨24,fun I=>zu I (Wj I),zf zft⟩
def Rl (I:Alg):KU
 |[.v (.one (.ptr 0 0)),.v (.agg [.p (.int .i64 k),.p (.int .i64 i),.p (.int .i64 m),.p (.list .byte t)])],[.pack [.obj 106 [.row 1,.p (.int .i64 n)],.row .upl 82 l]]=>(fun(l:List Upl) (t:Str)=>(some (.one ⟨I.hid (zI l n∧n≤1000000∧t.length≤1000000),(.ret (.v (.one (.p (.int .i64 (I.hid (zd3 l n ⟨k,i,m,t⟩))))))),[.pack [.obj 106 [.row 1,.p (.int .i64 (I.hid (UC l n ⟨k,i,m,t⟩)))],.row .upl 82 (I.hid (zd2 l n ⟨k,i,m,t⟩))]]⟩):Option CT)) l t
 |_,_=>none
set_option maxHeartbeats 4000000 in
theorem zjM:zq Tryz.prog 88 (Rl alg):=by
 intro args hp r h;unfold Rl at h;split at h<;>cases h
 rename_i k i m t n l
 revert l;intro(l:List Upl)
 simp only [CT.Good,zh];intro hneed;obtain⟨hs,hn,ht⟩:=hneed;generalize hc:zd3 l n ⟨k,i,m,t⟩=c;generalize hl:zd2 l n ⟨k,i,m,t⟩=l';generalize hN:UC l n ⟨k,i,m,t⟩=n'
 refine spH Tryz.func88 (by kernel_rfl) { XT with keep:=some [0,1,3,4,5,6,7,10]} [zmC,zmB,zmE,zmD,zh8,zh7,zoH,zoG,zvQ,zvP,Zh,Zg,XA,Xz,zsK,zsJ] (by kernel_rfl) ?_
 intro I X hI hX
 refine orcL ?_;go_invoke;refine orcS (by kernel_rfl) ?_
 simp only [zi,Nat.reduceAdd];subst hI;simp only [nrmA,nrmB,nrlB,reduceCtorEq,HO.pack.injEq,HO.obj.injEq];unfold zd3 at hc;unfold zd2 at hl;unfold UC at hN;simp only at hc hl hN
 have hci:creC l m t=0→creI l n m t=n+1:=fun h=>by unfold creI;rw [if_pos h]
 (repeat' (first|refine ja ?_ ?_|intro _))<;>first|omega|exact jb|exact jc ‹False›|skip
 all_goals first
  |exact hs
  |exact hn
  |exact ht
  |exact⟨hs,hn,ht⟩
  |exact⟨hs,ht⟩
  |(have:=hci (by assumption);((repeat(first|rewrite [if_pos (by first|omega|assumption|(simp only [*,or_self,or_true,true_or,or_false,false_or,jf,jg,jd,je,and_self,and_true,true_and];done)|(simp only [*];omega)|(simp [*];done)|(simp [*];omega))] at hc|rewrite [if_neg (by first|omega|assumption|(simp only [*,or_self,or_true,true_or,or_false,false_or,jf,jg,jd,je,and_self,and_true,true_and];done)|(simp only [*];omega)|(simp [*];done)|(simp [*];omega))] at hc)));subst hc;((repeat(first|rewrite [if_pos (by first|omega|assumption|(simp only [*,or_self,or_true,true_or,or_false,false_or,jf,jg,jd,je,and_self,and_true,true_and];done)|(simp only [*];omega)|(simp [*];done)|(simp [*];omega))] at hl|rewrite [if_neg (by first|omega|assumption|(simp only [*,or_self,or_true,true_or,or_false,false_or,jf,jg,jd,je,and_self,and_true,true_and];done)|(simp only [*];omega)|(simp [*];done)|(simp [*];omega))] at hl)));subst hl;((repeat(first|rewrite [if_pos (by first|omega|assumption|(simp only [*,or_self,or_true,true_or,or_false,false_or,jf,jg,jd,je,and_self,and_true,true_and];done)|(simp only [*];omega)|(simp [*];done)|(simp [*];omega))] at hN|rewrite [if_neg (by first|omega|assumption|(simp only [*,or_self,or_true,true_or,or_false,false_or,jf,jg,jd,je,and_self,and_true,true_and];done)|(simp only [*];omega)|(simp [*];done)|(simp [*];omega))] at hN)));subst hN;first|rfl|omega)
  |(((repeat(first|rewrite [if_pos (by first|omega|assumption|(simp only [*,or_self,or_true,true_or,or_false,false_or,jf,jg,jd,je,and_self,and_true,true_and];done)|(simp only [*];omega)|(simp [*];done)|(simp [*];omega))] at hc|rewrite [if_neg (by first|omega|assumption|(simp only [*,or_self,or_true,true_or,or_false,false_or,jf,jg,jd,je,and_self,and_true,true_and];done)|(simp only [*];omega)|(simp [*];done)|(simp [*];omega))] at hc)));subst hc;((repeat(first|rewrite [if_pos (by first|omega|assumption|(simp only [*,or_self,or_true,true_or,or_false,false_or,jf,jg,jd,je,and_self,and_true,true_and];done)|(simp only [*];omega)|(simp [*];done)|(simp [*];omega))] at hl|rewrite [if_neg (by first|omega|assumption|(simp only [*,or_self,or_true,true_or,or_false,false_or,jf,jg,jd,je,and_self,and_true,true_and];done)|(simp only [*];omega)|(simp [*];done)|(simp [*];omega))] at hl)));subst hl;((repeat(first|rewrite [if_pos (by first|omega|assumption|(simp only [*,or_self,or_true,true_or,or_false,false_or,jf,jg,jd,je,and_self,and_true,true_and];done)|(simp only [*];omega)|(simp [*];done)|(simp [*];omega))] at hN|rewrite [if_neg (by first|omega|assumption|(simp only [*,or_self,or_true,true_or,or_false,false_or,jf,jg,jd,je,and_self,and_true,true_and];done)|(simp only [*];omega)|(simp [*];done)|(simp [*];omega))] at hN)));subst hN;first|rfl|omega)
def zdJ:Know Tryz.prog:=⟨88,Rl,zjM⟩
def zdI:Know Tryz.prog:=⟨88,fun I=>zu I (Rl I),zf zjM⟩
def Zd (I:Alg):KU
 |[.v (.one (.ptr 0 0)),.v (.agg [.p (.int .i64 k),.p (.int .i64 i),.p (.int .i64 m),.p (.list .byte t)])],[.pack [.obj 78 [.ptr 1 0,.ptr 2 0],.pack [.obj 106 [.row 1,.p (.int .i64 n)],.row .upl 82 l],.pack [.obj 108 [.row 1,.p (.int .i64 s)],.row .byte 5 b]]]=>(fun(l:List Upl) (b t:Str)=>(some (.one ⟨I.hid (zI l n∧n≤200000∧t.length≤1000000∧b.length≤100000),(.ret (.v (.one (.p (.int .i64 (I.hid (wrtC l n b ⟨k,i,m,t⟩))))))),[.pack [.obj 78 [.ptr 1 0,.ptr 2 0],.pack [.obj 106 [.row 1,.p (.int .i64 (I.hid (wrtN l n b ⟨k,i,m,t⟩)))],.row .upl 82 (I.hid (wrtL l n b ⟨k,i,m,t⟩))],.pack [.obj 108 [.row 1,.p (.int .i64 s)],.row .byte 5 (I.hid (wrtB l n b ⟨k,i,m,t⟩))]]]⟩):Option CT)) l b t
 |_,_=>none
set_option maxHeartbeats 4000000 in
theorem zaw:zq Tryz.prog 83 (Zd alg):=by
 intro args hp r h;unfold Zd at h;split at h<;>cases h
 rename_i k i m t n l s b
 revert l;intro(l:List Upl)
 simp only [CT.Good,zh];intro hneed;obtain⟨hs,hn,ht,hb⟩:=hneed;generalize hc:wrtC l n b ⟨k,i,m,t⟩=c;generalize hl:wrtL l n b ⟨k,i,m,t⟩=l';generalize hN:wrtN l n b ⟨k,i,m,t⟩=n';generalize hB:wrtB l n b ⟨k,i,m,t⟩=b'
 refine spH Tryz.func83 (by kernel_rfl) { XT with keep:=some [0,1,3,4,5,6,7,8]} [zsM,zsL,zrf,zre,zr9,zr8,zdJ,zdI] (by kernel_rfl) ?_
 intro I X hI hX
 refine orcL ?_;go_invoke;refine orcS (by kernel_rfl) ?_
 simp only [zi,Nat.reduceAdd];subst hI;simp only [nrmA,nrmB,nrlB,reduceCtorEq,HO.pack.injEq,HO.obj.injEq]
 have hel:(encM ⟨k,i,m,t⟩).length≤2000000:=by
  unfold encM
  split
  · rename_i h
    have:=zt8 h;simp only at this;omega
  · simp
 generalize he:(⟨k,i,m,t⟩:Ent)=e at *
 have hem:encC e=0→encM e=encB e:=fun h=>by
  unfold encC at h;unfold encM
  split at h
  · rename_i h2;rw [if_pos h2]
  · cases h
 have hw0: ∀ x:Str,wrC b x=0→wrB b x=b++x:=fun x h=>by
  unfold wrC at h;unfold wrB
  split at h
  · rename_i h2;rw [if_pos h2]
  · cases h
 have hw1: ∀ x:Str,¬ wrC b x=0→wrB b x=b:=fun x h=>by
  unfold wrC at h;unfold wrB
  split at h
  · exact absurd rfl h
  · rename_i h2;rw [if_neg h2]
 unfold wrtL at hl;unfold wrtN at hN;unfold wrtB at hB;rw [hc] at hl hN hB;unfold wrtC at hc
 (repeat' (first|refine ja ?_ ?_|intro _))<;>first|omega|exact jb|exact jc ‹False›|skip
 all_goals first
  |exact hs
  |(((repeat(first|rewrite [if_pos (by first|omega|assumption|(simp only [*,or_self,or_true,true_or,or_false,false_or,jf,jg,jd,je,and_self,and_true,true_and];done)|(simp only [*];omega)|(simp [*];done)|(simp [*];omega))] at hc|rewrite [if_neg (by first|omega|assumption|(simp only [*,or_self,or_true,true_or,or_false,false_or,jf,jg,jd,je,and_self,and_true,true_and];done)|(simp only [*];omega)|(simp [*];done)|(simp [*];omega))] at hc)));subst hc;((repeat(first|rewrite [if_pos (by first|omega|assumption|(simp only [*,or_self,or_true,true_or,or_false,false_or,jf,jg,jd,je,and_self,and_true,true_and];done)|(simp only [*];omega)|(simp [*];done)|(simp [*];omega))] at hl|rewrite [if_neg (by first|omega|assumption|(simp only [*,or_self,or_true,true_or,or_false,false_or,jf,jg,jd,je,and_self,and_true,true_and];done)|(simp only [*];omega)|(simp [*];done)|(simp [*];omega))] at hl)));subst hl;((repeat(first|rewrite [if_pos (by first|omega|assumption|(simp only [*,or_self,or_true,true_or,or_false,false_or,jf,jg,jd,je,and_self,and_true,true_and];done)|(simp only [*];omega)|(simp [*];done)|(simp [*];omega))] at hN|rewrite [if_neg (by first|omega|assumption|(simp only [*,or_self,or_true,true_or,or_false,false_or,jf,jg,jd,je,and_self,and_true,true_and];done)|(simp only [*];omega)|(simp [*];done)|(simp [*];omega))] at hN)));subst hN;((repeat(first|rewrite [if_pos (by first|omega|assumption|(simp only [*,or_self,or_true,true_or,or_false,false_or,jf,jg,jd,je,and_self,and_true,true_and];done)|(simp only [*];omega)|(simp [*];done)|(simp [*];omega))] at hB|rewrite [if_neg (by first|omega|assumption|(simp only [*,or_self,or_true,true_or,or_false,false_or,jf,jg,jd,je,and_self,and_true,true_and];done)|(simp only [*];omega)|(simp [*];done)|(simp [*];omega))] at hB)));subst hB;first|rfl|omega|exact hw1 _ (by assumption)|(rw [hw0 _ (by assumption),hem (by assumption)]))
def vO:Know Tryz.prog:=⟨83,Zd,zaw⟩
def vN:Know Tryz.prog:=⟨83,fun I=>zu I (Zd I),zf zaw⟩
def rO (I:Alg):KU
 |[.v (.one (.ptr 0 0)),.v (.one (.p (.int .i64 size))),.v (.one (.p (.str t)))],[.pack [.obj 78 [.ptr 1 0,.ptr 2 0],.pack [.obj 106 [.row 1,.p (.int .i64 n)],.row .upl 82 l],.pack [.obj 108 [.row 1,.p (.int .i64 s)],.row .byte 5 b]]]=>(fun(l:List Upl) (b t:Str)=>(some (.one ⟨I.hid (zI l n∧n≤200000∧t.length≤1000000∧b.length≤100000),(.ret (.tup [(.one (.p (.int .i64 (I.hid (if wrtC l n b ⟨1,n+1,size,t⟩=0 then n+1 else 0))))),.one (.p (.int .i64 (I.hid (wrtC l n b ⟨1,n+1,size,t⟩))))])),[.pack [.obj 78 [.ptr 1 0,.ptr 2 0],.pack [.obj 106 [.row 1,.p (.int .i64 (I.hid (wrtN l n b ⟨1,n+1,size,t⟩)))],.row .upl 82 (I.hid (wrtL l n b ⟨1,n+1,size,t⟩))],.pack [.obj 108 [.row 1,.p (.int .i64 s)],.row .byte 5 (I.hid (wrtB l n b ⟨1,n+1,size,t⟩))]]]⟩):Option CT)) l b t
 |_,_=>none
theorem Tv:zq Tryz.prog 171 (rO alg):=by
 intro args hp r h;unfold rO at h;split at h<;>cases h
 rename_i size t n l s b
 revert l;intro(l:List Upl)
 simp only [CT.Good,zh];intro hneed;have hn0:=hneed.1.n0
 refine spH Tryz.func171 (by kernel_rfl) { XT with keep:=some [0,1,2,6,7,8,9]} [zsI,zsH,vO,vN] (by kernel_rfl) ?_
 intro I X hI hX
 refine orcL ?_;go_invoke;refine orcS (by kernel_rfl) ?_
 simp only [zi,Nat.reduceAdd];subst hI;simp only [nrmA,nrmB,nrlB,reduceCtorEq,HO.pack.injEq,HO.obj.injEq]
 exact⟨⟨hn0,by omega⟩,hneed,fun h=>(if_neg h).symm,fun h=>⟨(if_pos h).symm,h.symm⟩⟩
def Tt:Know Tryz.prog:=⟨171,rO,Tv⟩
def Tq:Know Tryz.prog:=⟨171,fun I=>zu I (rO I),zf Tv⟩
def apG (l:List Upl) (id off:Int):Bool:=getB l id&&(decide ((getU l id).sent=0)&& !decide (off=(getU l id).bytes.length))
def apE (id:Int) (x:Str):Ent:=⟨2,id,0,x⟩
def rP (I:Alg):KU
 |[.v (.one (.ptr 0 0)),.v (.one (.p (.int .i64 id))),.v (.one (.p (.int .i64 off))),.v (.one (.p (.list .byte x)))],[.pack [.obj 78 [.ptr 1 0,.ptr 2 0],.pack [.obj 106 [.row 1,.p (.int .i64 n)],.row .upl 82 l],.pack [.obj 108 [.row 1,.p (.int .i64 s)],.row .byte 5 b]]]=>(fun(l:List Upl) (b x:Str)=>(some (.one ⟨I.hid (zI l n∧n≤200000∧x.length≤1000000∧b.length≤100000),(.ret (.v (.one (.p (.int .i64 (I.hid (if apG l id off then 17 else wrtC l n b ⟨2,id,0,x⟩))))))),[.pack [.obj 78 [.ptr 1 0,.ptr 2 0],.pack [.obj 106 [.row 1,(.p (.int .i64 (I.hid (if apG l id off then n else wrtN l n b ⟨2,id,0,x⟩))))],.row .upl 82 (I.hid (if apG l id off then l else wrtL l n b ⟨2,id,0,x⟩))],.pack [.obj 108 [.row 1,.p (.int .i64 s)],.row .byte 5 (I.hid (if apG l id off then b else wrtB l n b ⟨2,id,0,x⟩))]]]⟩):Option CT)) l b x
 |_,_=>none
theorem Tz:zq Tryz.prog 175 (rP alg):=by
 intro args hp r h;unfold rP at h;split at h<;>cases h
 rename_i id off x n l s b
 revert l;intro(l:List Upl)
 simp only [CT.Good,zh];intro hneed;generalize hg:apG l id off=g
 refine spH Tryz.func175 (by kernel_rfl) { XT with keep:=some [0,1,2,3,8,9,10]} [Zh,Zg,XA,Xz,vO,vN] (by kernel_rfl) ?_
 intro I X hI hX
 refine orcL ?_;go_invoke;refine orcS (by kernel_rfl) ?_
 simp only [zi,Nat.reduceAdd];subst hI;simp only [nrmA,nrmB,nrlB,reduceCtorEq,HO.pack.injEq,HO.obj.injEq]
 (repeat' (first|refine ja ?_ ?_|intro _))<;>first|omega|exact jb|exact jc ‹False›|skip
 all_goals first
  |exact hneed.1
  |exact hneed
  |exact hneed.2.1
  |exact hneed.2.2.1
  |exact hneed.2.2.2
  |(have h:g=true:=(by rw [← hg];unfold apG;simp [*]);subst h;rfl)
  |(have h:g=false:=(by rw [← hg];unfold apG;simp [*]);subst h;rfl)
def yS:Know Tryz.prog:=⟨175,rP,Tz⟩
def yR:Know Tryz.prog:=⟨175,fun I=>zu I (rP I),zf Tz⟩
def tJ (I:Alg):KU
 |[.v (.one (.ptr 0 0)),.v (.one (.p (.int .i64 id))),.v (.one (.p (.int .i64 size)))],[.pack [.obj 78 [.ptr 1 0,.ptr 2 0],.pack [.obj 106 [.row 1,.p (.int .i64 n)],.row .upl 82 l],.pack [.obj 108 [.row 1,.p (.int .i64 s)],.row .byte 5 b]]]=>(fun(l:List Upl) (b:Str)=>(some (.one ⟨I.hid (zI l n∧n≤200000∧b.length≤100000),(.ret (.v (.one (.p (.int .i64 (I.hid (wrtC l n b ⟨3,id,size,[]⟩))))))),[.pack [.obj 78 [.ptr 1 0,.ptr 2 0],.pack [.obj 106 [.row 1,.p (.int .i64 (I.hid (wrtN l n b ⟨3,id,size,[]⟩)))],.row .upl 82 (I.hid (wrtL l n b ⟨3,id,size,[]⟩))],.pack [.obj 108 [.row 1,.p (.int .i64 s)],.row .byte 5 (I.hid (wrtB l n b ⟨3,id,size,[]⟩))]]]⟩):Option CT)) l b
 |_,_=>none
theorem Wp:zq Tryz.prog 176 (tJ alg):=by
 intro args hp r h;unfold tJ at h;split at h<;>cases h
 rename_i id size n l s b
 revert l;intro(l:List Upl)
 simp only [CT.Good,zh];intro hneed
 refine spH Tryz.func176 (by kernel_rfl) { XT with keep:=some [0,1,2,6]} [vO,vN] (by kernel_rfl) ?_
 intro I X hI hX
 refine orcL ?_;go_invoke;refine orcS (by kernel_rfl) ?_
 simp only [zi,Nat.reduceAdd];subst hI;simp only [nrmA,nrmB,nrlB,reduceCtorEq,HO.pack.injEq,HO.obj.injEq]
 exact⟨hneed.1,hneed.2.1,by decide,hneed.2.2⟩
def yQ:Know Tryz.prog:=⟨176,tJ,Wp⟩
def yP:Know Tryz.prog:=⟨176,fun I=>zu I (tJ I),zf Wp⟩
def YC (I:Alg):KU
 |[.v (.one (.ptr 0 0)),.v (.one (.p (.int .i64 id)))],[.pack [.obj 78 [.ptr 1 0,.ptr 2 0],.pack [.obj 106 [.row 1,.p (.int .i64 n)],.row .upl 82 l],.pack [.obj 108 [.row 1,.p (.int .i64 s)],.row .byte 5 b]]]=>(fun(l:List Upl) (b:Str)=>(some (.one ⟨I.hid (zI l n∧n≤200000∧b.length≤100000),(.ret (.v (.one (.p (.int .i64 (I.hid (wrtC l n b ⟨4,id,0,[]⟩))))))),[.pack [.obj 78 [.ptr 1 0,.ptr 2 0],.pack [.obj 106 [.row 1,.p (.int .i64 (I.hid (wrtN l n b ⟨4,id,0,[]⟩)))],.row .upl 82 (I.hid (wrtL l n b ⟨4,id,0,[]⟩))],.pack [.obj 108 [.row 1,.p (.int .i64 s)],.row .byte 5 (I.hid (wrtB l n b ⟨4,id,0,[]⟩))]]]⟩):Option CT)) l b
 |_,_=>none
theorem zb7:zq Tryz.prog 139 (YC alg):=by
 intro args hp r h;unfold YC at h;split at h<;>cases h
 rename_i id n l s b
 revert l;intro(l:List Upl)
 simp only [CT.Good,zh];intro hneed
 refine spH Tryz.func139 (by kernel_rfl) { XT with keep:=some [0,1,4]} [vO,vN] (by kernel_rfl) ?_
 intro I X hI hX
 refine orcL ?_;go_invoke;refine orcS (by kernel_rfl) ?_
 simp only [zi,Nat.reduceAdd];subst hI;simp only [nrmA,nrmB,nrlB,reduceCtorEq,HO.pack.injEq,HO.obj.injEq]
 exact⟨hneed.1,hneed.2.1,by decide,hneed.2.2⟩
def xO:Know Tryz.prog:=⟨139,YC,zb7⟩
def xN:Know Tryz.prog:=⟨139,fun I=>zu I (YC I),zf zb7⟩
def Zf (I:Alg):KU
 |[.v (.one (.ptr 0 0)),.v (.one (.p (.int .i64 id)))],[.pack [.obj 78 [.ptr 1 0,.ptr 2 0],.pack [.obj 106 [.row 1,.p (.int .i64 n)],.row .upl 82 l],.pack [.obj 108 [.row 1,.p (.int .i64 s)],.row .byte 5 b]]]=>(fun(l:List Upl) (b:Str)=>(some (.one ⟨I.hid (zI l n∧n≤200000∧b.length≤100000),(.ret (.v (.one (.p (.int .i64 (I.hid (wrtC l n b ⟨5,id,0,[]⟩))))))),[.pack [.obj 78 [.ptr 1 0,.ptr 2 0],.pack [.obj 106 [.row 1,.p (.int .i64 (I.hid (wrtN l n b ⟨5,id,0,[]⟩)))],.row .upl 82 (I.hid (wrtL l n b ⟨5,id,0,[]⟩))],.pack [.obj 108 [.row 1,.p (.int .i64 s)],.row .byte 5 (I.hid (wrtB l n b ⟨5,id,0,[]⟩))]]]⟩):Option CT)) l b
 |_,_=>none
theorem zay:zq Tryz.prog 81 (Zf alg):=by
 intro args hp r h;unfold Zf at h;split at h<;>cases h
 rename_i id n l s b
 revert l;intro(l:List Upl)
 simp only [CT.Good,zh];intro hneed
 refine spH Tryz.func81 (by kernel_rfl) { XT with keep:=some [0,1,4]} [vO,vN] (by kernel_rfl) ?_
 intro I X hI hX
 refine orcL ?_;go_invoke;refine orcS (by kernel_rfl) ?_
 simp only [zi,Nat.reduceAdd];subst hI;simp only [nrmA,nrmB,nrlB,reduceCtorEq,HO.pack.injEq,HO.obj.injEq]
 exact⟨hneed.1,hneed.2.1,by decide,hneed.2.2⟩
def zh0:Know Tryz.prog:=⟨81,Zf,zay⟩
def zhZ:Know Tryz.prog:=⟨81,fun I=>zu I (Zf I),zf zay⟩
def Wn (I:Alg):KU
 |[.v (.one (.ptr 0 0)),.v (.one (.p (.int .i64 id)))],[.pack [.obj 78 [.ptr 1 0,.ptr 2 0],.pack [.obj 106 [.row 1,.p (.int .i64 n)],.row .upl 82 l],.pack [.obj 108 [.row 1,.p (.int .i64 s)],.row .byte 5 b]]]=>(fun(l:List Upl) (b:Str)=>(some (.one ⟨I.hid (zI l n∧n≤200000∧b.length≤100000),(.ret (.v (.one (.p (.int .i64 (I.hid (wrtC l n b ⟨6,id,0,[]⟩))))))),[.pack [.obj 78 [.ptr 1 0,.ptr 2 0],.pack [.obj 106 [.row 1,.p (.int .i64 (I.hid (wrtN l n b ⟨6,id,0,[]⟩)))],.row .upl 82 (I.hid (wrtL l n b ⟨6,id,0,[]⟩))],.pack [.obj 108 [.row 1,.p (.int .i64 s)],.row .byte 5 (I.hid (wrtB l n b ⟨6,id,0,[]⟩))]]]⟩):Option CT)) l b
 |_,_=>none
theorem zfv:zq Tryz.prog 64 (Wn alg):=by
 intro args hp r h;unfold Wn at h;split at h<;>cases h
 rename_i id n l s b
 revert l;intro(l:List Upl)
 simp only [CT.Good,zh];intro hneed
 refine spH Tryz.func64 (by kernel_rfl) { XT with keep:=some [0,1,4]} [vO,vN] (by kernel_rfl) ?_
 intro I X hI hX
 refine orcL ?_;go_invoke;refine orcS (by kernel_rfl) ?_
 simp only [zi,Nat.reduceAdd];subst hI;simp only [nrmA,nrmB,nrlB,reduceCtorEq,HO.pack.injEq,HO.obj.injEq]
 exact⟨hneed.1,hneed.2.1,by decide,hneed.2.2⟩
def zok:Know Tryz.prog:=⟨64,Wn,zfv⟩
def zoj:Know Tryz.prog:=⟨64,fun I=>zu I (Wn I),zf zfv⟩
def YA (I:Alg):KU
 |[.v (.one (.ptr 0 0))],[.pack [.obj 78 [.ptr 1 0,.ptr 2 0],.pack [.obj 106 [.row 1,.p (.int .i64 n)],.row .upl 82 l],.pack [.obj 108 [.row 1,.p (.int .i64 s)],.row .byte 5 b]]]=>(fun(l:List Upl) (b:Str)=>(some (.one ⟨I.hid (True),(.ret (.tup [])),[.pack [.obj 78 [.ptr 1 0,.ptr 2 0],.pack [.obj 106 [.row 1,.p (.int .i64 n)],.row .upl 82 l],.pack [.obj 108 [.row 1,.p (.int .i64 (I.hid (b.length:Int)))],.row .byte 5 b]]]⟩):Option CT)) l b
 |_,_=>none
theorem zb5:zq Tryz.prog 65 (YA alg):=by
 intro args hp r h;unfold YA at h;split at h<;>cases h
 rename_i n l s b
 revert l;intro(l:List Upl)
 simp only [CT.Good,zh];intro _
 refine spH Tryz.func65 (by kernel_rfl) { XT with keep:=some [0]} [zn9,zn8] (by kernel_rfl) ?_
 intro I X hI hX
 refine orcL ?_;go_invoke;refine orcS (by kernel_rfl) ?_
 simp only [zi,Nat.reduceAdd];subst hI;simp only [nrmA,nrmB,nrlB,reduceCtorEq,HO.pack.injEq,HO.obj.injEq]
 try trivial
def zK:Know Tryz.prog:=⟨65,YA,zb5⟩
def zJ:Know Tryz.prog:=⟨65,fun I=>zu I (YA I),zf zb5⟩
def Wl (I:Alg):KU
 |[.v (.one (.ptr 0 0))],[.pack [.obj 78 [.ptr 1 0,.ptr 2 0],.pack [.obj 106 [.row 1,.p (.int .i64 n)],.row .upl 82 l],.pack [.obj 108 [.row 1,.p (.int .i64 s)],.row .byte 5 b]]]=>(fun(l:List Upl) (b:Str)=>(some (.one ⟨I.hid (b.length≤100000),(.ret (.tup [.one (.row 1),.one (.p (.int .i64 s))])),[.pack [.obj 78 [.ptr 1 0,.ptr 2 0],.pack [.obj 106 [.row 1,.p (.int .i64 n)],.row .upl 82 l],.pack [.obj 108 [.row 1,.p (.int .i64 s)],.row .byte 5 b]],.row .byte 5 b]⟩):Option CT)) l b
 |_,_=>none
theorem zfu:zq Tryz.prog 41 (Wl alg):=by
 intro args hp r h;unfold Wl at h;split at h<;>cases h
 rename_i n l s b
 revert l;intro(l:List Upl)
 simp only [CT.Good,zh];intro hneed
 refine spH Tryz.func41 (by kernel_rfl) { XT with keep:=some [0,2,3]} [zvE,zvD,ze6,ze5] (by kernel_rfl) ?_
 intro I X hI hX
 refine orcL ?_;go_invoke;refine orcS (by kernel_rfl) ?_
 simp only [zi,Nat.reduceAdd];subst hI;simp only [nrmA,nrmB,nrlB,reduceCtorEq,HO.pack.injEq,HO.obj.injEq]
 (repeat' (first|refine ja ?_ ?_|intro _))<;>first|omega|exact jb|exact jc ‹False›|skip
def zoi:Know Tryz.prog:=⟨41,Wl,zfu⟩
def zoh:Know Tryz.prog:=⟨41,fun I=>zu I (Wl I),zf zfu⟩
def Ze (I:Alg):KU
 |[.v (.one (.ptr 0 0)),.v (.one (.p (.int .i64 keep)))],[.pack [.obj 78 [.ptr 1 0,.ptr 2 0],.pack [.obj 106 [.row 1,.p (.int .i64 n)],.row .upl 82 l],.pack [.obj 108 [.row 1,.p (.int .i64 s)],.row .byte 5 b]]]=>(fun(l:List Upl) (b:Str)=>(some (.one ⟨I.hid (b.length≤100000∧0≤s∧s≤b.length),(.ret (.tup [])),[.pack [.obj 78 [.ptr 1 0,.ptr 2 0],.pack [.obj 106 [.row 1,.p (.int .i64 (I.hid ((crsP b s keep).2)))],.row .upl 82 (I.hid ((crsP b s keep).1))],.pack [.obj 108 [.row 1,.p (.int .i64 (I.hid ((crsB b s keep).length:Int)))],.row .byte 5 (I.hid (crsB b s keep))]]]⟩):Option CT)) l b
 |_,_=>none
set_option maxHeartbeats 4000000 in
theorem zax:zq Tryz.prog 66 (Ze alg):=by
 intro args hp r h;unfold Ze at h;split at h<;>cases h
 rename_i keep n l s b
 revert l;intro(l:List Upl)
 simp only [CT.Good,zh];intro hneed;obtain⟨hb,hs0,hs1⟩:=hneed;have h1:=zuk b s keep;have h2:=zeY b s keep;have h3:=znp (s:=s) (k:=keep) hb;have h4:=zjy (crB b s keep);unfold crsP;generalize hP:replay ([],0) (crsE b s keep)=pq;generalize hB:((crsB b s keep).length:Int)=bl at *
 refine spH Tryz.func66 (by kernel_rfl) { XT with fz:=[86],keep:=some [0,1,4,5,7,33,34,35]} [zh6,zh5,zhw,zhv,ze6,ze5,zl4,zl3,zrt,zrr,zdJ,zdI] (by kernel_rfl) ?_
 intro I X hI hX
 refine orcL ?_;go_invoke;refine orcS (by kernel_rfl) ?_
 simp only [zi,Nat.reduceAdd]
 have hh: ∀ {α:Type} (x:α),I.hid x=x:=by subst hI;intros;rfl
 simp only [hh];unfold crsB at *;unfold crsE at *;rw [h1];generalize hb1:crB b s keep=b1 at *;generalize hu:zdq b1=u at *;generalize hb2:cuB b1 u=b2 at *;generalize hes:(Jrn.dec b1).1=es at *
 refine⟨⟨hb,hs0,hs1⟩,by omega,by omega,⟨by omega,by omega,by omega⟩,trivial,?_⟩
 refine lpH hI [zh6,zh5,zhw,zhv,ze6,ze5,zl4,zl3,zrt,zrr,zdJ,zdI] hX [0,33,34,35] (fun(k:Nat)=>k≤es.length) (fun(k:Nat)=>⟨[(0,.v (.one (.ptr 0 0))),(33,.v (.one (.row 1))),(34,.v (.one (.p (.int .i64 ((I.len (α:=Ent) es)))))),(35,.v (.one (.p (.int .i64 k))))],[.pack [.obj 78 [.ptr 1 0,.ptr 2 0],.pack [.obj 106 [.row 1,.p (.int .i64 ((replay ([],0) (es.take k)).2))],.row .upl 82 ((replay ([],0) (es.take k)).1)],.pack [.obj 108 [.row 1,.p (.int .i64 bl)],.row .byte 5 b2]],.row .ent 148 es],46,none⟩) (fun(k:Nat)=>es.length - k) 0 (by kernel_rfl) (by kernel_rfl) ?_ ?_
 · exact jM _
 rintro k hk A hA;have ho:=zaR (es.take k) ([],0) zh1;have hn:=zd0 (es.take k) ([],0);generalize hp:replay ([],0) (es.take k)=p at *
 refine orcL ?_;go_invoke;refine orcS (by kernel_rfl) ?_
 simp only [zi,Nat.reduceAdd];subst hI;simp only [nrmA,nrmB,nrlB,reduceCtorEq]
 have hnk:p.2≤200000:=by
  have:(es.take k).length≤es.length:=by rw [jv];omega
  have h30:=h3.1;simp only at hn;omega
 refine⟨fun c=>⟨⟨by omega,by omega⟩,⟨by omega,by omega⟩,⟨ho,by omega,?_⟩,⟨by omega,by omega⟩,?_⟩,fun c=> ?_⟩
 · rw [show es.getD k ⟨0,0,0,[]⟩=es[k]'(by omega) by simp [show k<es.length by omega]]
   have:=h3.2 _ (List.getElem_mem (l:=es) (n:=k) (by omega))
   omega
 · have hA:=hA (k+1) (by omega) (by omega)
   rw [zil _ (by omega),hp] at hA
   have hx:es.getD k ⟨0,0,0,[]⟩=es[k]'(by omega):=by simp [show k<es.length by omega]
   rw [hx];exact hA
 · rw [jq (by omega)] at hp
   rw [← hp,hP]
def zhY:Know Tryz.prog:=⟨66,Ze,zax⟩
def zhX:Know Tryz.prog:=⟨66,fun I=>zu I (Ze I),zf zax⟩
end Go.Proofs.YtnpmenpjagcheaaGreatDoor
namespace Go.Proofs.YtnpmenpjagcheaaGreatDoor
open Go Go.Sep Go.Ab
set_option maxRecDepth 100000
end Go.Proofs.YtnpmenpjagcheaaGreatDoor
namespace Go.Proofs.YtnpmenpjagcheaaGreatDoor
open Go Go.Sep Go.Ab
set_option maxRecDepth 100000
end Go.Proofs.YtnpmenpjagcheaaGreatDoor
namespace Go.Proofs.YtnpmenpjagcheaaGreatDoor
open Go Go.Sep Go.Ab
set_option maxRecDepth 100000
end Go.Proofs.YtnpmenpjagcheaaGreatDoor
namespace Go.Proofs.YtnpmenpjagcheaaGreatDoor
open Go Go.Sep Go.Ab Go.Jrn
set_option maxRecDepth 100000
structure Sto where
 l:List Upl
 n:Int
 b:Str
 s:Int
def zzf (n:Int) (x:Sst):Ent:=
 if x.op=0 then⟨1,n+1,x.n,x.text⟩ else if x.op=1 then⟨2,x.id,0,x.text⟩ else if x.op=2 then⟨3,x.id,x.n,[]⟩ else if x.op=3 then⟨4,x.id,0,[]⟩ else if x.op=4 then⟨5,x.id,0,[]⟩ else⟨6,x.id,0,[]⟩
end Go.Proofs.YtnpmenpjagcheaaGreatDoor
namespace Go.Proofs.YtnpmenpjagcheaaGreatDoor
open Go Go.Sep Go.Ab Go.Jrn
set_option maxRecDepth 100000
def YB (I:Alg):KU
 |[.v (.one (.ptr 0 0)),.v (.one (.p (.int .i64 m)))],[.pack [.obj 78 [.ptr 1 0,.ptr 2 0],.pack [.obj 106 [.row 1,.p (.int .i64 n)],.row .upl 82 l],.pack [.obj 108 [.row 1,.p (.int .i64 s)],.row .byte 5 b]]]=>(fun(l:List Upl) (b:Str)=>(some (.one ⟨I.hid (b.length≤100000),(.ret (.v (.one (.p (.bool (I.hid (zaQ b m))))))),[.pack [.obj 78 [.ptr 1 0,.ptr 2 0],.pack [.obj 106 [.row 1,.p (.int .i64 n)],.row .upl 82 l],.pack [.obj 108 [.row 1,.p (.int .i64 s)],.row .byte 5 b]]]⟩):Option CT)) l b
 |_,_=>none
theorem zb6:zq Tryz.prog 167 (YB alg):=by
 intro args hp r h;unfold YB at h;split at h<;>cases h
 rename_i m n l s b
 revert l;intro(l:List Upl)
 simp only [CT.Good,zh];intro hneed
 refine spH Tryz.func167 (by kernel_rfl) { XT with keep:=some [0,1,4]} [zpi,zph] (by kernel_rfl) ?_
 intro I X hI hX
 refine orcL ?_;go_invoke;refine orcS (by kernel_rfl) ?_
 simp only [zi,Nat.reduceAdd];subst hI;simp only [nrmA,nrmB,nrlB,reduceCtorEq,HO.pack.injEq,HO.obj.injEq]
 (repeat' (first|refine ja ?_ ?_|intro _))<;>first|omega|exact jb|exact jc ‹False›|skip
def yO:Know Tryz.prog:=⟨167,YB,zb6⟩
def yN:Know Tryz.prog:=⟨167,fun I=>zu I (YB I),zf zb6⟩
end Go.Proofs.YtnpmenpjagcheaaGreatDoor
namespace Go.Proofs.YtnpmenpjagcheaaGreatDoor
open Go Go.Sep Go.Ab
def rC:Str:=[47,102,105,108,101,115]
def wQ:Str:=[47,102,105,108,101,115,47]
def verS:Str:=[49,46,48,46,48]
def zx6:Str:=[79,80,84,73,79,78,83]
def zbT:Str:=[80,79,83,84]
def ztA:Str:=[72,69,65,68]
def zaV:Str:=[80,65,84,67,72]
def zua:Str:=[68,69,76,69,84,69]
def zhS:Str:=[116,117,115,45,114,101,115,117,109,97,98,108,101]
def y8:Str:=[117,112,108,111,97,100,45,108,101,110,103,116,104]
def zaq:Str:=[117,112,108,111,97,100,45,100,101,102,101,114,45,108,101,110,103,116,104]
def zhP:Str:=[117,112,108,111,97,100,45,109,101,116,97,100,97,116,97]
def ZV:Str:=[117,112,108,111,97,100,45,111,102,102,115,101,116]
def Zz:Str:=[99,111,110,116,101,110,116,45,116,121,112,101]
def octS:Str:=[97,112,112,108,105,99,97,116,105,111,110,47,111,102,102,115,101,116,43,111,99,116,101,116,45,115,116,114,101,97,109]
def zxm:Str:=[84,117,115,45,82,101,115,117,109,97,98,108,101]
def znP:Str:=[84,117,115,45,86,101,114,115,105,111,110]
def zxo:Str:=[84,117,115,45,77,97,120,45,83,105,122,101]
def zxq:Str:=[84,117,115,45,69,120,116,101,110,115,105,111,110]
def zxp:Str:=[99,114,101,97,116,105,111,110,44,99,114,101,97,116,105,111,110,45,100,101,102,101,114,45,108,101,110,103,116,104,44,116,101,114,109,105,110,97,116,105,111,110]
def locN:Str:=[76,111,99,97,116,105,111,110]
def zan:Str:=[85,112,108,111,97,100,45,79,102,102,115,101,116]
def zxh:Str:=[85,112,108,111,97,100,45,76,101,110,103,116,104]
def zxi:Str:=[85,112,108,111,97,100,45,68,101,102,101,114,45,76,101,110,103,116,104]
def zmr:Str:=[85,112,108,111,97,100,45,77,101,116,97,100,97,116,97]
def zyY:Str:=[67,97,99,104,101,45,67,111,110,116,114,111,108]
def zya:Str:=[110,111,45,115,116,111,114,101]
def oneT (f:List Fld) (n:Str):Str × Int:=oneF (valsF f n)
def Xl (f:List Fld) (n:Str):Bool:=decide ((oneT f n).2=10)||(decide ((oneT f n).2=0)&&(numA (oneT f n).1 10 9).2)
def yc (f:List Fld) (n:Str):Int:=if(oneT f n).2=10 then -1 else(numA (oneT f n).1 10 9).1
def Vo (f:List Fld):Bool:=decide ((oneT f zaq).2=10)||(decide ((oneT f zaq).2=0)&&decide ((oneT f zaq).1=[49]))
def zgn (f:List Fld):Bool:=decide ((oneT f zaq).2=0)
def Ws (c:Int):Int:=if c=10 then 404 else if c=17∨c=19 then 409 else if c=4 then 413 else if c=8∨c=16 then 507 else 400
def wsS (q:Sto) (e:Ent):Sto:=⟨wrtL q.l q.n q.b e,wrtN q.l q.n q.b e,wrtB q.l q.n q.b e,q.s⟩
def wsC (q:Sto) (e:Ent):Int:=wrtC q.l q.n q.b e
def syS (q:Sto):Sto:= { q with s:=(q.b.length:Int)}
def creE (q:Sto) (n:Int) (t:Str):Ent:=⟨1,q.n+1,n,t⟩
structure TA where
 st:Int
 fs:List Fld
 q:Sto
def wL (q:Sto) (f:List Fld):TA:=
 if Xl f y8=false then⟨400,[],q⟩
 else if Vo f=false then⟨400,[],q⟩
 else if decide (0≤yc f y8)=zgn f then⟨400,[],q⟩
 else if(oneT f zhP).2=9 then⟨400,[],q⟩
 else if wsC q (creE q (yc f y8) (oneT f zhP).1)≠0 then⟨Ws (wsC q (creE q (yc f y8) (oneT f zhP).1)),[],q⟩
 else⟨201,[⟨locN,wQ++decS (q.n+1)⟩],syS (wsS q (creE q (yc f y8) (oneT f zhP).1))⟩
def idB (t:Str):Bool:=Lib.hasPrefix t wQ&&((numA (t.drop 7) 10 9).2&&decide (decS (numA (t.drop 7) 10 9).1=t.drop 7))
def idV (t:Str):Int:=(numA (t.drop 7) 10 9).1
def uplB (q:Sto) (t:Str):Bool:=idB t&&getB q.l (idV t)
def lenF (u:Upl):Fld:=if u.size<0 then⟨zxi,[49]⟩ else⟨zxh,decS u.size⟩
def zbP (u:Upl):List Fld:=[⟨zan,decS (u.bytes.length:Int)⟩,lenF u,⟨zyY,zya⟩]++(if u.note=[] then [] else [⟨zmr,u.note⟩])
def uF (q:Sto) (u:Upl) (f:List Fld) (body:Str):TA:=
 if(oneT f Zz).2=9 then⟨400,[],q⟩
 else if(xJ (oneT f Zz).1).2≠0∨(xJ (oneT f Zz).1).1.word≠octS then⟨415,[],q⟩
 else if Xl f ZV=false then⟨400,[],q⟩
 else if yc f ZV<0 then⟨400,[],q⟩
 else if yc f ZV≠(u.bytes.length:Int) then⟨409,[],q⟩
 else if Xl f y8=false then⟨400,[],q⟩
 else if 0≤yc f y8∧0≤u.size∧yc f y8≠u.size then⟨400,[],q⟩
 else if 0≤yc f y8∧u.size<0∧(2000<yc f y8∨yc f y8<yc f ZV+(body.length:Int)) then⟨413,[],q⟩
 else if zaQ q.b ((body.length:Int)+60)=false then⟨507,[],q⟩
 else if(if apG q.l u.id (yc f ZV) then 17 else wsC q (apE u.id body))≠0 then⟨Ws (if apG q.l u.id (yc f ZV) then 17 else wsC q (apE u.id body)),[],q⟩
 else if 0≤yc f y8∧u.size<0 then
  if wsC (wsS q (apE u.id body)) ⟨3,u.id,yc f y8,[]⟩≠0 then⟨Ws (wsC (wsS q (apE u.id body)) ⟨3,u.id,yc f y8,[]⟩),[],wsS q (apE u.id body)⟩
  else⟨204,[⟨zan,decS (yc f ZV+(body.length:Int))⟩],syS (wsS (wsS q (apE u.id body)) ⟨3,u.id,yc f y8,[]⟩)⟩
 else⟨204,[⟨zan,decS (yc f ZV+(body.length:Int))⟩],syS (wsS q (apE u.id body))⟩
def zbX (q:Sto) (u:Upl):TA:=
 if wsC q ⟨4,u.id,0,[]⟩≠0 then⟨Ws (wsC q ⟨4,u.id,0,[]⟩),[],q⟩ else⟨204,[],syS (wsS q ⟨4,u.id,0,[]⟩)⟩
def yU (q:Sto) (m t:Str) (f:List Fld) (body:Str):TA:=
 if t=rC∧m=zx6 then⟨204,[⟨znP,verS⟩,⟨zxo,decS 2000⟩,⟨zxq,zxp⟩],q⟩
 else if(oneT f zhS).2=9 then⟨400,[],q⟩
 else if(oneT f zhS).1≠verS then⟨412,[⟨znP,verS⟩],q⟩
 else if t=rC then(if m≠zbT then⟨405,[],q⟩ else wL q f)
 else if uplB q t=false then⟨404,[],q⟩
 else if m=ztA then⟨200,zbP (getU q.l (idV t)),q⟩
 else if m=zaV then uF q (getU q.l (idV t)) f body
 else if m=zua then zbX q (getU q.l (idV t))
 else⟨405,[],q⟩
def resT:Fld:=⟨zxm,verS⟩
end Go.Proofs.YtnpmenpjagcheaaGreatDoor
namespace Go.Proofs.YtnpmenpjagcheaaGreatDoor
open Go Go.Sep Go.Ab
def XW (n:Int):Str:=
 if n=200 then [79,75]
 else if n=201 then [67,114,101,97,116,101,100]
 else if n=204 then [78,111,32,67,111,110,116,101,110,116]
 else if n=400 then [66,97,100,32,82,101,113,117,101,115,116]
 else if n=404 then [78,111,116,32,70,111,117,110,100]
 else if n=405 then [77,101,116,104,111,100,32,78,111,116,32,65,108,108,111,119,101,100]
 else if n=409 then [67,111,110,102,108,105,99,116]
 else if n=412 then [80,114,101,99,111,110,100,105,116,105,111,110,32,70,97,105,108,101,100]
 else if n=413 then [67,111,110,116,101,110,116,32,84,111,111,32,76,97,114,103,101]
 else if n=415 then [85,110,115,117,112,112,111,114,116,101,100,32,77,101,100,105,97,32,84,121,112,101]
 else if n=507 then [73,110,115,117,102,102,105,99,105,101,110,116,32,83,116,111,114,97,103,101]
 else []
def badF:List Fld→Int
 |[]=>0
 |f::l=>if(textF f).2=0 then badF l else(textF f).2
def uY:List Fld→Str
 |[]=>[]
 |f::l=>(textF f).1++[13,10]++uY l
theorem zqV (a b:List Fld):uY (a++b)=uY a++uY b:=by
 induction a with
 |nil=>rfl
 |cons f l ih=>simp only [List.cons_append,uY,ih,jo]
def zgz (st:Int):Str:=[72,84,84,80,47,49,46,49,32]++decS st++[32]++XW st++[13,10]
def zdz (n:Int):Str:=[67,111,110,116,101,110,116,45,76,101,110,103,116,104,58,32]++decS n++[13,10,13,10]
def zw7:Str:=[99,111,110,116,101,110,116,45,108,101,110,103,116,104]
def zaj (st:Int) (fs:List Fld):Int:=
 if XW st=[] then 11 else if 16≤fs.length then 8 else if 0<(valsF fs zw7).length then 12 else badF fs
def writeT (st:Int) (fs:List Fld) (body:Str):Str:=
 if zaj st fs=0 then zgz st++uY fs++zdz body.length++body else []
theorem zat (f:Fld):(textF f).1.length≤200:=by
 unfold textF
 split
 · simp
 split
 · simp
 split
 · simp
 · simp only [jk,jh,ji];omega
theorem qY: ∀ l:List Fld,(uY l).length≤202 * l.length
 |[]=>by simp [uY]
 | f::l=>by
   have:=zat f;have:=qY l;simp only [uY,jk,jh,ji];omega
theorem zsb {n:Int} (h:XW n≠[]):n=200∨n=201∨n=204∨n=400∨n=404∨n=405∨n=409∨n=412∨n=413∨n=415∨n=507:=by
 refine Decidable.byContradiction fun hn=>h ?_;simp only [not_or] at hn
 simp [XW,hn]
theorem XV {n:Int} (h:XW n≠[]):200≤n∧n≤507∧(XW n).length≤30:=by
 rcases zsb h with rfl|rfl|rfl|rfl|rfl|rfl|rfl|rfl|rfl|rfl|rfl<;>decide
end Go.Proofs.YtnpmenpjagcheaaGreatDoor
namespace Go.Proofs.YtnpmenpjagcheaaGreatDoor
open Go Go.Sep Go.Ab
def ln0:Ln:=⟨[],false,0⟩
def zxG (c:UInt8):Bool:=Wx (c.toNat:Int)
def lnF (s:Ln) (c:UInt8):Ln × Str × Bool × Int:=
 if s.code≠0 then(s,[],false,s.code)
 else if s.cr then(if c=10 then(⟨[],false,0⟩,s.b,true,0) else(⟨s.b,s.cr,2⟩,[],false,2))
 else if c=10 then(⟨s.b,s.cr,2⟩,[],false,2)
 else if c=13 then(⟨s.b,true,s.code⟩,[],false,0)
 else if zxG c=false then(⟨s.b,s.cr,3⟩,[],false,3)
 else if s.b.length=200 then(⟨s.b,s.cr,4⟩,[],false,4)
 else(⟨s.b++[c],s.cr,s.code⟩,[],false,0)
theorem Yd (s:Ln) (c:UInt8):(lnF s c).2.1.length≤s.b.length:=by
 unfold lnF
 repeat' split
 all_goals simp
theorem ztp (s:Ln) (c:UInt8):(lnF s c).1.b.length≤s.b.length+1:=by
 unfold lnF
 repeat' split
 all_goals simp
end Go.Proofs.YtnpmenpjagcheaaGreatDoor
namespace Go.Proofs.YtnpmenpjagcheaaGreatDoor
open Go Go.Sep Go.Ab
end Go.Proofs.YtnpmenpjagcheaaGreatDoor
namespace Go.Proofs.YtnpmenpjagcheaaGreatDoor
open Go Go.Sep Go.Ab
def Z4 (line:Str):Int × Bool:=numA (Lib.trimS (cutB line 59).1 [32,9]) 16 6
theorem za2: ∀ (s:Str) (n:Int),0≤n→0≤(numG 16 n s).1
 |[],n,h=>h
 | c::l,n,h=>by
   rw [numG]
   split
   · exact Int.le_refl _
   · exact za2 l _ (by omega)
theorem TD (t:Str):0≤(Z4 t).1:=by
 unfold Z4 numA
 split
 · exact Int.le_refl _
 · exact za2 _ _ (Int.le_refl _)
def ch0:Ch:=⟨ln0,0,0,0,0,0⟩
def chL (s:Ch) (t:Str):Ch × Int:=
 if s.pos=2 then(if t=[] then({ s with pos:=0},0) else(s,5))
 else if s.pos=0 then
  (if(Z4 t).2=false then(s,7)
  else if 4000 - s.all<(Z4 t).1 then(s,4)
  else if(Z4 t).1=0 then({ s with pos:=3},0)
  else({ s with pos:=1,left:=(Z4 t).1},0))
 else if s.pos=3 then
  (if t=[] then({ s with pos:=4},0)
  else if s.tails=16 then(s,8)
  else({ s with tails:=s.tails+1},(uG t).2))
 else(s,0)
def chF (s:Ch) (c:UInt8):Ch × Str × Bool × Int:=
 if s.code≠0 then(s,[],false,s.code)
 else if s.pos=4 then({ s with code:=18},[],false,18)
 else if s.pos=1 then({ s with left:=s.left - 1,all:=s.all+1,pos:=if s.left - 1=0 then 2 else 1},[c],false,0)
 else if(lnF s.ln c).2.2.2≠0 then({ s with ln:=(lnF s.ln c).1,code:=(lnF s.ln c).2.2.2},[],false,(lnF s.ln c).2.2.2)
 else if(lnF s.ln c).2.2.1=true then
  (if(chL { s with ln:=(lnF s.ln c).1} (lnF s.ln c).2.1).2≠0 then({ (chL { s with ln:=(lnF s.ln c).1} (lnF s.ln c).2.1).1 with code:=(chL { s with ln:=(lnF s.ln c).1} (lnF s.ln c).2.1).2},[],false,(chL { s with ln:=(lnF s.ln c).1} (lnF s.ln c).2.1).2)
  else((chL { s with ln:=(lnF s.ln c).1} (lnF s.ln c).2.1).1,[],decide ((chL { s with ln:=(lnF s.ln c).1} (lnF s.ln c).2.1).1.pos=4),0))
 else({ s with ln:=(lnF s.ln c).1},[],false,0)
inductive ChR where
 |more (out:Str) (held:Nat)
 |over (out rest:Str)
 |bad (out:Str) (e:Int) (rest:Str)
def ChR.pre (o:Str):ChR→ChR
 |.more p h=>.more (o++p) h
 |.over p r=>.over (o++p) r
 |.bad p e r=>.bad (o++p) e r
theorem zuo {s:Ch} {c:UInt8}:(chF s c).2.1.length≤1∧((chF s c).2.2.2≠0→(chF s c).2.1=[])∧((chF s c).2.2.1=true→(chF s c).2.2.2=0∧(chF s c).2.1=[]∧(chF s c).1.pos=4∧(chF s c).1.code=0)∧((chF s c).2.2.2≠0→(chF s c).2.2.1=false∧(chF s c).1.code=(chF s c).2.2.2):=by
 unfold chF
 split
 · simp
 rename_i h0
 split
 · simp
 split
 · simp
 split
 · simp
 split
 · split
   · simp
   · refine⟨by simp,by simp,fun h=>⟨rfl,rfl,by simpa using h,?_⟩,fun h=>absurd rfl h⟩
     have: ∀ (x:Ch) (t:Str),x.code=0→(chL x t).1.code=0:=by
      intro x t hx;unfold chL
      split
      · split<;>exact hx
      split
      · split
        · exact hx
        split
        · exact hx
        split<;>exact hx
      split
      · split
        · exact hx
        split<;>exact hx
      · exact hx
     exact this _ _ (by simpa using h0)
 · simp
end Go.Proofs.YtnpmenpjagcheaaGreatDoor
namespace Go.Proofs.YtnpmenpjagcheaaGreatDoor
open Go Go.Sep Go.Ab
def hd0:Hd:=⟨[],[],0,[],0⟩
def prt0:Prt:=⟨[],[],[],[]⟩
def evH (h:Hd):Evt:=⟨1,h,[],prt0,0⟩
def evB (b:Str):Evt:=⟨2,hd0,b,prt0,0⟩
def evE:Evt:=⟨3,hd0,[],prt0,0⟩
def evF (c:Int):Evt:=⟨4,hd0,[],prt0,c⟩
def uI (out:List Evt) (e:Evt):List Evt:=
 match out.getLast? with
 |some x=>if e.kind=2∧x.kind=2 then out.dropLast++[evB (x.bytes++e.bytes)] else out++[e]
 |none=>out++[e]
def yI (l:List Evt):List Evt:=l.foldl uI []
theorem xu (z:List Evt) (x e:Evt):uI (z++[x]) e=if e.kind=2∧x.kind=2 then z++[evB (x.bytes++e.bytes)] else z++[x]++[e]:=by
 unfold uI
 simp
theorem Yg (e:Evt):uI [] e=[e]:=rfl
end Go.Proofs.YtnpmenpjagcheaaGreatDoor
namespace Go.Proofs.YtnpmenpjagcheaaGreatDoor
open Go Go.Sep Go.Ab
def yF:Str→List Str
 |[]=>[[]]
 |c::r=>if c=32 then []::yF r else(match yF r with|[]=>[[c]]|w::ws=>(c::w)::ws)
theorem zb8 (s:Str):yF s≠[]:=by
 cases s with
 |nil=>simp [yF]
 | cons c r=>
   simp only [yF]
   split
   · simp
   · split<;>simp
def Vq:Str:=[72,84,84,80,47,49,46,49]
def zbg:Str:=[72,84,84,80,47,49,46,48]
def begM (s:Str):Int × Hd:=
 match yF s with
 | [a,b,c]=>
   if Xo a=false then(6,hd0)
   else if b.head?≠some 47∨b.contains 9=true then(5,hd0)
   else if c=Vq then(0,⟨a,b,1,[],0⟩)
   else if c=zbg then(0,⟨a,b,0,[],0⟩)
   else(11,⟨a,b,0,[],0⟩)
 |_=>(5,hd0)
def SK:Str:=[104,111,115,116]
def Yr:Str:=[99,111,110,116,101,110,116,45,108,101,110,103,116,104]
def zdx:Str:=[116,114,97,110,115,102,101,114,45,101,110,99,111,100,105,110,103]
def zab:Str:=[99,104,117,110,107,101,100]
def sizM (z0:Str) (n:Int):List Str→Int × Int
 |[]=>(n,0)
 |s::r=>if(numA s 10 9).2=false then(0,7) else if s≠z0 then(0,12) else sizM z0 (numA s 10 9).1 r
def lenM (mi:Int) (f:List Fld):Int × Int:=
 if valsF f zdx≠[] then
  if valsF f Yr≠[]∨mi=0 then(0,12)
  else if 1<(valsF f zdx).length∨lowS ((valsF f zdx).getD 0 [])≠zab then(0,11)
  else(-1,0)
 else if(sizM ((valsF f Yr).getD 0 []) 0 (valsF f Yr)).2≠0 then(0,(sizM ((valsF f Yr).getD 0 []) 0 (valsF f Yr)).2)
 else if 4000<(sizM ((valsF f Yr).getD 0 []) 0 (valsF f Yr)).1 then(0,4)
 else((sizM ((valsF f Yr).getD 0 []) 0 (valsF f Yr)).1,0)
def zww (mi:Int) (f:List Fld):Bool:=decide ((oneF (valsF f SK)).2=9)||(decide ((oneF (valsF f SK)).2=10)&&decide (mi=1))
def zzm (q:Rq) (e:Evt):Rq:= { q with out:=q.out++[e]}
def wW (q:Rq) (c:Int):Rq:= { q with pos:=4,out:=q.out++[evF c]}
def tN (q:Rq):Rq:= { q with out:=q.out++[evE],pos:=0,h:=hd0,own:=true}
def yA (q:Rq):Rq × Int:=
 if zww q.h.minor q.h.fields=true then(q,13)
 else if(lenM q.h.minor q.h.fields).2≠0 then({ q with own:=false},(lenM q.h.minor q.h.fields).2)
 else if(lenM q.h.minor q.h.fields).1=0 then(tN { q with h:= { q.h with length:=0},own:=false,out:=q.out++[evH { q.h with length:=0}]},0)
 else if 0<(lenM q.h.minor q.h.fields).1 then({ q with h:= { q.h with length:=(lenM q.h.minor q.h.fields).1},own:=false,out:=q.out++[evH { q.h with length:=(lenM q.h.minor q.h.fields).1}],pos:=2,left:=(lenM q.h.minor q.h.fields).1},0)
 else({ q with h:= { q.h with length:=(lenM q.h.minor q.h.fields).1},own:=false,out:=q.out++[evH { q.h with length:=(lenM q.h.minor q.h.fields).1}],pos:=3,ck:=some ch0},0)
def zN (q:Rq) (s:Str):Rq × Int:=
 if q.pos=0 then
  if s=[] then(q,0)
  else if(begM s).1=0 then({ q with h:=(begM s).2,pos:=1},0)
  else if(begM s).1=11 then({ q with h:=(begM s).2},11)
  else(q,(begM s).1)
 else if s=[] then yA q
 else if q.h.fields.length=16 then(q,8)
 else({ q with h:= { q.h with fields:=q.h.fields++[(uG s).1]}},(uG s).2)
def ckOf (q:Rq):Ch:=match q.ck with|some c=>c|none=>ch0
def rqF (q:Rq) (c:UInt8):Rq:=
 if q.pos=2 then
  if q.left - 1=0 then tN { q with out:=q.out++[evB [c]],left:=0} else { q with out:=q.out++[evB [c]],left:=q.left - 1}
 else if q.pos=3 then
  if(chF (ckOf q) c).2.2.2≠0 then wW { q with ck:=some (chF (ckOf q) c).1} (chF (ckOf q) c).2.2.2
  else if(chF (ckOf q) c).2.2.1=true then tN { q with ck:=some (chF (ckOf q) c).1,out:=if(chF (ckOf q) c).2.1≠[] then q.out++[evB (chF (ckOf q) c).2.1] else q.out}
  else { q with ck:=some (chF (ckOf q) c).1,out:=if(chF (ckOf q) c).2.1≠[] then q.out++[evB (chF (ckOf q) c).2.1] else q.out}
 else if q.pos=0∨q.pos=1 then
  if(lnF q.ln c).2.2.2≠0 then wW { q with ln:=(lnF q.ln c).1} (lnF q.ln c).2.2.2
  else if(lnF q.ln c).2.2.1=true then
   if(zN { q with ln:=(lnF q.ln c).1} (lnF q.ln c).2.1).2≠0 then wW (zN { q with ln:=(lnF q.ln c).1} (lnF q.ln c).2.1).1 (zN { q with ln:=(lnF q.ln c).1} (lnF q.ln c).2.1).2
   else(zN { q with ln:=(lnF q.ln c).1} (lnF q.ln c).2.1).1
  else { q with ln:=(lnF q.ln c).1}
 else q
def rq0:Rq:=⟨ln0,0,hd0,0,none,true,[]⟩
def uU (q:Rq) (b:Str):Rq:=b.foldl rqF q
def zM (q:Rq) (b:Str):Rq:=uU { q with out:=[]} b
end Go.Proofs.YtnpmenpjagcheaaGreatDoor
namespace Go.Proofs.YtnpmenpjagcheaaGreatDoor
open Go Go.Sep Go.Ab
def zpg (q:Rq):Rq:= { q with out:=[]}
end Go.Proofs.YtnpmenpjagcheaaGreatDoor
namespace Go.Sep.P
theorem ZO {a b s:List UInt8} (ha:a<:+s) (hb:b<:+s) (h:a.length≤b.length):a<:+b:=List.suffix_of_suffix_length_le ha hb h
structure Top (m s:List UInt8) (b n:Nat):Prop where
 le:n≤b
 suf:m.take n<:+s
 top: ∀ k,k≤b→m.take k<:+s→k≤n
theorem Top.eq {m s:List UInt8} {b n n':Nat} (h:Top m s b n) (h':Top m s b n'):n=n':=
 Nat.le_antisymm (h'.top n h.le h.suf) (h.top n' h'.le h'.suf)
def tZ (m s:List UInt8):Nat→Nat
 |0=>0
 |k+1=>if m.take (k+1)<:+s then k+1 else tZ m s k
theorem wX (m s:List UInt8): ∀ b,Top m s b (tZ m s b)
 |0=>⟨jL _,by simp [tZ],fun k hk _=>hk⟩
 | b + 1=>by
   unfold tZ
   split
   · rename_i h;exact⟨jL _,h,fun k hk _=>hk⟩
   · rename_i h
     have ih:=wX m s b;refine⟨Nat.le_succ_of_le ih.le,ih.suf,fun k hk hs=> ?_⟩
     rcases Nat.lt_or_ge k (b+1) with h1|h1
     · exact ih.top k (by omega) hs
     · have:k=b+1:=by omega
       subst this;exact(h hs).elim
def held (m s:List UInt8):Nat:=tZ m s (m.length - 1)
def zX (m:List UInt8) (i:Nat):Nat:=tZ m (m.take i) (i - 1)
theorem rH {m:List UInt8} {i:Nat} (h:0<i):zX m i<i:=by
 have:=(wX m (m.take i) (i - 1)).le;unfold zX;omega
def fall (m:List UInt8) (c:UInt8):Nat→Nat→Nat
 |0,n=>n
 |f+1,n=>if n=0 then 0 else if m[n]? =some c then n else fall m c f (zX m n)
theorem VK (m:List UInt8) (c:UInt8) (f:Nat):fall m c f 0=0:=by cases f<;>simp [fall]
theorem zhr (m:List UInt8) (c:UInt8): ∀ (f n:Nat),n≤f→∀ g,n≤g→fall m c f n=fall m c g n
 | 0,n,h,g,_=>by
   have:n=0:=by omega
   subst this;rw [VK,VK]
 | f + 1,n,h,g,hg=>by
   cases g with
   | zero=>
     have:n=0:=by omega
     subst this;rw [VK,VK]
   | succ g=>
     simp only [fall]
     split
     · rfl
     · split
       · rfl
       · rename_i h0 _
         have hb:=rH (m:=m) (i:=n) (by omega)
         exact zhr m c f _ (by omega) g (by omega)
structure zy8 (m:List UInt8) (c:UInt8) (n j:Nat):Prop where
 le:j≤n
 suf:m.take j<:+m.take n
 top: ∀ k,k≤n→m.take k<:+m.take n→m[k]? =some c→k≤j
 fits:j=0∨m[j]? =some c
theorem ziZ (m:List UInt8) (c:UInt8) (hm: ∀ k,k≤m.length→(m.take k).length=k): ∀ (f n:Nat),n≤f→n≤m.length→zy8 m c n (fall m c f n)
 | 0,n,h,hn=>by
   have:n=0:=by omega
   subst this;exact⟨jL _,List.suffix_refl _,fun k hk _ _=>hk,.inl rfl⟩
 | f + 1,n,h,hn=>by
   simp only [fall]
   split
   · rename_i h0;subst h0;exact⟨jL _,List.suffix_refl _,fun k hk _ _=>hk,.inl rfl⟩
   · split
     · rename_i h0 h1;exact⟨jL _,List.suffix_refl _,fun k hk _ _=>hk,.inr h1⟩
     · rename_i h0 h1
       have hb:=rH (m:=m) (i:=n) (by omega)
       have ht:Top m (m.take n) (n - 1) (zX m n):=wX m (m.take n) (n - 1)
       have ih:=ziZ m c hm f (zX m n) (by omega) (by omega)
       refine⟨by have:=ih.le;omega,ih.suf.trans ht.suf,fun k hk hs hc=> ?_,ih.fits⟩
       have hne:k≠n:=by rintro rfl;exact h1 hc
       have hkb:k≤zX m n:=ht.top k (by omega) hs
       refine ih.top k hkb (ZO hs ht.suf ?_) hc
       rw [hm k (by omega),hm _ (by omega)]
       exact hkb
theorem take_len {m:List UInt8}: ∀ k,k≤m.length→(m.take k).length=k:=fun k hk=>by simp;omega
theorem ZN {m s:List UInt8} {k:Nat} {c:UInt8} (hk:k<m.length):m.take (k+1)<:+s++[c]↔m.take k<:+s∧m[k]? =some c:=by
 rw [jB hk,jm hk];constructor
 · rintro⟨t,ht⟩
   rw [← jo] at ht;have:=List.append_inj' ht rfl
   exact⟨⟨t,this.1⟩,by simpa using this.2⟩
 · rintro⟨⟨t,ht⟩,hc⟩
   have hc':m[k]=c:=by simpa using hc
   exact⟨t,by rw [← jo,ht,hc']⟩
theorem Top.step {m s:List UInt8} {b n:Nat} {c:UInt8} (h:Top m s b n) (hb:b<m.length):
  (m[fall m c n n]? =some c→Top m (s++[c]) (b+1) (fall m c n n+1))∧(m[fall m c n n]? ≠some c→Top m (s++[c]) (b+1) 0∧fall m c n n=0):=by
 have hn:n≤m.length:=by have:=h.le;omega
 have hf:=ziZ m c take_len n n (jL _) hn;generalize fall m c n n=j at hf
 have hjl:j<m.length:=by have:=hf.le;have:=h.le;omega
 have key: ∀ k,k+1≤b+1→m.take (k+1)<:+s++[c]→k≤j∧m[k]? =some c:=by
  intro k hk hs
  obtain⟨h1,h2⟩:=(ZN (by omega)).1 hs
  have h3:=h.top k (by omega) h1
  have h4:m.take k<:+m.take n:=ZO h1 h.suf (by rw [take_len k (by omega),take_len n hn];exact h3)
  exact⟨hf.top k h3 h4 h2,h2⟩
 constructor
 · intro hc
   refine⟨by have:=hf.le;have:=h.le;omega,(ZN hjl).2 ⟨hf.suf.trans h.suf,hc⟩,fun k hk hs=> ?_⟩
   cases k with
   |zero=>omega
   |succ k=>have:=(key k hk hs).1;omega
 · intro hc
   have hj0:j=0:=hf.fits.resolve_right hc;subst hj0
   refine⟨⟨jM _,by simp,fun k hk hs=> ?_⟩,rfl⟩
   cases k with
   |zero=>omega
   | succ k=>
     obtain⟨h1,h2⟩:=key k hk hs
     have:k=0:=by omega
     subst this;exact(hc h2).elim
theorem zji {m:List UInt8} {i:Nat} (hi:i<m.length) (h0:0<i):
  zX m (i+1)=(if m[fall m m[i] (zX m i) (zX m i)]? =some m[i] then fall m m[i] (zX m i) (zX m i)+1 else 0):=by
 have ht:=wX m (m.take i) (i - 1)
 have hs:=ht.step (c:=m[i]) (by omega)
 have e:m.take i++[m[i]]=m.take (i+1):=(jB hi).symm
 rw [e,show i - 1+1=i by omega] at hs
 have hnew:=wX m (m.take (i+1)) (i+1 - 1)
 change Top m (m.take (i+1)) i (zX m (i+1)) at hnew
 change(m[fall m m[i] (zX m i) (zX m i)]? =some m[i]→_)∧_ at hs
 split
 · rename_i hc;exact hnew.eq (hs.1 hc)
 · rename_i hc;exact hnew.eq (hs.2 hc).1
theorem zqZ {m:List UInt8} {n k j:Nat} (hj:0<j) (hk:k+j=n) (hn:n≤m.length) (h:m.take k++m.take j=m.take n):
  m.take k++m.take (j - zX m j)=m.take (k+(j - zX m j))∧m.take (k+(j - zX m j))++m.take (zX m j)=m.take n:=by
 have hb:=rH (m:=m) hj;have ht:Top m (m.take j) (j - 1) (zX m j):=wX m (m.take j) (j - 1);generalize zX m j=b at hb ht;obtain⟨t,e⟩:=ht.suf;have hl:=congrArg List.length e
 rw [jk,take_len b (by omega),take_len j (by omega)] at hl
 have e2:t=m.take (j - b):=by
  have h1:(m.take j).take t.length=t:=by rw [← e];simp
  rw [List.take_take,show min t.length j=j - b by omega] at h1
  exact h1.symm
 subst e2
 have e3:m.take n=(m.take k++m.take (j - b))++m.take b:=by rw [jo,e,h]
 have e4:m.take (k+(j - b))=m.take k++m.take (j - b):=by
  have h1:(m.take n).take (k+(j - b))=m.take (k+(j - b)):=by rw [List.take_take,show min (k+(j - b)) n=k+(j - b) by omega]
  rw [← h1,e3]
  exact List.take_left' (by rw [jk,take_len k (by omega),take_len _ (by omega)])
 exact⟨e4.symm,by rw [e4,e3]⟩
theorem zhq {m:List UInt8} {c:UInt8} {j:Nat} (h0:0<j) (h:m[j]? ≠some c):fall m c j j=fall m c (zX m j) (zX m j):=by
 have hb:=rH (m:=m) h0
 cases j with
 |zero=>omega
 | succ i=>
   rw [fall,if_neg (by omega),if_neg h]
   exact zhr m c _ _ (by omega) _ (jL _)
theorem Yl {m:List UInt8} {c:UInt8} {j:Nat} (h:j=0∨m[j]? =some c):fall m c j j=j:=by
 cases j with
 |zero=>rfl
 |succ i=>rw [fall,if_neg (by omega),if_pos (h.resolve_left (by omega))]
def feed (m:List UInt8) (n:Nat) (c:UInt8):List UInt8 × Nat × Bool:=
 let j:=fall m c n n
 let out:=m.take (n - j)
 if m[j]? =some c then(if j+1<m.length then(out,j+1,false) else(out,0,true)) else(out++[c],0,false)
end Go.Sep.P
namespace Go.Proofs.YtnpmenpjagcheaaGreatDoor
open Go Go.Sep Go.Ab
set_option maxRecDepth 100000
set_option linter.unusedSimpArgs false
set_option linter.unusedVariables false
def cfgS:Cfg:= { sl:=[⟨278,0,.byte,some 5⟩,⟨278,1,.int,some 3⟩],nr:=[6]}
def SS (m:Str):List Int:=(List.range (m.length+1)).map fun i=>((P.zX m i:Nat):Int)
theorem zrL (m:Str) (i:Int) (h0:0≤i) (h:i≤m.length):(SS m).getD i.toNat 0=(P.zX m i.toNat:Nat):=by
 unfold SS
 rw [jH,List.getElem?_map,List.getElem?_range (by omega)];rfl
theorem zrK (m:Str):(SS m).length=m.length+1:=by simp [SS]
def rE (m:Str) (n:Nat) (c:UInt8):Str × Nat × Bool:=if m=[] then([c],n,false) else P.feed m n c
def zeF (I:Alg):KU
 |[.v (.one (.ptr 0 0)),.v (.one (.p (.int .u8 k)))],[.pack [.obj 278 [.row 1,.row 2,.p (.int .i64 n)],.row .byte 5 m,.row .int 3 bs]]=>(fun(m:Str) (bs:List Int)=>(some (.one ⟨I.hid (bs=SS m∧m.length≤1000000∧0≤n∧(m=[]∨n<m.length)∧0≤k∧k≤255),(.ret (.tup [.one (.row 1),.one (.p (.bool (I.hid ((rE m n.toNat (UInt8.ofNat k.toNat)).2.2))))])),[.pack [.obj 278 [.row 1,.row 2,.p (.int .i64 (I.hid ((rE m n.toNat (UInt8.ofNat k.toNat)).2.1:Int)))],.row .byte 5 m,.row .int 3 bs],.row .byte 5 (I.hid ((rE m n.toNat (UInt8.ofNat k.toNat)).1))]⟩):Option CT)) m bs
 |_,_=>none
theorem zqX:zq Tryz.prog 223 (zeF alg):=by
 intro args hp r h;unfold zeF at h;split at h<;>cases h
 rename_i k n m bs
 revert bs;intro(bs:List Int)
 simp only [CT.Good,zh];intro hneed;obtain⟨hbs,hl,hn0,hn,hk0,hk1⟩:=hneed;generalize hr:rE m n.toNat (UInt8.ofNat k.toNat)=r;obtain⟨out,n',fd⟩:=r
 refine spH Tryz.func223 (by kernel_rfl) { cfgS with keep:=some [0,1,4,5,6,7]} [] (by kernel_rfl) ?_
 intro I X hI hX
 refine orcL ?_;go_invoke;refine orcS (by kernel_rfl) ?_
 simp only [zi,Nat.reduceAdd];refine⟨fun h=> ?_,fun h=> ?_⟩
 · subst hI
   simp only [nrmA,nrmB] at h
   have:m=[]:=List.eq_nil_of_length_eq_zero (by omega)
   subst this;simp only [rE,if_true,Prod.mk.injEq] at hr;obtain⟨rfl,rfl,rfl⟩:=hr;simp only [nrmA,nrmB];refine⟨⟨hk0,hk1⟩,?_⟩;rw [Int.toNat_of_nonneg hn0]
 have hm:m≠[]:=by
  subst hI;simp only [nrmA,nrmB] at h;rintro rfl;simp at h
 have hm0:0<m.length:=by cases m<;>simp_all
 have hn:n<m.length:=hn.resolve_left hm;simp only [rE,if_neg hm] at hr
 refine lpH hI [qy] hX [0,1,6] (fun(p:Nat × Str)=>p.1≤n.toNat∧p.2.length+p.1=n.toNat∧P.fall m (UInt8.ofNat k.toNat) p.1 p.1=P.fall m (UInt8.ofNat k.toNat) n.toNat n.toNat∧p.2++m.take p.1=m.take n.toNat∧p.2=m.take p.2.length)
  (fun p=>⟨[(0,.v (.one (.ptr 0 0))),(1,.v (.one (.p (.int .u8 k)))),(6,.v (.one (.row 1)))],[.pack [.obj 278 [.row 1,.row 2,.p (.int .i64 p.1)],.row .byte 5 m,.row .int 3 bs],.row .byte 5 p.2],100,none⟩) (fun p=>p.1) (n.toNat,[])
  (by kernel_rfl) ?_ ⟨jL _,by simp,rfl,by simp,by simp⟩ ?_
 · simp only [Int.toNat_of_nonneg hn0];kernel_rfl
 rintro⟨j,o⟩ ⟨hjn,hoj,hfall,hcat,hpre⟩ A hA;simp only at hjn hoj hfall hcat hpre
 refine orcL ?_;go_invoke;refine orcS (by kernel_rfl) ?_
 simp only [zi,Nat.reduceAdd];subst hI hbs;simp only [nrmA,nrmB]
 have hb:=zrL m j (by omega) (by omega)
 simp only [jJ] at hb;have hbl:0<j→P.zX m j<j:=P.rH
 have hj:j<m.length:=by omega
 have hge:m.getD j 0=m[j]:=by simp [hj]
 rw [hb,zrK,hge]
 have hcc:(m[j].toNat:Int)=k↔m[j]? =some (UInt8.ofNat k.toNat):=by
  rw [jm hj,jw,← UInt8.toNat_inj,UInt8.toNat_ofNat'];omega
 simp only [hcc];have hfeed:=hr;simp only [P.feed] at hfeed;rw [← hfall] at hfeed
 refine⟨fun h0=>⟨by omega,by omega,fun hne=>⟨by omega,by omega,by omega,by omega,by simp only [jv];omega,?_⟩,fun heq=>⟨by omega,by omega,fun hne=>(hne heq).elim,fun _=>⟨by omega,fun hlt=> ?_,fun hlt=> ?_⟩⟩⟩,fun h0=>⟨by omega,by omega,fun hne=> ?_,fun heq=>⟨by omega,fun hlt=> ?_,fun hlt=> ?_⟩⟩⟩
 · obtain⟨h1,h2⟩:=P.zqZ (m:=m) (n:=n.toNat) (k:=o.length) (j:=j) (by omega) (by omega) (by omega) (by rw [← hpre];exact hcat)
   have hx:(↑j - ↑(P.zX m j):Int).toNat=j - P.zX m j:=by omega
   have hbj:=hbl (by omega)
   rw [hx]
   refine hA (P.zX m j,o++m.take (j - P.zX m j)) ⟨by simp only;omega,?_,?_,?_,?_⟩ hbj
   · simp only [jk,jv];omega
   · rw [← hfall];exact(P.zhq (by omega) hne).symm
   · simp only;rw [← h2,← h1,← hpre]
   · have:(o++m.take (j - P.zX m j)).length=o.length+(j - P.zX m j):=by simp only [jk,jv];omega
     simp only;rw [this,← h1,← hpre]
 · have hstop:=P.Yl (c:=UInt8.ofNat k.toNat) (.inr heq)
   rw [hstop,if_pos heq,if_pos (by omega)] at hfeed
   simp only [Prod.mk.injEq] at hfeed;obtain⟨rfl,rfl,rfl⟩:=hfeed
   rw [show n.toNat - j=o.length by omega,← hpre]
   exact⟨rfl,rfl⟩
 · have hstop:=P.Yl (c:=UInt8.ofNat k.toNat) (.inr heq)
   rw [hstop,if_pos heq,if_neg (by omega)] at hfeed
   simp only [Prod.mk.injEq] at hfeed;obtain⟨rfl,rfl,rfl⟩:=hfeed
   rw [show n.toNat - j=o.length by omega,← hpre]
   exact⟨rfl,rfl⟩
 all_goals
  have hj0:j=0:=by omega
  subst hj0;have hstop:=P.Yl (m:=m) (c:=UInt8.ofNat k.toNat) (j:=0) (.inl rfl);rw [hstop] at hfeed
  rw [show n.toNat=o.length by omega,Nat.sub_zero,← hpre] at hfeed
 · rw [if_neg hne] at hfeed
   simp only [Prod.mk.injEq] at hfeed;obtain⟨rfl,rfl,rfl⟩:=hfeed
   exact⟨⟨hk0,hk1⟩,by simp only [jh,ji];omega,rfl,rfl⟩
 · rw [if_pos heq,if_pos (by omega)] at hfeed
   simp only [Prod.mk.injEq] at hfeed;obtain⟨rfl,rfl,rfl⟩:=hfeed;exact⟨rfl,rfl⟩
 · rw [if_pos heq,if_neg (by omega)] at hfeed
   simp only [Prod.mk.injEq] at hfeed;obtain⟨rfl,rfl,rfl⟩:=hfeed;exact⟨rfl,rfl⟩
def U5:Know Tryz.prog:=⟨223,zeF,zqX⟩
def U4:Know Tryz.prog:=⟨223,fun I=>zu I (zeF I),zf zqX⟩
def xX (m:Str) (i:Nat):List Int:=(List.range (m.length+1)).map fun q=>if q<i then((P.zX m q:Nat):Int) else 0
theorem zjh (m:Str) (i:Nat) (h:m.length<i):xX m i=SS m:=by
 unfold xX SS;refine List.map_congr_left fun q hq=> ?_
 rw [if_pos (by have:=List.mem_range.1 hq;omega)]
theorem zjd (m:Str):xX m 2=List.replicate (m.length+1) 0:=by
 unfold xX
 refine List.ext_getElem (by simp) fun q h1 h2=> ?_
 simp only [List.getElem_map,List.getElem_range,List.getElem_replicate]
 split
 · have:q=0∨q=1:=by omega
   rcases this with rfl|rfl
   · simp [P.zX,P.tZ]
   · simp [P.zX,P.tZ]
 · rfl
theorem zjf (m:Str) (i:Nat):(xX m i).length=m.length+1:=by simp [xX]
theorem zjg (m:Str) (i q:Nat) (h:q<i) (hm:q≤m.length):(xX m i).getD q 0=(P.zX m q:Nat):=by
 unfold xX
 rw [jH,List.getElem?_map,List.getElem?_range (by omega)]
 simp [h]
theorem zje (m:Str) (i:Nat):(xX m i).set i ((P.zX m i:Nat):Int)=xX m (i+1):=by
 unfold xX
 refine List.ext_getElem (by simp) fun q h1 h2=> ?_
 simp only [List.getElem_set,List.getElem_map,List.getElem_range]
 by_cases h:i=q
 · subst h;simp
 · rw [if_neg h]
   by_cases hq:q<i
   · rw [if_pos hq,if_pos (by omega)]
   · rw [if_neg hq,if_neg (by omega)]
def zkO (I:Alg):KU
 |[.v (.one (.p (.list .byte m)))],[]=>(fun(m:Str)=>(some (.one ⟨I.hid (m.length≤999999),(.ret (.v (.one (.ptr 0 0)))),[.pack [.obj 278 [.row 1,.row 2,.p (.int .i64 0)],.row .byte 5 m,.row .int 3 (I.hid (SS m))]]⟩):Option CT)) m
 |_,_=>none
theorem zuR:zq Tryz.prog 222 (zkO alg):=by
 intro args hp r h;unfold zkO at h;split at h<;>cases h
 rename_i m;simp only [CT.Good,zh];intro hneed
 refine spH Tryz.func222 (by kernel_rfl) { cfgS with seam:=[2],keep:=some [0,2,3,4,5]} [ZB,qy] (by kernel_rfl) ?_
 intro I X hI hX
 refine orcL ?_;go_invoke;refine orcS (by kernel_rfl) ?_
 simp only [zi,Nat.reduceAdd]
 refine⟨?n1,⟨?n2,?n3,?n4,?n5,seam hI uw mixed [] hX [0,3] ⟨[(0,.v (.one (.p (.list .byte m)))),(3,.v (.one (.ptr 0 0)))],[.pack [.obj 278 [.row 1,.row 2,.p (.int .i64 0)],.row .byte 5 m,.row .int 3 ((I.rep (α:=Int) (I.add (I.len (α:=UInt8) m) 1) (0:Int)))]],60,none⟩ (by kernel_rfl) ?on⟩,?n3,?n4,?n5,?n2,seam hI uw mixed [] hX [0,3] _ (by kernel_rfl) ?on⟩
 case on=>
  have hrep:(I.rep (α:=Int) (I.add (I.len (α:=UInt8) m) 1) (0:Int))=xX m 2:=by
   subst hI;simp only [nrmA,nrmB];rw [zjd];rfl
  rw [hrep];generalize hb2:xX m 2=b2
  refine orcL ?_;go_invoke;refine orcS (by kernel_rfl) ?_
  simp only [zi,Nat.reduceAdd]
  refine lpH hI [ZB,qy] hX [0,3,5,4] (fun(g:Nat × Nat × List Int)=>match g with|(i,k,bs)=>1≤i∧(i≤m.length∨i=1)∧k=P.zX m i∧bs=xX m (i+1)) (fun(g:Nat × Nat × List Int)=>match g with|(i,k,bs)=>⟨[(0,.v (.one (.p (.list .byte m)))),(3,.v (.one (.ptr 0 0))),(5,.v (.one (.p (.int .i64 i)))),(4,.v (.one (.p (.int .i64 k))))],[.pack [.obj 278 [.row 1,.row 2,.p (.int .i64 0)],.row .byte 5 m,.row .int 3 bs]],60,none⟩) (fun(g:Nat × Nat × List Int)=>match g with|(i,k,bs)=>m.length - i) (1,0,b2) (by kernel_rfl) (by kernel_rfl) ?_ ?_
  · exact⟨jL _,.inr rfl,by simp [P.zX,P.tZ],hb2.symm⟩
  rintro⟨i,k,bs⟩ ⟨hi,him,rfl,hbs⟩ A hA;simp only at hA;generalize hk:P.zX m i=k at hA
  refine orcL ?_;go_invoke;refine orcS (by kernel_rfl) ?_
  simp only [zi,Nat.reduceAdd];refine⟨fun hlt=> ?_,fun hlt=> ?_⟩
  · refine lpH hI [ZB,qy] hX [0,3,5,4] (fun(q:Nat)=>q≤k∧P.fall m (m.getD i 0) q q=P.fall m (m.getD i 0) k k) (fun(q:Nat)=>⟨[(0,.v (.one (.p (.list .byte m)))),(3,.v (.one (.ptr 0 0))),(5,.v (.one (.p (.int .i64 i)))),(4,.v (.one (.p (.int .i64 q))))],[.pack [.obj 278 [.row 1,.row 2,.p (.int .i64 0)],.row .byte 5 m,.row .int 3 bs]],60,none⟩) (fun(q:Nat)=>q) k (by kernel_rfl) (by kernel_rfl) ?_ ?_
    · exact⟨jL _,rfl⟩
    rintro q ⟨hq,hfall⟩ B hB
    refine orcL ?_;go_invoke;refine orcS (by kernel_rfl) ?_
    simp only [zi,Nat.reduceAdd];subst hI hbs;simp only [nrmA,nrmB] at hlt
    have hil:i<m.length:=by omega
    have hkl:k<i:=by rw [← hk];exact P.rH (by omega)
    have hql:q<m.length:=by omega
    have hst:=P.zji hil (by omega)
    have hgi:m.getD i 0=m[i]:=by simp [hil]
    have hgq:m.getD q 0=m[q]:=by simp [hql]
    have hg0:=zjg m (i+1) q (by omega) (by omega)
    have hbl:0<q→P.zX m q<q:=P.rH;rw [hk] at hst;rw [hgi] at hfall;rw [← hfall] at hst;simp only [nrmA,nrmB]
    rw [hgi,hgq,zjf,hg0,show((i:Int)+1).toNat=i+1 by omega]
    have hset:=zje m (i+1)
    have hcc:m[i]=m[q]↔m[q]? =some m[i]:=by rw [jm hql];simp [eq_comm]
    have hA1:(q=0∨m[i]=m[q])→m[i]=m[q]→A ⟨[(0,.v (.one (.p (.list .byte m)))),(3,.v (.one (.ptr 0 0))),(5,.v (.one (.p (.int .i64 ((i:Int)+1))))),(4,.v (.one (.p (.int .i64 ((q:Int)+1)))))],[.pack [.obj 278 [.row 1,.row 2,.p (.int .i64 0)],.row .byte 5 m,.row .int 3 (((xX m (i+1)).set (i+1) ((q:Int)+1)))]],60,none⟩:=by
     intro h1 h2
     rw [P.Yl (by rw [← hcc];exact h1),if_pos (hcc.1 h2)] at hst
     have:=hA (i+1,q+1,xX m (i+2)) ⟨by omega,by omega,hst.symm,rfl⟩ (by simp only;omega)
     rw [hst] at hset;rw [← hset] at this;exact this
    have hA2:(q=0∨m[i]=m[q])→¬m[i]=m[q]→A ⟨[(0,.v (.one (.p (.list .byte m)))),(3,.v (.one (.ptr 0 0))),(5,.v (.one (.p (.int .i64 ((i:Int)+1))))),(4,.v (.one (.p (.int .i64 q))))],[.pack [.obj 278 [.row 1,.row 2,.p (.int .i64 0)],.row .byte 5 m,.row .int 3 (((xX m (i+1)).set (i+1) (q:Int)))]],60,none⟩:=by
     intro h1 h2;obtain rfl:q=0:=h1.resolve_right h2;rw [P.Yl (.inl rfl),if_neg (fun h=>h2 (hcc.2 h))] at hst
     have:=hA (i+1,0,xX m (i+2)) ⟨by omega,by omega,hst.symm,rfl⟩ (by simp only;omega)
     rw [hst] at hset;rw [← hset] at this;exact this
    (repeat' (first|refine ja ?_ ?_|intro _))<;>first|omega|exact jb|exact jc ‹False›|skip
    · refine hB (P.zX m q) ⟨by have:=hbl (by omega);omega,?_⟩ (hbl (by omega))
      rw [hgi,← P.zhq (by omega) (fun h=>‹¬m[i]=m[q]› (hcc.2 h)),hfall]
    · exact hA1 (.inr ‹_›) ‹_›
    · exact hA2 (.inr ‹_›) ‹_›
    · exact hA1 (.inl (by omega)) ‹_›
    · exact hA2 (.inl (by omega)) ‹_›
  · subst hI hbs
    simp only [nrmA,nrmB] at hlt
    rw [zjh m _ (by omega)]
    exact⟨trivial,rfl⟩
 all_goals subst hI;simp only [nrmA,nrmB];try omega
def zuQ:Know Tryz.prog:=⟨222,zkO,zuR⟩
def zuP:Know Tryz.prog:=⟨222,fun I=>zu I (zkO I),zf zuR⟩
end Go.Proofs.YtnpmenpjagcheaaGreatDoor
namespace Go.Proofs.YtnpmenpjagcheaaGreatDoor
open Go Go.Sep Go.Ab
set_option maxRecDepth 100000
def Vf (s:Str):Bool:= !decide (70<s.length)&&(Xy s&&(decide (Lib.trimS s [32,9]=s)&&decide (s≠[])))
def Wy (b:Str) (c:UInt8):Str:=
 if c=47∨c=92 then []
 else if c=9∨Wx (c.toNat:Int)=false∨c=34∨c=58 then b++[95]
 else if c=46∧b=[] then b
 else b++[c]
def zh4 (s:Str):Str:=if(s.foldl Wy []).take 40=[] then [102,105,108,101] else(s.foldl Wy []).take 40
theorem zox (s:Str) (i:Nat) (h:i<s.length):(s.take (i+1)).foldl Wy []=Wy ((s.take i).foldl Wy []) (s.getD i 0):=by
 rw [jB h,List.foldl_append]
 simp [h]
theorem zsC (s:Str): ∀ b:Str,(s.foldl Wy b).length≤b.length+s.length:=by
 induction s with
 |nil=>intro b;simp
 | cons c r ih=>
   intro b;have h:=ih (Wy b c)
   have h2:(Wy b c).length≤b.length+1:=by
    unfold Wy
    repeat' split
    all_goals simp
   rw [List.foldl_cons,jh];omega
theorem zms (c:UInt8) (k:Nat) (h:k<256):(c.toNat:Int)=(k:Int)↔c=UInt8.ofNat k:=by
 constructor
 · intro e
   rw [← UInt8.toNat_inj,UInt8.toNat_ofNat',Nat.mod_eq_of_lt h];omega
 · intro e
   rw [e,UInt8.toNat_ofNat',Nat.mod_eq_of_lt h]
theorem zsD (b:Str) (c:UInt8):Wy b c=if(c.toNat:Int)=47 then [] else if(c.toNat:Int)=92 then [] else if(c.toNat:Int)=9 then b++[95] else if Wx (c.toNat:Int)=false then b++[95] else if(c.toNat:Int)=34 then b++[95] else if(c.toNat:Int)=58 then b++[95] else if(c.toNat:Int)=46 then(if(b.length:Int)=0 then b else b++[c]) else b++[c]:=by
 have h0:(b.length:Int)=0↔b=[]:=by rw [← List.length_eq_zero_iff];omega
 have e1:(c.toNat:Int)=47↔c=47:=zms c 47 (by decide)
 have e2:(c.toNat:Int)=92↔c=92:=zms c 92 (by decide)
 have e3:(c.toNat:Int)=9↔c=9:=zms c 9 (by decide)
 have e4:(c.toNat:Int)=34↔c=34:=zms c 34 (by decide)
 have e5:(c.toNat:Int)=58↔c=58:=zms c 58 (by decide)
 have e6:(c.toNat:Int)=46↔c=46:=zms c 46 (by decide)
 simp only [e1,e2,e3,e4,e5,e6,h0];unfold Wy;generalize Wx (c.toNat:Int)=k;clear e1 e2 e3 e4 e5 e6 h0
 repeat' split
 all_goals simp_all
def QM (I:Alg):KU
 |[.v (.one (.p (.str s)))],[]=>(fun(s:Str)=>(some (.one ⟨I.hid (s.length≤1000000),(.ret (.v (.one (.p (.str (I.hid (zh4 s))))))),[]⟩):Option CT)) s
 |_,_=>none
theorem zlD:zq Tryz.prog 239 (QM alg):=by
 intro args hp r h;unfold QM at h;split at h<;>cases h
 rename_i s;simp only [CT.Good,zh];intro hneed
 refine spH Tryz.func239 (by kernel_rfl) { nr:=[3],keep:=some [0,2,3,4,5,7,8]} [wV,sD] (by kernel_rfl) ?_
 intro I X hI hX
 refine orcL ?_;go_invoke;refine orcS (by kernel_rfl) ?_
 simp only [zi,Nat.reduceAdd]
 refine lpH hI [wV,sD] hX [0,3,7,8] (fun(g:Nat × Str)=>match g with|(i,b)=>i≤s.length∧b=(s.take i).foldl Wy []) (fun(g:Nat × Str)=>match g with|(i,b)=>⟨[(0,.v (.one (.p (.str s)))),(3,.v (.one (.row 0))),(7,.v (.one (.p (.int .i64 ((I.len (α:=UInt8) s)))))),(8,.v (.one (.p (.int .i64 i))))],[.row .byte 5 b],63,none⟩) (fun(g:Nat × Str)=>match g with|(i,b)=>s.length - i) (0,[]) (by kernel_rfl) (by kernel_rfl) ?_ ?_
 · exact⟨jM _,rfl⟩
 rintro⟨i,b⟩ ⟨h1,h2⟩ A hA;simp only at hA h1 h2
 refine orcL ?_;go_invoke;refine orcS (by kernel_rfl) ?_
 simp only [zi,Nat.reduceAdd];subst hI;simp only [nrmA,nrmB,nrlB,reduceCtorEq];have hs:=zox s i;have hbl:=zsC (s.take i) [];rw [← h2] at hs hbl;rw [jv,ji] at hbl
 have hA2:i<s.length→_:=fun h=>hA (i+1,Wy b (s.getD i 0)) ⟨by simp only;omega,(hs h).symm⟩ (by simp only;omega)
 have l0:=(s.getD i 0).toNat_lt;rw [zsD] at hA2
 have hend: ¬ i<s.length→s.foldl Wy []=b:=fun h=>by rw [h2,jq (by omega)]
 have hm: ¬ i<s.length→zh4 s=if b.take 40=[] then [102,105,108,101] else b.take 40:=fun h=>by unfold zh4;rw [hend h]
 have hn:0<b.length→¬ b.take 40=[]:=fun h k=>by have:=congrArg List.length k;rw [jv,ji] at this;omega
 generalize s.getD i 0=c at *
 (repeat' (first|refine ja ?_ ?_|intro _))<;>first|omega|exact jb|exact jc ‹False›|skip
 all_goals first
  |omega
  |exact⟨by omega,by omega⟩
  |(simp only [jr];omega)
  |(rw [hm (by omega),if_neg (hn (by omega))];first|rfl|exact(jq (by omega)).symm)
  |(rw [hm (by omega),if_pos (by rw [List.eq_nil_of_length_eq_zero (show b.length=0 by omega)];rfl)])
  |(have h:=hA2 (by omega);(repeat(first|rw [if_pos (by first|omega|assumption)] at h|rw [if_neg (by first|omega|assumption|simpa using ‹_=true›)] at h));simp only [Int.natCast_add,Int.natCast_one] at h;exact h)
def ztY:Know Tryz.prog:=⟨239,QM,zlD⟩
def ztX:Know Tryz.prog:=⟨239,fun I=>zu I (QM I),zf zlD⟩
def QS (I:Alg):KU
 |[.v (.one (.p (.str s)))],[]=>(fun(s:Str)=>(some (.one ⟨I.hid (s.length≤140737488355328),(.ret (.v (.one (.p (.bool (I.hid (Vf s))))))),[]⟩):Option CT)) s
 |_,_=>none
theorem zlK:zq Tryz.prog 221 (QS alg):=by
 intro args hp r h;unfold QS at h;split at h<;>cases h
 rename_i s;simp only [CT.Good,zh];intro hneed
 refine spH Tryz.func221 (by kernel_rfl) { keep:=some [0,2]} [wE,wC,V8,V7] (by kernel_rfl) ?_
 intro I X hI hX
 refine orcL ?_;go_invoke;refine orcS (by kernel_rfl) ?_
 simp only [zi,Nat.reduceAdd];subst hI;simp only [nrmA,nrmB,nrlB,reduceCtorEq];unfold Vf
 have h70:(70<s.length)↔((70:Int)<(s.length:Int)):=by omega
 simp only [h70]
 (repeat' (first|refine ja ?_ ?_|intro _))<;>first|omega|exact jb|exact jc ‹False›|skip
 all_goals first
  |omega
  |(rw [decide_eq_false (by omega),‹Xy s=true›,decide_eq_true ‹Lib.trimS s _=s›];cases s<;>simp)
  |(simp_all;done)
def zlJ:Know Tryz.prog:=⟨221,QS,zlK⟩
def zlI:Know Tryz.prog:=⟨221,fun I=>zu I (QS I),zf zlK⟩
end Go.Proofs.YtnpmenpjagcheaaGreatDoor
namespace Go.Proofs.YtnpmenpjagcheaaGreatDoor
open Go Go.Sep Go.Ab
def pctM:Str→Option Str
 |[]=>some []
 | c ::r=>
   if c≠37 then(pctM r).map (c:: ·)
   else match r with
    |a::b::r'=>if hexK (a.toNat:Int)<0∨hexK (b.toNat:Int)<0 then none else(pctM r').map (UInt8.ofNat (16 * hexK (a.toNat:Int)+hexK (b.toNat:Int)).toNat:: ·)
    |_=>none
def utfS:Str:=[117,116,102,45,56,39,39]
def extM (s:Str):Option Str:=if s.length<7∨lowS (s.take 7)≠utfS then none else pctM (s.drop 7)
def rG:Str:=[99,111,110,116,101,110,116,45,100,105,115,112,111,115,105,116,105,111,110]
def zl2:Str:=[99,111,110,116,101,110,116,45,116,121,112,101]
def zvd:Str:=[102,111,114,109,45,100,97,116,97]
def zwc:Str:=[110,97,109,101]
def ztU:Str:=[102,105,108,101,110,97,109,101]
def zhn:Str:=[102,105,108,101,110,97,109,101,42]
def extV (s:Str):Str:=(extM s).getD []
def extB (s:Str):Bool:=(extM s).isSome
def zvY (f x:Str × Bool):Str:=if x.2=true then zh4 (extV x.1) else if f.2=true then zh4 f.1 else []
def partT (t:Str × Int):Str:=if t.2=0 then t.1 else []
def ztc (a:Str × Int) (m:Med × Int) (n f x:Str × Bool) (t:Str × Int):Prt × Int:=
 if a.2≠0 then(prt0,a.2)
 else if m.2≠0 then(prt0,m.2)
 else if m.1.word≠zvd then(prt0,11)
 else if n.2=false then(prt0,6)
 else if x.2=true∧extB x.1=false then(prt0,5)
 else if t.2=9 then(prt0,9)
 else(⟨n.1,zvY f x,partT t,[]⟩,0)
def Zl (l:List Fld):Prt × Int:=
 ztc (oneF (valsF l rG)) (xJ (oneF (valsF l rG)).1) (getP (xJ (oneF (valsF l rG)).1).1.params zwc) (getP (xJ (oneF (valsF l rG)).1).1.params ztU) (getP (xJ (oneF (valsF l rG)).1).1.params zhn) (oneF (valsF l zl2))
def evP (p:Prt):Evt:=⟨5,hd0,[],p,0⟩
def evO:Evt:=⟨6,hd0,[],prt0,0⟩
def xg (f:Fm) (c:Int):Fm:= { f with pos:=8,code:=c,out:=f.out++[evF c]}
def fmSk (f:Fm) (c:UInt8):Fm:= { f with held:=((rE f.mark f.held.toNat c).2.1:Int)}
def wF (f:Fm):Fm:=
 if(Zl f.fields).2≠0 then xg f (Zl f.fields).2
 else if f.parts=12 then xg f 8
 else fmSk (fmSk { f with parts:=f.parts+1,pos:=6,out:=f.out++[evP (Zl f.fields).1],skip:=2} 13) 10
def uO (f:Fm) (s:Str):Fm:=
 if s=[] then wF f
 else if f.fields.length=16 then xg f 8
 else if(uG s).2≠0 then xg f (uG s).2
 else { f with fields:=f.fields++[(uG s).1]}
def wz (f:Fm) (c:UInt8):Fm:=
 if f.pos=1∧c=45 then { f with pos:=2}
 else if f.pos=2∧c=45 then { f with pos:=7,out:=f.out++[evE]}
 else if f.pos≠2∧(c=32∨c=9) then { f with pos:=3}
 else if f.pos≠2∧c=13 then { f with pos:=4}
 else xg f 5
def uX (f:Fm) (c:UInt8):Str:=(rE f.mark f.held.toNat c).1.drop (min f.skip ((rE f.mark f.held.toNat c).1.length:Int)).toNat
def vI (f:Fm) (c:UInt8):Fm:=
 if(rE f.mark f.held.toNat c).2.2=false then
  { fmSk f c with skip:=f.skip - min f.skip ((rE f.mark f.held.toNat c).1.length:Int),out:=if f.pos=6∧uX f c≠[] then f.out++[evB (uX f c)] else f.out}
 else { fmSk f c with pos:=1,skip:=0,out:=if f.pos=6 then(if uX f c≠[] then f.out++[evB (uX f c),evO] else f.out++[evO]) else f.out}
def lnOf (f:Fm):Ln:=match f.ln with|some l=>l|none=>ln0
def fmF (f:Fm) (c:UInt8):Fm:=
 if f.pos=0∨f.pos=6 then vI f c
 else if f.pos=1∨f.pos=2∨f.pos=3 then wz f c
 else if f.pos=4 then(if c≠10 then xg f 2 else { f with pos:=5,ln:=some ln0,fields:=[]})
 else if f.pos=5 then
  if(lnF (lnOf f) c).2.2.2≠0 then xg { f with ln:=some (lnF (lnOf f) c).1} (lnF (lnOf f) c).2.2.2
  else if(lnF (lnOf f) c).2.2.1=true then uO { f with ln:=some (lnF (lnOf f) c).1} (lnF (lnOf f) c).2.1
  else { f with ln:=some (lnF (lnOf f) c).1}
 else f
def zbq (b:Str):Str:=[13,10,45,45]++b
def fm0 (b:Str):Fm:=fmSk (fmSk ⟨zbq b,0,SS (zbq b),0,none,[],0,0,0,[]⟩ 13) 10
def VA (f:Fm) (b:Str):Fm:=b.foldl fmF f
def y9 (f:Fm) (b:Str):Fm:=VA { f with out:=[]} b
def sW (f:Fm):Int:=if f.pos=8 then f.code else if f.pos=7 then 0 else 14
def prtS (l:List Prt) (e:Evt):List Prt:=
 if e.kind=5 then l++[e.part]
 else if e.kind=2 then(match l.getLast? with|some p=>l.dropLast++[{ p with bytes:=p.bytes++e.bytes}]|none=>l)
 else l
def Z8 (b x:Str):List Prt × Int:=
 if Vf b=false then([],5)
 else if sW (y9 (fm0 b) x)≠0 then([],sW (y9 (fm0 b) x))
 else((yI (y9 (fm0 b) x).out).foldl prtS [],0)
end Go.Proofs.YtnpmenpjagcheaaGreatDoor
namespace Go.Proofs.YtnpmenpjagcheaaGreatDoor
open Go Go.Sep Go.Ab
set_option maxRecDepth 100000
def qh (I:Alg):KU
 |[.v (.one (.p (.str s))),.v (.one (.p (.str p)))],[]=>(fun(s p:Str)=>(some (.one ⟨I.hid (True),(.ret (.v (.one (.p (.bool (I.hid (Lib.hasPrefix s p))))))),[]⟩):Option CT)) s p
 |_,_=>none
theorem TY:zq Tryz.prog 79 (qh alg):=by
 intro args hp r h;unfold qh at h;split at h<;>cases h
 rename_i s p;simp only [CT.Good,zh];intro _
 refine Spc.of_below ⟨_,Tryz.func79,by kernel_rfl,by kernel_rfl⟩ fun S bs w vs _ hM=> ?_
 obtain⟨v,r,rfl⟩: ∃ v r,vs=v::r:=by cases vs with|nil=>exact hM.elim|cons v r=>exact⟨v,r,rfl⟩
 obtain⟨h1,hM⟩:=hM
 obtain⟨v2,r2,rfl⟩: ∃ v r2,r=v::r2:=by cases r with|nil=>exact hM.elim|cons v r=>exact⟨v,r,rfl⟩
 obtain⟨h2,hM⟩:=hM
 obtain rfl:r2=[]:=by cases r2 with|nil=>rfl|cons v r=>exact hM.elim
 cases h1 with
 | str _ hl1=>
   cases h2 with
   | str _ hl2=>
     refine⟨.bool (Lib.hasPrefix s p),.bool _,(Tryz.strings_HasPrefix (Sep.S s) (Sep.S p) w).mono fun e w' h=> ?_⟩;obtain⟨he,rfl⟩:=h;exact⟨he,Go.RowKit.Below.refl _ _⟩
def xB:Know Tryz.prog:=⟨79,qh,TY⟩
def xA:Know Tryz.prog:=⟨79,fun I=>zu I (qh I),zf TY⟩
def qx (I:Alg):KU
 |[.v (.one (.p (.str s))),.v (.one (.p (.str ([c]))))],[]=>(fun(s:Str)=>(some (.one ⟨I.hid (True),(.ret (.v (.one (.p (.bool (I.hid (decide (0≤Lib.indexByte s c)))))))),[]⟩):Option CT)) s
 |_,_=>none
theorem SG:zq Tryz.prog 15 (qx alg):=by
 intro args hp r h;unfold qx at h;split at h<;>cases h
 rename_i s c;simp only [CT.Good,zh];intro _
 refine Spc.of_below ⟨_,Tryz.func15,by kernel_rfl,by kernel_rfl⟩ fun S bs w vs _ hM=> ?_
 obtain⟨v,r,rfl⟩: ∃ v r,vs=v::r:=by cases vs with|nil=>exact hM.elim|cons v r=>exact⟨v,r,rfl⟩
 obtain⟨h1,hM⟩:=hM
 obtain⟨v2,r2,rfl⟩: ∃ v r2,r=v::r2:=by cases r with|nil=>exact hM.elim|cons v r=>exact⟨v,r,rfl⟩
 obtain⟨h2,hM⟩:=hM
 obtain rfl:r2=[]:=by cases r2 with|nil=>rfl|cons v r=>exact hM.elim
 cases h1 with
 | str _ hl1=>
   cases h2 with
   | str _ hl2=>
     refine⟨.bool (decide (0≤Lib.indexByte s c)),.bool _,(Tryz.strings_Contains_one (Sep.S s) c w).mono fun e w' h=> ?_⟩;obtain⟨he,rfl⟩:=h;exact⟨he,Go.RowKit.Below.refl _ _⟩
def uT:Know Tryz.prog:=⟨15,qx,SG⟩
def uS:Know Tryz.prog:=⟨15,fun I=>zu I (qx I),zf SG⟩
end Go.Proofs.YtnpmenpjagcheaaGreatDoor
namespace Go.Proofs.YtnpmenpjagcheaaGreatDoor
open Go Go.Sep Go.Ab
set_option maxRecDepth 100000
theorem zbO (s p:Str):(Lib.trimPrefix s p).length≤s.length:=by
 unfold Lib.trimPrefix
 split
 · simp
 · exact jL _
def qw (I:Alg):KU
 |[.v (.one (.p (.str s))),.v (.one (.p (.str p)))],[]=>(fun(s p:Str)=>(some (.one ⟨I.hid (True),(.ret (.tup [.one (.p (.str (I.hid (Lib.trimPrefix s p)))),.one (.p (.bool (I.hid (Lib.hasPrefix s p))))])),[]⟩):Option CT)) s p
 |_,_=>none
theorem SE:zq Tryz.prog 172 (qw alg):=by
 intro args hp r h;unfold qw at h;split at h<;>cases h
 rename_i s p;simp only [CT.Good,zh];intro _
 refine Spc.of_below ⟨_,Tryz.func172,by kernel_rfl,by kernel_rfl⟩ fun S bs w vs _ hM=> ?_
 obtain⟨v,r,rfl⟩: ∃ v r,vs=v::r:=by cases vs with|nil=>exact hM.elim|cons v r=>exact⟨v,r,rfl⟩
 obtain⟨h1,hM⟩:=hM
 obtain⟨v2,r2,rfl⟩: ∃ v r2,r=v::r2:=by cases r with|nil=>exact hM.elim|cons v r=>exact⟨v,r,rfl⟩
 obtain⟨h2,hM⟩:=hM
 obtain rfl:r2=[]:=by cases r2 with|nil=>rfl|cons v r=>exact hM.elim
 cases h1 with
 | str _ hl1=>
   cases h2 with
   | str _ hl2=>
     refine⟨.tuple #[.string (Sep.S (Lib.trimPrefix s p)),.bool (Lib.hasPrefix s p)],⟨[.string (Sep.S (Lib.trimPrefix s p)),.bool (Lib.hasPrefix s p)],⟨.str _ (Nat.le_trans (zbO _ _) hl1),.bool _,trivial⟩,rfl⟩,(Tryz.strings_CutPrefix (Sep.S s) (Sep.S p) w).mono fun e w' h=> ?_⟩;obtain⟨he,rfl⟩:=h;exact⟨he,Go.RowKit.Below.refl _ _⟩
def SC:Know Tryz.prog:=⟨172,qw,SE⟩
def SB:Know Tryz.prog:=⟨172,fun I=>zu I (qw I),zf SE⟩
def FOk (f:List Fld):Prop:=f.length≤1000∧∀ x ∈ f,x.name.length≤1000000∧x.value.length≤1000000
def cfgT:Cfg:= { sl:=XT.sl++[⟨169,1000003,.byte,none⟩],fz:=[131]}
def Rh (I:Alg):KU
 |[.v (.one (.p (.int .i64 st))),.v (.one (.p (.list .fld fs)))],[]=>(fun(fs:List Fld)=>(some (.one ⟨I.hid (True),(.pan (.ifc 164 true [.int .i64 st,.list .fld fs,.list .byte (I.hid ([]))])),[]⟩):Option CT)) fs
 |_,_=>none
theorem zjH:zq Tryz.prog 131 (Rh alg):=by
 intro args hp r h;unfold Rh at h;split at h<;>cases h
 rename_i st fs
 revert fs;intro(fs:List Fld)
 simp only [CT.Good,zh];intro _
 refine spH Tryz.func131 (by kernel_rfl) { keep:=some [0,1]} [] (by kernel_rfl) ?_
 intro I X hI hX
 refine orcL ?_;go_invoke;refine orcS (by kernel_rfl) ?_
 simp only [zi,Nat.reduceAdd]
 try trivial
def zS:Know Tryz.prog:=⟨131,Rh,zjH⟩
def zQ:Know Tryz.prog:=⟨131,fun I=>zu I (Rh I),zf zjH⟩
def Wi (I:Alg):KU
 |[.v (.one (.p (.str n))),.v (.one (.p (.str v)))],[]=>(fun(n v:Str)=>(some (.one ⟨I.hid (True),(.ret (.v (.agg [.p (.str n),.p (.str v)]))),[]⟩):Option CT)) n v
 |_,_=>none
theorem zfr:zq Tryz.prog 100 (Wi alg):=by
 intro args hp r h;unfold Wi at h;split at h<;>cases h
 rename_i n v;simp only [CT.Good,zh];intro _
 refine spH Tryz.func100 (by kernel_rfl) { keep:=some [0,1,4]} [] (by kernel_rfl) ?_
 intro I X hI hX
 refine orcL ?_;go_invoke;refine orcS (by kernel_rfl) ?_
 simp only [zi,Nat.reduceAdd]
 try trivial
def yx:Know Tryz.prog:=⟨100,Wi,zfr⟩
def yw:Know Tryz.prog:=⟨100,fun I=>zu I (Wi I),zf zfr⟩
def zdD (I:Alg):KU
 |[.v (.one (.p (.int .i64 n)))],[]=>some (.one ⟨I.hid (0≤n∧n<1000000000),(.ret (.v (.one (.p (.str (I.hid (decS n))))))),[]⟩)
 |_,_=>none
theorem zn2:zq Tryz.prog 132 (zdD alg):=by
 intro args hp r h;unfold zdD at h;split at h<;>cases h
 rename_i n;simp only [CT.Good,zh];intro hneed
 refine spH Tryz.func132 (by kernel_rfl) { keep:=some [0,2]} [qH,qG] (by kernel_rfl) ?_
 intro I X hI hX
 refine orcL ?_;go_invoke;refine orcS (by kernel_rfl) ?_
 simp only [zi,Nat.reduceAdd];subst hI;simp only [nrmA,nrmB]
 first|exact hneed|exact⟨hneed,trivial⟩|trace_state
def xW:Know Tryz.prog:=⟨132,zdD,zn2⟩
def xU:Know Tryz.prog:=⟨132,fun I=>zu I (zdD I),zf zn2⟩
theorem zxw (m t:Str) (mi:Int) (f:List Fld) (le:Int) (l:List Upl) (n:Int) (b:Str) (s:Int) (nm:Str) (hneed:(FOk f∧nm.length≤1000000)∧¬ (oneT f nm).2=9):Spc Tryz.prog 133 [.v (.one (.ptr 0 0)),.v (.one (.p (.str nm)))] [.obj 169 [.ptr 1 0,.p (.str m),.p (.str t),.p (.int .i64 mi),.p (.list .fld f),.p (.int .i64 le)],.pack [.obj 78 [.ptr 1 0,.ptr 2 0],.pack [.obj 106 [.row 1,.p (.int .i64 n)],.row .upl 82 l],.pack [.obj 108 [.row 1,.p (.int .i64 s)],.row .byte 5 b]]] (.ret (.tup [.one (.p (.str ((oneT f nm).1))),.one (.p (.bool (decide ((oneT f nm).2=0))))])) [.obj 169 [.ptr 1 0,.p (.str m),.p (.str t),.p (.int .i64 mi),.p (.list .fld f),.p (.int .i64 le)],.pack [.obj 78 [.ptr 1 0,.ptr 2 0],.pack [.obj 106 [.row 1,.p (.int .i64 n)],.row .upl 82 l],.pack [.obj 108 [.row 1,.p (.int .i64 s)],.row .byte 5 b]]]:=by
 obtain⟨⟨hf,hn⟩,h9⟩:=hneed
 refine spH Tryz.func133 (by kernel_rfl) { cfgT with keep:=some [0,1,4,5,6,7]} [Yn,Ym,zS,zQ] (by kernel_rfl) ?_
 intro I X hI hX
 refine orcL ?_;go_invoke;refine orcS (by kernel_rfl) ?_
 simp only [zi,Nat.reduceAdd];subst hI;unfold oneT at *;simp only [nrmA,nrmB,nrlB,reduceCtorEq]
 (repeat' (first|refine ja ?_ ?_|intro _))<;>first|omega|exact jb|exact jc ‹False›|skip
 all_goals first|exact hf.1|exact hn|exact hf.2|(exact(hf.2 _ ‹_›).1)|(exact(hf.2 _ ‹_›).2)|rfl|(exact⟨hf.1,hn,hf.2⟩)|(exfalso;exact h9 ‹_›)|(simp_all;done)|trace_state
theorem zxv (m t:Str) (mi:Int) (f:List Fld) (le:Int) (l:List Upl) (n:Int) (b:Str) (s:Int) (nm:Str) (hneed:(FOk f∧nm.length≤1000000)∧(oneT f nm).2=9):Spc Tryz.prog 133 [.v (.one (.ptr 0 0)),.v (.one (.p (.str nm)))] [.obj 169 [.ptr 1 0,.p (.str m),.p (.str t),.p (.int .i64 mi),.p (.list .fld f),.p (.int .i64 le)],.pack [.obj 78 [.ptr 1 0,.ptr 2 0],.pack [.obj 106 [.row 1,.p (.int .i64 n)],.row .upl 82 l],.pack [.obj 108 [.row 1,.p (.int .i64 s)],.row .byte 5 b]]] (.pan (.ifc 164 true [.int .i64 400,.list .fld ([]),.list .byte ([])])) [.obj 169 [.ptr 1 0,.p (.str m),.p (.str t),.p (.int .i64 mi),.p (.list .fld f),.p (.int .i64 le)],.pack [.obj 78 [.ptr 1 0,.ptr 2 0],.pack [.obj 106 [.row 1,.p (.int .i64 n)],.row .upl 82 l],.pack [.obj 108 [.row 1,.p (.int .i64 s)],.row .byte 5 b]]]:=by
 obtain⟨⟨hf,hn⟩,h9⟩:=hneed
 refine spH Tryz.func133 (by kernel_rfl) { cfgT with keep:=some [0,1,4,5,6,7]} [Yn,Ym,zS,zQ] (by kernel_rfl) ?_
 intro I X hI hX
 refine orcL ?_;go_invoke;refine orcS (by kernel_rfl) ?_
 simp only [zi,Nat.reduceAdd];subst hI;unfold oneT at *;simp only [nrmA,nrmB,nrlB,reduceCtorEq]
 (repeat' (first|refine ja ?_ ?_|intro _))<;>first|omega|exact jb|exact jc ‹False›|skip
 all_goals first|exact hf.1|exact hn|exact hf.2|(exact(hf.2 _ ‹_›).1)|(exact(hf.2 _ ‹_›).2)|rfl|(exact⟨hf.1,hn,hf.2⟩)|(exfalso;contradiction)|(simp_all;done)|trace_state
def zdC (I:Alg):KU
 |[.v (.one (.ptr 0 0)),.v (.one (.p (.str nm)))],[.obj 169 [.ptr 1 0,.p (.str m),.p (.str t),.p (.int .i64 mi),.p (.list .fld f),.p (.int .i64 le)],.pack [.obj 78 [.ptr 1 0,.ptr 2 0],.pack [.obj 106 [.row 1,.p (.int .i64 n)],.row .upl 82 l],.pack [.obj 108 [.row 1,.p (.int .i64 s)],.row .byte 5 b]]]=>(fun(m t:Str) (f:List Fld) (l:List Upl) (b nm:Str)=>(some (.br (I.hid (decide ((oneT f nm).2=9))) (.one ⟨I.hid ((FOk f∧nm.length≤1000000)∧(oneT f nm).2=9),(.pan (.ifc 164 true [.int .i64 400,.list .fld (I.hid ([])),.list .byte (I.hid ([]))])),[.obj 169 [.ptr 1 0,.p (.str m),.p (.str t),.p (.int .i64 mi),.p (.list .fld f),.p (.int .i64 le)],.pack [.obj 78 [.ptr 1 0,.ptr 2 0],.pack [.obj 106 [.row 1,.p (.int .i64 n)],.row .upl 82 l],.pack [.obj 108 [.row 1,.p (.int .i64 s)],.row .byte 5 b]]]⟩) (.one ⟨I.hid ((FOk f∧nm.length≤1000000)∧¬ (oneT f nm).2=9),(.ret (.tup [.one (.p (.str (I.hid ((oneT f nm).1)))),.one (.p (.bool (I.hid (decide ((oneT f nm).2=0)))))])),[.obj 169 [.ptr 1 0,.p (.str m),.p (.str t),.p (.int .i64 mi),.p (.list .fld f),.p (.int .i64 le)],.pack [.obj 78 [.ptr 1 0,.ptr 2 0],.pack [.obj 106 [.row 1,.p (.int .i64 n)],.row .upl 82 l],.pack [.obj 108 [.row 1,.p (.int .i64 s)],.row .byte 5 b]]]⟩)):Option CT)) m t f l b nm
 |_,_=>none
theorem zn1:zq Tryz.prog 133 (zdC alg):=by
 intro args hp r h;unfold zdC at h
 split at h
 · cases h;exact⟨fun _ hn=>zxv _ _ _ _ _ _ _ _ _ _ hn,fun _ hn=>zxw _ _ _ _ _ _ _ _ _ _ hn⟩
 · cases h
def xR:Know Tryz.prog:=⟨133,zdC,zn1⟩
def xQ:Know Tryz.prog:=⟨133,fun I=>zu I (zdC I),zf zn1⟩
end Go.Proofs.YtnpmenpjagcheaaGreatDoor
namespace Go.Proofs.YtnpmenpjagcheaaGreatDoor
open Go Go.Sep Go.Ab
set_option maxRecDepth 100000
theorem qU (f:List Fld) (n:Str):(oneT f n).2=0∨(oneT f n).2=9∨(oneT f n).2=10:=by
 unfold oneT oneF
 repeat' split
 all_goals simp
theorem zvA (m t:Str) (mi:Int) (f:List Fld) (le:Int) (l:List Upl) (n:Int) (b:Str) (s:Int) (nm:Str) (hneed:(FOk f∧nm.length≤1000000)∧Xl f nm=true):Spc Tryz.prog 169 [.v (.one (.ptr 0 0)),.v (.one (.p (.str nm)))] [.obj 169 [.ptr 1 0,.p (.str m),.p (.str t),.p (.int .i64 mi),.p (.list .fld f),.p (.int .i64 le)],.pack [.obj 78 [.ptr 1 0,.ptr 2 0],.pack [.obj 106 [.row 1,.p (.int .i64 n)],.row .upl 82 l],.pack [.obj 108 [.row 1,.p (.int .i64 s)],.row .byte 5 b]]] (.ret (.v (.one (.p (.int .i64 ((yc f nm))))))) [.obj 169 [.ptr 1 0,.p (.str m),.p (.str t),.p (.int .i64 mi),.p (.list .fld f),.p (.int .i64 le)],.pack [.obj 78 [.ptr 1 0,.ptr 2 0],.pack [.obj 106 [.row 1,.p (.int .i64 n)],.row .upl 82 l],.pack [.obj 108 [.row 1,.p (.int .i64 s)],.row .byte 5 b]]]:=by
 obtain⟨⟨hf,hn⟩,h9⟩:=hneed;have hcd:=qU f nm
 refine spH Tryz.func169 (by kernel_rfl) { cfgT with keep:=some [0,1,4,5,6,7]} [uf,vZ,zS,zQ,xR,xQ] (by kernel_rfl) ?_
 intro I X hI hX
 refine orcL ?_;go_invoke;refine orcS (by kernel_rfl) ?_
 simp only [zi,Nat.reduceAdd];subst hI;unfold Xl at h9;unfold yc;simp only [nrmA,nrmB,nrlB,reduceCtorEq]
 (repeat' (first|refine ja ?_ ?_|intro _))<;>first|omega|exact jb|exact jc ‹False›|skip
 all_goals first|omega|assumption|(exact hf)|exact hf.1|(exact(hf.2 _ ‹_›).1)|(exact(hf.2 _ ‹_›).2)|(exact⟨hf,by decide⟩)|(exact⟨⟨hf,by decide⟩,‹_›⟩)|(exfalso;simp_all;done)|(simp_all;done)|(simp_all;omega)|(rcases hcd with h|h|h<;>simp_all;done)|trace_state
theorem zvz (m t:Str) (mi:Int) (f:List Fld) (le:Int) (l:List Upl) (n:Int) (b:Str) (s:Int) (nm:Str) (hneed:(FOk f∧nm.length≤1000000)∧Xl f nm=false):Spc Tryz.prog 169 [.v (.one (.ptr 0 0)),.v (.one (.p (.str nm)))] [.obj 169 [.ptr 1 0,.p (.str m),.p (.str t),.p (.int .i64 mi),.p (.list .fld f),.p (.int .i64 le)],.pack [.obj 78 [.ptr 1 0,.ptr 2 0],.pack [.obj 106 [.row 1,.p (.int .i64 n)],.row .upl 82 l],.pack [.obj 108 [.row 1,.p (.int .i64 s)],.row .byte 5 b]]] (.pan (.ifc 164 true [.int .i64 400,.list .fld ([]),.list .byte ([])])) [.obj 169 [.ptr 1 0,.p (.str m),.p (.str t),.p (.int .i64 mi),.p (.list .fld f),.p (.int .i64 le)],.pack [.obj 78 [.ptr 1 0,.ptr 2 0],.pack [.obj 106 [.row 1,.p (.int .i64 n)],.row .upl 82 l],.pack [.obj 108 [.row 1,.p (.int .i64 s)],.row .byte 5 b]]]:=by
 obtain⟨⟨hf,hn⟩,h9⟩:=hneed;have hcd:=qU f nm
 refine spH Tryz.func169 (by kernel_rfl) { cfgT with keep:=some [0,1,4,5,6,7]} [uf,vZ,zS,zQ,xR,xQ] (by kernel_rfl) ?_
 intro I X hI hX
 refine orcL ?_;go_invoke;refine orcS (by kernel_rfl) ?_
 simp only [zi,Nat.reduceAdd];subst hI;unfold Xl at h9;simp only [nrmA,nrmB,nrlB,reduceCtorEq]
 (repeat' (first|refine ja ?_ ?_|intro _))<;>first|omega|exact jb|exact jc ‹False›|skip
 all_goals first|omega|assumption|(exact hf)|exact hf.1|(exact(hf.2 _ ‹_›).1)|(exact(hf.2 _ ‹_›).2)|(exact⟨hf,by decide⟩)|(exact⟨⟨hf,by decide⟩,‹_›⟩)|(exfalso;simp_all;done)|(simp_all;done)|(simp_all;omega)|(rcases hcd with h|h|h<;>simp_all;done)|trace_state
def Rj (I:Alg):KU
 |[.v (.one (.ptr 0 0)),.v (.one (.p (.str nm)))],[.obj 169 [.ptr 1 0,.p (.str m),.p (.str t),.p (.int .i64 mi),.p (.list .fld f),.p (.int .i64 le)],.pack [.obj 78 [.ptr 1 0,.ptr 2 0],.pack [.obj 106 [.row 1,.p (.int .i64 n)],.row .upl 82 l],.pack [.obj 108 [.row 1,.p (.int .i64 s)],.row .byte 5 b]]]=>(fun(m t:Str) (f:List Fld) (l:List Upl) (b nm:Str)=>(some (.br (I.hid (Xl f nm)) (.one ⟨I.hid ((FOk f∧nm.length≤1000000)∧Xl f nm=true),(.ret (.v (.one (.p (.int .i64 (I.hid (yc f nm))))))),[.obj 169 [.ptr 1 0,.p (.str m),.p (.str t),.p (.int .i64 mi),.p (.list .fld f),.p (.int .i64 le)],.pack [.obj 78 [.ptr 1 0,.ptr 2 0],.pack [.obj 106 [.row 1,.p (.int .i64 n)],.row .upl 82 l],.pack [.obj 108 [.row 1,.p (.int .i64 s)],.row .byte 5 b]]]⟩) (.one ⟨I.hid ((FOk f∧nm.length≤1000000)∧Xl f nm=false),(.pan (.ifc 164 true [.int .i64 400,.list .fld (I.hid ([])),.list .byte (I.hid ([]))])),[.obj 169 [.ptr 1 0,.p (.str m),.p (.str t),.p (.int .i64 mi),.p (.list .fld f),.p (.int .i64 le)],.pack [.obj 78 [.ptr 1 0,.ptr 2 0],.pack [.obj 106 [.row 1,.p (.int .i64 n)],.row .upl 82 l],.pack [.obj 108 [.row 1,.p (.int .i64 s)],.row .byte 5 b]]]⟩)):Option CT)) m t f l b nm
 |_,_=>none
theorem zjJ:zq Tryz.prog 169 (Rj alg):=by
 intro args hp r h;unfold Rj at h
 split at h
 · cases h;exact⟨fun _ hn=>zvA _ _ _ _ _ _ _ _ _ _ hn,fun _ hn=>zvz _ _ _ _ _ _ _ _ _ _ hn⟩
 · cases h
def tH:Know Tryz.prog:=⟨169,Rj,zjJ⟩
def tC:Know Tryz.prog:=⟨169,fun I=>zu I (Rj I),zf zjJ⟩
theorem zsm (m t:Str) (mi:Int) (f:List Fld) (le:Int) (l:List Upl) (n:Int) (b:Str) (s:Int) (hneed:FOk f∧Vo f=true):Spc Tryz.prog 170 [.v (.one (.ptr 0 0))] [.obj 169 [.ptr 1 0,.p (.str m),.p (.str t),.p (.int .i64 mi),.p (.list .fld f),.p (.int .i64 le)],.pack [.obj 78 [.ptr 1 0,.ptr 2 0],.pack [.obj 106 [.row 1,.p (.int .i64 n)],.row .upl 82 l],.pack [.obj 108 [.row 1,.p (.int .i64 s)],.row .byte 5 b]]] (.ret (.v (.one (.p (.bool ((zgn f))))))) [.obj 169 [.ptr 1 0,.p (.str m),.p (.str t),.p (.int .i64 mi),.p (.list .fld f),.p (.int .i64 le)],.pack [.obj 78 [.ptr 1 0,.ptr 2 0],.pack [.obj 106 [.row 1,.p (.int .i64 n)],.row .upl 82 l],.pack [.obj 108 [.row 1,.p (.int .i64 s)],.row .byte 5 b]]]:=by
 obtain⟨hf,h9⟩:=hneed;have hcd:=qU f zaq;unfold zaq at hcd
 refine spH Tryz.func170 (by kernel_rfl) { cfgT with keep:=some [0,2,3,4]} [zS,zQ,xR,xQ] (by kernel_rfl) ?_
 intro I X hI hX
 refine orcL ?_;go_invoke;refine orcS (by kernel_rfl) ?_
 simp only [zi,Nat.reduceAdd];subst hI;unfold Vo zaq at h9;unfold zgn zaq;simp only [nrmA,nrmB,nrlB,reduceCtorEq]
 (repeat' (first|refine ja ?_ ?_|intro _))<;>first|omega|exact jb|exact jc ‹False›|skip
 all_goals first|omega|assumption|(exact hf)|exact hf.1|(exact(hf.2 _ ‹_›).1)|(exact(hf.2 _ ‹_›).2)|(exact⟨hf,by decide⟩)|(exact⟨⟨hf,by decide⟩,‹_›⟩)|(exfalso;simp_all;done)|(simp_all;done)|(simp_all;omega)|(rcases hcd with h|h|h<;>simp_all;done)|trace_state
theorem zsl (m t:Str) (mi:Int) (f:List Fld) (le:Int) (l:List Upl) (n:Int) (b:Str) (s:Int) (hneed:FOk f∧Vo f=false):Spc Tryz.prog 170 [.v (.one (.ptr 0 0))] [.obj 169 [.ptr 1 0,.p (.str m),.p (.str t),.p (.int .i64 mi),.p (.list .fld f),.p (.int .i64 le)],.pack [.obj 78 [.ptr 1 0,.ptr 2 0],.pack [.obj 106 [.row 1,.p (.int .i64 n)],.row .upl 82 l],.pack [.obj 108 [.row 1,.p (.int .i64 s)],.row .byte 5 b]]] (.pan (.ifc 164 true [.int .i64 400,.list .fld ([]),.list .byte ([])])) [.obj 169 [.ptr 1 0,.p (.str m),.p (.str t),.p (.int .i64 mi),.p (.list .fld f),.p (.int .i64 le)],.pack [.obj 78 [.ptr 1 0,.ptr 2 0],.pack [.obj 106 [.row 1,.p (.int .i64 n)],.row .upl 82 l],.pack [.obj 108 [.row 1,.p (.int .i64 s)],.row .byte 5 b]]]:=by
 obtain⟨hf,h9⟩:=hneed;have hcd:=qU f zaq;unfold zaq at hcd
 refine spH Tryz.func170 (by kernel_rfl) { cfgT with keep:=some [0,2,3,4]} [zS,zQ,xR,xQ] (by kernel_rfl) ?_
 intro I X hI hX
 refine orcL ?_;go_invoke;refine orcS (by kernel_rfl) ?_
 simp only [zi,Nat.reduceAdd];subst hI;unfold Vo zaq at h9;simp only [nrmA,nrmB,nrlB,reduceCtorEq]
 (repeat' (first|refine ja ?_ ?_|intro _))<;>first|omega|exact jb|exact jc ‹False›|skip
 all_goals first|omega|assumption|(exact hf)|exact hf.1|(exact(hf.2 _ ‹_›).1)|(exact(hf.2 _ ‹_›).2)|(exact⟨hf,by decide⟩)|(exact⟨⟨hf,by decide⟩,‹_›⟩)|(exfalso;simp_all;done)|(simp_all;done)|(simp_all;omega)|(rcases hcd with h|h|h<;>simp_all;done)|trace_state
def Wh (I:Alg):KU
 |[.v (.one (.ptr 0 0))],[.obj 169 [.ptr 1 0,.p (.str m),.p (.str t),.p (.int .i64 mi),.p (.list .fld f),.p (.int .i64 le)],.pack [.obj 78 [.ptr 1 0,.ptr 2 0],.pack [.obj 106 [.row 1,.p (.int .i64 n)],.row .upl 82 l],.pack [.obj 108 [.row 1,.p (.int .i64 s)],.row .byte 5 b]]]=>(fun(m t:Str) (f:List Fld) (l:List Upl) (b:Str)=>(some (.br (I.hid (Vo f)) (.one ⟨I.hid (FOk f∧Vo f=true),(.ret (.v (.one (.p (.bool (I.hid (zgn f))))))),[.obj 169 [.ptr 1 0,.p (.str m),.p (.str t),.p (.int .i64 mi),.p (.list .fld f),.p (.int .i64 le)],.pack [.obj 78 [.ptr 1 0,.ptr 2 0],.pack [.obj 106 [.row 1,.p (.int .i64 n)],.row .upl 82 l],.pack [.obj 108 [.row 1,.p (.int .i64 s)],.row .byte 5 b]]]⟩) (.one ⟨I.hid (FOk f∧Vo f=false),(.pan (.ifc 164 true [.int .i64 400,.list .fld (I.hid ([])),.list .byte (I.hid ([]))])),[.obj 169 [.ptr 1 0,.p (.str m),.p (.str t),.p (.int .i64 mi),.p (.list .fld f),.p (.int .i64 le)],.pack [.obj 78 [.ptr 1 0,.ptr 2 0],.pack [.obj 106 [.row 1,.p (.int .i64 n)],.row .upl 82 l],.pack [.obj 108 [.row 1,.p (.int .i64 s)],.row .byte 5 b]]]⟩)):Option CT)) m t f l b
 |_,_=>none
theorem zfq:zq Tryz.prog 170 (Wh alg):=by
 intro args hp r h;unfold Wh at h
 split at h
 · cases h;exact⟨fun _ hn=>zsm _ _ _ _ _ _ _ _ _ hn,fun _ hn=>zsl _ _ _ _ _ _ _ _ _ hn⟩
 · cases h
def zn5:Know Tryz.prog:=⟨170,Wh,zfq⟩
def zn4:Know Tryz.prog:=⟨170,fun I=>zu I (Wh I),zf zfq⟩
theorem zxu (c:Int) (hneed:c=0):Spc Tryz.prog 138 [.v (.one (.p (.int .i64 c)))] [] (.ret (.tup [])) []:=by
 refine spH Tryz.func138 (by kernel_rfl) { keep:=some [0,2,9,16]} [zS,zQ] (by kernel_rfl) ?_
 intro I X hI hX
 refine orcL ?_;go_invoke;refine orcS (by kernel_rfl) ?_
 simp only [zi,Nat.reduceAdd];subst hI;simp only [nrmA,nrmB,nrlB,reduceCtorEq]
 (repeat' (first|refine ja ?_ ?_|intro _))<;>first|omega|exact jb|exact jc ‹False›|skip
 all_goals first|omega|(simp_all;done)|trace_state
theorem zxt (c:Int) (hneed: ¬ c=0):Spc Tryz.prog 138 [.v (.one (.p (.int .i64 c)))] [] (.pan (.ifc 164 true [.int .i64 ((Ws c)),.list .fld ([]),.list .byte ([])])) []:=by
 generalize hr:Ws c=r;unfold Ws at hr
 refine spH Tryz.func138 (by kernel_rfl) { keep:=some [0,2,9,16]} [zS,zQ] (by kernel_rfl) ?_
 intro I X hI hX
 refine orcL ?_;go_invoke;refine orcS (by kernel_rfl) ?_
 simp only [zi,Nat.reduceAdd];subst hI;simp only [nrmA,nrmB,nrlB,reduceCtorEq]
 (repeat' (first|refine ja ?_ ?_|intro _))<;>first|omega|exact jb|exact jc ‹False›|skip
 all_goals first|omega|(((repeat(first|rewrite [if_pos (by first|omega|assumption|(simp only [*,or_self,or_true,true_or,or_false,false_or,jf,jg,jd,je,and_self,and_true,true_and];done)|(simp only [*];omega)|(simp [*];done)|(simp [*];omega))] at hr|rewrite [if_neg (by first|omega|assumption|(simp only [*,or_self,or_true,true_or,or_false,false_or,jf,jg,jd,je,and_self,and_true,true_and];done)|(simp only [*];omega)|(simp [*];done)|(simp [*];omega))] at hr)));omega)|(simp_all;done)|trace_state
def zdB (I:Alg):KU
 |[.v (.one (.p (.int .i64 c)))],[]=>some (.br (I.hid (decide (c=0))) (.one ⟨I.hid (c=0),(.ret (.tup [])),[]⟩) (.one ⟨I.hid (¬ c=0),(.pan (.ifc 164 true [.int .i64 (I.hid (Ws c)),.list .fld (I.hid ([])),.list .byte (I.hid ([]))])),[]⟩))
 |_,_=>none
theorem zn0:zq Tryz.prog 138 (zdB alg):=by
 intro args hp r h;unfold zdB at h
 split at h
 · cases h;exact⟨fun _ hn=>zxu _ hn,fun _ hn=>zxt _ hn⟩
 · cases h
def vw:Know Tryz.prog:=⟨138,zdB,zn0⟩
def vk:Know Tryz.prog:=⟨138,fun I=>zu I (zdB I),zf zn0⟩
def zdE (I:Alg):KU
 |[.v (.agg [.p (.int .i64 id),.p (.int .i64 sz),.p (.str no),.p (.list .byte bb),.p (.int .i64 se)])],[]=>(fun(no bb:Str)=>(some (.one ⟨I.hid (sz<1000000000),(.ret (.v (.agg [.p (.str (I.hid ((lenF ⟨id,sz,no,bb,se⟩).name))),.p (.str (I.hid ((lenF ⟨id,sz,no,bb,se⟩).value)))]))),[]⟩):Option CT)) no bb
 |_,_=>none
theorem zn3:zq Tryz.prog 173 (zdE alg):=by
 intro args hp r h;unfold zdE at h;split at h<;>cases h
 rename_i id sz no bb se;simp only [CT.Good,zh];intro hneed;generalize hr:lenF ⟨id,sz,no,bb,se⟩=r;obtain⟨a,v⟩:=r;unfold lenF at hr
 refine spH Tryz.func173 (by kernel_rfl) { keep:=some [0,1,2]} [yx,yw,xW,xU] (by kernel_rfl) ?_
 intro I X hI hX
 refine orcL ?_;go_invoke;refine orcS (by kernel_rfl) ?_
 simp only [zi,Nat.reduceAdd];subst hI;simp only [nrmA,nrmB,nrlB,reduceCtorEq,V0.agg.injEq];simp only at hr
 (repeat' (first|refine ja ?_ ?_|intro _))<;>first|omega|exact jb|exact jc ‹False›|skip
 all_goals first|omega|(((repeat(first|rewrite [if_pos (by first|omega|assumption|(simp only [*,or_self,or_true,true_or,or_false,false_or,jf,jg,jd,je,and_self,and_true,true_and];done)|(simp only [*];omega)|(simp [*];done)|(simp [*];omega))] at hr|rewrite [if_neg (by first|omega|assumption|(simp only [*,or_self,or_true,true_or,or_false,false_or,jf,jg,jd,je,and_self,and_true,true_and];done)|(simp only [*];omega)|(simp [*];done)|(simp [*];omega))] at hr)));cases hr;rfl)|(((repeat(first|rewrite [if_pos (by first|omega|assumption|(simp only [*,or_self,or_true,true_or,or_false,false_or,jf,jg,jd,je,and_self,and_true,true_and];done)|(simp only [*];omega)|(simp [*];done)|(simp [*];omega))] at hr|rewrite [if_neg (by first|omega|assumption|(simp only [*,or_self,or_true,true_or,or_false,false_or,jf,jg,jd,je,and_self,and_true,true_and];done)|(simp only [*];omega)|(simp [*];done)|(simp [*];omega))] at hr)));cases hr;simp [zxh,zxi];done)|(simp_all;done)|trace_state
def zvC:Know Tryz.prog:=⟨173,zdE,zn3⟩
def zvB:Know Tryz.prog:=⟨173,fun I=>zu I (zdE I),zf zn3⟩
end Go.Proofs.YtnpmenpjagcheaaGreatDoor
namespace Go.Proofs.YtnpmenpjagcheaaGreatDoor
open Go Go.Sep Go.Ab
set_option maxRecDepth 100000
theorem zeg {f:List Fld} (hf:FOk f) (n:Str):(oneT f n).1.length≤1000000:=by
 unfold oneT oneF
 split
 · simp
 · split
   · rename_i h
     rw [jH]
     cases hq:(valsF f n)[0]? with
     |none=>simp
     | some y=>
       have:=List.mem_of_getElem? hq;unfold valsF at this;rw [List.mem_map] at this;obtain⟨x,hx,rfl⟩:=this;exact(hf.2 x (List.mem_filter.1 hx).1).2
   · simp
def Yz (I:Alg):KU
 |[.v (.one (.ptr 0 0))],[.obj 169 [.ptr 1 0,.p (.str m),.p (.str t),.p (.int .i64 mi),.p (.list .fld f),.p (.int .i64 le)],.pack [.obj 78 [.ptr 1 0,.ptr 2 0],.pack [.obj 106 [.row 1,.p (.int .i64 n)],.row .upl 82 l],.pack [.obj 108 [.row 1,.p (.int .i64 s)],.row .byte 5 b]]]=>(fun(m t:Str) (f:List Fld) (l:List Upl) (b:Str)=>(some (.one ⟨I.hid (FOk f∧zI l n∧n≤200000∧b.length≤100000),(.pan (.ifc 164 true [.int .i64 (I.hid ((wL ⟨l,n,b,s⟩ f).st)),.list .fld (I.hid ((wL ⟨l,n,b,s⟩ f).fs)),.list .byte (I.hid ([]))])),[.obj 169 [.ptr 1 0,.p (.str m),.p (.str t),.p (.int .i64 mi),.p (.list .fld f),.p (.int .i64 le)],.pack [.obj 78 [.ptr 1 0,.ptr 2 0],.pack [.obj 106 [.row 1,.p (.int .i64 (I.hid ((wL ⟨l,n,b,s⟩ f).q.n)))],.row .upl 82 (I.hid ((wL ⟨l,n,b,s⟩ f).q.l))],.pack [.obj 108 [.row 1,.p (.int .i64 (I.hid ((wL ⟨l,n,b,s⟩ f).q.s)))],.row .byte 5 (I.hid ((wL ⟨l,n,b,s⟩ f).q.b))]]]⟩):Option CT)) m t f l b
 |_,_=>none
set_option maxHeartbeats 2000000 in
theorem zb4:zq Tryz.prog 134 (Yz alg):=by
 intro args hp r h;unfold Yz at h;split at h<;>cases h
 rename_i m t mi f le n l s b
 revert f l;intro(f:List Fld) (l:List Upl)
 simp only [CT.Good,zh];intro hneed;obtain⟨hf,hs,hn,hb⟩:=hneed;have hn0:=hs.n0;have hdl:=yE (n+1);have hcm:=qU f zhP;have hol:=zeg hf zhP;generalize hr:wL ⟨l,n,b,s⟩ f=r;obtain⟨st,fs,⟨l',n',b',s'⟩⟩:=r;unfold wL creE wsC wsS syS at hr
 refine spH Tryz.func134 (by kernel_rfl) { cfgT with keep:=some [0,2,3,4,6,7]} [Tt,Tq,zK,zJ,zS,zQ,yx,yw,xW,xU,xR,xQ,tH,tC,zn5,zn4,vw,vk] (by kernel_rfl) ?_
 intro I X hI hX
 refine orcL ?_;go_invoke;refine orcS (by kernel_rfl) ?_
 simp only [zi,Nat.reduceAdd];subst hI;unfold y8 zhP at *;unfold locN wQ at hr;simp only at hr;simp only [nrmA,nrmB,nrlB,reduceCtorEq,HO.pack.injEq,HO.obj.injEq]
 by_cases h1:Xl f [117,112,108,111,97,100,45,108,101,110,103,116,104]=false
 · rw [if_pos h1] at hr
   cases hr
   (repeat' (first|refine ja ?_ ?_|intro _))<;>first|omega|exact jb|exact jc ‹False›|skip
   all_goals first
    |omega
    |assumption
    |exact hs
    |exact hf.1
    |(exact(hf.2 _ ‹_›).1)
    |(exact(hf.2 _ ‹_›).2)
    |(simp only [jh,ji];omega)
    |(simp_all;done)
    |(exfalso;simp_all;done)
    |(simp only [wrtL,wrtN,wrtB,if_neg h5];done)
 rw [if_neg h1] at hr;simp only [Bool.not_eq_false] at h1
 by_cases h2:Vo f=false
 · rw [if_pos h2] at hr
   cases hr
   (repeat' (first|refine ja ?_ ?_|intro _))<;>first|omega|exact jb|exact jc ‹False›|skip
   all_goals first
    |omega
    |assumption
    |exact hs
    |exact hf.1
    |(exact(hf.2 _ ‹_›).1)
    |(exact(hf.2 _ ‹_›).2)
    |(simp only [jh,ji];omega)
    |(simp_all;done)
    |(exfalso;simp_all;done)
    |(simp only [wrtL,wrtN,wrtB,if_neg h5];done)
 rw [if_neg h2] at hr;simp only [Bool.not_eq_false] at h2
 by_cases h3:decide (0≤yc f [117,112,108,111,97,100,45,108,101,110,103,116,104])=zgn f
 · rw [if_pos h3] at hr
   cases hr
   (repeat' (first|refine ja ?_ ?_|intro _))<;>first|omega|exact jb|exact jc ‹False›|skip
   all_goals first
    |omega
    |assumption
    |exact hs
    |exact hf.1
    |(exact(hf.2 _ ‹_›).1)
    |(exact(hf.2 _ ‹_›).2)
    |(simp only [jh,ji];omega)
    |(simp_all;done)
    |(exfalso;simp_all;done)
    |(simp only [wrtL,wrtN,wrtB,if_neg h5];done)
 rw [if_neg h3] at hr
 by_cases h4:(oneT f [117,112,108,111,97,100,45,109,101,116,97,100,97,116,97]).2=9
 · rw [if_pos h4] at hr
   cases hr
   (repeat' (first|refine ja ?_ ?_|intro _))<;>first|omega|exact jb|exact jc ‹False›|skip
   all_goals first
    |omega
    |assumption
    |exact hs
    |exact hf.1
    |(exact(hf.2 _ ‹_›).1)
    |(exact(hf.2 _ ‹_›).2)
    |(simp only [jh,ji];omega)
    |(simp_all;done)
    |(exfalso;simp_all;done)
    |(simp only [wrtL,wrtN,wrtB,if_neg h5];done)
 rw [if_neg h4] at hr;generalize(oneT f [117,112,108,111,97,100,45,109,101,116,97,100,97,116,97]).1=mt at *;generalize yc f [117,112,108,111,97,100,45,108,101,110,103,116,104]=nv at *
 by_cases h5:wrtC l n b ⟨1,n+1,nv,mt⟩=0
 · rw [if_neg (fun h=>h h5)] at hr
   cases hr;simp only [h5,if_true] at *
   (repeat' (first|refine ja ?_ ?_|intro _))<;>first|omega|exact jb|exact jc ‹False›|skip
   all_goals first
    |omega
    |assumption
    |exact hs
    |exact hf.1
    |(exact(hf.2 _ ‹_›).1)
    |(exact(hf.2 _ ‹_›).2)
    |(simp only [jh,ji];omega)
    |(simp_all;done)
    |(exfalso;simp_all;done)
    |(simp only [wrtL,wrtN,wrtB,if_neg h5];done)
 · rw [if_pos h5] at hr
   cases hr
   (repeat' (first|refine ja ?_ ?_|intro _))<;>first|omega|exact jb|exact jc ‹False›|skip
   all_goals first
    |omega
    |assumption
    |exact hs
    |exact hf.1
    |(exact(hf.2 _ ‹_›).1)
    |(exact(hf.2 _ ‹_›).2)
    |(simp only [jh,ji];omega)
    |(simp_all;done)
    |(exfalso;simp_all;done)
    |(simp only [wrtL,wrtN,wrtB,if_neg h5];done)
def qP:Know Tryz.prog:=⟨134,Yz,zb4⟩
def qO:Know Tryz.prog:=⟨134,fun I=>zu I (Yz I),zf zb4⟩
theorem zxs (m t:Str) (mi:Int) (f:List Fld) (le:Int) (l:List Upl) (n:Int) (b:Str) (s:Int) (hneed:zI l n∧uplB ⟨l,n,b,s⟩ t=true):Spc Tryz.prog 135 [.v (.one (.ptr 0 0))] [.obj 169 [.ptr 1 0,.p (.str m),.p (.str t),.p (.int .i64 mi),.p (.list .fld f),.p (.int .i64 le)],.pack [.obj 78 [.ptr 1 0,.ptr 2 0],.pack [.obj 106 [.row 1,.p (.int .i64 n)],.row .upl 82 l],.pack [.obj 108 [.row 1,.p (.int .i64 s)],.row .byte 5 b]]] (.ret (.v (.agg [.p (.int .i64 ((getU l (idV t)).id)),.p (.int .i64 ((getU l (idV t)).size)),.p (.str ((getU l (idV t)).note)),.p (.list .byte ((getU l (idV t)).bytes)),.p (.int .i64 ((getU l (idV t)).sent))]))) [.obj 169 [.ptr 1 0,.p (.str m),.p (.str t),.p (.int .i64 mi),.p (.list .fld f),.p (.int .i64 le)],.pack [.obj 78 [.ptr 1 0,.ptr 2 0],.pack [.obj 106 [.row 1,.p (.int .i64 n)],.row .upl 82 l],.pack [.obj 108 [.row 1,.p (.int .i64 s)],.row .byte 5 b]]]:=by
 obtain⟨hs,hu⟩:=hneed;have hnn:=wU (t.drop 7);have hnx:=wU (Lib.trimPrefix t wQ)
 have htp:Lib.hasPrefix t wQ=true→Lib.trimPrefix t wQ=t.drop 7:=fun h=>by unfold Lib.trimPrefix;rw [if_pos h];rfl
 unfold uplB idB idV at hu
 try unfold idV
 refine spH Tryz.func135 (by kernel_rfl) { cfgT with keep:=some [0,2,3,4,5,6,7]} [uf,vZ,Zh,Zg,XA,Xz,SC,SB,zS,zQ,xW,xU] (by kernel_rfl) ?_
 intro I X hI hX
 refine orcL ?_;go_invoke;refine orcS (by kernel_rfl) ?_
 simp only [zi,Nat.reduceAdd];subst hI;rw [show([47,102,105,108,101,115,47]:Str)=wQ from rfl];simp only [nrmA,nrmB,nrlB,reduceCtorEq,HO.pack.injEq,HO.obj.injEq];generalize Lib.hasPrefix t wQ=hb at *
 cases hb with
 | true=>
   rw [htp rfl] at *;generalize t.drop 7=tt at *;generalize numA tt 10 9=na at *;obtain⟨nv,ok⟩:=na;simp only [Bool.true_and] at *
   (repeat' (first|refine ja ?_ ?_|intro _))<;>first|omega|exact jb|exact jc ‹False›|skip
   all_goals first|omega|assumption|exact hs|(simp_all;done)|trace_state
 | false=>
   simp only [Bool.false_and] at *
   (repeat' (first|refine ja ?_ ?_|intro _))<;>first|omega|exact jb|exact jc ‹False›|skip
   all_goals first|omega|assumption|exact hs|(simp_all;done)|trace_state
theorem zxr (m t:Str) (mi:Int) (f:List Fld) (le:Int) (l:List Upl) (n:Int) (b:Str) (s:Int) (hneed:zI l n∧uplB ⟨l,n,b,s⟩ t=false):Spc Tryz.prog 135 [.v (.one (.ptr 0 0))] [.obj 169 [.ptr 1 0,.p (.str m),.p (.str t),.p (.int .i64 mi),.p (.list .fld f),.p (.int .i64 le)],.pack [.obj 78 [.ptr 1 0,.ptr 2 0],.pack [.obj 106 [.row 1,.p (.int .i64 n)],.row .upl 82 l],.pack [.obj 108 [.row 1,.p (.int .i64 s)],.row .byte 5 b]]] (.pan (.ifc 164 true [.int .i64 404,.list .fld ([]),.list .byte ([])])) [.obj 169 [.ptr 1 0,.p (.str m),.p (.str t),.p (.int .i64 mi),.p (.list .fld f),.p (.int .i64 le)],.pack [.obj 78 [.ptr 1 0,.ptr 2 0],.pack [.obj 106 [.row 1,.p (.int .i64 n)],.row .upl 82 l],.pack [.obj 108 [.row 1,.p (.int .i64 s)],.row .byte 5 b]]]:=by
 obtain⟨hs,hu⟩:=hneed;have hnn:=wU (t.drop 7);have hnx:=wU (Lib.trimPrefix t wQ)
 have htp:Lib.hasPrefix t wQ=true→Lib.trimPrefix t wQ=t.drop 7:=fun h=>by unfold Lib.trimPrefix;rw [if_pos h];rfl
 unfold uplB idB idV at hu
 try unfold idV
 refine spH Tryz.func135 (by kernel_rfl) { cfgT with keep:=some [0,2,3,4,5,6,7]} [uf,vZ,Zh,Zg,XA,Xz,SC,SB,zS,zQ,xW,xU] (by kernel_rfl) ?_
 intro I X hI hX
 refine orcL ?_;go_invoke;refine orcS (by kernel_rfl) ?_
 simp only [zi,Nat.reduceAdd];subst hI;rw [show([47,102,105,108,101,115,47]:Str)=wQ from rfl];simp only [nrmA,nrmB,nrlB,reduceCtorEq,HO.pack.injEq,HO.obj.injEq];generalize Lib.hasPrefix t wQ=hb at *
 cases hb with
 | true=>
   rw [htp rfl] at *;generalize t.drop 7=tt at *;generalize numA tt 10 9=na at *;obtain⟨nv,ok⟩:=na;simp only [Bool.true_and] at *
   (repeat' (first|refine ja ?_ ?_|intro _))<;>first|omega|exact jb|exact jc ‹False›|skip
   all_goals first|omega|assumption|exact hs|(simp_all;done)|trace_state
 | false=>
   simp only [Bool.false_and] at *
   (repeat' (first|refine ja ?_ ?_|intro _))<;>first|omega|exact jb|exact jc ‹False›|skip
   all_goals first|omega|assumption|exact hs|(simp_all;done)|trace_state
def zdA (I:Alg):KU
 |[.v (.one (.ptr 0 0))],[.obj 169 [.ptr 1 0,.p (.str m),.p (.str t),.p (.int .i64 mi),.p (.list .fld f),.p (.int .i64 le)],.pack [.obj 78 [.ptr 1 0,.ptr 2 0],.pack [.obj 106 [.row 1,.p (.int .i64 n)],.row .upl 82 l],.pack [.obj 108 [.row 1,.p (.int .i64 s)],.row .byte 5 b]]]=>(fun(m t:Str) (f:List Fld) (l:List Upl) (b:Str)=>(some (.br (I.hid (uplB ⟨l,n,b,s⟩ t)) (.one ⟨I.hid (zI l n∧uplB ⟨l,n,b,s⟩ t=true),(.ret (.v (.agg [.p (.int .i64 (I.hid ((getU l (idV t)).id))),.p (.int .i64 (I.hid ((getU l (idV t)).size))),.p (.str (I.hid ((getU l (idV t)).note))),.p (.list .byte (I.hid ((getU l (idV t)).bytes))),.p (.int .i64 (I.hid ((getU l (idV t)).sent)))]))),[.obj 169 [.ptr 1 0,.p (.str m),.p (.str t),.p (.int .i64 mi),.p (.list .fld f),.p (.int .i64 le)],.pack [.obj 78 [.ptr 1 0,.ptr 2 0],.pack [.obj 106 [.row 1,.p (.int .i64 n)],.row .upl 82 l],.pack [.obj 108 [.row 1,.p (.int .i64 s)],.row .byte 5 b]]]⟩) (.one ⟨I.hid (zI l n∧uplB ⟨l,n,b,s⟩ t=false),(.pan (.ifc 164 true [.int .i64 404,.list .fld (I.hid ([])),.list .byte (I.hid ([]))])),[.obj 169 [.ptr 1 0,.p (.str m),.p (.str t),.p (.int .i64 mi),.p (.list .fld f),.p (.int .i64 le)],.pack [.obj 78 [.ptr 1 0,.ptr 2 0],.pack [.obj 106 [.row 1,.p (.int .i64 n)],.row .upl 82 l],.pack [.obj 108 [.row 1,.p (.int .i64 s)],.row .byte 5 b]]]⟩)):Option CT)) m t f l b
 |_,_=>none
theorem znX:zq Tryz.prog 135 (zdA alg):=by
 intro args hp r h;unfold zdA at h
 split at h
 · cases h;exact⟨fun _ hn=>zxs _ _ _ _ _ _ _ _ _ hn,fun _ hn=>zxr _ _ _ _ _ _ _ _ _ hn⟩
 · cases h
def zav:Know Tryz.prog:=⟨135,zdA,znX⟩
def zau:Know Tryz.prog:=⟨135,fun I=>zu I (zdA I),zf znX⟩
def Rf (I:Alg):KU
 |[.v (.one (.ptr 0 0)),.v (.agg [.p (.int .i64 ui),.p (.int .i64 uz),.p (.str uo),.p (.list .byte ub),.p (.int .i64 us)])],[.obj 169 [.ptr 1 0,.p (.str m),.p (.str t),.p (.int .i64 mi),.p (.list .fld f),.p (.int .i64 le)],.pack [.obj 78 [.ptr 1 0,.ptr 2 0],.pack [.obj 106 [.row 1,.p (.int .i64 n)],.row .upl 82 l],.pack [.obj 108 [.row 1,.p (.int .i64 s)],.row .byte 5 b]]]=>(fun(m t:Str) (f:List Fld) (l:List Upl) (b uo ub:Str)=>(some (.one ⟨I.hid (uz<1000000000∧ub.length<1000000),(.pan (.ifc 164 true [.int .i64 200,.list .fld (I.hid (zbP ⟨ui,uz,uo,ub,us⟩)),.list .byte (I.hid ([]))])),[.obj 169 [.ptr 1 0,.p (.str m),.p (.str t),.p (.int .i64 mi),.p (.list .fld f),.p (.int .i64 le)],.pack [.obj 78 [.ptr 1 0,.ptr 2 0],.pack [.obj 106 [.row 1,.p (.int .i64 n)],.row .upl 82 l],.pack [.obj 108 [.row 1,.p (.int .i64 s)],.row .byte 5 b]]]⟩):Option CT)) m t f l b uo ub
 |_,_=>none
theorem zjG:zq Tryz.prog 136 (Rf alg):=by
 intro args hp r h;unfold Rf at h;split at h<;>cases h
 rename_i ui uz uo ub us m t mi f le n l s b
 revert f l;intro(f:List Fld) (l:List Upl)
 simp only [CT.Good,zh];intro hneed;obtain⟨h1,h2⟩:=hneed;generalize hr:zbP ⟨ui,uz,uo,ub,us⟩=r;unfold zbP at hr;generalize hl:lenF ⟨ui,uz,uo,ub,us⟩=lf at hr;obtain⟨ln,lv⟩:=lf
 refine spH Tryz.func136 (by kernel_rfl) { cfgT with keep:=some [0,1,3,4]} [zS,zQ,yx,yw,xW,xU,zvC,zvB] (by kernel_rfl) ?_
 intro I X hI hX
 refine orcL ?_;go_invoke;refine orcS (by kernel_rfl) ?_
 simp only [zi,Nat.reduceAdd];subst hI;simp only at hr;simp only [nrmA,nrmB,nrlB,reduceCtorEq,HO.pack.injEq,HO.obj.injEq];rw [hl]
 (repeat' (first|refine ja ?_ ?_|intro _))<;>first|omega|exact jb|exact jc ‹False›|skip
 all_goals first|omega|with_reducible assumption|(subst hr;simp_all;done)|(subst hr;(simp_all [zan,zyY,zya,zmr]);done)|trace_state
def X7:Know Tryz.prog:=⟨136,Rf,zjG⟩
def X6:Know Tryz.prog:=⟨136,fun I=>zu I (Rf I),zf zjG⟩
end Go.Proofs.YtnpmenpjagcheaaGreatDoor
namespace Go.Proofs.YtnpmenpjagcheaaGreatDoor
open Go Go.Sep Go.Ab
set_option maxRecDepth 100000
theorem qM {l:List Upl} {n:Int} {b:Str} {e:Ent} (h:e.kind≠1):wrtN l n b e=n:=by
 unfold wrtN UC;rw [if_neg h]
 split<;>rfl
def X9 (I:Alg):KU
 |[.v (.one (.ptr 0 0)),.v (.agg [.p (.int .i64 ui),.p (.int .i64 uz),.p (.str uo),.p (.list .byte ub),.p (.int .i64 us)]),.v (.one (.p (.list .byte body)))],[.obj 169 [.ptr 1 0,.p (.str m),.p (.str t),.p (.int .i64 mi),.p (.list .fld f),.p (.int .i64 le)],.pack [.obj 78 [.ptr 1 0,.ptr 2 0],.pack [.obj 106 [.row 1,.p (.int .i64 n)],.row .upl 82 l],.pack [.obj 108 [.row 1,.p (.int .i64 s)],.row .byte 5 b]]]=>(fun(m t:Str) (f:List Fld) (l:List Upl) (b uo ub body:Str)=>(some (.one ⟨I.hid (FOk f∧zI l n∧n≤200000∧b.length≤100000∧body.length≤100000∧ub.length≤1000000∧uz≤1000000),(.pan (.ifc 164 true [.int .i64 (I.hid ((uF ⟨l,n,b,s⟩ ⟨ui,uz,uo,ub,us⟩ f body).st)),.list .fld (I.hid ((uF ⟨l,n,b,s⟩ ⟨ui,uz,uo,ub,us⟩ f body).fs)),.list .byte (I.hid ([]))])),[.obj 169 [.ptr 1 0,.p (.str m),.p (.str t),.p (.int .i64 mi),.p (.list .fld f),.p (.int .i64 le)],.pack [.obj 78 [.ptr 1 0,.ptr 2 0],.pack [.obj 106 [.row 1,.p (.int .i64 (I.hid ((uF ⟨l,n,b,s⟩ ⟨ui,uz,uo,ub,us⟩ f body).q.n)))],.row .upl 82 (I.hid ((uF ⟨l,n,b,s⟩ ⟨ui,uz,uo,ub,us⟩ f body).q.l))],.pack [.obj 108 [.row 1,.p (.int .i64 (I.hid ((uF ⟨l,n,b,s⟩ ⟨ui,uz,uo,ub,us⟩ f body).q.s)))],.row .byte 5 (I.hid ((uF ⟨l,n,b,s⟩ ⟨ui,uz,uo,ub,us⟩ f body).q.b))]]]⟩):Option CT)) m t f l b uo ub body
 |_,_=>none
set_option maxHeartbeats 8000000 in
theorem zfp:zq Tryz.prog 137 (X9 alg):=by
 intro args hp r h;unfold X9 at h;split at h<;>cases h
 rename_i ui uz uo ub us body m t mi f le n l s b
 revert f l;intro(f:List Fld) (l:List Upl)
 simp only [CT.Good,zh];intro hneed;obtain⟨hf,hs,hn,hb,hbl,hub,huz⟩:=hneed;have hn0:=hs.n0;have hcm:=qU f Zz;have hol:=zeg hf Zz;have hs2:=zaf hs b (apE ui body)
 have hnn:wrtN l n b (apE ui body)=n:=qM (by simp [apE])
 have hbb:=Za (l:=l) (n:=n) (b:=b) (apE ui body) hb;generalize hr:uF ⟨l,n,b,s⟩ ⟨ui,uz,uo,ub,us⟩ f body=r;obtain⟨st,fs,⟨l',n',b',s'⟩⟩:=r;unfold uF wsC wsS syS at hr;simp only at hr
 refine spH Tryz.func137 (by kernel_rfl) { cfgT with seam:=[5,10,17],keep:=some [0,1,2,4,6,8,9,10,11]} [wO,wM,yS,yR,yQ,yP,zK,zJ,yO,yN,zS,zQ,yx,yw,xW,xU,xR,xQ,tH,tC,vw,vk] (by kernel_rfl) ?_
 intro I X hI hX
 refine orcL ?_;go_invoke;refine orcS (by kernel_rfl) ?_
 simp only [zi,Nat.reduceAdd]
 have hh: ∀ {α:Type} (x:α),I.hid x=x:=by subst hI;intros;rfl
 have key17: ∀ (nv sz:Int),nv=(ub.length:Int)→(if(if apG l ui nv then 17 else wrtC l n b (apE ui body))≠0 then(⟨Ws (if apG l ui nv then 17 else wrtC l n b (apE ui body)),[],⟨l,n,b,s⟩⟩:TA)
  else if 0≤sz∧uz<0 then
   if wrtC (wrtL l n b (apE ui body)) (wrtN l n b (apE ui body)) (wrtB l n b (apE ui body)) ⟨3,ui,sz,[]⟩≠0 then(⟨Ws (wrtC (wrtL l n b (apE ui body)) (wrtN l n b (apE ui body)) (wrtB l n b (apE ui body)) ⟨3,ui,sz,[]⟩),[],⟨wrtL l n b (apE ui body),wrtN l n b (apE ui body),wrtB l n b (apE ui body),s⟩⟩:TA)
   else(⟨204,[⟨zan,decS (nv+(body.length:Int))⟩],⟨wrtL (wrtL l n b (apE ui body)) (wrtN l n b (apE ui body)) (wrtB l n b (apE ui body)) ⟨3,ui,sz,[]⟩,wrtN (wrtL l n b (apE ui body)) (wrtN l n b (apE ui body)) (wrtB l n b (apE ui body)) ⟨3,ui,sz,[]⟩,wrtB (wrtL l n b (apE ui body)) (wrtN l n b (apE ui body)) (wrtB l n b (apE ui body)) ⟨3,ui,sz,[]⟩,((wrtB (wrtL l n b (apE ui body)) (wrtN l n b (apE ui body)) (wrtB l n b (apE ui body)) ⟨3,ui,sz,[]⟩).length:Int)⟩⟩:TA)
  else(⟨204,[⟨zan,decS (nv+(body.length:Int))⟩],⟨wrtL l n b (apE ui body),wrtN l n b (apE ui body),wrtB l n b (apE ui body),((wrtB l n b (apE ui body)).length:Int)⟩⟩:TA))=⟨st,fs,⟨l',n',b',s'⟩⟩→Ok Tryz.prog X (fun o h=>o=AOut.pan (C.ifc 164 true [P.int IntKind.i64 st,P.list U.fld fs,P.list U.byte []])∧h=[HO.obj 169 [C.ptr 1 0,C.p (P.str m),C.p (P.str t),C.p (P.int IntKind.i64 mi),C.p (P.list U.fld f),C.p (P.int IntKind.i64 le)],HO.pack [HO.obj 78 [C.ptr 1 0,C.ptr 2 0],HO.pack [HO.obj 106 [C.row 1,C.p (P.int IntKind.i64 n')],HO.row U.upl 82 l'],HO.pack [HO.obj 108 [C.row 1,C.p (P.int IntKind.i64 s')],HO.row U.byte 5 b']]]) (go I tab { cfgT with seam:=[5,10,17],keep:=some [0,1,2,4,6,8,9,10,11]} [wO,wM,yS,yR,yQ,yP,zK,zJ,yO,yN,zS,zQ,yx,yw,xW,xU,xR,xQ,tH,tC,vw,vk] [⟨vM Tryz.f137,finK I tab { cfgT with seam:=[5,10,17],keep:=some [0,1,2,4,6,8,9,10,11]} 2 Tryz.f137⟩] 0 [1,1,1,1,1,1,1,1,0] ⟨[(0,.v (.one (.ptr 0 0))),(1,.v (.agg [.p (.int .i64 ui),.p (.int .i64 uz),.p (.str uo),.p (.list .byte ub),.p (.int .i64 us)])),(2,.v (.one (.p (.list .byte body)))),(4,.v (.one (.ptr 2 0))),(10,.v (.one (.p (.int .i64 nv)))),(11,.v (.one (.p (.int .i64 sz))))],[.obj 169 [.ptr 1 0,.p (.str m),.p (.str t),.p (.int .i64 mi),.p (.list .fld f),.p (.int .i64 le)],.pack [.obj 78 [.ptr 1 0,.ptr 2 0],.pack [.obj 106 [.row 1,.p (.int .i64 n)],.row .upl 82 l],.pack [.obj 108 [.row 1,.p (.int .i64 s)],.row .byte 5 b]],.pack [.obj 82 [.p (.int .i64 ui),.p (.int .i64 uz),.p (.str uo),.p (.list .byte ub),.p (.int .i64 us)]]],131,none⟩):=by
  intro nv sz hnv hr
  refine orcL ?_;go_invoke;refine orcS (by kernel_rfl) ?_
  simp only [zi,Nat.reduceAdd];clear hX hcm hol;unfold zan at hr;unfold apE at *;subst hI;simp only [nrmA,nrmB,nrlB,reduceCtorEq,HO.pack.injEq,HO.obj.injEq]
  by_cases hg:apG l ui nv=true
  · simp only [hg,if_true] at hr ⊢
    rw [if_pos (by decide)] at hr
    clear hs2 hnn hbb;simp only [TA.mk.injEq,Sto.mk.injEq] at hr;obtain⟨q1,q2,q3,q4,q5,q6⟩:=hr;subst q1 q2 q3 q4 q5 q6;simp only [nrmA,nrmB,nrlB,reduceCtorEq,HO.pack.injEq,HO.obj.injEq,decide_true,decide_false,je,jd,forall_const,false_implies,true_implies,jf,jg]
    (repeat' (first|refine ja ?_ ?_|intro _))<;>first|omega|exact jb|exact jc ‹False›|skip
    all_goals first
     |with_reducible rfl
     |with_reducible assumption
     |omega
     |exact hs
     |exact hf.1
     |(exact(hf.2 _ ‹_›).1)
     |(exact(hf.2 _ ‹_›).2)
     |exact⟨hf,by decide⟩
     |exact⟨⟨hf,by decide⟩,by assumption⟩
     |(simp only [jh,ji];omega)
     |(exfalso;simp_all;done)
  simp only [hg,jd,if_false] at hr ⊢;clear hg
  by_cases h1:wrtC l n b ⟨2,ui,0,body⟩=0
  · rw [if_neg (fun h=>h h1)] at hr
    simp only [h1] at ⊢
    clear h1;generalize wrtL l n b ⟨2,ui,0,body⟩=l2 at *;generalize wrtN l n b ⟨2,ui,0,body⟩=n2 at *;generalize wrtB l n b ⟨2,ui,0,body⟩=b2 at *
    by_cases h2:0≤sz∧uz<0
    · rw [if_pos h2] at hr
      by_cases h3:wrtC l2 n2 b2 ⟨3,ui,sz,[]⟩=0
      · rw [if_neg (fun h=>h h3)] at hr
        simp only [TA.mk.injEq,Sto.mk.injEq] at hr;obtain⟨q1,q2,q3,q4,q5,q6⟩:=hr;subst q1 q2 q3 q4 q5 q6
        simp only [h3] at ⊢
        clear h3;simp only [nrmA,nrmB,nrlB,reduceCtorEq,HO.pack.injEq,HO.obj.injEq,decide_true,decide_false,je,jd,forall_const,false_implies,true_implies,jf,jg]
        (repeat' (first|refine ja ?_ ?_|intro _))<;>first|omega|exact jb|exact jc ‹False›|skip
        all_goals first
         |with_reducible rfl
         |with_reducible assumption
         |omega
         |exact hs
         |exact hf.1
         |(exact(hf.2 _ ‹_›).1)
         |(exact(hf.2 _ ‹_›).2)
         |exact⟨hf,by decide⟩
         |exact⟨⟨hf,by decide⟩,by assumption⟩
         |(simp only [jh,ji];omega)
         |(exfalso;simp_all;done)
      · rw [if_pos h3] at hr
        simp only [TA.mk.injEq,Sto.mk.injEq] at hr;obtain⟨q1,q2,q3,q4,q5,q6⟩:=hr;subst q1 q2 q3 q4 q5 q6
        have e1:wrtL l2 n2 b2 ⟨3,ui,sz,[]⟩=l2:=by simp only [wrtL,if_neg h3]
        have e2:wrtN l2 n2 b2 ⟨3,ui,sz,[]⟩=n2:=by simp only [wrtN,if_neg h3]
        have e3:wrtB l2 n2 b2 ⟨3,ui,sz,[]⟩=b2:=by simp only [wrtB,if_neg h3]
        rw [e1,e2,e3];clear e1 e2 e3;generalize wrtC l2 n2 b2 ⟨3,ui,sz,[]⟩=c3 at *;simp only [nrmA,nrmB,nrlB,reduceCtorEq,HO.pack.injEq,HO.obj.injEq,decide_true,decide_false,je,jd,forall_const,false_implies,true_implies,jf,jg,h3]
        (repeat' (first|refine ja ?_ ?_|intro _))<;>first|omega|exact jb|exact jc ‹False›|skip
        all_goals first
         |with_reducible rfl
         |with_reducible assumption
         |omega
         |exact hs
         |exact hf.1
         |(exact(hf.2 _ ‹_›).1)
         |(exact(hf.2 _ ‹_›).2)
         |exact⟨hf,by decide⟩
         |exact⟨⟨hf,by decide⟩,by assumption⟩
         |(simp only [jh,ji];omega)
         |(exfalso;simp_all;done)
    · rw [if_neg h2] at hr
      simp only [TA.mk.injEq,Sto.mk.injEq] at hr;obtain⟨q1,q2,q3,q4,q5,q6⟩:=hr;subst q1 q2 q3 q4 q5 q6;simp only [nrmA,nrmB,nrlB,reduceCtorEq,HO.pack.injEq,HO.obj.injEq,decide_true,decide_false,je,jd,forall_const,false_implies,true_implies,jf,jg]
      (repeat' (first|refine ja ?_ ?_|intro _))<;>first|omega|exact jb|exact jc ‹False›|skip
      all_goals first
       |with_reducible rfl
       |with_reducible assumption
       |omega
       |exact hs
       |exact hf.1
       |(exact(hf.2 _ ‹_›).1)
       |(exact(hf.2 _ ‹_›).2)
       |exact⟨hf,by decide⟩
       |exact⟨⟨hf,by decide⟩,by assumption⟩
       |(simp only [jh,ji];omega)
       |(exfalso;simp_all;done)
  · rw [if_pos h1] at hr
    simp only [TA.mk.injEq,Sto.mk.injEq] at hr;obtain⟨q1,q2,q3,q4,q5,q6⟩:=hr;subst q1 q2 q3 q4 q5 q6
    have e1:wrtL l n b ⟨2,ui,0,body⟩=l:=by simp only [wrtL,if_neg h1]
    have e2:wrtN l n b ⟨2,ui,0,body⟩=n:=by simp only [wrtN,if_neg h1]
    have e3:wrtB l n b ⟨2,ui,0,body⟩=b:=by simp only [wrtB,if_neg h1]
    rw [e1,e2,e3];clear e1 e2 e3 hs2 hnn hbb;generalize wrtC l n b ⟨2,ui,0,body⟩=c2 at *;simp only [nrmA,nrmB,nrlB,reduceCtorEq,HO.pack.injEq,HO.obj.injEq,decide_true,decide_false,je,jd,forall_const,false_implies,true_implies,jf,jg,h1]
    (repeat' (first|refine ja ?_ ?_|intro _))<;>first|omega|exact jb|exact jc ‹False›|skip
    all_goals first
     |with_reducible rfl
     |with_reducible assumption
     |omega
     |exact hs
     |exact hf.1
     |(exact(hf.2 _ ‹_›).1)
     |(exact(hf.2 _ ‹_›).2)
     |exact⟨hf,by decide⟩
     |exact⟨⟨hf,by decide⟩,by assumption⟩
     |(simp only [jh,ji];omega)
     |(exfalso;simp_all;done)
 have key10: ∀ (nv:Int),nv=(ub.length:Int)→(if Xl f y8=false then(⟨400,[],⟨l,n,b,s⟩⟩:TA)
  else if 0≤yc f y8∧0≤uz∧yc f y8≠uz then(⟨400,[],⟨l,n,b,s⟩⟩:TA)
  else if 0≤yc f y8∧uz<0∧(2000<yc f y8∨yc f y8<nv+(body.length:Int)) then(⟨413,[],⟨l,n,b,s⟩⟩:TA)
  else if zaQ b ((body.length:Int)+60)=false then(⟨507,[],⟨l,n,b,s⟩⟩:TA)
  else(if(if apG l ui nv then 17 else wrtC l n b (apE ui body))≠0 then(⟨Ws (if apG l ui nv then 17 else wrtC l n b (apE ui body)),[],⟨l,n,b,s⟩⟩:TA)
  else if 0≤(yc f y8)∧uz<0 then
   if wrtC (wrtL l n b (apE ui body)) (wrtN l n b (apE ui body)) (wrtB l n b (apE ui body)) ⟨3,ui,(yc f y8),[]⟩≠0 then(⟨Ws (wrtC (wrtL l n b (apE ui body)) (wrtN l n b (apE ui body)) (wrtB l n b (apE ui body)) ⟨3,ui,(yc f y8),[]⟩),[],⟨wrtL l n b (apE ui body),wrtN l n b (apE ui body),wrtB l n b (apE ui body),s⟩⟩:TA)
   else(⟨204,[⟨zan,decS (nv+(body.length:Int))⟩],⟨wrtL (wrtL l n b (apE ui body)) (wrtN l n b (apE ui body)) (wrtB l n b (apE ui body)) ⟨3,ui,(yc f y8),[]⟩,wrtN (wrtL l n b (apE ui body)) (wrtN l n b (apE ui body)) (wrtB l n b (apE ui body)) ⟨3,ui,(yc f y8),[]⟩,wrtB (wrtL l n b (apE ui body)) (wrtN l n b (apE ui body)) (wrtB l n b (apE ui body)) ⟨3,ui,(yc f y8),[]⟩,((wrtB (wrtL l n b (apE ui body)) (wrtN l n b (apE ui body)) (wrtB l n b (apE ui body)) ⟨3,ui,(yc f y8),[]⟩).length:Int)⟩⟩:TA)
  else(⟨204,[⟨zan,decS (nv+(body.length:Int))⟩],⟨wrtL l n b (apE ui body),wrtN l n b (apE ui body),wrtB l n b (apE ui body),((wrtB l n b (apE ui body)).length:Int)⟩⟩:TA)))=⟨st,fs,⟨l',n',b',s'⟩⟩→Ok Tryz.prog X (fun o h=>o=AOut.pan (C.ifc 164 true [P.int IntKind.i64 st,P.list U.fld fs,P.list U.byte []])∧h=[HO.obj 169 [C.ptr 1 0,C.p (P.str m),C.p (P.str t),C.p (P.int IntKind.i64 mi),C.p (P.list U.fld f),C.p (P.int IntKind.i64 le)],HO.pack [HO.obj 78 [C.ptr 1 0,C.ptr 2 0],HO.pack [HO.obj 106 [C.row 1,C.p (P.int IntKind.i64 n')],HO.row U.upl 82 l'],HO.pack [HO.obj 108 [C.row 1,C.p (P.int IntKind.i64 s')],HO.row U.byte 5 b']]]) (go I tab { cfgT with seam:=[5,10,17],keep:=some [0,1,2,4,6,8,9,10,11]} [wO,wM,yS,yR,yQ,yP,zK,zJ,yO,yN,zS,zQ,yx,yw,xW,xU,xR,xQ,tH,tC,vw,vk] [⟨vM Tryz.f137,finK I tab { cfgT with seam:=[5,10,17],keep:=some [0,1,2,4,6,8,9,10,11]} 2 Tryz.f137⟩] 0 [1,1,1,1,1,1,0] ⟨[(0,.v (.one (.ptr 0 0))),(1,.v (.agg [.p (.int .i64 ui),.p (.int .i64 uz),.p (.str uo),.p (.list .byte ub),.p (.int .i64 us)])),(2,.v (.one (.p (.list .byte body)))),(4,.v (.one (.ptr 2 0))),(10,.v (.one (.p (.int .i64 nv))))],[.obj 169 [.ptr 1 0,.p (.str m),.p (.str t),.p (.int .i64 mi),.p (.list .fld f),.p (.int .i64 le)],.pack [.obj 78 [.ptr 1 0,.ptr 2 0],.pack [.obj 106 [.row 1,.p (.int .i64 n)],.row .upl 82 l],.pack [.obj 108 [.row 1,.p (.int .i64 s)],.row .byte 5 b]],.pack [.obj 82 [.p (.int .i64 ui),.p (.int .i64 uz),.p (.str uo),.p (.list .byte ub),.p (.int .i64 us)]]],131,none⟩):=by
  intro nv hnv hr
  refine orcL ?_;go_invoke;refine orcS (by kernel_rfl) ?_
  simp only [zi,Nat.reduceAdd];clear hcm hol hs2 hnn hbb;subst hI;unfold y8 at *;simp only [nrmA,nrmB,nrlB,reduceCtorEq,HO.pack.injEq,HO.obj.injEq];generalize yc f [117,112,108,111,97,100,45,108,101,110,103,116,104]=sz at *
  by_cases hd1:Xl f [117,112,108,111,97,100,45,108,101,110,103,116,104]=false
  · rw [if_pos hd1] at hr
    simp only [TA.mk.injEq,Sto.mk.injEq] at hr;obtain⟨q1,q2,q3,q4,q5,q6⟩:=hr;subst q1 q2 q3 q4 q5 q6;simp only [nrmA,nrmB,nrlB,reduceCtorEq,HO.pack.injEq,HO.obj.injEq,decide_true,decide_false,je,jd,forall_const,false_implies,true_implies,jf,jg,hd1]
    (repeat' (first|refine ja ?_ ?_|intro _))<;>first|omega|exact jb|exact jc ‹False›|skip
    all_goals first
     |with_reducible rfl
     |with_reducible assumption
     |omega
     |exact hs
     |exact hf.1
     |(exact(hf.2 _ ‹_›).1)
     |(exact(hf.2 _ ‹_›).2)
     |exact⟨hf,by decide⟩
     |exact⟨⟨hf,by decide⟩,by assumption⟩
     |(simp only [jh,ji];omega)
     |(exfalso;simp_all;done)
  rw [if_neg hd1] at hr
  try simp only [Bool.not_eq_false] at hd1
  simp only [nrmA,nrmB,nrlB,reduceCtorEq,HO.pack.injEq,HO.obj.injEq,decide_true,decide_false,je,jd,forall_const,false_implies,true_implies,jf,jg,hd1]
  by_cases hd2:0≤sz∧0≤uz∧sz≠uz
  · rw [if_pos hd2] at hr
    simp only [TA.mk.injEq,Sto.mk.injEq] at hr;obtain⟨q1,q2,q3,q4,q5,q6⟩:=hr;subst q1 q2 q3 q4 q5 q6
    (repeat' (first|refine ja ?_ ?_|intro _))<;>first|omega|exact jb|exact jc ‹False›|skip
    all_goals first
     |with_reducible rfl
     |with_reducible assumption
     |omega
     |exact hs
     |exact hf.1
     |(exact(hf.2 _ ‹_›).1)
     |(exact(hf.2 _ ‹_›).2)
     |exact⟨hf,by decide⟩
     |exact⟨⟨hf,by decide⟩,by assumption⟩
     |(simp only [jh,ji];omega)
     |(exfalso;simp_all;done)
  rw [if_neg hd2] at hr
  by_cases hd3:0≤sz∧uz<0∧(2000<sz∨sz<nv+(body.length:Int))
  · rw [if_pos hd3] at hr
    simp only [TA.mk.injEq,Sto.mk.injEq] at hr;obtain⟨q1,q2,q3,q4,q5,q6⟩:=hr;subst q1 q2 q3 q4 q5 q6
    (repeat' (first|refine ja ?_ ?_|intro _))<;>first|omega|exact jb|exact jc ‹False›|skip
    all_goals first
     |with_reducible rfl
     |with_reducible assumption
     |omega
     |exact hs
     |exact hf.1
     |(exact(hf.2 _ ‹_›).1)
     |(exact(hf.2 _ ‹_›).2)
     |exact⟨hf,by decide⟩
     |exact⟨⟨hf,by decide⟩,by assumption⟩
     |(simp only [jh,ji];omega)
     |(exfalso;simp_all;done)
  rw [if_neg hd3] at hr
  by_cases hd4:zaQ b ((body.length:Int)+60)=false
  · rw [if_pos hd4] at hr
    simp only [TA.mk.injEq,Sto.mk.injEq] at hr;obtain⟨q1,q2,q3,q4,q5,q6⟩:=hr;subst q1 q2 q3 q4 q5 q6;simp only [nrmA,nrmB,nrlB,reduceCtorEq,HO.pack.injEq,HO.obj.injEq,decide_true,decide_false,je,jd,forall_const,false_implies,true_implies,jf,jg,hd4]
    (repeat' (first|refine ja ?_ ?_|intro _))<;>first|omega|exact jb|exact jc ‹False›|skip
    all_goals first
     |with_reducible rfl
     |with_reducible assumption
     |omega
     |exact hs
     |exact hf.1
     |(exact(hf.2 _ ‹_›).1)
     |(exact(hf.2 _ ‹_›).2)
     |exact⟨hf,by decide⟩
     |exact⟨⟨hf,by decide⟩,by assumption⟩
     |(simp only [jh,ji];omega)
     |(exfalso;simp_all;done)
  rw [if_neg hd4] at hr
  try simp only [Bool.not_eq_false] at hd4
  simp only [nrmA,nrmB,nrlB,reduceCtorEq,HO.pack.injEq,HO.obj.injEq,decide_true,decide_false,je,jd,forall_const,false_implies,true_implies,jf,jg,hd4]
  (repeat' (first|refine ja ?_ ?_|intro _))<;>first|omega|exact jb|exact jc ‹False›|skip
  all_goals first
   |(with_reducible show Ok _ _ _ _;(try(exfalso;omega));exact seam rfl uw mixed [wO,wM,yS,yR,yQ,yP,zK,zJ,yO,yN,zS,zQ,yx,yw,xW,xU,xR,xQ,tH,tC,vw,vk] hX [0,1,2,4,10,11] ⟨[(0,.v (.one (.ptr 0 0))),(1,.v (.agg [.p (.int .i64 ui),.p (.int .i64 uz),.p (.str uo),.p (.list .byte ub),.p (.int .i64 us)])),(2,.v (.one (.p (.list .byte body)))),(4,.v (.one (.ptr 2 0))),(10,.v (.one (.p (.int .i64 nv)))),(11,.v (.one (.p (.int .i64 sz))))],[.obj 169 [.ptr 1 0,.p (.str m),.p (.str t),.p (.int .i64 mi),.p (.list .fld f),.p (.int .i64 le)],.pack [.obj 78 [.ptr 1 0,.ptr 2 0],.pack [.obj 106 [.row 1,.p (.int .i64 n)],.row .upl 82 l],.pack [.obj 108 [.row 1,.p (.int .i64 s)],.row .byte 5 b]],.pack [.obj 82 [.p (.int .i64 ui),.p (.int .i64 uz),.p (.str uo),.p (.list .byte ub),.p (.int .i64 us)]]],131,none⟩ (by kernel_rfl) (key17 nv sz hnv hr))
   |with_reducible rfl
   |with_reducible assumption
   |omega
   |exact hs
   |exact hf.1
   |(exact(hf.2 _ ‹_›).1)
   |(exact(hf.2 _ ‹_›).2)
   |exact⟨hf,by decide⟩
   |exact⟨⟨hf,by decide⟩,by assumption⟩
   |(simp only [jh,ji];omega)
   |(exfalso;simp_all;done)
 have key5: ∀ (_u:Unit),(if Xl f ZV=false then(⟨400,[],⟨l,n,b,s⟩⟩:TA)
  else if yc f ZV<0 then(⟨400,[],⟨l,n,b,s⟩⟩:TA)
  else if yc f ZV≠(ub.length:Int) then(⟨409,[],⟨l,n,b,s⟩⟩:TA)
  else(if Xl f y8=false then(⟨400,[],⟨l,n,b,s⟩⟩:TA)
  else if 0≤yc f y8∧0≤uz∧yc f y8≠uz then(⟨400,[],⟨l,n,b,s⟩⟩:TA)
  else if 0≤yc f y8∧uz<0∧(2000<yc f y8∨yc f y8<(yc f ZV)+(body.length:Int)) then(⟨413,[],⟨l,n,b,s⟩⟩:TA)
  else if zaQ b ((body.length:Int)+60)=false then(⟨507,[],⟨l,n,b,s⟩⟩:TA)
  else(if(if apG l ui (yc f ZV) then 17 else wrtC l n b (apE ui body))≠0 then(⟨Ws (if apG l ui (yc f ZV) then 17 else wrtC l n b (apE ui body)),[],⟨l,n,b,s⟩⟩:TA)
  else if 0≤(yc f y8)∧uz<0 then
   if wrtC (wrtL l n b (apE ui body)) (wrtN l n b (apE ui body)) (wrtB l n b (apE ui body)) ⟨3,ui,(yc f y8),[]⟩≠0 then(⟨Ws (wrtC (wrtL l n b (apE ui body)) (wrtN l n b (apE ui body)) (wrtB l n b (apE ui body)) ⟨3,ui,(yc f y8),[]⟩),[],⟨wrtL l n b (apE ui body),wrtN l n b (apE ui body),wrtB l n b (apE ui body),s⟩⟩:TA)
   else(⟨204,[⟨zan,decS ((yc f ZV)+(body.length:Int))⟩],⟨wrtL (wrtL l n b (apE ui body)) (wrtN l n b (apE ui body)) (wrtB l n b (apE ui body)) ⟨3,ui,(yc f y8),[]⟩,wrtN (wrtL l n b (apE ui body)) (wrtN l n b (apE ui body)) (wrtB l n b (apE ui body)) ⟨3,ui,(yc f y8),[]⟩,wrtB (wrtL l n b (apE ui body)) (wrtN l n b (apE ui body)) (wrtB l n b (apE ui body)) ⟨3,ui,(yc f y8),[]⟩,((wrtB (wrtL l n b (apE ui body)) (wrtN l n b (apE ui body)) (wrtB l n b (apE ui body)) ⟨3,ui,(yc f y8),[]⟩).length:Int)⟩⟩:TA)
  else(⟨204,[⟨zan,decS ((yc f ZV)+(body.length:Int))⟩],⟨wrtL l n b (apE ui body),wrtN l n b (apE ui body),wrtB l n b (apE ui body),((wrtB l n b (apE ui body)).length:Int)⟩⟩:TA))))=⟨st,fs,⟨l',n',b',s'⟩⟩→Ok Tryz.prog X (fun o h=>o=AOut.pan (C.ifc 164 true [P.int IntKind.i64 st,P.list U.fld fs,P.list U.byte []])∧h=[HO.obj 169 [C.ptr 1 0,C.p (P.str m),C.p (P.str t),C.p (P.int IntKind.i64 mi),C.p (P.list U.fld f),C.p (P.int IntKind.i64 le)],HO.pack [HO.obj 78 [C.ptr 1 0,C.ptr 2 0],HO.pack [HO.obj 106 [C.row 1,C.p (P.int IntKind.i64 n')],HO.row U.upl 82 l'],HO.pack [HO.obj 108 [C.row 1,C.p (P.int IntKind.i64 s')],HO.row U.byte 5 b']]]) (go I tab { cfgT with seam:=[5,10,17],keep:=some [0,1,2,4,6,8,9,10,11]} [wO,wM,yS,yR,yQ,yP,zK,zJ,yO,yN,zS,zQ,yx,yw,xW,xU,xR,xQ,tH,tC,vw,vk] [⟨vM Tryz.f137,finK I tab { cfgT with seam:=[5,10,17],keep:=some [0,1,2,4,6,8,9,10,11]} 2 Tryz.f137⟩] 0 [1,1,1,1,0] ⟨[(0,.v (.one (.ptr 0 0))),(1,.v (.agg [.p (.int .i64 ui),.p (.int .i64 uz),.p (.str uo),.p (.list .byte ub),.p (.int .i64 us)])),(2,.v (.one (.p (.list .byte body)))),(4,.v (.one (.ptr 2 0)))],[.obj 169 [.ptr 1 0,.p (.str m),.p (.str t),.p (.int .i64 mi),.p (.list .fld f),.p (.int .i64 le)],.pack [.obj 78 [.ptr 1 0,.ptr 2 0],.pack [.obj 106 [.row 1,.p (.int .i64 n)],.row .upl 82 l],.pack [.obj 108 [.row 1,.p (.int .i64 s)],.row .byte 5 b]],.pack [.obj 82 [.p (.int .i64 ui),.p (.int .i64 uz),.p (.str uo),.p (.list .byte ub),.p (.int .i64 us)]]],131,none⟩):=by
  intro _ hr
  refine orcL ?_;go_invoke;refine orcS (by kernel_rfl) ?_
  simp only [zi,Nat.reduceAdd];clear hcm hol hs2 hnn hbb key17;subst hI;unfold ZV at *;simp only [nrmA,nrmB,nrlB,reduceCtorEq,HO.pack.injEq,HO.obj.injEq];generalize yc f [117,112,108,111,97,100,45,111,102,102,115,101,116]=nv at *
  by_cases hd5:Xl f [117,112,108,111,97,100,45,111,102,102,115,101,116]=false
  · rw [if_pos hd5] at hr
    simp only [TA.mk.injEq,Sto.mk.injEq] at hr;obtain⟨q1,q2,q3,q4,q5,q6⟩:=hr;subst q1 q2 q3 q4 q5 q6;simp only [nrmA,nrmB,nrlB,reduceCtorEq,HO.pack.injEq,HO.obj.injEq,decide_true,decide_false,je,jd,forall_const,false_implies,true_implies,jf,jg,hd5]
    (repeat' (first|refine ja ?_ ?_|intro _))<;>first|omega|exact jb|exact jc ‹False›|skip
    all_goals first
     |with_reducible rfl
     |with_reducible assumption
     |omega
     |exact hs
     |exact hf.1
     |(exact(hf.2 _ ‹_›).1)
     |(exact(hf.2 _ ‹_›).2)
     |exact⟨hf,by decide⟩
     |exact⟨⟨hf,by decide⟩,by assumption⟩
     |(simp only [jh,ji];omega)
     |(exfalso;simp_all;done)
  rw [if_neg hd5] at hr
  try simp only [Bool.not_eq_false] at hd5
  simp only [nrmA,nrmB,nrlB,reduceCtorEq,HO.pack.injEq,HO.obj.injEq,decide_true,decide_false,je,jd,forall_const,false_implies,true_implies,jf,jg,hd5]
  by_cases hd6:nv<0
  · rw [if_pos hd6] at hr
    simp only [TA.mk.injEq,Sto.mk.injEq] at hr;obtain⟨q1,q2,q3,q4,q5,q6⟩:=hr;subst q1 q2 q3 q4 q5 q6
    (repeat' (first|refine ja ?_ ?_|intro _))<;>first|omega|exact jb|exact jc ‹False›|skip
    all_goals first
     |with_reducible rfl
     |with_reducible assumption
     |omega
     |exact hs
     |exact hf.1
     |(exact(hf.2 _ ‹_›).1)
     |(exact(hf.2 _ ‹_›).2)
     |exact⟨hf,by decide⟩
     |exact⟨⟨hf,by decide⟩,by assumption⟩
     |(simp only [jh,ji];omega)
     |(exfalso;simp_all;done)
  rw [if_neg hd6] at hr
  by_cases hd7:nv≠(ub.length:Int)
  · rw [if_pos hd7] at hr
    simp only [TA.mk.injEq,Sto.mk.injEq] at hr;obtain⟨q1,q2,q3,q4,q5,q6⟩:=hr;subst q1 q2 q3 q4 q5 q6
    (repeat' (first|refine ja ?_ ?_|intro _))<;>first|omega|exact jb|exact jc ‹False›|skip
    all_goals first
     |with_reducible rfl
     |with_reducible assumption
     |omega
     |exact hs
     |exact hf.1
     |(exact(hf.2 _ ‹_›).1)
     |(exact(hf.2 _ ‹_›).2)
     |exact⟨hf,by decide⟩
     |exact⟨⟨hf,by decide⟩,by assumption⟩
     |(simp only [jh,ji];omega)
     |(exfalso;simp_all;done)
  rw [if_neg hd7] at hr
  (repeat' (first|refine ja ?_ ?_|intro _))<;>first|omega|exact jb|exact jc ‹False›|skip
  all_goals first
   |(with_reducible show Ok _ _ _ _;(try(exfalso;omega));exact seam rfl uw mixed [wO,wM,yS,yR,yQ,yP,zK,zJ,yO,yN,zS,zQ,yx,yw,xW,xU,xR,xQ,tH,tC,vw,vk] hX [0,1,2,4,10] ⟨[(0,.v (.one (.ptr 0 0))),(1,.v (.agg [.p (.int .i64 ui),.p (.int .i64 uz),.p (.str uo),.p (.list .byte ub),.p (.int .i64 us)])),(2,.v (.one (.p (.list .byte body)))),(4,.v (.one (.ptr 2 0))),(10,.v (.one (.p (.int .i64 nv))))],[.obj 169 [.ptr 1 0,.p (.str m),.p (.str t),.p (.int .i64 mi),.p (.list .fld f),.p (.int .i64 le)],.pack [.obj 78 [.ptr 1 0,.ptr 2 0],.pack [.obj 106 [.row 1,.p (.int .i64 n)],.row .upl 82 l],.pack [.obj 108 [.row 1,.p (.int .i64 s)],.row .byte 5 b]],.pack [.obj 82 [.p (.int .i64 ui),.p (.int .i64 uz),.p (.str uo),.p (.list .byte ub),.p (.int .i64 us)]]],131,none⟩ (by kernel_rfl) (key10 nv (by omega) hr))
   |with_reducible rfl
   |with_reducible assumption
   |omega
   |exact hs
   |exact hf.1
   |(exact(hf.2 _ ‹_›).1)
   |(exact(hf.2 _ ‹_›).2)
   |exact⟨hf,by decide⟩
   |exact⟨⟨hf,by decide⟩,by assumption⟩
   |(simp only [jh,ji];omega)
   |(exfalso;simp_all;done)
 clear hs2 hnn hbb key17 key10;subst hI;rw [show([99,111,110,116,101,110,116,45,116,121,112,101]:Str)=Zz from rfl];rw [show([97,112,112,108,105,99,97,116,105,111,110,47,111,102,102,115,101,116,43,111,99,116,101,116,45,115,116,114,101,97,109]:Str)=octS from rfl];simp only [nrmA,nrmB,nrlB,reduceCtorEq,HO.pack.injEq,HO.obj.injEq]
 have hcl:Zz.length≤1000000:=by decide
 generalize oneT f Zz=oc at *;obtain⟨ov,oc⟩:=oc
 try simp only at *
 generalize xJ ov=pm at *;obtain⟨⟨pw,pp⟩,pc⟩:=pm
 try simp only at *
 by_cases hd8:oc=9
 · rw [if_pos hd8] at hr
   simp only [TA.mk.injEq,Sto.mk.injEq] at hr;obtain⟨q1,q2,q3,q4,q5,q6⟩:=hr;subst q1 q2 q3 q4 q5 q6;simp only [nrmA,nrmB,nrlB,reduceCtorEq,HO.pack.injEq,HO.obj.injEq,decide_true,decide_false,je,jd,forall_const,false_implies,true_implies,jf,jg,hd8]
   (repeat' (first|refine ja ?_ ?_|intro _))<;>first|omega|exact jb|exact jc ‹False›|skip
   all_goals first
    |with_reducible rfl
    |with_reducible assumption
    |omega
    |exact hs
    |exact hf.1
    |(exact(hf.2 _ ‹_›).1)
    |(exact(hf.2 _ ‹_›).2)
    |exact⟨hf,by decide⟩
    |exact⟨⟨hf,by decide⟩,by assumption⟩
    |(simp only [jh,ji];omega)
    |(exfalso;simp_all;done)
 rw [if_neg hd8] at hr
 try simp only [Bool.not_eq_false] at hd8
 simp only [nrmA,nrmB,nrlB,reduceCtorEq,HO.pack.injEq,HO.obj.injEq,decide_true,decide_false,je,jd,forall_const,false_implies,true_implies,jf,jg,hd8]
 by_cases hd9:pc≠0∨pw≠octS
 · rw [if_pos hd9] at hr
   simp only [TA.mk.injEq,Sto.mk.injEq] at hr;obtain⟨q1,q2,q3,q4,q5,q6⟩:=hr;subst q1 q2 q3 q4 q5 q6
   (repeat' (first|refine ja ?_ ?_|intro _))<;>first|omega|exact jb|exact jc ‹False›|skip
   all_goals first
    |with_reducible rfl
    |with_reducible assumption
    |omega
    |exact hs
    |exact hf.1
    |(exact(hf.2 _ ‹_›).1)
    |(exact(hf.2 _ ‹_›).2)
    |exact⟨hf,by decide⟩
    |exact⟨⟨hf,by decide⟩,by assumption⟩
    |(simp only [jh,ji];omega)
    |(exfalso;simp_all;done)
 rw [if_neg hd9] at hr;simp only [not_or,ne_eq,Decidable.not_not] at hd9;obtain⟨g1,g2⟩:=hd9;clear hcm;subst g1 g2;simp only [nrmA,nrmB,nrlB,reduceCtorEq,HO.pack.injEq,HO.obj.injEq,jf,false_implies,true_and,and_true]
 (repeat' (first|refine ja ?_ ?_|intro _))<;>first|omega|exact jb|exact jc ‹False›|skip
 all_goals first
  |(with_reducible show Ok _ _ _ _;(try(exfalso;omega));exact seam rfl uw mixed [wO,wM,yS,yR,yQ,yP,zK,zJ,yO,yN,zS,zQ,yx,yw,xW,xU,xR,xQ,tH,tC,vw,vk] hX [0,1,2,4] ⟨[(0,.v (.one (.ptr 0 0))),(1,.v (.agg [.p (.int .i64 ui),.p (.int .i64 uz),.p (.str uo),.p (.list .byte ub),.p (.int .i64 us)])),(2,.v (.one (.p (.list .byte body)))),(4,.v (.one (.ptr 2 0)))],[.obj 169 [.ptr 1 0,.p (.str m),.p (.str t),.p (.int .i64 mi),.p (.list .fld f),.p (.int .i64 le)],.pack [.obj 78 [.ptr 1 0,.ptr 2 0],.pack [.obj 106 [.row 1,.p (.int .i64 n)],.row .upl 82 l],.pack [.obj 108 [.row 1,.p (.int .i64 s)],.row .byte 5 b]],.pack [.obj 82 [.p (.int .i64 ui),.p (.int .i64 uz),.p (.str uo),.p (.list .byte ub),.p (.int .i64 us)]]],131,none⟩ (by kernel_rfl) (key5 () hr))
  |with_reducible rfl
  |with_reducible assumption
  |omega
  |exact hs
  |exact hf.1
  |(exact(hf.2 _ ‹_›).1)
  |(exact(hf.2 _ ‹_›).2)
  |exact⟨hf,by decide⟩
  |exact⟨⟨hf,by decide⟩,by assumption⟩
  |(simp only [jh,ji];omega)
  |(exfalso;simp_all;done)
  |skip
 exact seam rfl uw mixed [wO,wM,yS,yR,yQ,yP,zK,zJ,yO,yN,zS,zQ,yx,yw,xW,xU,xR,xQ,tH,tC,vw,vk] hX [0,1,2,4] ⟨[(0,.v (.one (.ptr 0 0))),(1,.v (.agg [.p (.int .i64 ui),.p (.int .i64 uz),.p (.str uo),.p (.list .byte ub),.p (.int .i64 us)])),(2,.v (.one (.p (.list .byte body)))),(4,.v (.one (.ptr 2 0)))],[.obj 169 [.ptr 1 0,.p (.str m),.p (.str t),.p (.int .i64 mi),.p (.list .fld f),.p (.int .i64 le)],.pack [.obj 78 [.ptr 1 0,.ptr 2 0],.pack [.obj 106 [.row 1,.p (.int .i64 n)],.row .upl 82 l],.pack [.obj 108 [.row 1,.p (.int .i64 s)],.row .byte 5 b]],.pack [.obj 82 [.p (.int .i64 ui),.p (.int .i64 uz),.p (.str uo),.p (.list .byte ub),.p (.int .i64 us)]]],131,none⟩ (by kernel_rfl) (key5 () hr)
def ZX:Know Tryz.prog:=⟨137,X9,zfp⟩
def ZW:Know Tryz.prog:=⟨137,fun I=>zu I (X9 I),zf zfp⟩
end Go.Proofs.YtnpmenpjagcheaaGreatDoor
namespace Go.Proofs.YtnpmenpjagcheaaGreatDoor
open Go Go.Sep Go.Ab
set_option maxRecDepth 100000
theorem zm3 {l:List Upl} {n:Int} (h:zI l n) (id:Int):(getU l id).bytes.length≤2000∧(getU l id).size≤2000:=by
 unfold getU
 split
 · rename_i hi
   rw [wJ hi];have:=h.each _ (List.getElem_mem hi);exact⟨this.bl,this.s2⟩
 · decide
def X8 (I:Alg):KU
 |[.v (.one (.ptr 0 0)),.v (.one (.p (.list .byte body)))],[.obj 169 [.ptr 1 0,.p (.str m),.p (.str t),.p (.int .i64 mi),.p (.list .fld f),.p (.int .i64 le)],.pack [.obj 78 [.ptr 1 0,.ptr 2 0],.pack [.obj 106 [.row 1,.p (.int .i64 n)],.row .upl 82 l],.pack [.obj 108 [.row 1,.p (.int .i64 s)],.row .byte 5 b]]]=>(fun(m t:Str) (f:List Fld) (l:List Upl) (b body:Str)=>(some (.one ⟨I.hid (FOk f∧zI l n∧n≤200000∧b.length≤100000∧body.length≤100000),(.pan (.ifc 164 true [.int .i64 (I.hid ((yU ⟨l,n,b,s⟩ m t f body).st)),.list .fld (I.hid ((yU ⟨l,n,b,s⟩ m t f body).fs)),.list .byte (I.hid ([]))])),[.obj 169 [.ptr 1 0,.p (.str m),.p (.str t),.p (.int .i64 mi),.p (.list .fld f),.p (.int .i64 le)],.pack [.obj 78 [.ptr 1 0,.ptr 2 0],.pack [.obj 106 [.row 1,.p (.int .i64 (I.hid ((yU ⟨l,n,b,s⟩ m t f body).q.n)))],.row .upl 82 (I.hid ((yU ⟨l,n,b,s⟩ m t f body).q.l))],.pack [.obj 108 [.row 1,.p (.int .i64 (I.hid ((yU ⟨l,n,b,s⟩ m t f body).q.s)))],.row .byte 5 (I.hid ((yU ⟨l,n,b,s⟩ m t f body).q.b))]]]⟩):Option CT)) m t f l b body
 |_,_=>none
set_option maxHeartbeats 8000000 in
theorem zfo:zq Tryz.prog 101 (X8 alg):=by
 intro args hp r h;unfold X8 at h;split at h<;>cases h
 rename_i body m t mi f le n l s b
 revert f l;intro(f:List Fld) (l:List Upl)
 simp only [CT.Good,zh];intro hneed;obtain⟨hf,hs,hn,hb,hbl⟩:=hneed;have hn0:=hs.n0;have hus:=zm3 hs (idV t);generalize hr:yU ⟨l,n,b,s⟩ m t f body=r;obtain⟨st,fs,⟨l',n',b',s'⟩⟩:=r;unfold yU at hr
 try simp only at hr
 refine spH Tryz.func101 (by kernel_rfl) { cfgT with seam:=[3,10],keep:=some [0,1,4,5,7,55]} [xO,xN,zK,zJ,zS,zQ,yx,yw,xW,xU,xR,xQ,vw,vk,qP,qO,zav,zau,X7,X6,ZX,ZW] (by kernel_rfl) ?_
 intro I X hI hX
 refine orcL ?_;go_invoke;refine orcS (by kernel_rfl) ?_
 simp only [zi,Nat.reduceAdd]
 have key10: ∀ (_u:Unit),(if uplB ⟨l,n,b,s⟩ t=false then(⟨404,[],⟨l,n,b,s⟩⟩:TA)
  else if m=ztA then(⟨200,zbP (getU l (idV t)),⟨l,n,b,s⟩⟩:TA)
  else if m=zaV then uF ⟨l,n,b,s⟩ (getU l (idV t)) f body
  else if m=zua then zbX ⟨l,n,b,s⟩ (getU l (idV t))
  else(⟨405,[],⟨l,n,b,s⟩⟩:TA))=⟨st,fs,⟨l',n',b',s'⟩⟩→Ok Tryz.prog X (fun o h=>o=AOut.pan (C.ifc 164 true [P.int IntKind.i64 st,P.list U.fld fs,P.list U.byte []])∧h=[HO.obj 169 [C.ptr 1 0,C.p (P.str m),C.p (P.str t),C.p (P.int IntKind.i64 mi),C.p (P.list U.fld f),C.p (P.int IntKind.i64 le)],HO.pack [HO.obj 78 [C.ptr 1 0,C.ptr 2 0],HO.pack [HO.obj 106 [C.row 1,C.p (P.int IntKind.i64 n')],HO.row U.upl 82 l'],HO.pack [HO.obj 108 [C.row 1,C.p (P.int IntKind.i64 s')],HO.row U.byte 5 b']]]) (go I tab { cfgT with seam:=[3,10],keep:=some [0,1,4,5,7,55]} [xO,xN,zK,zJ,zS,zQ,yx,yw,xW,xU,xR,xQ,vw,vk,qP,qO,zav,zau,X7,X6,ZX,ZW] [⟨vM Tryz.f101,finK I tab { cfgT with seam:=[3,10],keep:=some [0,1,4,5,7,55]} 2 Tryz.f101⟩] 0 [1,1,1,1,0] ⟨[(0,.v (.one (.ptr 0 0))),(1,.v (.one (.p (.list .byte body))))],[.obj 169 [.ptr 1 0,.p (.str m),.p (.str t),.p (.int .i64 mi),.p (.list .fld f),.p (.int .i64 le)],.pack [.obj 78 [.ptr 1 0,.ptr 2 0],.pack [.obj 106 [.row 1,.p (.int .i64 n)],.row .upl 82 l],.pack [.obj 108 [.row 1,.p (.int .i64 s)],.row .byte 5 b]]],84,none⟩):=by
  intro _ hr
  refine orcL ?_;go_invoke;refine orcS (by kernel_rfl) ?_
  simp only [zi,Nat.reduceAdd];subst hI;unfold ztA zaV zua at hr;unfold zbX wsC wsS syS at hr
  try simp only at hr
  simp only [nrmA,nrmB,nrlB,reduceCtorEq,HO.pack.injEq,HO.obj.injEq];generalize getU l (idV t)=u at *;obtain⟨ui,uz,uo,ub,us⟩:=u
  try simp only at *
  by_cases hd1:uplB ⟨l,n,b,s⟩ t=false
  · rw [if_pos hd1] at hr
    simp only [TA.mk.injEq,Sto.mk.injEq] at hr;obtain⟨q1,q2,q3,q4,q5,q6⟩:=hr;subst q1 q2 q3 q4 q5 q6
    try simp only [nrmA,nrmB,nrlB,reduceCtorEq,HO.pack.injEq,HO.obj.injEq,decide_true,decide_false,je,jd,forall_const,false_implies,true_implies,jf,jg,hd1]
    (repeat' (first|refine ja ?_ ?_|intro _))<;>first|omega|exact jb|exact jc ‹False›|skip
    all_goals first
     |with_reducible rfl
     |with_reducible assumption
     |omega
     |exact hs
     |exact hf.1
     |(exact(hf.2 _ ‹_›).1)
     |(exact(hf.2 _ ‹_›).2)
     |exact⟨hf,by decide⟩
     |exact⟨⟨hf,by decide⟩,by assumption⟩
     |(simp only [jh,ji];omega)
     |(exfalso;simp_all;done)
  rw [if_neg hd1] at hr
  try simp only [Bool.not_eq_false,ne_eq,Decidable.not_not] at hd1
  try simp only [nrmA,nrmB,nrlB,reduceCtorEq,HO.pack.injEq,HO.obj.injEq,decide_true,decide_false,je,jd,forall_const,false_implies,true_implies,jf,jg,hd1]
  by_cases hd2:m=[72,69,65,68]
  · rw [if_pos hd2] at hr
    simp only [TA.mk.injEq,Sto.mk.injEq] at hr;obtain⟨q1,q2,q3,q4,q5,q6⟩:=hr;subst q1 q2 q3 q4 q5 q6
    try simp only [nrmA,nrmB,nrlB,reduceCtorEq,HO.pack.injEq,HO.obj.injEq,decide_true,decide_false,je,jd,forall_const,false_implies,true_implies,jf,jg,hd2]
    (repeat' (first|refine ja ?_ ?_|intro _))<;>first|omega|exact jb|exact jc ‹False›|skip
    all_goals first
     |with_reducible rfl
     |with_reducible assumption
     |omega
     |exact hs
     |exact hf.1
     |(exact(hf.2 _ ‹_›).1)
     |(exact(hf.2 _ ‹_›).2)
     |exact⟨hf,by decide⟩
     |exact⟨⟨hf,by decide⟩,by assumption⟩
     |(simp only [jh,ji];omega)
     |(exfalso;simp_all;done)
  rw [if_neg hd2] at hr
  try simp only [Bool.not_eq_false,ne_eq,Decidable.not_not] at hd2
  try simp only [nrmA,nrmB,nrlB,reduceCtorEq,HO.pack.injEq,HO.obj.injEq,decide_true,decide_false,je,jd,forall_const,false_implies,true_implies,jf,jg,hd2]
  by_cases hd3:m=[80,65,84,67,72]
  · rw [if_pos hd3] at hr
    simp only [nrmA,nrmB,nrlB,reduceCtorEq,HO.pack.injEq,HO.obj.injEq,decide_true,decide_false,je,jd,forall_const,false_implies,true_implies,jf,jg,hd3,hr]
    (repeat' (first|refine ja ?_ ?_|intro _))<;>first|omega|exact jb|exact jc ‹False›|skip
    all_goals first
     |with_reducible rfl
     |with_reducible assumption
     |omega
     |exact hs
     |exact hf.1
     |(exact(hf.2 _ ‹_›).1)
     |(exact(hf.2 _ ‹_›).2)
     |exact⟨hf,by decide⟩
     |exact⟨⟨hf,by decide⟩,by assumption⟩
     |(simp only [jh,ji];omega)
     |(exfalso;simp_all;done)
  rw [if_neg hd3] at hr
  try simp only [Bool.not_eq_false,ne_eq,Decidable.not_not] at hd3
  try simp only [nrmA,nrmB,nrlB,reduceCtorEq,HO.pack.injEq,HO.obj.injEq,decide_true,decide_false,je,jd,forall_const,false_implies,true_implies,jf,jg,hd3]
  by_cases hd:m=[68,69,76,69,84,69]
  · rw [if_pos hd] at hr
    by_cases h1:wrtC l n b ⟨4,ui,0,[]⟩=0
    · rw [if_neg (fun h=>h h1)] at hr
      simp only [TA.mk.injEq,Sto.mk.injEq] at hr;obtain⟨q1,q2,q3,q4,q5,q6⟩:=hr;subst q1 q2 q3 q4 q5 q6;simp only [nrmA,nrmB,nrlB,reduceCtorEq,HO.pack.injEq,HO.obj.injEq,decide_true,decide_false,je,jd,forall_const,false_implies,true_implies,jf,jg,hd,h1]
      (repeat' (first|refine ja ?_ ?_|intro _))<;>first|omega|exact jb|exact jc ‹False›|skip
      all_goals first
       |with_reducible rfl
       |with_reducible assumption
       |omega
       |exact hs
       |exact hf.1
       |(exact(hf.2 _ ‹_›).1)
       |(exact(hf.2 _ ‹_›).2)
       |exact⟨hf,by decide⟩
       |exact⟨⟨hf,by decide⟩,by assumption⟩
       |(simp only [jh,ji];omega)
       |(exfalso;simp_all;done)
    · rw [if_pos h1] at hr
      simp only [TA.mk.injEq,Sto.mk.injEq] at hr;obtain⟨q1,q2,q3,q4,q5,q6⟩:=hr;subst q1 q2 q3 q4 q5 q6
      have e1:wrtL l n b ⟨4,ui,0,[]⟩=l:=by simp only [wrtL,if_neg h1]
      have e2:wrtN l n b ⟨4,ui,0,[]⟩=n:=by simp only [wrtN,if_neg h1]
      have e3:wrtB l n b ⟨4,ui,0,[]⟩=b:=by simp only [wrtB,if_neg h1]
      try rw [e1,e2,e3]
      simp only [nrmA,nrmB,nrlB,reduceCtorEq,HO.pack.injEq,HO.obj.injEq,decide_true,decide_false,je,jd,forall_const,false_implies,true_implies,jf,jg,hd,h1]
      (repeat' (first|refine ja ?_ ?_|intro _))<;>first|omega|exact jb|exact jc ‹False›|skip
      all_goals first
       |with_reducible rfl
       |with_reducible assumption
       |omega
       |exact hs
       |exact hf.1
       |(exact(hf.2 _ ‹_›).1)
       |(exact(hf.2 _ ‹_›).2)
       |exact⟨hf,by decide⟩
       |exact⟨⟨hf,by decide⟩,by assumption⟩
       |(simp only [jh,ji];omega)
       |(exfalso;simp_all;done)
  · rw [if_neg hd] at hr
    simp only [TA.mk.injEq,Sto.mk.injEq] at hr;obtain⟨q1,q2,q3,q4,q5,q6⟩:=hr;subst q1 q2 q3 q4 q5 q6;simp only [nrmA,nrmB,nrlB,reduceCtorEq,HO.pack.injEq,HO.obj.injEq,decide_true,decide_false,je,jd,forall_const,false_implies,true_implies,jf,jg,hd]
    (repeat' (first|refine ja ?_ ?_|intro _))<;>first|omega|exact jb|exact jc ‹False›|skip
    all_goals first
     |with_reducible rfl
     |with_reducible assumption
     |omega
     |exact hs
     |exact hf.1
     |(exact(hf.2 _ ‹_›).1)
     |(exact(hf.2 _ ‹_›).2)
     |exact⟨hf,by decide⟩
     |exact⟨⟨hf,by decide⟩,by assumption⟩
     |(simp only [jh,ji];omega)
     |(exfalso;simp_all;done)
 have key3: ∀ (q:Bool),q=decide (t=rC)→(if(oneT f zhS).2=9 then(⟨400,[],⟨l,n,b,s⟩⟩:TA)
  else if(oneT f zhS).1≠verS then(⟨412,[⟨znP,verS⟩],⟨l,n,b,s⟩⟩:TA)
  else if t=rC then(if m≠zbT then(⟨405,[],⟨l,n,b,s⟩⟩:TA) else wL ⟨l,n,b,s⟩ f)
  else(if uplB ⟨l,n,b,s⟩ t=false then(⟨404,[],⟨l,n,b,s⟩⟩:TA)
  else if m=ztA then(⟨200,zbP (getU l (idV t)),⟨l,n,b,s⟩⟩:TA)
  else if m=zaV then uF ⟨l,n,b,s⟩ (getU l (idV t)) f body
  else if m=zua then zbX ⟨l,n,b,s⟩ (getU l (idV t))
  else(⟨405,[],⟨l,n,b,s⟩⟩:TA)))=⟨st,fs,⟨l',n',b',s'⟩⟩→Ok Tryz.prog X (fun o h=>o=AOut.pan (C.ifc 164 true [P.int IntKind.i64 st,P.list U.fld fs,P.list U.byte []])∧h=[HO.obj 169 [C.ptr 1 0,C.p (P.str m),C.p (P.str t),C.p (P.int IntKind.i64 mi),C.p (P.list U.fld f),C.p (P.int IntKind.i64 le)],HO.pack [HO.obj 78 [C.ptr 1 0,C.ptr 2 0],HO.pack [HO.obj 106 [C.row 1,C.p (P.int IntKind.i64 n')],HO.row U.upl 82 l'],HO.pack [HO.obj 108 [C.row 1,C.p (P.int IntKind.i64 s')],HO.row U.byte 5 b']]]) (go I tab { cfgT with seam:=[3,10],keep:=some [0,1,4,5,7,55]} [xO,xN,zK,zJ,zS,zQ,yx,yw,xW,xU,xR,xQ,vw,vk,qP,qO,zav,zau,X7,X6,ZX,ZW] [⟨vM Tryz.f101,finK I tab { cfgT with seam:=[3,10],keep:=some [0,1,4,5,7,55]} 2 Tryz.f101⟩] 0 [1,1,0,0] ⟨[(0,.v (.one (.ptr 0 0))),(1,.v (.one (.p (.list .byte body)))),(4,.v (.one (.p (.bool q))))],[.obj 169 [.ptr 1 0,.p (.str m),.p (.str t),.p (.int .i64 mi),.p (.list .fld f),.p (.int .i64 le)],.pack [.obj 78 [.ptr 1 0,.ptr 2 0],.pack [.obj 106 [.row 1,.p (.int .i64 n)],.row .upl 82 l],.pack [.obj 108 [.row 1,.p (.int .i64 s)],.row .byte 5 b]]],84,none⟩):=by
  intro q hq hr
  refine orcL ?_;go_invoke;refine orcS (by kernel_rfl) ?_
  simp only [zi,Nat.reduceAdd];subst hI;rw [show([116,117,115,45,114,101,115,117,109,97,98,108,101]:Str)=zhS from rfl];unfold verS zbT at hr;unfold znP at hr
  have htl:zhS.length≤1000000:=by decide
  simp only [nrmA,nrmB,nrlB,reduceCtorEq,HO.pack.injEq,HO.obj.injEq];generalize oneT f zhS=oc at *;obtain⟨ov,oc⟩:=oc
  try simp only at *
  by_cases hd4:oc=9
  · rw [if_pos hd4] at hr
    simp only [TA.mk.injEq,Sto.mk.injEq] at hr;obtain⟨q1,q2,q3,q4,q5,q6⟩:=hr;subst q1 q2 q3 q4 q5 q6
    try simp only [nrmA,nrmB,nrlB,reduceCtorEq,HO.pack.injEq,HO.obj.injEq,decide_true,decide_false,je,jd,forall_const,false_implies,true_implies,jf,jg,hd4]
    (repeat' (first|refine ja ?_ ?_|intro _))<;>first|omega|exact jb|exact jc ‹False›|skip
    all_goals first
     |with_reducible rfl
     |with_reducible assumption
     |omega
     |exact hs
     |exact hf.1
     |(exact(hf.2 _ ‹_›).1)
     |(exact(hf.2 _ ‹_›).2)
     |exact⟨hf,by decide⟩
     |exact⟨⟨hf,by decide⟩,by assumption⟩
     |(simp only [jh,ji];omega)
     |(exfalso;simp_all;done)
  rw [if_neg hd4] at hr
  try simp only [Bool.not_eq_false,ne_eq,Decidable.not_not] at hd4
  try simp only [nrmA,nrmB,nrlB,reduceCtorEq,HO.pack.injEq,HO.obj.injEq,decide_true,decide_false,je,jd,forall_const,false_implies,true_implies,jf,jg,hd4]
  by_cases hd5:ov≠[49,46,48,46,48]
  · rw [if_pos hd5] at hr
    simp only [TA.mk.injEq,Sto.mk.injEq] at hr;obtain⟨q1,q2,q3,q4,q5,q6⟩:=hr;subst q1 q2 q3 q4 q5 q6
    try simp only [nrmA,nrmB,nrlB,reduceCtorEq,HO.pack.injEq,HO.obj.injEq,decide_true,decide_false,je,jd,forall_const,false_implies,true_implies,jf,jg,hd5]
    (repeat' (first|refine ja ?_ ?_|intro _))<;>first|omega|exact jb|exact jc ‹False›|skip
    all_goals first
     |with_reducible rfl
     |with_reducible assumption
     |omega
     |exact hs
     |exact hf.1
     |(exact(hf.2 _ ‹_›).1)
     |(exact(hf.2 _ ‹_›).2)
     |exact⟨hf,by decide⟩
     |exact⟨⟨hf,by decide⟩,by assumption⟩
     |(simp only [jh,ji];omega)
     |(exfalso;simp_all;done)
  rw [if_neg hd5] at hr
  try simp only [Bool.not_eq_false,ne_eq,Decidable.not_not] at hd5
  try simp only [nrmA,nrmB,nrlB,reduceCtorEq,HO.pack.injEq,HO.obj.injEq,decide_true,decide_false,je,jd,forall_const,false_implies,true_implies,jf,jg,hd5]
  by_cases hff:t=rC
  · rw [if_pos hff] at hr
    rw [decide_eq_true hff] at hq;subst hq;simp only [nrmA,nrmB,nrlB,reduceCtorEq,HO.pack.injEq,HO.obj.injEq,decide_true,decide_false,je,jd,forall_const,false_implies,true_implies,jf,jg]
    by_cases hd6:m≠[80,79,83,84]
    · rw [if_pos hd6] at hr
      simp only [TA.mk.injEq,Sto.mk.injEq] at hr;obtain⟨q1,q2,q3,q4,q5,q6⟩:=hr;subst q1 q2 q3 q4 q5 q6
      try simp only [nrmA,nrmB,nrlB,reduceCtorEq,HO.pack.injEq,HO.obj.injEq,decide_true,decide_false,je,jd,forall_const,false_implies,true_implies,jf,jg,hd6]
      (repeat' (first|refine ja ?_ ?_|intro _))<;>first|omega|exact jb|exact jc ‹False›|skip
      all_goals first
       |with_reducible rfl
       |with_reducible assumption
       |omega
       |exact hs
       |exact hf.1
       |(exact(hf.2 _ ‹_›).1)
       |(exact(hf.2 _ ‹_›).2)
       |exact⟨hf,by decide⟩
       |exact⟨⟨hf,by decide⟩,by assumption⟩
       |(simp only [jh,ji];omega)
       |(exfalso;simp_all;done)
    rw [if_neg hd6] at hr
    try simp only [Bool.not_eq_false,ne_eq,Decidable.not_not] at hd6
    try simp only [nrmA,nrmB,nrlB,reduceCtorEq,HO.pack.injEq,HO.obj.injEq,decide_true,decide_false,je,jd,forall_const,false_implies,true_implies,jf,jg,hd6]
    simp only [nrmA,nrmB,nrlB,reduceCtorEq,HO.pack.injEq,HO.obj.injEq,decide_true,decide_false,je,jd,forall_const,false_implies,true_implies,jf,jg,hr]
    (repeat' (first|refine ja ?_ ?_|intro _))<;>first|omega|exact jb|exact jc ‹False›|skip
    all_goals first
     |with_reducible rfl
     |with_reducible assumption
     |omega
     |exact hs
     |exact hf.1
     |(exact(hf.2 _ ‹_›).1)
     |(exact(hf.2 _ ‹_›).2)
     |exact⟨hf,by decide⟩
     |exact⟨⟨hf,by decide⟩,by assumption⟩
     |(simp only [jh,ji];omega)
     |(exfalso;simp_all;done)
  · rw [if_neg hff] at hr
    rw [decide_eq_false hff] at hq;subst hq;simp only [nrmA,nrmB,nrlB,reduceCtorEq,HO.pack.injEq,HO.obj.injEq,decide_true,decide_false,je,jd,forall_const,false_implies,true_implies,jf,jg]
    (repeat' (first|refine ja ?_ ?_|intro _))<;>first|omega|exact jb|exact jc ‹False›|skip
    all_goals first
     |((with_reducible show Ok _ _ _ _);(try(exfalso;omega));exact seam rfl uw mixed [xO,xN,zK,zJ,zS,zQ,yx,yw,xW,xU,xR,xQ,vw,vk,qP,qO,zav,zau,X7,X6,ZX,ZW] hX [0,1] ⟨[(0,.v (.one (.ptr 0 0))),(1,.v (.one (.p (.list .byte body))))],[.obj 169 [.ptr 1 0,.p (.str m),.p (.str t),.p (.int .i64 mi),.p (.list .fld f),.p (.int .i64 le)],.pack [.obj 78 [.ptr 1 0,.ptr 2 0],.pack [.obj 106 [.row 1,.p (.int .i64 n)],.row .upl 82 l],.pack [.obj 108 [.row 1,.p (.int .i64 s)],.row .byte 5 b]]],84,none⟩ (by kernel_rfl) (key10 () hr))
     |with_reducible rfl
     |with_reducible assumption
     |omega
     |exact hs
     |exact hf.1
     |(exact(hf.2 _ ‹_›).1)
     |(exact(hf.2 _ ‹_›).2)
     |exact⟨hf,by decide⟩
     |exact⟨⟨hf,by decide⟩,by assumption⟩
     |(simp only [jh,ji];omega)
     |(exfalso;simp_all;done)
 clear key10;subst hI;unfold zx6 znP verS zxo zxq zxp at hr;rw [show([47,102,105,108,101,115]:Str)=rC from rfl];simp only [nrmA,nrmB,nrlB,reduceCtorEq,HO.pack.injEq,HO.obj.injEq]
 by_cases hd7:t=rC∧m=[79,80,84,73,79,78,83]
 · rw [if_pos hd7] at hr
   simp only [TA.mk.injEq,Sto.mk.injEq] at hr;obtain⟨q1,q2,q3,q4,q5,q6⟩:=hr;subst q1 q2 q3 q4 q5 q6
   try simp only [nrmA,nrmB,nrlB,reduceCtorEq,HO.pack.injEq,HO.obj.injEq,decide_true,decide_false,je,jd,forall_const,false_implies,true_implies,jf,jg,hd7]
   (repeat' (first|refine ja ?_ ?_|intro _))<;>first|omega|exact jb|exact jc ‹False›|skip
   all_goals first
    |with_reducible rfl
    |with_reducible assumption
    |omega
    |exact hs
    |exact hf.1
    |(exact(hf.2 _ ‹_›).1)
    |(exact(hf.2 _ ‹_›).2)
    |exact⟨hf,by decide⟩
    |exact⟨⟨hf,by decide⟩,by assumption⟩
    |(simp only [jh,ji];omega)
    |(exfalso;simp_all;done)
 rw [if_neg hd7] at hr
 try simp only [Bool.not_eq_false,ne_eq,Decidable.not_not] at hd7
 try simp only [nrmA,nrmB,nrlB,reduceCtorEq,HO.pack.injEq,HO.obj.injEq,decide_true,decide_false,je,jd,forall_const,false_implies,true_implies,jf,jg,hd7]
 have hbeq:(t == rC)=decide (t=rC):=by rw [Bool.eq_iff_iff];simp
 (repeat' (first|refine ja ?_ ?_|intro _))<;>first|omega|exact jb|exact jc ‹False›|skip
 all_goals first
  |((with_reducible show Ok _ _ _ _);(try(exfalso;omega));exact seam rfl uw mixed [xO,xN,zK,zJ,zS,zQ,yx,yw,xW,xU,xR,xQ,vw,vk,qP,qO,zav,zau,X7,X6,ZX,ZW] hX [0,1,4] ⟨[(0,.v (.one (.ptr 0 0))),(1,.v (.one (.p (.list .byte body)))),(4,.v (.one (.p (.bool ((t == rC))))))],[.obj 169 [.ptr 1 0,.p (.str m),.p (.str t),.p (.int .i64 mi),.p (.list .fld f),.p (.int .i64 le)],.pack [.obj 78 [.ptr 1 0,.ptr 2 0],.pack [.obj 106 [.row 1,.p (.int .i64 n)],.row .upl 82 l],.pack [.obj 108 [.row 1,.p (.int .i64 s)],.row .byte 5 b]]],84,none⟩ (by kernel_rfl) (key3 _ hbeq hr))
  |with_reducible rfl
  |with_reducible assumption
  |omega
  |exact hs
  |exact hf.1
  |(exact(hf.2 _ ‹_›).1)
  |(exact(hf.2 _ ‹_›).2)
  |exact⟨hf,by decide⟩
  |exact⟨⟨hf,by decide⟩,by assumption⟩
  |(simp only [jh,ji];omega)
  |(exfalso;simp_all;done)
def znZ:Know Tryz.prog:=⟨101,X8,zfo⟩
def znY:Know Tryz.prog:=⟨101,fun I=>zu I (X8 I),zf zfo⟩
end Go.Proofs.YtnpmenpjagcheaaGreatDoor
namespace Go.Proofs.YtnpmenpjagcheaaGreatDoor
open Go Go.Sep Go.Ab
set_option maxRecDepth 100000
theorem te {c:Prop} [Decidable c] {a b:TA} (ha:a.fs.length≤4) (hb:b.fs.length≤4):(if c then a else b).fs.length≤4:=by split<;>assumption
theorem Uu (q:Sto) (m t:Str) (f:List Fld) (body:Str):(yU q m t f body).fs.length≤4:=by
 have h1:(wL q f).fs.length≤4:=by
  unfold wL
  repeat' split
  all_goals simp
 have h2: ∀ u,(uF q u f body).fs.length≤4:=fun u=>by
  unfold uF
  repeat' refine te ?_ ?_
  all_goals simp
 have h3: ∀ u,(zbX q u).fs.length≤4:=fun u=>by unfold zbX;split<;>simp
 have h4: ∀ u,(zbP u).length≤4:=fun u=>by unfold zbP;split<;>simp
 unfold yU
 repeat' split
 all_goals first|exact h1|exact h2 _|exact h3 _|exact h4 _|simp
theorem zxx (m t:Str) (mi:Int) (f:List Fld) (le:Int) (l:List Upl) (n:Int) (b:Str) (s st:Int) (fs:List Fld) (hfs:fs.length≤1000):SpcD Tryz.prog 99 [.ptr 2 0] (.pan (.ifc 164 true [.int .i64 st,.list .fld fs,.list .byte []])) [.pack [.obj 78 [.ptr 1 0,.ptr 2 0],.pack [.obj 106 [.row 1,.p (.int .i64 n)],.row .upl 82 l],.pack [.obj 108 [.row 1,.p (.int .i64 s)],.row .byte 5 b]],.obj 102 [.p (.str m),.p (.str t),.p (.int .i64 mi),.p (.list .fld f),.p (.int .i64 le)],.obj 141 [.p (.int .i64 0),.nilS,.nilS],.obj 169 [.ptr 0 0,.p (.str m),.p (.str t),.p (.int .i64 mi),.p (.list .fld f),.p (.int .i64 le)]] .ret [.pack [.obj 78 [.ptr 1 0,.ptr 2 0],.pack [.obj 106 [.row 1,.p (.int .i64 n)],.row .upl 82 l],.pack [.obj 108 [.row 1,.p (.int .i64 s)],.row .byte 5 b]],.pack [.obj 102 [.p (.str m),.p (.str t),.p (.int .i64 mi),.p (.list .fld f),.p (.int .i64 le)]],.pack [.obj 141 [.p (.int .i64 st),.row 1,.p (.list .byte [])],.row .fld 144 (resT::fs)],.obj 169 [.ptr 0 0,.p (.str m),.p (.str t),.p (.int .i64 mi),.p (.list .fld f),.p (.int .i64 le)]]:=by
 refine Um uw mixed Tryz.func99 (by kernel_rfl) cfgT [yx,yw] (rest:=_) rfl (by kernel_rfl) ?_
 intro I X hI hX
 refine orcL ?_;go_invoke;refine orcS (by kernel_rfl) ?_
 simp only [zi,Nat.reduceAdd];subst hI;simp only [nrmA,nrmB,nrlB,reduceCtorEq,HO.pack.injEq,HO.obj.injEq,jh,ji,List.cons_append,List.nil_append];unfold resT zxm verS
 (repeat' (first|refine ja ?_ ?_|intro _))<;>first|omega|exact jb|exact jc ‹False›|skip
 all_goals first|omega|trivial|rfl|trace_state
def zzd:Door Tryz.prog where
 g:=99
 c :=fun _ m caps hp=>match m,caps,hp with
   |.pan (.ifc 164 true [.int .i64 st,.list .fld fs,.list .byte bb]),[.ptr 2 0],[.pack [.obj 78 [.ptr 1 0,.ptr 2 0],.pack [.obj 106 [.row 1,.p (.int .i64 n)],.row .upl 82 l],.pack [.obj 108 [.row 1,.p (.int .i64 s)],.row .byte 5 b]],.obj 102 [.p (.str m),.p (.str t),.p (.int .i64 mi),.p (.list .fld f),.p (.int .i64 le)],.obj 141 [.p (.int .i64 z0),.nilS,.nilS],.obj 169 [.ptr 0 0,.p (.str m1),.p (.str t1),.p (.int .i64 mi1),.p (.list .fld f1),.p (.int .i64 le1)]]=>some (fs.length≤1000∧bb=[]∧z0=0∧m1=m∧t1=t∧mi1=mi∧f1=f∧le1=le,.ret,[.pack [.obj 78 [.ptr 1 0,.ptr 2 0],.pack [.obj 106 [.row 1,.p (.int .i64 n)],.row .upl 82 l],.pack [.obj 108 [.row 1,.p (.int .i64 s)],.row .byte 5 b]],.pack [.obj 102 [.p (.str m),.p (.str t),.p (.int .i64 mi),.p (.list .fld f),.p (.int .i64 le)]],.pack [.obj 141 [.p (.int .i64 st),.row 1,.p (.list .byte [])],.row .fld 144 (resT::fs)],.obj 169 [.ptr 0 0,.p (.str m),.p (.str t),.p (.int .i64 mi),.p (.list .fld f),.p (.int .i64 le)]])
   |_,_,_=>none
 ok:=by
  intro m caps hp p m' hp' h hp1
  split at h
  · cases h
    obtain⟨h1,rfl,rfl,rfl,rfl,rfl,rfl,rfl⟩:=hp1;exact zxx _ _ _ _ _ _ _ _ _ _ _ h1
  · cases h
def zjK (I:Alg):KU
 |[.v (.one (.ptr 0 0)),.v (.agg [.p (.str m),.p (.str t),.p (.int .i64 mi),.p (.list .fld f),.p (.int .i64 le)]),.v (.one (.p (.list .byte body)))],[.pack [.obj 78 [.ptr 1 0,.ptr 2 0],.pack [.obj 106 [.row 1,.p (.int .i64 n)],.row .upl 82 l],.pack [.obj 108 [.row 1,.p (.int .i64 s)],.row .byte 5 b]]]=>(fun(m t:Str) (f:List Fld) (l:List Upl) (b body:Str)=>(some (.one ⟨I.hid (FOk f∧zI l n∧n≤200000∧b.length≤100000∧body.length≤100000),(.ret (.v (.agg [.p (.int .i64 (I.hid ((yU ⟨l,n,b,s⟩ m t f body).st))),.p (.list .fld (I.hid (resT::(yU ⟨l,n,b,s⟩ m t f body).fs))),.p (.list .byte (I.hid ([])))]))),[.pack [.obj 78 [.ptr 1 0,.ptr 2 0],.pack [.obj 106 [.row 1,.p (.int .i64 (I.hid ((yU ⟨l,n,b,s⟩ m t f body).q.n)))],.row .upl 82 (I.hid ((yU ⟨l,n,b,s⟩ m t f body).q.l))],.pack [.obj 108 [.row 1,.p (.int .i64 (I.hid ((yU ⟨l,n,b,s⟩ m t f body).q.s)))],.row .byte 5 (I.hid ((yU ⟨l,n,b,s⟩ m t f body).q.b))]]]⟩):Option CT)) m t f l b body
 |_,_=>none
theorem zuy:zq Tryz.prog 80 (zjK alg):=by
 intro args hp r h;unfold zjK at h;split at h<;>cases h
 rename_i m t mi f le body n l s b
 revert f l;intro(f:List Fld) (l:List Upl)
 simp only [CT.Good,zh];intro hneed;have hfew:=Uu ⟨l,n,b,s⟩ m t f body;generalize hr:yU ⟨l,n,b,s⟩ m t f body=r at hfew;obtain⟨st,fs,⟨l',n',b',s'⟩⟩:=r
 refine zxA uw mixed Tryz.func80 (by kernel_rfl) { cfgT with keep:=some [0,1,2,4,6,7]} [znZ,znY] zzd (by kernel_rfl) ?_
 intro I X hI hX
 refine orcL ?_;go_invoke;refine orcS (by kernel_rfl) ?_
 simp only [zi,Nat.reduceAdd];subst hI;simp only at hfew;simp only [nrmA,nrmB,nrlB,reduceCtorEq,V0.agg.injEq,HO.pack.injEq,HO.obj.injEq];simp only [hr]
 (repeat' (first|refine ja ?_ ?_|intro _))<;>first|omega|exact jb|exact jc ‹False›|skip
 all_goals first|omega|rfl|assumption|exact hneed.2.1|exact hneed.1.1|(exact(hneed.1.2 _ ‹_›).1)|(exact(hneed.1.2 _ ‹_›).2)|trace_state
def zn7:Know Tryz.prog:=⟨80,zjK,zuy⟩
def zn6:Know Tryz.prog:=⟨80,fun I=>zu I (zjK I),zf zuy⟩
def zf5 (t:Str):Bool:=decide (t=rC)||Lib.hasPrefix t wQ
def Ri (I:Alg):KU
 |[.v (.one (.p (.str t)))],[]=>(fun(t:Str)=>(some (.one ⟨I.hid (t.length≤1000000),(.ret (.v (.one (.p (.bool (I.hid (zf5 t))))))),[]⟩):Option CT)) t
 |_,_=>none
theorem zjI:zq Tryz.prog 129 (Ri alg):=by
 intro args hp r h;unfold Ri at h;split at h<;>cases h
 rename_i t;simp only [CT.Good,zh];intro hneed;generalize hr:zf5 t=r;unfold zf5 at hr
 refine spH Tryz.func129 (by kernel_rfl) { cfgT with keep:=some [0,2]} [xB,xA] (by kernel_rfl) ?_
 intro I X hI hX
 refine orcL ?_;go_invoke;refine orcS (by kernel_rfl) ?_
 simp only [zi,Nat.reduceAdd];subst hI;rw [show([47,102,105,108,101,115]:Str)=rC from rfl]
 try rw [show([47,102,105,108,101,115,47]:Str)=wQ from rfl]
 simp only [nrmA,nrmB,nrlB,reduceCtorEq,V0.agg.injEq]
 by_cases h1:t=rC
 · rw [decide_eq_true h1,Bool.true_or] at hr
   subst hr;simp only [nrmA,nrmB,nrlB,reduceCtorEq,h1]
   (repeat' (first|refine ja ?_ ?_|intro _))<;>first|omega|exact jb|exact jc ‹False›|skip
   all_goals first|omega|rfl|assumption|(simp_all;done)|trace_state
 · rw [decide_eq_false h1,Bool.false_or] at hr
   simp only [nrmA,nrmB,nrlB,reduceCtorEq,h1]
   (repeat' (first|refine ja ?_ ?_|intro _))<;>first|omega|exact jb|exact jc ‹False›|skip
   all_goals first|omega|rfl|assumption|(simp_all;done)|trace_state
def zsk:Know Tryz.prog:=⟨129,Ri,zjI⟩
def zsj:Know Tryz.prog:=⟨129,fun I=>zu I (Ri I),zf zjI⟩
end Go.Proofs.YtnpmenpjagcheaaGreatDoor
namespace Go.Proofs.YtnpmenpjagcheaaGreatDoor
open Go Go.Sep Go.Ab
def zyq:Str:=[47,102,111,114,109]
def znb:Str:=[102,105,108,101,110,97,109,101,32]
def zyb:Str:=[109,117,108,116,105,112,97,114,116,47,102,111,114,109,45,100,97,116,97]
def bndT:Str:=[98,111,117,110,100,97,114,121]
structure GA where
 r:Rpl
 q:Sto
def Xm (st:Int):Rpl:=⟨st,[],[]⟩
def sQ (f:List Fld) (body:Str):List Prt × Int:=
 if(oneT f Zz).2≠0 then([],415)
 else if(xJ (oneT f Zz).1).2≠0∨(xJ (oneT f Zz).1).1.word≠zyb∨(getP (xJ (oneT f Zz).1).1.params bndT).2=false then([],415)
 else if(Z8 (getP (xJ (oneT f Zz).1).1.params bndT).1 body).2≠0 then([],400)
 else((Z8 (getP (xJ (oneT f Zz).1).1.params bndT).1 body).1,0)
def apCd (q:Sto) (id off:Int) (x:Str):Int:=if apG q.l id off then 17 else wsC q (apE id x)
def apQ (q:Sto) (id off:Int) (x:Str):Sto:=if apG q.l id off then q else wsS q (apE id x)
def zbY (id:Int):Ent:=⟨4,id,0,[]⟩
def tX (q:Sto) (p:Prt):Ent:=creE q (p.bytes.length:Int) (znb++p.file)
def zem (q:Sto) (p:Prt):Int:=if wsC q (tX q p)≠0 then wsC q (tX q p) else apCd (wsS q (tX q p)) (q.n+1) 0 p.bytes
def qF (q:Sto) (p:Prt):Sto:=
 if wsC q (tX q p)≠0 then wsS q (tX q p)
 else if apCd (wsS q (tX q p)) (q.n+1) 0 p.bytes≠0 then wsS (apQ (wsS q (tX q p)) (q.n+1) 0 p.bytes) (zbY (q.n+1))
 else apQ (wsS q (tX q p)) (q.n+1) 0 p.bytes
def VQ (q:Sto):List Int→Sto
 |[]=>q
 |k::r=>VQ (wsS q (zbY k)) r
def znS (t:Str) (id:Int) (p:Prt):Str:=t++(decS id++[32]++p.file++[10])
def rD (q:Sto) (ids:List Int) (t:Str):List Prt→GA
 |[]=>⟨⟨201,[],t⟩,syS q⟩
 | p::r=>
   if p.file=[] then rD q ids t r
   else if zem q p≠0 then⟨Xm (if zem q p=4 then 413 else 507),syS (VQ (qF q p) ids)⟩
   else rD (qF q p) (ids++[q.n+1]) (znS t (q.n+1) p) r
def XB:List Prt→Int
 |[]=>0
 |p::r=>((p.bytes.length:Int)+200)+XB r
def XP (q:Sto) (f:List Fld) (body:Str):GA:=
 if(sQ f body).2≠0 then⟨Xm (sQ f body).2,q⟩
 else if zaQ q.b (XB (sQ f body).1)=false then⟨Xm 507,q⟩
 else rD q [] [] (sQ f body).1
def rplT (x:TA):Rpl:=⟨x.st,resT::x.fs,[]⟩
def ansG (q:Sto) (m t:Str) (f:List Fld) (body:Str):GA:=
 if zf5 t then⟨rplT (yU q m t f body),(yU q m t f body).q⟩
 else if t≠zyq then⟨Xm 404,q⟩
 else if m≠zbT then⟨Xm 405,q⟩
 else XP q f body
def zbI (r:Rpl):Str:=writeT r.status r.fields r.body
structure GE where
 q:Sto
 h:Hd
 b:Str
 i:Bool
 w:Bool
 o:Str
def zwR (c:Int):Rpl:=Xm (if c=4 then 413 else 400)
def evG (x:GE) (e:Evt):GE:=
 if e.kind=1 then { x with h:=e.head,b:=[],i:=true,w:=true}
 else if e.kind=2 then { x with b:=x.b++e.bytes}
 else if e.kind=3 then⟨(ansG x.q x.h.method x.h.target x.h.fields x.b).q,x.h,x.b,false,false,x.o++zbI (ansG x.q x.h.method x.h.target x.h.fields x.b).r⟩
 else if e.kind=4 then { x with i:=false,o:=x.o++zbI (zwR e.code)}
 else x
def evsG (x:GE) (l:List Evt):GE:=l.foldl evG x
def fedE (q:Sto) (c:Cn) (b:Str):GE:=evsG ⟨q,c.h,c.body,c.live,c.own,[]⟩ (yI (zM c.q b).out)
def fedC (q:Sto) (c:Cn) (b:Str):Cn:=⟨zM c.q b,(fedE q c b).h,(fedE q c b).b,(fedE q c b).i,(fedE q c b).w⟩
def cn0:Cn:=⟨rq0,hd0,[],false,true⟩
structure GS where
 q:Sto
 c0:Cn
 c1:Cn
 c2:Cn
 c3:Cn
def GS.at (g:GS) (k:Int):Cn:=if k=0 then g.c0 else if k=1 then g.c1 else if k=2 then g.c2 else g.c3
def GS.put (g:GS) (k:Int) (c:Cn) (q:Sto):GS:=⟨q,if k=0 then c else g.c0,if k=1 then c else g.c1,if k=2 then c else g.c2,if k=3 then c else g.c3⟩
def inG (k:Int):Bool:=decide (0≤k)&&decide (k<4)
def ztB (c:Cn):Bool:=c.live&&(decide (c.h.method=zaV)&&(decide (c.body≠[])&&Lib.hasPrefix c.h.target wQ))
def UJ (q:Sto) (c:Cn):Sto:=if ztB c then(yU q c.h.method c.h.target c.h.fields c.body).q else q
def gs0:GS:=⟨⟨[],0,[],0⟩,cn0,cn0,cn0,cn0⟩
end Go.Proofs.YtnpmenpjagcheaaGreatDoor
namespace Go.Proofs.YtnpmenpjagcheaaGreatDoor
open Go Go.Sep Go.Ab
set_option maxRecDepth 100000
def zdp (I:Alg):KU
 |[.v (.one (.p (.int .i64 n)))],[]=>some (.one ⟨I.hid (True),(.ret (.v (.one (.p (.str (I.hid (XW n))))))),[]⟩)
 |_,_=>none
theorem znH:zq Tryz.prog 165 (zdp alg):=by
 intro args hp r h;unfold zdp at h;split at h<;>cases h
 rename_i n;simp only [CT.Good,zh];intro _;generalize hr:XW n=r
 refine spH Tryz.func165 (by kernel_rfl) { keep:=some [0,2,3]} [] (by kernel_rfl) ?_
 intro I X hI hX
 refine orcL ?_;go_invoke;refine orcS (by kernel_rfl) ?_
 simp only [zi,Nat.reduceAdd];subst hI;simp only [nrmA,nrmB];unfold XW at hr
 (repeat' (first|refine ja ?_ ?_|intro _))<;>first|omega|exact jb|exact jc ‹False›|skip
 all_goals((repeat(first|rewrite [if_pos (by first|omega|assumption|(simp only [*,or_self,or_true,true_or,or_false,false_or,jf,jg,jd,je,and_self,and_true,true_and];done)|(simp only [*];omega)|(simp [*];done)|(simp [*];omega))] at hr|rewrite [if_neg (by first|omega|assumption|(simp only [*,or_self,or_true,true_or,or_false,false_or,jf,jg,jd,je,and_self,and_true,true_and];done)|(simp only [*];omega)|(simp [*];done)|(simp [*];omega))] at hr));exact hr)
def znG:Know Tryz.prog:=⟨165,zdp,znH⟩
def znF:Know Tryz.prog:=⟨165,fun I=>zu I (zdp I),zf znH⟩
theorem zhG {fs:List Fld} {i:Nat} (h:i<fs.length):badF (fs.drop i)=if(textF (fs.getD i ⟨[],[]⟩)).2=0 then badF (fs.drop (i+1)) else(textF (fs.getD i ⟨[],[]⟩)).2:=by
 rw [jE h,badF];simp [h]
theorem zc6 {fs:List Fld} {i:Nat} (h:i<fs.length):uY (fs.take (i+1))=uY (fs.take i)++(textF (fs.getD i ⟨[],[]⟩)).1++[13,10]:=by
 rw [jB h,zqV];simp [uY,h]
theorem zqs {st:Int} (h:XW st≠[]):(zgz st).length≤100:=by
 have:=yE st;have:=(XV h).2.2;unfold zgz
 simp;omega
def WX (I:Alg):KU
 |[.v (.agg [.p (.int .i64 st),.p (.list .fld fs),.p (.list .byte b)])],[]=>(fun(fs:List Fld) (b:Str)=>(some (.one ⟨I.hid ((fs.length≤100∧∀ f ∈ fs,f.name.length≤1000000∧f.value.length≤1000000)∧b.length≤9000),(.ret (.tup [.one (.p (.list .byte (I.hid (writeT st fs b)))),.one (.p (.int .i64 (I.hid (zaj st fs))))])),[]⟩):Option CT)) fs b
 |_,_=>none
set_option maxHeartbeats 4000000 in
theorem zfW:zq Tryz.prog 128 (WX alg):=by
 intro args hp r h;unfold WX at h;split at h<;>cases h
 rename_i st fs b
 revert fs;intro(fs:List Fld)
 simp only [CT.Good,zh];intro hneed;obtain⟨⟨hfl,hf⟩,hb⟩:=hneed;generalize hc:zaj st fs=c;generalize ht:writeT st fs b=t;have hwf:=XV (n:=st);have hdl:=yE st;have hhl:=zqs (st:=st);have hbl:=yE (b.length:Int);have hclen:[99,111,110,116,101,110,116,45,108,101,110,103,116,104]=zw7:=rfl
 refine spH Tryz.func128 (by kernel_rfl) { rl:=[0],keep:=some [0,1,2,3,4,6,7,8,37,38,39]} [zdv,zdu,XR,XQ,qH,qG,znG,znF] (by kernel_rfl) ?_
 intro I X hI hX
 refine orcL ?_;go_invoke;refine orcS (by kernel_rfl) ?_
 simp only [zi,Nat.reduceAdd];rw [hclen]
 (repeat' (first|refine ja ?_ ?_|intro _))
 all_goals try(subst hI;(simp only [nrmA,nrmB,nrlB,reduceCtorEq] at *);first|done|trivial|(unfold writeT at ht;unfold zaj at ht hc;((repeat(first|rewrite [if_pos (by first|omega|assumption|(simp only [*,or_self,or_true,true_or,or_false,false_or,jf,jg,jd,je,and_self,and_true,true_and];done)|(simp only [*];omega)|(simp [*];done)|(simp [*];omega))] at hc|rewrite [if_neg (by first|omega|assumption|(simp only [*,or_self,or_true,true_or,or_false,false_or,jf,jg,jd,je,and_self,and_true,true_and];done)|(simp only [*];omega)|(simp [*];done)|(simp [*];omega))] at hc)));subst hc;((repeat(first|rewrite [if_pos (by first|omega|assumption|(simp only [*,or_self,or_true,true_or,or_false,false_or,jf,jg,jd,je,and_self,and_true,true_and];done)|(simp only [*];omega)|(simp [*];done)|(simp [*];omega))] at ht|rewrite [if_neg (by first|omega|assumption|(simp only [*,or_self,or_true,true_or,or_false,false_or,jf,jg,jd,je,and_self,and_true,true_and];done)|(simp only [*];omega)|(simp [*];done)|(simp [*];omega))] at ht)));subst ht;exact⟨rfl,rfl⟩)|(have:=hwf ‹_›;simp only [jk,jh,ji];omega)|(have:=hwf ‹_›;omega)|exact⟨by omega,by decide,hf⟩)
 have hok:XW st≠[]∧fs.length<16∧¬ 0<(valsF fs zw7).length:=by
  subst hI;simp only [nrmA,nrmB,nrlB,reduceCtorEq] at *
  exact⟨by assumption,by omega,by omega⟩
 have hc2:c=badF fs:=by
  rw [← hc,zaj,if_neg hok.1,if_neg (by omega),if_neg hok.2.2]
 have ht2:badF fs=0→t=zgz st++uY fs++zdz b.length++b:=fun h=>by
  rw [← ht,writeT,hc,hc2,if_pos h]
 have ht3:badF fs≠0→t=[]:=fun h=>by rw [← ht,writeT,hc,hc2,if_neg h]
 refine lpH hI [zdv,zdu,XR,XQ,qH,qG,znG,znF] hX [1,3,4,37,38,39] (fun(g:Nat × Str)=>match g with|(i,o)=>i≤fs.length∧o=zgz st++uY (fs.take i)∧badF fs=badF (fs.drop i)) (fun(g:Nat × Str)=>match g with|(i,o)=>⟨[(1,.v (.one (.ptr 0 0))),(3,.v (.one (.p (.int .i64 0)))),(4,.v (.one (.row 1))),(37,.v (.one (.p (.list .fld fs)))),(38,.v (.one (.p (.int .i64 ((I.len (α:=Fld) fs)))))),(39,.v (.one (.p (.int .i64 i))))],[.pack [.obj 141 [.p (.int .i64 st),.p (.list .fld fs),.p (.list .byte b)]],.row .byte 5 o],68,none⟩) (fun(g:Nat × Str)=>match g with|(i,o)=>fs.length - i) (0,(I.app (I.app (I.app (I.app ([72,84,84,80,47,49,46,49,32]:Str) (I.hid (decS st))) [32]) (I.hid (XW st))) [13,10])) (by kernel_rfl) (by kernel_rfl) ?_ ?_
 · refine⟨jM _,?_,rfl⟩
   subst hI;simp only [Yw,zh,zgz,List.take_zero,uY,List.append_nil]
 rintro⟨i,o⟩ ⟨h1,h2,h3⟩ A hA;simp only at hA h1 h2 h3
 refine orcL ?_;go_invoke;refine orcS (by kernel_rfl) ?_
 simp only [zi,Nat.reduceAdd];subst hI;simp only [nrmA,nrmB,nrlB,reduceCtorEq]
 have hx:i<fs.length→(fs.getD i ⟨[],[]⟩) ∈ fs:=fun h=>by rw [show fs.getD i ⟨[],[]⟩=fs[i] by simp [h]];exact List.getElem_mem h
 have hd:i<fs.length→_:=fun h=>zhG (fs:=fs) (i:=i) h;have hk:i<fs.length→_:=fun h=>zc6 (fs:=fs) (i:=i) h
 have hol:(uY (fs.take i)).length≤202 * 16:=by
  have:=qY (fs.take i);rw [jv] at this;have:=hok.2.1;omega
 have hhl:=hhl hok.1
 have hol2:o.length≤4000:=by rw [h2,jk];omega
 have hend: ¬ i<fs.length→badF fs=0∧uY (fs.take i)=uY fs:=fun h=>by
  rw [h3,jF (by omega),jq (by omega)];exact⟨rfl,rfl⟩
 have hfi:=fun h=>hf _ (hx h);have htl:=fun f=>zat f;generalize fs.getD i ⟨[],[]⟩=x at *;have e0:(⟨x.name,x.value⟩:Fld)=x:=rfl;rw [e0];have htl:=htl x
 refine⟨fun c1=>⟨⟨by omega,by omega⟩,⟨by omega,by omega⟩,hfi (by omega),fun c2=> ?_,fun c2=>⟨?_,?_,by omega,?_⟩⟩,fun c1=> ?_⟩
 · have hd:=hd (by omega)
   rw [if_neg c2] at hd
   exact⟨(ht3 (by rw [h3,hd];exact c2)).symm,by rw [hc2,h3,hd]⟩
 · simp only [jh,ji];omega
 · simp only [jk,jh,ji];omega
 · have hd:=hd (by omega)
   rw [if_pos c2] at hd
   exact hA (i+1,o++((textF x).1++[13,10])) ⟨by simp only;omega,by simp only;rw [hk (by omega),h2];simp only [jo],by simp only;rw [h3,hd]⟩ (by simp only;omega)
 · obtain⟨e1,e2⟩:=hend (by omega)
   simp only [jk,jh,ji]
   refine⟨by omega,by omega,by omega,by omega,by omega,?_,by rw [hc2,e1]⟩
   rw [ht2 e1,h2,e2];unfold zdz;simp only [jo]
def zpn:Know Tryz.prog:=⟨128,WX,zfW⟩
def zpm:Know Tryz.prog:=⟨128,fun I=>zu I (WX I),zf zfW⟩
end Go.Proofs.YtnpmenpjagcheaaGreatDoor
namespace Go.Proofs.YtnpmenpjagcheaaGreatDoor
open Go Go.Sep Go.Ab
set_option maxRecDepth 100000
def zbC (s p:Str):Str × Bool:=if s.length<p.length∨lowS (s.take p.length)≠p then([],false) else(s.drop p.length,true)
def zeJ (I:Alg):KU
 |[.v (.one (.p (.str s))),.v (.one (.p (.str p)))],[]=>(fun(s p:Str)=>(some (.one ⟨I.hid (s.length≤1000000∧p.length≤100),(.ret (.tup [.one (.p (.str (I.hid ((zbC s p).1)))),.one (.p (.bool (I.hid ((zbC s p).2))))])),[]⟩):Option CT)) s p
 |_,_=>none
theorem zq4:zq Tryz.prog 240 (zeJ alg):=by
 intro args hp r h;unfold zeJ at h;split at h<;>cases h
 rename_i s p;simp only [CT.Good,zh];intro hneed;obtain⟨h1,h2⟩:=hneed;generalize hr:zbC s p=r;obtain⟨a,k⟩:=r
 refine spH Tryz.func240 (by kernel_rfl) { keep:=some [0,1,4,5]} [wH,wG] (by kernel_rfl) ?_
 intro I X hI hX
 refine orcL ?_;go_invoke;refine orcS (by kernel_rfl) ?_
 simp only [zi,Nat.reduceAdd];subst hI;unfold zbC at hr;simp only [nrmA,nrmB,nrlB,reduceCtorEq]
 (repeat' (first|refine ja ?_ ?_|intro _))<;>first|omega|exact jb|exact jc ‹False›|skip
 all_goals first
  |omega
  |(simp only [jv];omega)
  |(rw [if_pos (Or.inl (by omega))] at hr;cases hr;rfl)
  |(rw [if_pos (Or.inr ‹_›)] at hr;cases hr;rfl)
  |(rw [if_neg (fun h=>h.elim (fun h=>by omega) (fun h=>h ‹_›))] at hr;cases hr;first|rfl|exact jq (by simp))
def zq3:Know Tryz.prog:=⟨240,zeJ,zq4⟩
def zq2:Know Tryz.prog:=⟨240,fun I=>zu I (zeJ I),zf zq4⟩
theorem zzt {r:Str} {i:Nat} (h:i<r.length) (k: ¬ r.getD i 0=37):pctM (r.drop i)=(pctM (r.drop (i+1))).map (r.getD i 0:: ·):=by
 have e:r.getD i 0=r[i]:=by simp [h]
 rw [e] at k;rw [jE h,pctM.eq_def];simp only;rw [if_pos k,e]
theorem zzs {r:Str} {i:Nat} (h:i<r.length) (k:r.getD i 0=37) (h2:r.length≤i+2):pctM (r.drop i)=none:=by
 have e:r.getD i 0=r[i]:=by simp [h]
 rw [e] at k;rw [jE h,pctM.eq_def];simp only [k,ne_eq,jf,if_false]
 have hl:(r.drop (i+1)).length≤1:=by rw [jC];omega
 match hd:r.drop (i+1),hl with
 |[],_=>rfl
 |[_],_=>rfl
 |_::_::_,h=>simp at h
theorem zzu {r:Str} {i:Nat} (h:i+2<r.length) (k:r.getD i 0=37):pctM (r.drop i)=if hexK ((r.getD (i+1) 0).toNat:Int)<0∨hexK ((r.getD (i+2) 0).toNat:Int)<0 then none else(pctM (r.drop (i+3))).map (UInt8.ofNat (16 * hexK ((r.getD (i+1) 0).toNat:Int)+hexK ((r.getD (i+2) 0).toNat:Int)).toNat:: ·):=by
 have h0:i<r.length:=by omega
 have h1:i+1<r.length:=by omega
 have e0:r.getD i 0=r[i]:=by simp [h0]
 have e1:r.getD (i+1) 0=r[i+1]:=by simp [h1]
 have e2:r.getD (i+2) 0=r[i+2]:=by simp [h]
 rw [e0] at k
 rw [jE h0,jE h1,jE h,pctM,if_neg (by simp [k]),e1,e2]
def zeI (I:Alg):KU
 |[.v (.one (.p (.str s)))],[]=>(fun(s:Str)=>(some (.one ⟨I.hid (s.length≤1000000),(.ret (.tup [.one (.p (.str (I.hid (extV s)))),.one (.p (.bool (I.hid (extB s))))])),[]⟩):Option CT)) s
 |_,_=>none
theorem zq1:zq Tryz.prog 238 (zeI alg):=by
 intro args hp r h;unfold zeI at h;split at h<;>cases h
 rename_i s;simp only [CT.Good,zh];intro hneed;unfold extV extB;generalize hr:extM s=r
 refine spH Tryz.func238 (by kernel_rfl) { nr:=[6],keep:=some [0,2,3,4,5,6,7]} [TW,TV,zq3,zq2] (by kernel_rfl) ?_
 intro I X hI hX
 refine orcL ?_;go_invoke;refine orcS (by kernel_rfl) ?_
 simp only [zi,Nat.reduceAdd];rw [show([117,116,102,45,56,39,39]:Str)=utfS from rfl]
 have hc:extM s=if(zbC s utfS).2=false then none else pctM (zbC s utfS).1:=by
  unfold extM zbC
  by_cases h:s.length<7∨lowS (s.take 7)≠utfS
  · rw [if_pos h,if_pos (show s.length<utfS.length∨lowS (s.take utfS.length)≠utfS from h)];rfl
  · rw [if_neg h,if_neg (show ¬ (s.length<utfS.length∨lowS (s.take utfS.length)≠utfS) from h)];rfl
 have hl:(zbC s utfS).1.length≤1000000:=by
  unfold zbC
  split
  · simp
  · simp only [jC];omega
 rw [hc] at hr;generalize(zbC s utfS).2=k at *;generalize(zbC s utfS).1=R at *
 have h7:utfS.length≤100:=by decide
 (repeat' (first|refine ja ?_ ?_|intro _))
 all_goals try(subst hI;(simp only [nrmA,nrmB,nrlB,reduceCtorEq] at *);first|done|trivial|omega|exact⟨hneed,h7⟩|(rw [if_pos ‹_›] at hr;rw [← hr];exact⟨rfl,rfl⟩))
 have hk:k=true:=by
  subst hI;simp only [nrmA,nrmB,nrlB,reduceCtorEq] at *
  simpa using ‹_›
 rw [hk] at hr;simp only [je,if_false] at hr
 rw [show I.hid R=R by subst hI;rfl]
 refine lpH hI [TW,TV,zq3,zq2] hX [4,6,7] (fun(g:Nat × Str)=>match g with|(i,b)=>i≤R.length∧b.length≤i∧r=(pctM (R.drop i)).map (b++ ·)) (fun(g:Nat × Str)=>match g with|(i,b)=>⟨[(4,.v (.one (.p (.str R)))),(6,.v (.one (.row 0))),(7,.v (.one (.p (.int .i64 i))))],[.row .byte 5 b],72,none⟩) (fun(g:Nat × Str)=>match g with|(i,b)=>R.length - i) (0,[]) (by kernel_rfl) (by kernel_rfl) ?_ ?_
 · refine⟨jM _,jL _,?_⟩
   rw [List.drop_zero,hr]
   cases r<;>rfl
 rintro⟨i,b⟩ ⟨h1,h2,h3⟩ A hA;simp only at hA h1 h2 h3
 refine orcL ?_;go_invoke;refine orcS (by kernel_rfl) ?_
 simp only [zi,Nat.reduceAdd];subst hI;simp only [nrmA,nrmB,nrlB,reduceCtorEq]
 have e1:((i:Int)+1).toNat=i+1:=by omega
 have e2:((i:Int)+2).toNat=i+2:=by omega
 rw [e1,e2]
 have b37:(R.getD i 0).toNat=37↔R.getD i 0=37:=⟨fun h=>UInt8.toNat_inj.1 h,fun h=>by rw [h];rfl⟩
 have g0:i<R.length→¬ R.getD i 0=37→_:=fun h k=>zzt h k;have g1:i<R.length→R.getD i 0=37→R.length≤i+2→_:=fun h k=>zzs h k;have g2:i+2<R.length→R.getD i 0=37→_:=fun h k=>zzu h k;have l0:=(R.getD i 0).toNat_lt;have l1:=(R.getD (i+1) 0).toNat_lt;have l2:=(R.getD (i+2) 0).toNat_lt
 have m1:=zev (k:=((R.getD (i+1) 0).toNat:Int)) ⟨by omega,by omega⟩
 have m2:=zev (k:=((R.getD (i+2) 0).toNat:Int)) ⟨by omega,by omega⟩
 have hend: ¬ i<R.length→r=some b:=fun h=>by rw [h3,jF (by omega)];simp [pctM]
 have hA2:=fun(c:UInt8) (j:Nat) (h:i<j) (hj:j≤R.length) (e:pctM (R.drop i)=(pctM (R.drop j)).map (c:: ·))=>hA (j,b++[c]) ⟨hj,by rw [jk,jr];omega,by rw [h3,e,Option.map_map];congr 1;funext x;simp⟩ (by simp only;omega)
 generalize R.getD i 0=x0 at *;generalize R.getD (i+1) 0=x1 at *;generalize R.getD (i+2) 0=x2 at *
 refine⟨fun c=>⟨by omega,fun c2=>⟨by omega,by omega,by simp only [jr];omega,by omega,?_⟩,fun c2=> ?_⟩,fun c=> ?_⟩
 · have:=hA2 x0 (i+1) (by omega) (by omega) (g0 (by omega) (fun h=>c2 (by have:=b37.2 h;omega)))
   simp only [Int.natCast_add,Int.natCast_one] at this;exact this
 · have hx:x0=37:=b37.1 (by omega)
   subst hx
   have gs:R.length≤i+2→r=none:=fun h=>by rw [h3,g1 (by omega) rfl h];rfl
   have gm:=fun h=>g2 h rfl
   have gn:i+2<R.length→(hexK (x1.toNat:Int)<0∨hexK (x2.toNat:Int)<0)→r=none:=fun h k=>by rw [h3,gm h,if_pos k];rfl
   have gy:i+2<R.length→¬ hexK (x1.toNat:Int)<0→¬ hexK (x2.toNat:Int)<0→_:=fun h k k2=>hA2 (UInt8.ofNat (16 * hexK (x1.toNat:Int)+hexK (x2.toNat:Int)).toNat) (i+3) (by omega) (by omega) (by rw [gm h,if_neg (fun q=>q.elim k k2)])
   have wr: ¬ hexK (x1.toNat:Int)<0→¬ hexK (x2.toNat:Int)<0→IntKind.u8.wrap (16 * hexK (x1.toNat:Int)+hexK (x2.toNat:Int))=16 * hexK (x1.toNat:Int)+hexK (x2.toNat:Int):=fun k k2=>zzb _ ⟨by omega,by omega⟩
   (repeat' (first|refine ja ?_ ?_|intro _))<;>first|omega|exact jb|exact jc ‹False›|skip
   all_goals first
    |omega
    |(rw [gs (by omega)];done)
    |(rw [gs (by omega)];rfl)
    |(rw [gn (by omega) (Or.inl ‹_›)];rfl)
    |(rw [gn (by omega) (Or.inr ‹_›)];rfl)
    |(rw [wr ‹_› ‹_›];omega)
    |(simp only [jr];omega)
    |(rw [wr ‹_› ‹_›,show(i:Int)+2+1=((i+3:Nat):Int) by omega];exact gy (by omega) ‹_› ‹_›)
 · rw [hend (by omega)]
   exact⟨rfl,rfl⟩
def zwV:Know Tryz.prog:=⟨238,zeI,zq1⟩
def zwU:Know Tryz.prog:=⟨238,fun I=>zu I (zeI I),zf zq1⟩
end Go.Proofs.YtnpmenpjagcheaaGreatDoor
namespace Go.Proofs.YtnpmenpjagcheaaGreatDoor
open Go Go.Sep Go.Ab
set_option maxRecDepth 100000
theorem zd4: ∀ (n:Nat) (r:Str),r.length≤n→∀ v,pctM r=some v→v.length≤r.length
 |n,[],_,v,h=>by rw [pctM] at h;cases h;exact jL _
 |0,c::r,h,_,_=>by simp at h
 | n + 1,c::r,hl,v,h=>by
   rw [jh] at hl;rw [pctM.eq_def] at h;simp only at h
   split at h
   · cases hp:pctM r with
     |none=>rw [hp] at h;cases h
     | some u=>
       rw [hp] at h;cases h
       have:=zd4 n r (by omega) u hp
       simp only [jh];omega
   · split at h
     · rename_i a b r'
       split at h
       · cases h
       · cases hp:pctM r' with
         |none=>rw [hp] at h;cases h
         | some u=>
           rw [hp] at h;cases h
           have:=zd4 n r' (by simp only [jh] at hl;omega) u hp
           simp only [jh];omega
     · cases h
theorem zt1 (s:Str):(extV s).length≤s.length:=by
 unfold extV extM
 split
 · simp
 · cases h:pctM (s.drop 7) with
   |none=>simp
   | some v=>
     have:=zd4 _ _ (jL _) v h;rw [jC] at this;simp only [Option.getD_some];omega
def PsOk (N:Nat) (l:List Fld):Prop:=l.length≤8∧∀ f ∈ l,f.value.length≤N
theorem zpP (N:Nat): ∀ (n:Nat) (s:Str) (ps:List Fld),s.length≤N→PsOk N ps→PsOk N (medL n s ps).2.1
 |0,s,ps,_,h=>h
 | n + 1, s,ps,hs,h=>by
   rw [medL];have h1:=wS (s.drop 1);have h2:=zd5 (skS (s.drop 1));have h3:=wS (parM (skS (s.drop 1))).2.2;rw [jC] at h1
   split
   · split
     · exact h
     · split
       · exact h
       · split
         · exact h
         · rename_i h8
           refine zpP N n _ _ (by omega) ⟨by rw [jk,jr];have:=h.1;omega,fun f hf=> ?_⟩
           rcases List.mem_append.1 hf with h5|h5
           · exact h.2 f h5
           · rw [List.mem_singleton.1 h5];omega
   · split<;>exact h
theorem zf1 (s:Str):PsOk s.length (xJ s).1.params:=by
 have h0:PsOk s.length []:=⟨by decide,fun f h=>by cases h⟩
 have hb: ∀ w t:Str,t.length≤s.length→PsOk s.length (medB w t).2.1.params:=fun w t ht=>by
  have h1:=wS t
  exact zpP s.length _ _ [] (by omega) h0
 have h1:=wS s;have h2:=ve (skS s);have h3:=ve ((tokE (skS s)).drop 1);rw [jC] at h3
 have hm:PsOk s.length (wu s).2.1.params:=by
  unfold wu medA
  split
  · exact h0
  · split
    · split
      · exact h0
      · exact hb _ _ (by omega)
    · exact hb _ _ (by omega)
 unfold xJ
 split
 · exact h0
 · split
   · exact hm
   · exact h0
theorem zlm {N:Nat} {l:List Fld} (h: ∀ f ∈ l,f.value.length≤N) (n:Str):(getP l n).1.length≤N:=by
 unfold getP
 cases hf:l.find? (fun f=>f.name == n) with
 |none=>simp
 |some f=>exact h f (List.mem_of_find?_eq_some hf)
theorem zth {N:Nat} {l:List Fld} (h: ∀ f ∈ l,f.value.length≤N) (n:Str):(oneF (valsF l n)).1.length≤N:=by
 unfold oneF
 split
 · simp
 · split
   · rename_i h1
     match hv:valsF l n,h1 with
     | [x],_=>
       have:x ∈ valsF l n:=by rw [hv];exact List.mem_singleton.2 rfl
       unfold valsF at this;obtain⟨f,hf,rfl⟩:=List.mem_map.1 this;exact h f (List.mem_filter.1 hf).1
   · simp
def QO (I:Alg):KU
 |[.v (.one (.p (.list .fld l)))],[]=>(fun(l:List Fld)=>(some (.one ⟨I.hid (l.length≤1000∧∀ f ∈ l,f.name.length≤1000000∧f.value.length≤1000000),(.ret (.tup [.agg [.p (.str (I.hid ((Zl l).1.name))),.p (.str (I.hid ((Zl l).1.file))),.p (.str (I.hid ((Zl l).1.type))),.nilS],.one (.p (.int .i64 (I.hid ((Zl l).2))))])),[]⟩):Option CT)) l
 |_,_=>none
theorem zlH:zq Tryz.prog 237 (QO alg):=by
 intro args hp r h;unfold QO at h;split at h<;>cases h
 rename_i l
 revert l;intro(l:List Fld)
 simp only [CT.Good,zh];intro hneed;obtain⟨hl,hf⟩:=hneed;generalize hr:Zl l=r
 refine spH Tryz.func237 (by kernel_rfl) { raw:=true,keep:=some [0,2,3,4,5,6,7,8,9,10,11,12,13,77]} [Yn,Ym,ztY,ztX,zwV,zwU,UG,UF,wO,wM] (by kernel_rfl) ?_
 intro I X hI hX
 refine orcL ?_;go_invoke;refine orcS (by kernel_rfl) ?_
 simp only [zi,Nat.reduceAdd]
 try rw [show([99,111,110,116,101,110,116,45,100,105,115,112,111,115,105,116,105,111,110]:Str)=rG from rfl]
 try rw [show([99,111,110,116,101,110,116,45,116,121,112,101]:Str)=zl2 from rfl]
 try rw [show([102,111,114,109,45,100,97,116,97]:Str)=zvd from rfl]
 try rw [show([102,105,108,101,110,97,109,101]:Str)=ztU from rfl]
 try rw [show([102,105,108,101,110,97,109,101,42]:Str)=zhn from rfl]
 try rw [show([110,97,109,101]:Str)=zwc from rfl]
 have hk1:rG.length≤1000000:=by decide
 have hk2:zl2.length≤1000000:=by decide
 have hv:=zth (fun f h=>(hf f h).2) rG;have hp:=zf1 (oneF (valsF l rG)).1;have hg:=fun n=>zlm hp.2 n;have hg1:=hg zhn;have hg2:=hg ztU;have hx:=zt1 (getP (xJ (oneF (valsF l rG)).1).1.params zhn).1;unfold Zl at hr;subst hI;simp only [nrmA,nrmB,nrlB,reduceCtorEq];have hpl:=hp.1;clear hp hg;generalize oneF (valsF l zl2)=t at *;generalize getP (xJ (oneF (valsF l rG)).1).1.params zhn=x at *;generalize getP (xJ (oneF (valsF l rG)).1).1.params ztU=f at *;generalize getP (xJ (oneF (valsF l rG)).1).1.params zwc=n at *;generalize xJ (oneF (valsF l rG)).1=m at *;generalize oneF (valsF l rG)=a at *;unfold ztc zvY partT at hr
 (repeat' (first|refine ja ?_ ?_|intro _))<;>first|omega|exact jb|exact jc ‹False›|skip
 all_goals first
  |omega
  |exact hl
  |exact hk1
  |exact hk2
  |exact(hf _ ‹_›).1
  |exact(hf _ ‹_›).2
  |exact absurd (‹extB x.fst=true›.symm.trans ‹extB x.fst=false›) (by decide)
  |(subst hr;clear hf hX hv hg1 hg2 hx hpl hl hk1 hk2;simp [*,prt0];done)
def zlG:Know Tryz.prog:=⟨237,QO,zlH⟩
def zlF:Know Tryz.prog:=⟨237,fun I=>zu I (QO I),zf zlH⟩
end Go.Proofs.YtnpmenpjagcheaaGreatDoor
namespace Go.Proofs.YtnpmenpjagcheaaGreatDoor
open Go Go.Sep Go.Ab
set_option maxRecDepth 100000
def zw8:Cfg:= { sl:=[⟨154,0,.byte,some 5⟩]}
def Qw (I:Alg):KU
 |[],[]=>some (.one ⟨I.hid (True),(.ret (.v (.one (.ptr 0 0)))),[.pack [.obj 154 [.row 1,.p (.bool false),.p (.int .i64 0)],.row .byte 5 (I.hid ([]))]]⟩)
 |_,_=>none
theorem zk5:zq Tryz.prog 67 (Qw alg):=by
 intro args hp r h;unfold Qw at h;split at h<;>cases h
 simp only [CT.Good,zh];intro _
 refine spH Tryz.func67 (by kernel_rfl) { zw8 with keep:=some [0]} [] (by kernel_rfl) ?_
 intro I X hI hX
 refine orcL ?_;go_invoke;refine orcS (by kernel_rfl) ?_
 simp only [zi,Nat.reduceAdd];trivial
def Qv:Know Tryz.prog:=⟨67,Qw,zk5⟩
def Qu:Know Tryz.prog:=⟨67,fun I=>zu I (Qw I),zf zk5⟩
def Vk (I:Alg):KU
 |[.v (.one (.ptr 0 0)),.v (.one (.p (.int .i64 c)))],[.pack [.obj 154 [.row 1,.p (.bool cr),.p (.int .i64 code)],.row .byte 5 b]]=>(fun(b:Str)=>(some (.one ⟨I.hid (True),(.ret (.tup [.one (.p (.str (I.hid ([])))),.one (.p (.bool false)),.one (.p (.int .i64 c))])),[.pack [.obj 154 [.row 1,.p (.bool cr),.p (.int .i64 c)],.row .byte 5 b]]⟩):Option CT)) b
 |_,_=>none
theorem zgh:zq Tryz.prog 161 (Vk alg):=by
 intro args hp r h;unfold Vk at h;split at h<;>cases h
 rename_i c cr code b;simp only [CT.Good,zh];intro _
 refine spH Tryz.func161 (by kernel_rfl) { zw8 with keep:=some [0,1,4,5,6]} [] (by kernel_rfl) ?_
 intro I X hI hX
 refine orcL ?_;go_invoke;refine orcS (by kernel_rfl) ?_
 simp only [zi,Nat.reduceAdd];subst hI;simp only [nrmA,nrmB,nrlB,reduceCtorEq,HO.pack.injEq,HO.obj.injEq]
 try trivial
def zpW:Know Tryz.prog:=⟨161,Vk,zgh⟩
def zpV:Know Tryz.prog:=⟨161,fun I=>zu I (Vk I),zf zgh⟩
def Vj (I:Alg):KU
 |[.v (.one (.ptr 0 0)),.v (.one (.p (.int .u8 k)))],[.pack [.obj 154 [.row 1,.p (.bool cr),.p (.int .i64 code)],.row .byte 5 b]]=>(fun(b:Str)=>(some (.one ⟨I.hid (0≤k∧k≤255∧b.length≤1000000),(.ret (.tup [.one (.p (.str (I.hid ((lnF ⟨b,cr,code⟩ (UInt8.ofNat k.toNat)).2.1)))),.one (.p (.bool (I.hid ((lnF ⟨b,cr,code⟩ (UInt8.ofNat k.toNat)).2.2.1)))),.one (.p (.int .i64 (I.hid ((lnF ⟨b,cr,code⟩ (UInt8.ofNat k.toNat)).2.2.2))))])),[.pack [.obj 154 [.row 1,.p (.bool (I.hid ((lnF ⟨b,cr,code⟩ (UInt8.ofNat k.toNat)).1.cr))),.p (.int .i64 (I.hid ((lnF ⟨b,cr,code⟩ (UInt8.ofNat k.toNat)).1.code)))],.row .byte 5 (I.hid ((lnF ⟨b,cr,code⟩ (UInt8.ofNat k.toNat)).1.b))]]⟩):Option CT)) b
 |_,_=>none
set_option maxHeartbeats 4000000 in
theorem zgg:zq Tryz.prog 126 (Vj alg):=by
 intro args hp r h;unfold Vj at h;split at h<;>cases h
 rename_i k cr code b;simp only [CT.Good,zh];intro hneed;obtain⟨hk0,hk1,hbl⟩:=hneed
 have hkk:((UInt8.ofNat k.toNat).toNat:Int)=k:=by rw [UInt8.toNat_ofNat',Nat.mod_eq_of_lt (by omega)];omega
 generalize hr:lnF ⟨b,cr,code⟩ (UInt8.ofNat k.toNat)=r
 have h10:UInt8.ofNat k.toNat=10↔k=10:=⟨fun h=>by rw [h] at hkk;exact hkk.symm,fun h=>by subst h;rfl⟩
 have h13:UInt8.ofNat k.toNat=13↔k=13:=⟨fun h=>by rw [h] at hkk;exact hkk.symm,fun h=>by subst h;rfl⟩
 unfold lnF zxG at hr;rw [hkk] at hr;simp only [h10,h13] at hr;obtain⟨⟨rb,rc,rcode⟩,rt,ro,re⟩:=r
 refine spH Tryz.func126 (by kernel_rfl) { zw8 with nr:=[8],keep:=some [0,1,4,5,6,7]} [wV,sD,zpW,zpV] (by kernel_rfl) ?_
 intro I X hI hX
 refine orcL ?_;go_invoke;refine orcS (by kernel_rfl) ?_
 simp only [zi,Nat.reduceAdd];subst hI;simp only [nrmA,nrmB,nrlB,reduceCtorEq,HO.pack.injEq,HO.obj.injEq];generalize UInt8.ofNat k.toNat=c at *;cases cr
 all_goals simp only [jd,if_false,if_true] at hr
 all_goals(repeat' (first|refine ja ?_ ?_|intro _))<;>first|omega|exact jb|exact jc ‹False›|skip
 all_goals first
  |omega
  |(exfalso;simp at *;done)
  |(((repeat(first|rewrite [if_pos (by first|omega|assumption|(simp only [*,or_self,or_true,true_or,or_false,false_or,jf,jg,jd,je,and_self,and_true,true_and];done)|(simp only [*];omega)|(simp [*];done)|(simp [*];omega))] at hr|rewrite [if_neg (by first|omega|assumption|(simp only [*,or_self,or_true,true_or,or_false,false_or,jf,jg,jd,je,and_self,and_true,true_and];done)|(simp only [*];omega)|(simp [*];done)|(simp [*];omega))] at hr)));cases hr;first|rfl|done|with_reducible assumption|exact⟨rfl,rfl,rfl⟩|(simp;done)|(simp;omega))
def sV:Know Tryz.prog:=⟨126,Vj,zgg⟩
def sU:Know Tryz.prog:=⟨126,fun I=>zu I (Vj I),zf zgg⟩
end Go.Proofs.YtnpmenpjagcheaaGreatDoor
namespace Go.Proofs.YtnpmenpjagcheaaGreatDoor
open Go Go.Sep Go.Ab
set_option maxRecDepth 100000
def cfgF:Cfg:= { sl:=[⟨154,0,.byte,some 5⟩,⟨278,0,.byte,some 5⟩,⟨278,1,.int,some 3⟩,⟨275,3,.fld,some 144⟩,⟨275,7,.evt,some 138⟩]}
def wY (f:Fm):Prop:=f.out.length≤10000000
def fm9 (f:Fm):Prop:=f.out.length≤9000000
theorem u8k {k:Int} (h0:0≤k) (h1:k≤255) (n:Nat) (hn:n<256):(UInt8.ofNat k.toNat=UInt8.ofNat n)=(k=n):=by
 rw [← UInt8.toNat_inj,UInt8.toNat_ofNat',UInt8.toNat_ofNat',Nat.mod_eq_of_lt hn,Nat.mod_eq_of_lt (by omega)]
 exact propext ⟨fun h=>by omega,fun h=>by omega⟩
def VD (I:Alg):KU
 |[.v (.one (.ptr 0 0)),.v (.agg [.p (.int .i64 k),.p (.str ea),.p (.str eb),.p (.int .i64 ei),.p (.list .fld ef),.p (.int .i64 en),.p (.list .byte ebs),.p (.str ex),.p (.str ey),.p (.str ez),.p (.nl et),.p (.int .i64 ec)])],[.abs (.fm ⟨m,hd,bs,p,none,fs,pa,sk,co,out⟩)]=>(fun(m:Str) (bs:List Int) (fs:List Fld) (out:List Evt) (ea eb:Str) (ef:List Fld) (ebs ex ey ez et:Str)=>(some (.one ⟨I.hid (wY ⟨m,hd,bs,p,none,fs,pa,sk,co,out⟩),(.ret (.tup [])),[.abs (.fm ⟨m,hd,bs,p,none,fs,pa,sk,co,(I.hid (out++[⟨k,⟨ea,eb,ei,ef,en⟩,ebs,⟨ex,ey,ez,et⟩,ec⟩]))⟩)]⟩):Option CT)) m bs fs out ea eb ef ebs ex ey ez et
 |_,_=>none
theorem zg8:zq Tryz.prog 235 (VD alg):=by
 intro args hp r h;unfold VD at h;split at h<;>cases h
 rename_i k ea eb ei ef en ebs ex ey ez et ec m hd bs p fs pa sk co out
 revert ef bs fs out;intro(ef:List Fld) (bs:List Int) (fs:List Fld) (out:List Evt)
 simp only [CT.Good,zh];intro hneed;unfold wY at hneed;simp only at hneed
 refine spH Tryz.func235 (by kernel_rfl) { cfgF with keep:=some [0,1,3]} [] (by kernel_rfl) ?_
 intro I X hI hX
 refine orcL ?_;go_invoke;refine orcS (by kernel_rfl) ?_
 simp only [zi,Nat.reduceAdd];subst hI;simp only [nrmA,nrmB,nrlB,reduceCtorEq,HO.abs.injEq,Gh.fm.injEq,Fm.mk.injEq]
 (repeat' (first|refine ja ?_ ?_|intro _))<;>first|omega|exact jb|exact jc ‹False›|skip
 all_goals first
  |omega
  |rfl
  |with_reducible assumption
  |(simp only [jh,ji];omega)
  |(unfold wY;simp only;omega)
  |(simp;done)
def vH:Know Tryz.prog:=⟨235,VD,zg8⟩
def vG:Know Tryz.prog:=⟨235,fun I=>zu I (VD I),zf zg8⟩
def VB (I:Alg):KU
 |[.v (.one (.ptr 0 0)),.v (.agg [.p (.int .i64 k),.p (.str ea),.p (.str eb),.p (.int .i64 ei),.p (.list .fld ef),.p (.int .i64 en),.p (.list .byte ebs),.p (.str ex),.p (.str ey),.p (.str ez),.p (.nl et),.p (.int .i64 ec)])],[.abs (.fm ⟨m,hd,bs,p,some ln,fs,pa,sk,co,out⟩)]=>(fun(m:Str) (bs:List Int) (fs:List Fld) (out:List Evt) (ea eb:Str) (ef:List Fld) (ebs ex ey ez et:Str)=>(some (.one ⟨I.hid (wY ⟨m,hd,bs,p,some ln,fs,pa,sk,co,out⟩),(.ret (.tup [])),[.abs (.fm ⟨m,hd,bs,p,some ln,fs,pa,sk,co,(I.hid (out++[⟨k,⟨ea,eb,ei,ef,en⟩,ebs,⟨ex,ey,ez,et⟩,ec⟩]))⟩)]⟩):Option CT)) m bs fs out ea eb ef ebs ex ey ez et
 |_,_=>none
theorem zg7:zq Tryz.prog 235 (VB alg):=by
 intro args hp r h;unfold VB at h;split at h<;>cases h
 rename_i k ea eb ei ef en ebs ex ey ez et ec m hd bs p ln fs pa sk co out
 revert ef bs fs out;intro(ef:List Fld) (bs:List Int) (fs:List Fld) (out:List Evt)
 simp only [CT.Good,zh];intro hneed;unfold wY at hneed;simp only at hneed
 refine spH Tryz.func235 (by kernel_rfl) { cfgF with keep:=some [0,1,3]} [vH,vG] (by kernel_rfl) ?_
 intro I X hI hX
 refine orcL ?_;go_invoke;refine orcS (by kernel_rfl) ?_
 simp only [zi,Nat.reduceAdd];subst hI;simp only [nrmA,nrmB,nrlB,reduceCtorEq,HO.abs.injEq,Gh.fm.injEq,Fm.mk.injEq]
 (repeat' (first|refine ja ?_ ?_|intro _))<;>first|omega|exact jb|exact jc ‹False›|skip
 all_goals first
  |omega
  |rfl
  |with_reducible assumption
  |(simp only [jh,ji];omega)
  |(unfold wY;simp only;omega)
  |(simp;done)
def uN:Know Tryz.prog:=⟨235,VB,zg7⟩
def uM:Know Tryz.prog:=⟨235,fun I=>zu I (VB I),zf zg7⟩
theorem zlw (m:Str) (hd:Int) (bs:List Int) (p:Int) (fs:List Fld) (pa sk co:Int) (out:List Evt) (c:Int) (hneed:wY ⟨m,hd,bs,p,none,fs,pa,sk,co,out⟩):Spc Tryz.prog 233 [.v (.one (.ptr 0 0)),.v (.one (.p (.int .i64 c)))] [.abs (.fm ⟨m,hd,bs,p,none,fs,pa,sk,co,out⟩)] (.ret (.tup [])) [.abs (.fm ((xg ⟨m,hd,bs,p,none,fs,pa,sk,co,out⟩ c)))]:=by
 unfold wY at hneed;simp only at hneed
 refine spH Tryz.func233 (by kernel_rfl) { cfgF with keep:=some [0,1]} [vH,vG,uN,uM] (by kernel_rfl) ?_
 intro I X hI hX
 refine orcL ?_;go_invoke;refine orcS (by kernel_rfl) ?_
 simp only [zi,Nat.reduceAdd];subst hI;simp only [nrmA,nrmB,nrlB,reduceCtorEq,HO.abs.injEq,Gh.fm.injEq,Fm.mk.injEq]
 (repeat' (first|refine ja ?_ ?_|intro _))<;>first|omega|exact jb|exact jc ‹False›|skip
 all_goals first
  |omega
  |rfl
  |with_reducible assumption
  |(simp only [jh,ji];omega)
  |(unfold wY;simp only;omega)
  |(simp;done)
def Y8 (I:Alg):KU
 |[.v (.one (.ptr 0 0)),.v (.one (.p (.int .i64 c)))],[.abs (.fm ⟨m,hd,bs,p,none,fs,pa,sk,co,out⟩)]=>(fun(m:Str) (bs:List Int) (fs:List Fld) (out:List Evt)=>(some (.one ⟨I.hid (wY ⟨m,hd,bs,p,none,fs,pa,sk,co,out⟩),(.ret (.tup [])),[.abs (.fm (I.hid (xg ⟨m,hd,bs,p,none,fs,pa,sk,co,out⟩ c)))]⟩):Option CT)) m bs fs out
 |_,_=>none
theorem zcX:zq Tryz.prog 233 (Y8 alg):=by
 intro args hp r h;unfold Y8 at h
 split at h
 · cases h;exact fun hn=>zlw _ _ _ _ _ _ _ _ _ _ hn
 · cases h
def zng:Know Tryz.prog:=⟨233,Y8,zcX⟩
def znf:Know Tryz.prog:=⟨233,fun I=>zu I (Y8 I),zf zcX⟩
theorem ztQ (m:Str) (hd:Int) (bs:List Int) (p:Int) (ln:Ln) (fs:List Fld) (pa sk co:Int) (out:List Evt) (c:Int) (hneed:wY ⟨m,hd,bs,p,some ln,fs,pa,sk,co,out⟩):Spc Tryz.prog 233 [.v (.one (.ptr 0 0)),.v (.one (.p (.int .i64 c)))] [.abs (.fm ⟨m,hd,bs,p,some ln,fs,pa,sk,co,out⟩)] (.ret (.tup [])) [.abs (.fm ((xg ⟨m,hd,bs,p,some ln,fs,pa,sk,co,out⟩ c)))]:=by
 unfold wY at hneed;simp only at hneed
 refine spH Tryz.func233 (by kernel_rfl) { cfgF with keep:=some [0,1]} [vH,vG,uN,uM,zng,znf] (by kernel_rfl) ?_
 intro I X hI hX
 refine orcL ?_;go_invoke;refine orcS (by kernel_rfl) ?_
 simp only [zi,Nat.reduceAdd];subst hI;simp only [nrmA,nrmB,nrlB,reduceCtorEq,HO.abs.injEq,Gh.fm.injEq,Fm.mk.injEq]
 (repeat' (first|refine ja ?_ ?_|intro _))<;>first|omega|exact jb|exact jc ‹False›|skip
 all_goals first
  |omega
  |rfl
  |with_reducible assumption
  |(simp only [jh,ji];omega)
  |(unfold wY;simp only;omega)
  |(simp;done)
def VI (I:Alg):KU
 |[.v (.one (.ptr 0 0)),.v (.one (.p (.int .i64 c)))],[.abs (.fm f)]=>some (.one ⟨I.hid (wY f),(.ret (.tup [])),[.abs (.fm (I.hid (xg f c)))]⟩)
 |_,_=>none
theorem zhg:zq Tryz.prog 233 (VI alg):=by
 intro args hp r h;unfold VI at h;split at h<;>cases h
 rename_i c f;simp only [CT.Good,zh];intro hneed;obtain⟨m,hd,bs,p,ln,fs,pa,sk,co,out⟩:=f
 cases ln with
 |none=>exact zlw m hd bs p fs pa sk co out c hneed
 |some ln=>exact ztQ m hd bs p ln fs pa sk co out c hneed
def uQ:Know Tryz.prog:=⟨233,VI,zhg⟩
def uP:Know Tryz.prog:=⟨233,fun I=>zu I (VI I),zf zhg⟩
theorem zc2 (m:Str) (hd:Int) (bs:List Int) (p:Int) (fs:List Fld) (pa sk co:Int) (out:List Evt) (k:Int) (hneed:wY ⟨m,hd,bs,p,none,fs,pa,sk,co,out⟩∧0≤k∧k≤255):Spc Tryz.prog 232 [.v (.one (.ptr 0 0)),.v (.one (.p (.int .u8 k)))] [.abs (.fm ⟨m,hd,bs,p,none,fs,pa,sk,co,out⟩)] (.ret (.tup [])) [.abs (.fm ((wz ⟨m,hd,bs,p,none,fs,pa,sk,co,out⟩ (UInt8.ofNat k.toNat))))]:=by
 obtain⟨hneed,h0,h1⟩:=hneed;have hc:=fun n=>u8k h0 h1 n
 have h45:(UInt8.ofNat k.toNat=45)=(k=45):=hc 45 (by decide)
 have h32:(UInt8.ofNat k.toNat=32)=(k=32):=hc 32 (by decide)
 have h9:(UInt8.ofNat k.toNat=9)=(k=9):=hc 9 (by decide)
 have h13:(UInt8.ofNat k.toNat=13)=(k=13):=hc 13 (by decide)
 clear hc;generalize UInt8.ofNat k.toNat=c at *;unfold wY at hneed;simp only at hneed;generalize hr:wz ⟨m,hd,bs,p,none,fs,pa,sk,co,out⟩ c=r;unfold wz at hr;simp only [h45,h32,h9,h13] at hr
 refine spH Tryz.func232 (by kernel_rfl) { cfgF with keep:=some [0,1,4]} [vH,vG,uN,uM,uQ,uP] (by kernel_rfl) ?_
 intro I X hI hX
 refine orcL ?_;go_invoke;refine orcS (by kernel_rfl) ?_
 simp only [zi,Nat.reduceAdd];subst hI;simp only [nrmA,nrmB,nrlB,reduceCtorEq,HO.abs.injEq,Gh.fm.injEq]
 (repeat' (first|refine ja ?_ ?_|intro _))<;>first|omega|exact jb|exact jc ‹False›|skip
 all_goals first
  |omega
  |(unfold wY;simp only;omega)
  |(subst hr;simp [*,xg,evE,hd0,prt0];done)
def ql (I:Alg):KU
 |[.v (.one (.ptr 0 0)),.v (.one (.p (.int .u8 k)))],[.abs (.fm ⟨m,hd,bs,p,none,fs,pa,sk,co,out⟩)]=>(fun(m:Str) (bs:List Int) (fs:List Fld) (out:List Evt)=>(some (.one ⟨I.hid (wY ⟨m,hd,bs,p,none,fs,pa,sk,co,out⟩∧0≤k∧k≤255),(.ret (.tup [])),[.abs (.fm (I.hid (wz ⟨m,hd,bs,p,none,fs,pa,sk,co,out⟩ (UInt8.ofNat k.toNat))))]⟩):Option CT)) m bs fs out
 |_,_=>none
theorem Sj:zq Tryz.prog 232 (ql alg):=by
 intro args hp r h;unfold ql at h
 split at h
 · cases h;exact fun hn=>zc2 _ _ _ _ _ _ _ _ _ _ hn
 · cases h
def zhj:Know Tryz.prog:=⟨232,ql,Sj⟩
def zhi:Know Tryz.prog:=⟨232,fun I=>zu I (ql I),zf Sj⟩
theorem znh (m:Str) (hd:Int) (bs:List Int) (p:Int) (ln:Ln) (fs:List Fld) (pa sk co:Int) (out:List Evt) (k:Int) (hneed:wY ⟨m,hd,bs,p,some ln,fs,pa,sk,co,out⟩∧0≤k∧k≤255):Spc Tryz.prog 232 [.v (.one (.ptr 0 0)),.v (.one (.p (.int .u8 k)))] [.abs (.fm ⟨m,hd,bs,p,some ln,fs,pa,sk,co,out⟩)] (.ret (.tup [])) [.abs (.fm ((wz ⟨m,hd,bs,p,some ln,fs,pa,sk,co,out⟩ (UInt8.ofNat k.toNat))))]:=by
 obtain⟨hneed,h0,h1⟩:=hneed;have hc:=fun n=>u8k h0 h1 n
 have h45:(UInt8.ofNat k.toNat=45)=(k=45):=hc 45 (by decide)
 have h32:(UInt8.ofNat k.toNat=32)=(k=32):=hc 32 (by decide)
 have h9:(UInt8.ofNat k.toNat=9)=(k=9):=hc 9 (by decide)
 have h13:(UInt8.ofNat k.toNat=13)=(k=13):=hc 13 (by decide)
 clear hc;generalize UInt8.ofNat k.toNat=c at *;unfold wY at hneed;simp only at hneed;generalize hr:wz ⟨m,hd,bs,p,some ln,fs,pa,sk,co,out⟩ c=r;unfold wz at hr;simp only [h45,h32,h9,h13] at hr
 refine spH Tryz.func232 (by kernel_rfl) { cfgF with keep:=some [0,1,4]} [vH,vG,uN,uM,uQ,uP,zhj,zhi] (by kernel_rfl) ?_
 intro I X hI hX
 refine orcL ?_;go_invoke;refine orcS (by kernel_rfl) ?_
 simp only [zi,Nat.reduceAdd];subst hI;simp only [nrmA,nrmB,nrlB,reduceCtorEq,HO.abs.injEq,Gh.fm.injEq]
 (repeat' (first|refine ja ?_ ?_|intro _))<;>first|omega|exact jb|exact jc ‹False›|skip
 all_goals first
  |omega
  |(unfold wY;simp only;omega)
  |(subst hr;simp [*,xg,evE,hd0,prt0];done)
def Zw (I:Alg):KU
 |[.v (.one (.ptr 0 0)),.v (.one (.p (.int .u8 k)))],[.abs (.fm f)]=>some (.one ⟨I.hid (wY f∧0≤k∧k≤255),(.ret (.tup [])),[.abs (.fm (I.hid (wz f (UInt8.ofNat k.toNat))))]⟩)
 |_,_=>none
theorem zbw:zq Tryz.prog 232 (Zw alg):=by
 intro args hp r h;unfold Zw at h;split at h<;>cases h
 rename_i k f;simp only [CT.Good,zh];intro hneed;obtain⟨m,hd,bs,p,ln,fs,pa,sk,co,out⟩:=f
 cases ln with
 |none=>exact zc2 m hd bs p fs pa sk co out k hneed
 |some ln=>exact znh m hd bs p ln fs pa sk co out k hneed
def zbv:Know Tryz.prog:=⟨232,Zw,zbw⟩
def zbu:Know Tryz.prog:=⟨232,fun I=>zu I (Zw I),zf zbw⟩
structure FmS (f:Fm):Prop where
 bs:f.bs=SS f.mark
 ml:f.mark.length≤1000000
 h0:0≤f.held
 h1:f.mark=[]∨f.held<f.mark.length
 s0:0≤f.skip∧f.skip≤2
theorem zhh (m:Str) (hd:Int) (bs:List Int) (p:Int) (fs:List Fld) (pa sk co:Int) (out:List Evt) (k:Int) (hneed:fm9 ⟨m,hd,bs,p,none,fs,pa,sk,co,out⟩∧FmS ⟨m,hd,bs,p,none,fs,pa,sk,co,out⟩∧0≤k∧k≤255):Spc Tryz.prog 231 [.v (.one (.ptr 0 0)),.v (.one (.p (.int .u8 k)))] [.abs (.fm ⟨m,hd,bs,p,none,fs,pa,sk,co,out⟩)] (.ret (.tup [])) [.abs (.fm ((vI ⟨m,hd,bs,p,none,fs,pa,sk,co,out⟩ (UInt8.ofNat k.toNat))))]:=by
 obtain⟨hneed,⟨hbs,hml,hh0,hh1,hs0⟩,h0,h1⟩:=hneed;unfold fm9 at hneed;simp only at hneed hbs hml hh0 hh1 hs0;generalize hr:vI ⟨m,hd,bs,p,none,fs,pa,sk,co,out⟩ (UInt8.ofNat k.toNat)=r;unfold vI uX fmSk at hr;simp only [Int.min_def] at hr
 refine spH Tryz.func231 (by kernel_rfl) { cfgF with fz:=[235],keep:=some [0,1,4,5,6]} [U5,U4,vH,vG,uN,uM] (by kernel_rfl) ?_
 intro I X hI hX
 refine orcL ?_;go_invoke;refine orcS (by kernel_rfl) ?_
 simp only [zi,Nat.reduceAdd];generalize rE m hd.toNat (UInt8.ofNat k.toNat)=q at *;obtain⟨o,n2,fd⟩:=q;subst hI;simp only [nrmA,nrmB,nrlB,reduceCtorEq,HO.abs.injEq,Gh.fm.injEq];simp only at hr
 have hn:0≤(if sk≤(o.length:Int) then sk else(o.length:Int))∧(if sk≤(o.length:Int) then sk else(o.length:Int))≤o.length∧(if sk≤(o.length:Int) then sk else(o.length:Int))≤sk:=by split<;>omega
 generalize(if sk≤(o.length:Int) then sk else(o.length:Int))=n at *
 rw [jq (show(o.drop n.toNat).length≤o.length - n.toNat by rw [jC];exact jL _)]
 have hne:0<(o.length:Int) - n→¬ o.drop n.toNat=[]:=fun h k=>by have:=congrArg List.length k;rw [jC,ji] at this;omega
 have hnn: ¬ 0<(o.length:Int) - n→o.drop n.toNat=[]:=fun h=>jF (by omega)
 generalize o.drop n.toNat=D at *
 (repeat' (first|refine ja ?_ ?_|intro _))<;>first|omega|exact jb|exact jc ‹False›|skip
 all_goals first
  |omega
  |with_reducible assumption
  |(unfold wY;simp only [jk,jr];omega)
  |(have hne:=hne (by omega);clear hnn;subst hr;simp [*,evB,evO,hd0,prt0];done)
  |(have hnn:=hnn (by omega);clear hne;subst hr;simp [*,evB,evO,hd0,prt0];done)
  |(clear hne hnn;subst hr;simp [*,evB,evO,hd0,prt0];done)
def Zv (I:Alg):KU
 |[.v (.one (.ptr 0 0)),.v (.one (.p (.int .u8 k)))],[.abs (.fm ⟨m,hd,bs,p,none,fs,pa,sk,co,out⟩)]=>(fun(m:Str) (bs:List Int) (fs:List Fld) (out:List Evt)=>(some (.one ⟨I.hid (fm9 ⟨m,hd,bs,p,none,fs,pa,sk,co,out⟩∧FmS ⟨m,hd,bs,p,none,fs,pa,sk,co,out⟩∧0≤k∧k≤255),(.ret (.tup [])),[.abs (.fm (I.hid (vI ⟨m,hd,bs,p,none,fs,pa,sk,co,out⟩ (UInt8.ofNat k.toNat))))]⟩):Option CT)) m bs fs out
 |_,_=>none
theorem zbt:zq Tryz.prog 231 (Zv alg):=by
 intro args hp r h;unfold Zv at h
 split at h
 · cases h;exact fun hn=>zhh _ _ _ _ _ _ _ _ _ _ hn
 · cases h
def ziV:Know Tryz.prog:=⟨231,Zv,zbt⟩
def ziU:Know Tryz.prog:=⟨231,fun I=>zu I (Zv I),zf zbt⟩
theorem zqQ (m:Str) (hd:Int) (bs:List Int) (p:Int) (ln:Ln) (fs:List Fld) (pa sk co:Int) (out:List Evt) (k:Int) (hneed:fm9 ⟨m,hd,bs,p,some ln,fs,pa,sk,co,out⟩∧FmS ⟨m,hd,bs,p,some ln,fs,pa,sk,co,out⟩∧0≤k∧k≤255):Spc Tryz.prog 231 [.v (.one (.ptr 0 0)),.v (.one (.p (.int .u8 k)))] [.abs (.fm ⟨m,hd,bs,p,some ln,fs,pa,sk,co,out⟩)] (.ret (.tup [])) [.abs (.fm ((vI ⟨m,hd,bs,p,some ln,fs,pa,sk,co,out⟩ (UInt8.ofNat k.toNat))))]:=by
 obtain⟨hneed,⟨hbs,hml,hh0,hh1,hs0⟩,h0,h1⟩:=hneed;unfold fm9 at hneed;simp only at hneed hbs hml hh0 hh1 hs0;generalize hr:vI ⟨m,hd,bs,p,some ln,fs,pa,sk,co,out⟩ (UInt8.ofNat k.toNat)=r;unfold vI uX fmSk at hr;simp only [Int.min_def] at hr
 refine spH Tryz.func231 (by kernel_rfl) { cfgF with fz:=[235],keep:=some [0,1,4,5,6]} [U5,U4,vH,vG,uN,uM,ziV,ziU] (by kernel_rfl) ?_
 intro I X hI hX
 refine orcL ?_;go_invoke;refine orcS (by kernel_rfl) ?_
 simp only [zi,Nat.reduceAdd];generalize rE m hd.toNat (UInt8.ofNat k.toNat)=q at *;obtain⟨o,n2,fd⟩:=q;subst hI;simp only [nrmA,nrmB,nrlB,reduceCtorEq,HO.abs.injEq,Gh.fm.injEq];simp only at hr
 have hn:0≤(if sk≤(o.length:Int) then sk else(o.length:Int))∧(if sk≤(o.length:Int) then sk else(o.length:Int))≤o.length∧(if sk≤(o.length:Int) then sk else(o.length:Int))≤sk:=by split<;>omega
 generalize(if sk≤(o.length:Int) then sk else(o.length:Int))=n at *
 rw [jq (show(o.drop n.toNat).length≤o.length - n.toNat by rw [jC];exact jL _)]
 have hne:0<(o.length:Int) - n→¬ o.drop n.toNat=[]:=fun h k=>by have:=congrArg List.length k;rw [jC,ji] at this;omega
 have hnn: ¬ 0<(o.length:Int) - n→o.drop n.toNat=[]:=fun h=>jF (by omega)
 generalize o.drop n.toNat=D at *
 (repeat' (first|refine ja ?_ ?_|intro _))<;>first|omega|exact jb|exact jc ‹False›|skip
 all_goals first
  |omega
  |with_reducible assumption
  |(unfold wY;simp only [jk,jr];omega)
  |(have hne:=hne (by omega);clear hnn;subst hr;simp [*,evB,evO,hd0,prt0];done)
  |(have hnn:=hnn (by omega);clear hne;subst hr;simp [*,evB,evO,hd0,prt0];done)
  |(clear hne hnn;subst hr;simp [*,evB,evO,hd0,prt0];done)
def Xa (I:Alg):KU
 |[.v (.one (.ptr 0 0)),.v (.one (.p (.int .u8 k)))],[.abs (.fm f)]=>some (.one ⟨I.hid (fm9 f∧FmS f∧0≤k∧k≤255),(.ret (.tup [])),[.abs (.fm (I.hid (vI f (UInt8.ofNat k.toNat))))]⟩)
 |_,_=>none
theorem zc1:zq Tryz.prog 231 (Xa alg):=by
 intro args hp r h;unfold Xa at h;split at h<;>cases h
 rename_i k f;simp only [CT.Good,zh];intro hneed;obtain⟨m,hd,bs,p,ln,fs,pa,sk,co,out⟩:=f
 cases ln with
 |none=>exact zhh m hd bs p fs pa sk co out k hneed
 |some ln=>exact zqQ m hd bs p ln fs pa sk co out k hneed
def zc0:Know Tryz.prog:=⟨231,Xa,zc1⟩
def zcZ:Know Tryz.prog:=⟨231,fun I=>zu I (Xa I),zf zc1⟩
end Go.Proofs.YtnpmenpjagcheaaGreatDoor
namespace Go.Proofs.YtnpmenpjagcheaaGreatDoor
open Go Go.Sep Go.Ab
set_option maxRecDepth 100000
theorem ztW (m:Str) (n:Nat) (c:UInt8):m=[]∨(rE m n c).2.1<m.length:=by
 unfold rE
 by_cases h:m=[]
 · exact .inl h
 · rw [if_neg h]
   have h0:0<m.length:=by cases m<;>simp_all
   unfold P.feed;simp only
   repeat' split
   all_goals first|exact .inr h0|(right;assumption)
theorem VJ (m:Str) (n:Nat) (c:UInt8):m=[]∨(((rE m n c).2.1:Nat):Int)<m.length:=(ztW m n c).imp id fun h=>by omega
theorem zio (l:List Fld):(Zl l).1.bytes=[]:=by
 unfold Zl ztc
 repeat' split
 all_goals rfl
def FdOk (f:List Fld):Prop:=f.length≤1000∧∀ x ∈ f,x.name.length≤1000000∧x.value.length≤1000000
structure FmB (f:Fm):Prop where
 few:f.out.length≤9000000
 sk:FmS f
 fd:FdOk f.fields
 p0:0≤f.parts∧f.parts≤12
theorem zqT (m:Str) (hd:Int) (bs:List Int) (p:Int) (fs:List Fld) (pa sk co:Int) (out:List Evt) (hneed:FmB ⟨m,hd,bs,p,none,fs,pa,sk,co,out⟩):Spc Tryz.prog 236 [.v (.one (.ptr 0 0))] [.abs (.fm ⟨m,hd,bs,p,none,fs,pa,sk,co,out⟩)] (.ret (.tup [])) [.abs (.fm ((wF ⟨m,hd,bs,p,none,fs,pa,sk,co,out⟩)))]:=by
 obtain⟨h9,⟨hbs,hml,hh0,hh1,hs0⟩,⟨hfl,hff⟩,hp0⟩:=hneed;simp only at h9 hbs hml hh0 hh1 hs0 hfl hff hp0;generalize hr:wF ⟨m,hd,bs,p,none,fs,pa,sk,co,out⟩=r;have hb:=zio fs;unfold wF at hr;simp only [xg,fmSk,evP,evF,jJ] at hr
 refine spH Tryz.func236 (by kernel_rfl) { cfgF with keep:=some [0,2,3]} [U5,U4,zlG,zlF,vH,vG,uN,uM,uQ,uP] (by kernel_rfl) ?_
 intro I X hI hX
 refine orcL ?_;go_invoke;refine orcS (by kernel_rfl) ?_
 simp only [zi,Nat.reduceAdd];have hl1:=VJ m hd.toNat 13;generalize Zl fs=P at *;obtain⟨⟨a,b,c,d⟩,e⟩:=P;simp only at hb hr;subst hb;subst hI;simp only [nrmA,nrmB,nrlB,reduceCtorEq,HO.abs.injEq,Gh.fm.injEq]
 (repeat' (first|refine ja ?_ ?_|intro _))<;>first|omega|exact jb|exact jc ‹False›|skip
 all_goals first
  |omega
  |with_reducible assumption
  |exact(hff _ ‹_›).1
  |exact(hff _ ‹_›).2
  |(unfold wY;simp only [jk,jr];omega)
  |exact hl1
  |(subst hr;simp [*,evF,hd0,prt0,xg];done)
theorem zqS (m:Str) (hd:Int) (bs:List Int) (p:Int) (ln:Ln) (fs:List Fld) (pa sk co:Int) (out:List Evt) (hneed:FmB ⟨m,hd,bs,p,some ln,fs,pa,sk,co,out⟩):Spc Tryz.prog 236 [.v (.one (.ptr 0 0))] [.abs (.fm ⟨m,hd,bs,p,some ln,fs,pa,sk,co,out⟩)] (.ret (.tup [])) [.abs (.fm ((wF ⟨m,hd,bs,p,some ln,fs,pa,sk,co,out⟩)))]:=by
 obtain⟨h9,⟨hbs,hml,hh0,hh1,hs0⟩,⟨hfl,hff⟩,hp0⟩:=hneed;simp only at h9 hbs hml hh0 hh1 hs0 hfl hff hp0;generalize hr:wF ⟨m,hd,bs,p,some ln,fs,pa,sk,co,out⟩=r;have hb:=zio fs;unfold wF at hr;simp only [xg,fmSk,evP,evF,jJ] at hr
 refine spH Tryz.func236 (by kernel_rfl) { cfgF with keep:=some [0,2,3]} [U5,U4,zlG,zlF,vH,vG,uN,uM,uQ,uP] (by kernel_rfl) ?_
 intro I X hI hX
 refine orcL ?_;go_invoke;refine orcS (by kernel_rfl) ?_
 simp only [zi,Nat.reduceAdd];have hl1:=VJ m hd.toNat 13;generalize Zl fs=P at *;obtain⟨⟨a,b,c,d⟩,e⟩:=P;simp only at hb hr;subst hb;subst hI;simp only [nrmA,nrmB,nrlB,reduceCtorEq,HO.abs.injEq,Gh.fm.injEq]
 (repeat' (first|refine ja ?_ ?_|intro _))<;>first|omega|exact jb|exact jc ‹False›|skip
 all_goals first
  |omega
  |with_reducible assumption
  |exact(hff _ ‹_›).1
  |exact(hff _ ‹_›).2
  |(unfold wY;simp only [jk,jr];omega)
  |exact hl1
  |(subst hr;simp [*,evF,hd0,prt0,xg];done)
def Xb (I:Alg):KU
 |[.v (.one (.ptr 0 0))],[.abs (.fm f)]=>some (.one ⟨I.hid (FmB f),(.ret (.tup [])),[.abs (.fm (I.hid (wF f)))]⟩)
 |_,_=>none
theorem zc5:zq Tryz.prog 236 (Xb alg):=by
 intro args hp r h;unfold Xb at h;split at h<;>cases h
 rename_i f;simp only [CT.Good,zh];intro hneed;obtain⟨m,hd,bs,p,ln,fs,pa,sk,co,out⟩:=f
 cases ln with
 |none=>exact zqT m hd bs p fs pa sk co out hneed
 |some ln=>exact zqS m hd bs p ln fs pa sk co out hneed
def zc4:Know Tryz.prog:=⟨236,Xb,zc5⟩
def zc3:Know Tryz.prog:=⟨236,fun I=>zu I (Xb I),zf zc5⟩
theorem ztL (m:Str) (hd:Int) (bs:List Int) (p:Int) (fs:List Fld) (pa sk co:Int) (out:List Evt) (s:Str) (hneed:FmB ⟨m,hd,bs,p,none,fs,pa,sk,co,out⟩∧s.length≤1000000):Spc Tryz.prog 234 [.v (.one (.ptr 0 0)),.v (.one (.p (.str s)))] [.abs (.fm ⟨m,hd,bs,p,none,fs,pa,sk,co,out⟩)] (.ret (.tup [])) [.abs (.fm ((uO ⟨m,hd,bs,p,none,fs,pa,sk,co,out⟩ s)))]:=by
 obtain⟨⟨h9,hS,⟨hfl,hff⟩,hp0⟩,hs⟩:=hneed;simp only at h9 hfl hff hp0;generalize hr:uO ⟨m,hd,bs,p,none,fs,pa,sk,co,out⟩ s=r;unfold uO at hr;simp only at hr
 refine spH Tryz.func234 (by kernel_rfl) { cfgF with keep:=some [0,1,4,5]} [Va,W9,uQ,uP,zc4,zc3] (by kernel_rfl) ?_
 intro I X hI hX
 refine orcL ?_;go_invoke;refine orcS (by kernel_rfl) ?_
 simp only [zi,Nat.reduceAdd];generalize uG s=y at *;obtain⟨⟨a,b⟩,e⟩:=y;subst hI;simp only [nrmA,nrmB,nrlB,reduceCtorEq,HO.abs.injEq,Gh.fm.injEq]
 (repeat' (first|refine ja ?_ ?_|intro _))<;>first|omega|exact jb|exact jc ‹False›|skip
 all_goals first
  |omega
  |with_reducible assumption
  |exact⟨h9,hS,⟨hfl,hff⟩,hp0⟩
  |(unfold wY;simp only;omega)
  |(simp only [jr];omega)
  |(subst hr;simp [*,xg];done)
  |(subst hr;rw [if_pos ‹s=[]›];done)
  |(subst hr;rw [if_neg ‹¬ s=[]›,if_pos (by omega)];done)
  |(subst hr;rw [if_neg ‹¬ s=[]›,if_neg (by omega),if_pos ‹¬ e=0›];done)
  |(subst hr;rw [if_neg ‹¬ s=[]›,if_neg (by omega),if_neg (fun h=>h ‹e=0›)];done)
theorem ztK (m:Str) (hd:Int) (bs:List Int) (p:Int) (ln:Ln) (fs:List Fld) (pa sk co:Int) (out:List Evt) (s:Str) (hneed:FmB ⟨m,hd,bs,p,some ln,fs,pa,sk,co,out⟩∧s.length≤1000000):Spc Tryz.prog 234 [.v (.one (.ptr 0 0)),.v (.one (.p (.str s)))] [.abs (.fm ⟨m,hd,bs,p,some ln,fs,pa,sk,co,out⟩)] (.ret (.tup [])) [.abs (.fm ((uO ⟨m,hd,bs,p,some ln,fs,pa,sk,co,out⟩ s)))]:=by
 obtain⟨⟨h9,hS,⟨hfl,hff⟩,hp0⟩,hs⟩:=hneed;simp only at h9 hfl hff hp0;generalize hr:uO ⟨m,hd,bs,p,some ln,fs,pa,sk,co,out⟩ s=r;unfold uO at hr;simp only at hr
 refine spH Tryz.func234 (by kernel_rfl) { cfgF with keep:=some [0,1,4,5]} [Va,W9,uQ,uP,zc4,zc3] (by kernel_rfl) ?_
 intro I X hI hX
 refine orcL ?_;go_invoke;refine orcS (by kernel_rfl) ?_
 simp only [zi,Nat.reduceAdd];generalize uG s=y at *;obtain⟨⟨a,b⟩,e⟩:=y;subst hI;simp only [nrmA,nrmB,nrlB,reduceCtorEq,HO.abs.injEq,Gh.fm.injEq]
 (repeat' (first|refine ja ?_ ?_|intro _))<;>first|omega|exact jb|exact jc ‹False›|skip
 all_goals first
  |omega
  |with_reducible assumption
  |exact⟨h9,hS,⟨hfl,hff⟩,hp0⟩
  |(unfold wY;simp only;omega)
  |(simp only [jr];omega)
  |(subst hr;simp [*,xg];done)
  |(subst hr;rw [if_pos ‹s=[]›];done)
  |(subst hr;rw [if_neg ‹¬ s=[]›,if_pos (by omega)];done)
  |(subst hr;rw [if_neg ‹¬ s=[]›,if_neg (by omega),if_pos ‹¬ e=0›];done)
  |(subst hr;rw [if_neg ‹¬ s=[]›,if_neg (by omega),if_neg (fun h=>h ‹e=0›)];done)
def VG (I:Alg):KU
 |[.v (.one (.ptr 0 0)),.v (.one (.p (.str s)))],[.abs (.fm f)]=>(fun(s:Str)=>(some (.one ⟨I.hid (FmB f∧s.length≤1000000),(.ret (.tup [])),[.abs (.fm (I.hid (uO f s)))]⟩):Option CT)) s
 |_,_=>none
theorem zhd:zq Tryz.prog 234 (VG alg):=by
 intro args hp r h;unfold VG at h;split at h<;>cases h
 rename_i s f;simp only [CT.Good,zh];intro hneed;obtain⟨m,hd,bs,p,ln,fs,pa,sk,co,out⟩:=f
 cases ln with
 |none=>exact ztL m hd bs p fs pa sk co out s hneed
 |some ln=>exact ztK m hd bs p ln fs pa sk co out s hneed
def zhc:Know Tryz.prog:=⟨234,VG,zhd⟩
def zhb:Know Tryz.prog:=⟨234,fun I=>zu I (VG I),zf zhd⟩
end Go.Proofs.YtnpmenpjagcheaaGreatDoor
namespace Go.Proofs.YtnpmenpjagcheaaGreatDoor
open Go Go.Sep Go.Ab
set_option maxRecDepth 100000
theorem zf0 (s:Str):(uG s).1.name.length≤s.length∧(uG s).1.value.length≤s.length:=by
 have h:=Zy s 58;have ht:=zjD (cutB s 58).2.1 [32,9];unfold uG
 repeat' split
 all_goals simp only [ji]
 all_goals omega
end Go.Proofs.YtnpmenpjagcheaaGreatDoor
namespace Go.Proofs.YtnpmenpjagcheaaGreatDoor
open Go Go.Sep Go.Ab
set_option maxRecDepth 100000
structure FmI (f:Fm) (i:Nat):Prop where
 bs:f.bs=SS f.mark
 ml:f.mark.length≤1000
 h0:0≤f.held
 h1:f.held<f.mark.length
 s0:0≤f.skip∧f.skip≤2
 p0:0≤f.parts∧f.parts≤12
 fl:f.fields.length≤16
 ff: ∀ x ∈ f.fields,x.name.length≤i∧x.value.length≤i
 lb: ∀ l,f.ln=some l→l.b.length≤i
 p5:f.pos=5→f.ln≠none
 on:f.out.length≤4 * i
theorem zcV {f:Fm} {i:Nat} (h:FmI f i) (c:UInt8):FmI (fmSk f c) i:=by
 have hl:=(VJ f.mark f.held.toNat c).resolve_left fun e=>by have h1:=h.h1;have h0:=h.h0;rw [e,ji] at h1;omega
 exact⟨h.bs,h.ml,Int.natCast_nonneg _,hl,h.s0,h.p0,h.fl,h.ff,h.lb,h.p5,h.on⟩
theorem zlv {f:Fm} {i j:Nat} (h:FmI f i) (k:i≤j):FmI f j:=by
 obtain⟨a,b,c,d,e,f1,g,h1,h2,h3,h4⟩:=h
 exact⟨a,b,c,d,e,f1,g,fun x m=>by have:=h1 x m;omega,fun l e=>by have:=h2 l e;omega,h3,by omega⟩
theorem Yk {f:Fm} {i:Nat} (h:FmI f i) {p co sk pa:Int} {o:List Evt} (ho:o.length≤4 * i) (hp:p=5→f.ln≠none) (hs:0≤sk∧sk≤2) (hpa:0≤pa∧pa≤12):FmI { f with pos:=p,code:=co,out:=o,skip:=sk,parts:=pa} i:=
 ⟨h.bs,h.ml,h.h0,h.h1,hs,hpa,h.fl,h.ff,h.lb,hp,ho⟩
theorem Zu {f:Fm} {i:Nat} (h:FmI f i) (ho:f.out.length+1≤4 * i) (c:Int):FmI (xg f c) i:=
 Yk h (by simp only [jk,jr];omega) (fun h=>absurd h (by decide)) h.s0 h.p0
theorem zni {f:Fm} {i:Nat} (h:FmI f i) (ho:f.out.length+1≤4 * i) (c:UInt8):FmI (wz f c) i:=by
 unfold wz
 repeat' split
 · exact Yk h h.on (fun h=>absurd h (by decide)) h.s0 h.p0
 · exact Yk h (by simp only [jk,jr];omega) (fun h=>absurd h (by decide)) h.s0 h.p0
 · exact Yk h h.on (fun h=>absurd h (by decide)) h.s0 h.p0
 · exact Yk h h.on (fun h=>absurd h (by decide)) h.s0 h.p0
 · exact Zu h ho 5
theorem zqR {f:Fm} {i:Nat} (h:FmI f i) (ho:f.out.length+2≤4 * i) (c:UInt8):FmI (vI f c) i:=by
 have hs:=zcV h c;have h2:=h.s0;unfold vI
 split
 · refine Yk (f:=fmSk f c) hs ?_ h.p5 ?_ h.p0
   · split
     · simp only [jk,jr];omega
     · exact h.on
   · rw [Int.min_def]
     split<;>omega
 · refine Yk (f:=fmSk f c) hs ?_ (fun h=>absurd h (by decide)) (by decide) h.p0
   repeat' split
   all_goals first|exact h.on|(simp only [jk,jr,jh,ji];omega)
theorem zqU {f:Fm} {i:Nat} (h:FmI f i) (ho:f.out.length+1≤4 * i):FmI (wF f) i:=by
 have h2:=h.p0;unfold wF
 split
 · exact Zu h ho _
 · split
   · exact Zu h ho _
   · refine zcV (zcV ?_ _) _
     exact Yk h (by simp only [jk,jr];omega) (fun h=>absurd h (by decide)) (by decide) (by omega)
theorem ztM {f:Fm} {i:Nat} (h:FmI f i) (ho:f.out.length+1≤4 * i) {s:Str} (hs:s.length≤i):FmI (uO f s) i:=by
 unfold uO
 split
 · exact zqU h ho
 · split
   · exact Zu h ho _
   · split
     · exact Zu h ho _
     · rename_i h16 _
       have hp:=zf0 s;refine⟨h.bs,h.ml,h.h0,h.h1,h.s0,h.p0,?_,fun x hx=> ?_,h.lb,h.p5,h.on⟩
       · have:=h.fl
         simp only [jk,jr];omega
       · rcases List.mem_append.1 hx with h5|h5
         · exact h.ff x h5
         · rw [List.mem_singleton.1 h5];omega
theorem ztR {f:Fm} {i:Nat} (h:FmI f i) (c:UInt8):FmI (fmF f c) (i+1):=by
 have hm:=zlv h (show i≤i+1 by omega)
 have ho:f.out.length+2≤4 * (i+1):=by have:=h.on;omega
 unfold fmF
 split
 · exact zqR hm ho c
 · split
   · exact zni hm (by omega) c
   · split
     · split
       · exact Zu hm (by omega) 2
       · exact⟨hm.bs,hm.ml,hm.h0,hm.h1,hm.s0,hm.p0,by simp,(fun x hx=>by cases hx),(fun l e=>by cases e;simp [ln0]),(fun _ e=>by cases e),hm.on⟩
     · split
       · have hb:=ztp (lnOf f) c
         have hl:=Yd (lnOf f) c
         have hn:(lnOf f).b.length≤i:=by
          unfold lnOf
          cases e:f.ln with
          |none=>simp [ln0]
          |some l=>exact h.lb l e
         have hk:FmI { f with ln:=some (lnF (lnOf f) c).1} (i+1):=⟨hm.bs,hm.ml,hm.h0,hm.h1,hm.s0,hm.p0,hm.fl,hm.ff,(fun l e=>by cases e;omega),(fun _ e=>by cases e),hm.on⟩
         split
         · exact Zu hk (by simp only;omega) _
         · split
           · exact ztM hk (by simp only;omega) (by omega)
           · exact hk
       · exact hm
theorem zto (k:Int) (hneed:False):Spc Tryz.prog 126 [.v (.one (.p (.val (.pointer none)))),.v (.one (.p (.int .u8 k)))] [] (.ret (.tup [.one (.p (.str ([]))),.one (.p (.bool false)),.one (.p (.int .i64 0))])) []:=hneed.elim
def YW (I:Alg):KU
 |[.v (.one (.p (.val (.pointer none)))),.v (.one (.p (.int .u8 k)))],[]=>some (.one ⟨I.hid (False),(.ret (.tup [.one (.p (.str (I.hid ([])))),.one (.p (.bool false)),.one (.p (.int .i64 0))])),[]⟩)
 |_,_=>none
theorem zcD:zq Tryz.prog 126 (YW alg):=by
 intro args hp r h;unfold YW at h
 split at h
 · cases h;exact fun hn=>zto _ hn
 · cases h
def zcC:Know Tryz.prog:=⟨126,YW,zcD⟩
def zcB:Know Tryz.prog:=⟨126,fun I=>zu I (YW I),zf zcD⟩
def fmN (f:Fm):Prop:=∃ i:Nat,i≤1000000∧FmI f i
theorem zwM (m:Str) (hd:Int) (bs:List Int) (p:Int) (fs:List Fld) (pa sk co:Int) (out:List Evt) (k:Int) (hneed:fmN ⟨m,hd,bs,p,none,fs,pa,sk,co,out⟩∧0≤k∧k≤255):Spc Tryz.prog 224 [.v (.one (.ptr 0 0)),.v (.one (.p (.int .u8 k)))] [.abs (.fm ⟨m,hd,bs,p,none,fs,pa,sk,co,out⟩)] (.ret (.tup [])) [.abs (.fm ((fmF ⟨m,hd,bs,p,none,fs,pa,sk,co,out⟩ (UInt8.ofNat k.toNat))))]:=by
 obtain⟨⟨i,hi,hI0⟩,hk0,hk1⟩:=hneed;obtain⟨g1,g2,g3,g4,g5,g6,g7,g8,g9,g10,g11⟩:=hI0;simp only at g1 g2 g3 g4 g5 g6 g7 g8 g9 g10 g11
 have g2:=Nat.le_trans g2 (show 1000≤1000000 by decide)
 have hfd:FdOk fs:=⟨by omega,fun x hx=>by have:=g8 x hx;omega⟩
 have h10:=u8k hk0 hk1 10 (by decide)
 have h10:(UInt8.ofNat k.toNat=10)=(k=10):=h10;generalize hr:fmF ⟨m,hd,bs,p,none,fs,pa,sk,co,out⟩ (UInt8.ofNat k.toNat)=r;unfold fmF lnOf at hr;simp only [h10] at hr;have hll:=trivial
 refine spH Tryz.func224 (by kernel_rfl) { cfgF with keep:=some [0,1,4,5,6,10,11,17]} [Qv,Qu,sV,sU,zcC,zcB,uQ,uP,zbv,zbu,zc0,zcZ,zhc,zhb] (by kernel_rfl) ?_
 intro I X hI hX
 refine orcL ?_;go_invoke;refine orcS (by kernel_rfl) ?_
 simp only [zi,Nat.reduceAdd];subst hI;simp only [nrmA,nrmB,nrlB,reduceCtorEq,HO.abs.injEq,Gh.fm.injEq]
 (repeat' (first|refine ja ?_ ?_|intro _))<;>first|omega|exact jb|exact jc ‹False›|skip
 all_goals first
  |omega
  |with_reducible assumption
  |(refine⟨by simp only;omega,⟨g1,g2,g3,.inr g4,g5⟩,?_⟩;done)
  |exact⟨g1,g2,g3,.inr g4,g5⟩
  |exact⟨by simp only;omega,⟨g1,g2,g3,.inr g4,g5⟩,hfd,g6⟩
  |exact Nat.le_trans hll (by omega)
  |(unfold wY;simp only;omega)
  |(unfold fm9;simp only;omega)
  |(exact absurd rfl (g10 ‹_›))
  |(subst hr;simp [*,ln0];done)
theorem zwL (m:Str) (hd:Int) (bs:List Int) (p:Int) (ln:Ln) (fs:List Fld) (pa sk co:Int) (out:List Evt) (k:Int) (hneed:fmN ⟨m,hd,bs,p,some ln,fs,pa,sk,co,out⟩∧0≤k∧k≤255):Spc Tryz.prog 224 [.v (.one (.ptr 0 0)),.v (.one (.p (.int .u8 k)))] [.abs (.fm ⟨m,hd,bs,p,some ln,fs,pa,sk,co,out⟩)] (.ret (.tup [])) [.abs (.fm ((fmF ⟨m,hd,bs,p,some ln,fs,pa,sk,co,out⟩ (UInt8.ofNat k.toNat))))]:=by
 obtain⟨⟨i,hi,hI0⟩,hk0,hk1⟩:=hneed;obtain⟨g1,g2,g3,g4,g5,g6,g7,g8,g9,g10,g11⟩:=hI0;simp only at g1 g2 g3 g4 g5 g6 g7 g8 g9 g10 g11
 have g2:=Nat.le_trans g2 (show 1000≤1000000 by decide)
 have hfd:FdOk fs:=⟨by omega,fun x hx=>by have:=g8 x hx;omega⟩
 have h10:=u8k hk0 hk1 10 (by decide)
 have h10:(UInt8.ofNat k.toNat=10)=(k=10):=h10;generalize hr:fmF ⟨m,hd,bs,p,some ln,fs,pa,sk,co,out⟩ (UInt8.ofNat k.toNat)=r;unfold fmF lnOf at hr;simp only [h10] at hr;have hll:=Yd ln (UInt8.ofNat k.toNat);have hlb:=g9 ln rfl
 refine spH Tryz.func224 (by kernel_rfl) { cfgF with keep:=some [0,1,4,5,6,10,11,17]} [Qv,Qu,sV,sU,zcC,zcB,uQ,uP,zbv,zbu,zc0,zcZ,zhc,zhb] (by kernel_rfl) ?_
 intro I X hI hX
 refine orcL ?_;go_invoke;refine orcS (by kernel_rfl) ?_
 simp only [zi,Nat.reduceAdd];subst hI;simp only [nrmA,nrmB,nrlB,reduceCtorEq,HO.abs.injEq,Gh.fm.injEq]
 (repeat' (first|refine ja ?_ ?_|intro _))<;>first|omega|exact jb|exact jc ‹False›|skip
 all_goals first
  |omega
  |with_reducible assumption
  |(refine⟨by simp only;omega,⟨g1,g2,g3,.inr g4,g5⟩,?_⟩;done)
  |exact⟨g1,g2,g3,.inr g4,g5⟩
  |exact⟨by simp only;omega,⟨g1,g2,g3,.inr g4,g5⟩,hfd,g6⟩
  |exact Nat.le_trans hll (by omega)
  |(unfold wY;simp only;omega)
  |(unfold fm9;simp only;omega)
  |(exact absurd rfl (g10 ‹_›))
  |(subst hr;simp [*,ln0];done)
def QK (I:Alg):KU
 |[.v (.one (.ptr 0 0)),.v (.one (.p (.int .u8 k)))],[.abs (.fm f)]=>some (.one ⟨I.hid (fmN f∧0≤k∧k≤255),(.ret (.tup [])),[.abs (.fm (I.hid (fmF f (UInt8.ofNat k.toNat))))]⟩)
 |_,_=>none
theorem zlx:zq Tryz.prog 224 (QK alg):=by
 intro args hp r h;unfold QK at h;split at h<;>cases h
 rename_i k f;simp only [CT.Good,zh];intro hneed;obtain⟨m,hd,bs,p,ln,fs,pa,sk,co,out⟩:=f
 cases ln with
 |none=>exact zwM m hd bs p fs pa sk co out k hneed
 |some ln=>exact zwL m hd bs p ln fs pa sk co out k hneed
def QJ:Know Tryz.prog:=⟨224,QK,zlx⟩
def QI:Know Tryz.prog:=⟨224,fun I=>zu I (QK I),zf zlx⟩
end Go.Proofs.YtnpmenpjagcheaaGreatDoor
namespace Go.Proofs.YtnpmenpjagcheaaGreatDoor
open Go Go.Sep Go.Ab
set_option maxRecDepth 100000
def zF (l:List Evt):Nat:=(l.map fun e=>e.bytes.length).sum
theorem yh (a b:List Evt):zF (a++b)=zF a+zF b:=by simp [zF]
theorem yX (e:Evt):zF [e]=e.bytes.length:=by simp [zF]
theorem zp7 (o:List Evt) (e:Evt):zF (uI o e)≤zF o+e.bytes.length:=by
 rcases List.eq_nil_or_concat o with rfl|⟨z,x,rfl⟩
 · rw [Yg,yX];omega
 · rw [List.concat_eq_append,xu]
   split
   · rw [yh,yh,yX,yX];simp only [evB,jk];omega
   · rw [yh _ [e],yX e];exact jL _
theorem YX (l:List Evt) (e:Evt):yI (l++[e])=uI (yI l) e:=by simp [yI,List.foldl_append]
theorem zbc (l:List Evt):zF (yI l)≤zF l:=by
 suffices ∀ l o:List Evt,zF (l.foldl uI o)≤zF o+zF l by have:=this l [];simpa [yI,zF] using this
 intro l
 induction l with
 |nil=>intro o;simp [zF]
 | cons e r ih=>
   intro o;have h1:=ih (uI o e);have h2:=zp7 o e
   have h3:zF (e::r)=e.bytes.length+zF r:=by simp [zF]
   rw [List.foldl_cons];omega
theorem zp8 (o:List Evt) (e:Evt):(uI o e).length≤o.length+1:=by
 rcases List.eq_nil_or_concat o with rfl|⟨z,x,rfl⟩
 · simp [Yg]
 · rw [List.concat_eq_append,xu]
   split<;>simp
theorem znl (l:List Evt) (i:Nat):zF (l.take i)≤zF l:=by
 have:=yh (l.take i) (l.drop i);rw [List.take_append_drop] at this;omega
theorem VO {l:List Evt} {e:Evt} (h:e ∈ l):e.bytes.length≤zF l:=by
 obtain⟨a,b,rfl⟩:=List.append_of_mem h;have:=yh a (e::b)
 have h3:zF (e::b)=e.bytes.length+zF b:=by simp [zF]
 omega
theorem zbd (l:List Evt):(yI l).length≤l.length:=by
 suffices ∀ l o:List Evt,(l.foldl uI o).length≤o.length+l.length by have:=this l [];simpa [yI] using this
 intro l
 induction l with
 |nil=>intro o;simp
 | cons e r ih=>
   intro o;have h1:=ih (uI o e);have h2:=zp8 o e;rw [List.foldl_cons,jh];omega
def WM (I:Alg):KU
 |[.v (.one (.row 0))],[.row .evt 138 l]=>(fun(l:List Evt)=>(some (.one ⟨I.hid (zF l≤1000000∧l.length≤10000000),(.ret (.v (.one (.row 1)))),[.row .evt 138 l,.row .evt 138 (I.hid (yI l))]⟩):Option CT)) l
 |_,_=>none
theorem zfO:zq Tryz.prog 94 (WM alg):=by
 intro args hp r h;unfold WM at h;split at h<;>cases h
 rename_i l
 revert l;intro(l:List Evt)
 simp only [CT.Good,zh];intro hneed;obtain⟨hn1,hn2⟩:=hneed
 refine spH Tryz.func94 (by kernel_rfl) { nr:=[3],keep:=some [0,2,3,5,6,7,8,9,10]} [] (by kernel_rfl) ?_
 intro I X hI hX
 refine orcL ?_;go_invoke;refine orcS (by kernel_rfl) ?_
 simp only [zi,Nat.reduceAdd]
 refine lpH hI [] hX [0,3,8,9,10] (fun(g:Nat × List Evt)=>match g with|(i,o)=>i≤l.length∧o=yI (l.take i)) (fun(g:Nat × List Evt)=>match g with|(i,o)=>⟨[(0,.v (.one (.row 0))),(3,.v (.one (.row 1))),(8,.v (.one (.row 0))),(9,.v (.one (.p (.int .i64 ((I.len (α:=Evt) l)))))),(10,.v (.one (.p (.int .i64 i))))],[.row .evt 138 l,.row .evt 138 o],52,none⟩) (fun(g:Nat × List Evt)=>match g with|(i,o)=>l.length - i) (0,[]) (by kernel_rfl) (by kernel_rfl) ?_ ?_
 · exact⟨jM _,rfl⟩
 rintro⟨i,o⟩ ⟨h1,h2⟩ A hA;simp only at hA h1 h2
 refine orcL ?_;go_invoke;refine orcS (by kernel_rfl) ?_
 simp only [zi,Nat.reduceAdd];subst hI;simp only [nrmA,nrmB,nrlB,reduceCtorEq];have hl1:=zbd (l.take i)
 have hl2:(l.take i).length≤i:=by rw [jv];omega
 have hl3:=zbc (l.take i)
 have hl4: ∀ x ∈ yI (l.take i),x.bytes.length≤1000000:=fun x h=>by
  have a:=VO h;have b:=znl l i;omega
 have hw: ¬ i<l.length→o=yI l:=fun h=>by rw [h2,jq (by omega)]
 have hy:i<l.length→yI (l.take (i+1))=uI o (l.getD i ⟨0,⟨[],[],0,[],0⟩,[],⟨[],[],[],[]⟩,0⟩):=fun h=>by rw [jB h,YX,h2];simp [h]
 have hl5:i<l.length→(l.getD i ⟨0,⟨[],[],0,[],0⟩,[],⟨[],[],[],[]⟩,0⟩).bytes.length≤1000000:=fun h=>by
  have:l.getD i ⟨0,⟨[],[],0,[],0⟩,[],⟨[],[],[],[]⟩,0⟩ ∈ l:=by simp [h]
  have:=VO this;omega
 rw [← h2] at hl1 hl4
 refine⟨fun c=> ?_,fun c=>hw (by omega)⟩
 have hlt:i<l.length:=by omega
 have hy:=hy hlt;have hl5:=hl5 hlt;generalize l.getD i ⟨0,⟨[],[],0,[],0⟩,[],⟨[],[],[],[]⟩,0⟩=e at *
 have hgo: ∀ r:List Evt,r=uI o e→(fun p:Nat × List Evt=>p.1≤l.length∧p.2=yI (l.take p.1)) (i+1,r):=fun r h=>⟨by simp only;omega,by simp only;rw [hy,h]⟩
 rcases List.eq_nil_or_concat o with he|⟨z,x,he⟩
 · subst he
   rw [Yg] at hgo;simp only [jh,ji]
   (repeat' (first|refine ja ?_ ?_|intro _))<;>first|omega|exact jb|exact jc ‹False›|skip
   all_goals first
    |omega
    |exact hA (i+1,_) (hgo _ rfl) (by simp only;omega)
 · rw [List.concat_eq_append] at he
   subst he;have hx:=hl4 x (List.mem_append_right _ (List.mem_singleton.2 rfl))
   have hz:(((z++[x]).length:Int) - 1).toNat=z.length:=by rw [jk,jr];omega
   have hg: ∀ d,(z++[x]).getD z.length d=x:=fun d=>by simp
   have hs: ∀ d,(z++[x]).set z.length d=z++[d]:=fun d=>by simp
   rw [xu] at hgo;rw [jk,jr] at hl1;simp only [hz,hg,hs];simp only [jk,jh,ji];clear hz hg hs
   (repeat' (first|refine ja ?_ ?_|intro _))<;>first|omega|exact jb|exact jc ‹False›|skip
   all_goals first
    |omega
    |(rw [if_pos ⟨‹e.kind=2›,‹x.kind=2›⟩] at hgo;exact hA (i+1,_) (hgo _ rfl) (by simp only;omega))
    |(rw [if_neg (fun h=>‹¬ e.kind=2› h.1)] at hgo;exact hA (i+1,_) (hgo _ rfl) (by simp only;omega))
    |(rw [if_neg (fun h=>‹¬ x.kind=2› h.2)] at hgo;exact hA (i+1,_) (hgo _ rfl) (by simp only;omega))
def xI:Know Tryz.prog:=⟨94,WM,zfO⟩
def xH:Know Tryz.prog:=⟨94,fun I=>zu I (WM I),zf zfO⟩
end Go.Proofs.YtnpmenpjagcheaaGreatDoor
namespace Go.Proofs.YtnpmenpjagcheaaGreatDoor
open Go Go.Sep Go.Ab
set_option maxRecDepth 100000
theorem zho {m:Str} {n:Nat} (h:m=[]∨n<m.length) (c:UInt8):(rE m n c).1.length+(rE m n c).2.1≤n+1:=by
 unfold rE
 by_cases h0:m=[]
 · rw [if_pos h0];simp only [jr];omega
 · rw [if_neg h0]
   have hn:n<m.length:=h.resolve_left h0
   have hf:=(P.ziZ m c P.take_len n n (jL _) (by omega)).le
   unfold P.feed;simp only
   repeat' split
   all_goals simp only [jk,jr,jv]
   all_goals omega
theorem zu8 (f:Fm) {i:Nat} (h:FmI f i) (c:UInt8):(fmSk f c).held.toNat≤f.held.toNat+1:=by
 have:=zho (m:=f.mark) (n:=f.held.toNat) (.inr (by have:=h.h0;have:=h.h1;omega)) c
 show(((rE f.mark f.held.toNat c).2.1:Nat):Int).toNat≤_
 rw [jJ];omega
theorem rF (o:List Evt) (e:Evt) (h:e.bytes=[]):zF (o++[e])=zF o:=by
 rw [yh,yX,h];rfl
theorem ziW {f:Fm} {i:Nat} (h:FmI f i):zF (wF f).out+(wF f).held.toNat≤zF f.out+f.held.toNat+2:=by
 have h2:=h.p0;unfold wF
 split
 · show zF (f.out++[evF _])+_≤_
   rw [rF _ _ rfl];simp only [xg];omega
 · split
   · show zF (f.out++[evF _])+_≤_
     rw [rF _ _ rfl];simp only [xg];omega
   · have hI:FmI { f with parts:=f.parts+1,pos:=6,out:=[],skip:=2} i:=⟨h.bs,h.ml,h.h0,h.h1,(show(0:Int)≤2∧(2:Int)≤2 by decide),by simp only;omega,h.fl,h.ff,h.lb,(fun e=>absurd (show(6:Int)=5 from e) (by decide)),jM _⟩
     have a:=zu8 _ hI 13;have b:=zu8 _ (zcV hI 13) 10
     show zF (f.out++[evP _])+(fmSk (fmSk { f with parts:=f.parts+1,pos:=6,out:=[],skip:=2} 13) 10).held.toNat≤_
     rw [rF _ _ rfl];simp only at a;omega
theorem znc {f:Fm} {i:Nat} (h:FmI f i) (s:Str):zF (uO f s).out+(uO f s).held.toNat≤zF f.out+f.held.toNat+2:=by
 unfold uO
 split
 · exact ziW h
 · split
   · show zF (f.out++[evF _])+_≤_
     rw [rF _ _ rfl];simp only [xg];omega
   · split
     · show zF (f.out++[evF _])+_≤_
       rw [rF _ _ rfl];simp only [xg];omega
     · simp only;omega
theorem ziT {f:Fm} {i:Nat} (h:FmI f i) (c:UInt8):zF (fmF f c).out+(fmF f c).held.toNat≤zF f.out+f.held.toNat+2:=by
 have hfail: ∀ (f:Fm) (c:Int),zF (xg f c).out=zF f.out∧(xg f c).held=f.held:=fun f c=>⟨rF _ _ rfl,rfl⟩;unfold fmF
 split
 · have hp:=zho (m:=f.mark) (n:=f.held.toNat) (.inr (by have:=h.h0;have:=h.h1;omega)) c
   have hd:(uX f c).length≤(rE f.mark f.held.toNat c).1.length:=by unfold uX;rw [jC];omega
   have e0:(fmSk f c).held.toNat=(rE f.mark f.held.toNat c).2.1:=jJ _;unfold vI
   split
   · show zF (if f.pos=6∧uX f c≠[] then f.out++[evB (uX f c)] else f.out)+(fmSk f c).held.toNat≤_
     rw [e0]
     split
     · rw [yh,yX];simp only [evB];omega
     · omega
   · show zF (if f.pos=6 then(if uX f c≠[] then f.out++[evB (uX f c),evO] else f.out++[evO]) else f.out)+(fmSk f c).held.toNat≤_
     rw [e0]
     have e1:zF [evB (uX f c),evO]=(uX f c).length:=by simp [zF,evB,evO]
     have e2:zF [evO]=0:=rfl
     split
     · split
       · rw [yh,e1];omega
       · rw [yh,e2];omega
     · omega
 · split
   · unfold wz
     repeat' split
     all_goals first
      |(simp only;omega)
      |(rw [(hfail _ _).1,(hfail _ _).2];omega)
      |(show zF (f.out++[evE])+_≤_;rw [rF _ _ rfl];simp only;omega)
   · split
     · split
       · rw [(hfail _ _).1,(hfail _ _).2];omega
       · simp only;omega
     · split
       · split
         · rw [(hfail _ _).1,(hfail _ _).2];simp only;omega
         · split
           · have hn:(lnOf f).b.length≤i:=by
              unfold lnOf
              cases e:f.ln with
              |none=>simp [ln0]
              |some l=>exact h.lb l e
             have hb:=ztp (lnOf f) c
             have hm:=zlv h (show i≤i+1 by omega)
             exact znc (i:=i+1) (f:= { f with ln:=some (lnF (lnOf f) c).1}) ⟨hm.bs,hm.ml,hm.h0,hm.h1,hm.s0,hm.p0,hm.fl,hm.ff,(fun l e=>by cases e;omega),(fun _ e=>by cases e),hm.on⟩ _
           · simp only;omega
       · omega
theorem zqL (f:Fm) (b:Str) {i:Nat} (h:i<b.length):VA f (b.take (i+1))=fmF (VA f (b.take i)) (b.getD i 0):=by
 rw [show b.getD i 0=b[i] by simp [h],jB h]
 unfold VA;rw [List.foldl_append];rfl
theorem ziS: ∀ (b:Str) (f:Fm) (i:Nat),FmI f i→FmI (VA f b) (i+b.length)
 |[],f,i,h=>h
 | c::r,f,i,h=>by
   have:=ziS r (fmF f c) (i+1) (ztR h c)
   rw [jh,show i+(r.length+1)=i+1+r.length by omega]
   exact this
def fmN0 (f:Fm) (b:Str):Prop:=∃ n,FmI { f with out:=[]} n∧n+b.length≤400000
theorem ztO (m:Str) (hd:Int) (bs:List Int) (p:Int) (fs:List Fld) (pa sk co:Int) (out:List Evt) (b:Str) (hneed:fmN0 ⟨m,hd,bs,p,none,fs,pa,sk,co,out⟩ b):Spc Tryz.prog 209 [.v (.one (.ptr 0 0)),.v (.one (.p (.list .byte b)))] [.abs (.fm ⟨m,hd,bs,p,none,fs,pa,sk,co,out⟩)] (.ret (.v (.one (.row 1)))) [.abs (.fm ((y9 ⟨m,hd,bs,p,none,fs,pa,sk,co,out⟩ b))),.row .evt 138 ((yI (y9 ⟨m,hd,bs,p,none,fs,pa,sk,co,out⟩ b).out))]:=by
 obtain⟨n,hI0,hnb⟩:=hneed;have hml:=hI0.ml;have hh1:=hI0.h1;have hh0:=hI0.h0;simp only at hml hh1 hh0
 have hh:hd.toNat≤1000:=by
  omega
 refine spH Tryz.func209 (by kernel_rfl) { cfgF with keep:=some [0,1,4,6,10,11,12]} [QJ,QI,xI,xH] (by kernel_rfl) ?_
 intro I X hI hX
 refine orcL ?_;go_invoke;refine orcS (by kernel_rfl) ?_
 simp only [zi,Nat.reduceAdd];unfold y9;simp only at hI0 ⊢
 refine lpH hI [QJ,QI,xI,xH] hX [0,10,11,12] (fun(g:Nat × Fm)=>match g with|(i,r)=>i≤b.length∧r=VA (⟨m,hd,bs,p,none,fs,pa,sk,co,[]⟩:Fm) (b.take i)∧FmI r (n+i)∧zF r.out+r.held.toNat≤hd.toNat+2 * i) (fun(g:Nat × Fm)=>match g with|(i,r)=>⟨[(0,.v (.one (.ptr 0 0))),(10,.v (.one (.p (.list .byte b)))),(11,.v (.one (.p (.int .i64 ((I.len (α:=UInt8) b)))))),(12,.v (.one (.p (.int .i64 i))))],[.abs (.fm r)],25,none⟩) (fun(g:Nat × Fm)=>match g with|(i,r)=>b.length - i) (0,(⟨m,hd,bs,p,none,fs,pa,sk,co,[]⟩:Fm)) (by kernel_rfl) (by kernel_rfl) ?_ ?_
 · exact⟨jM _,rfl,hI0,by simp [zF]⟩
 rintro⟨i,⟨m2,hd2,bs2,p2,ln2,fs2,pa2,sk2,co2,out2⟩⟩ ⟨h1,h2,h3,h4⟩ A hA;simp only at hA h1 h2 h3 h4
 have hrn:i<b.length→fmN _:=fun h=>⟨n+i,by omega,h3⟩
 have hgo:i<b.length→_:=fun h=>hA (i+1,fmF ⟨m2,hd2,bs2,p2,ln2,fs2,pa2,sk2,co2,out2⟩ (b.getD i 0)) ⟨by simp only;omega,by simp only;rw [zqL _ _ h,← h2],by simp only;exact ztR h3 _,by simp only;have:=ziT h3 (b.getD i 0);simp only at this;omega⟩ (by simp only;omega)
 have hend: ¬ i<b.length→_:=fun h=>h2.trans (by rw [jq (by omega)])
 rcases ln2 with _|l2
 · have h0:=h1
   refine orcL ?_;go_invoke;refine orcS (by kernel_rfl) ?_
   simp only [zi,Nat.reduceAdd];subst hI;simp only [nrmA,nrmB,nrlB,reduceCtorEq,HO.abs.injEq,Gh.fm.injEq]
   by_cases hi:i<b.length
   · have hg:=hgo hi
     have hn:=hrn hi
     (repeat' (first|refine ja ?_ ?_|intro _))<;>first|omega|exact jb|exact jc ‹False›|skip
     all_goals first|omega|exact hg|exact hn|contradiction|(have:=(b.getD i 0).toNat_lt;omega)|trace_state
   · have hg:=hend hi
     rw [← hg];have hon:=h3.on;simp only at hon
     (repeat' (first|refine ja ?_ ?_|intro _))<;>first|omega|exact jb|exact jc ‹False›|skip
     all_goals first|omega|rfl|contradiction|exact⟨by omega,by omega⟩|trace_state
 · have h0:=h1
   refine orcL ?_;go_invoke;refine orcS (by kernel_rfl) ?_
   simp only [zi,Nat.reduceAdd];subst hI;simp only [nrmA,nrmB,nrlB,reduceCtorEq,HO.abs.injEq,Gh.fm.injEq]
   by_cases hi:i<b.length
   · have hg:=hgo hi
     have hn:=hrn hi
     (repeat' (first|refine ja ?_ ?_|intro _))<;>first|omega|exact jb|exact jc ‹False›|skip
     all_goals first|omega|exact hg|exact hn|contradiction|(have:=(b.getD i 0).toNat_lt;omega)|trace_state
   · have hg:=hend hi
     rw [← hg];have hon:=h3.on;simp only at hon
     (repeat' (first|refine ja ?_ ?_|intro _))<;>first|omega|exact jb|exact jc ‹False›|skip
     all_goals first|omega|rfl|contradiction|exact⟨by omega,by omega⟩|trace_state
theorem ztN (m:Str) (hd:Int) (bs:List Int) (p:Int) (ln:Ln) (fs:List Fld) (pa sk co:Int) (out:List Evt) (b:Str) (hneed:fmN0 ⟨m,hd,bs,p,some ln,fs,pa,sk,co,out⟩ b):Spc Tryz.prog 209 [.v (.one (.ptr 0 0)),.v (.one (.p (.list .byte b)))] [.abs (.fm ⟨m,hd,bs,p,some ln,fs,pa,sk,co,out⟩)] (.ret (.v (.one (.row 1)))) [.abs (.fm ((y9 ⟨m,hd,bs,p,some ln,fs,pa,sk,co,out⟩ b))),.row .evt 138 ((yI (y9 ⟨m,hd,bs,p,some ln,fs,pa,sk,co,out⟩ b).out))]:=by
 obtain⟨n,hI0,hnb⟩:=hneed;have hml:=hI0.ml;have hh1:=hI0.h1;have hh0:=hI0.h0;simp only at hml hh1 hh0
 have hh:hd.toNat≤1000:=by
  omega
 refine spH Tryz.func209 (by kernel_rfl) { cfgF with keep:=some [0,1,4,6,10,11,12]} [QJ,QI,xI,xH] (by kernel_rfl) ?_
 intro I X hI hX
 refine orcL ?_;go_invoke;refine orcS (by kernel_rfl) ?_
 simp only [zi,Nat.reduceAdd];unfold y9;simp only at hI0 ⊢
 refine lpH hI [QJ,QI,xI,xH] hX [0,10,11,12] (fun(g:Nat × Fm)=>match g with|(i,r)=>i≤b.length∧r=VA (⟨m,hd,bs,p,some ln,fs,pa,sk,co,[]⟩:Fm) (b.take i)∧FmI r (n+i)∧zF r.out+r.held.toNat≤hd.toNat+2 * i) (fun(g:Nat × Fm)=>match g with|(i,r)=>⟨[(0,.v (.one (.ptr 0 0))),(10,.v (.one (.p (.list .byte b)))),(11,.v (.one (.p (.int .i64 ((I.len (α:=UInt8) b)))))),(12,.v (.one (.p (.int .i64 i))))],[.abs (.fm r)],25,none⟩) (fun(g:Nat × Fm)=>match g with|(i,r)=>b.length - i) (0,(⟨m,hd,bs,p,some ln,fs,pa,sk,co,[]⟩:Fm)) (by kernel_rfl) (by kernel_rfl) ?_ ?_
 · exact⟨jM _,rfl,hI0,by simp [zF]⟩
 rintro⟨i,⟨m2,hd2,bs2,p2,ln2,fs2,pa2,sk2,co2,out2⟩⟩ ⟨h1,h2,h3,h4⟩ A hA;simp only at hA h1 h2 h3 h4
 have hrn:i<b.length→fmN _:=fun h=>⟨n+i,by omega,h3⟩
 have hgo:i<b.length→_:=fun h=>hA (i+1,fmF ⟨m2,hd2,bs2,p2,ln2,fs2,pa2,sk2,co2,out2⟩ (b.getD i 0)) ⟨by simp only;omega,by simp only;rw [zqL _ _ h,← h2],by simp only;exact ztR h3 _,by simp only;have:=ziT h3 (b.getD i 0);simp only at this;omega⟩ (by simp only;omega)
 have hend: ¬ i<b.length→_:=fun h=>h2.trans (by rw [jq (by omega)])
 rcases ln2 with _|l2
 · have h0:=h1
   refine orcL ?_;go_invoke;refine orcS (by kernel_rfl) ?_
   simp only [zi,Nat.reduceAdd];subst hI;simp only [nrmA,nrmB,nrlB,reduceCtorEq,HO.abs.injEq,Gh.fm.injEq]
   by_cases hi:i<b.length
   · have hg:=hgo hi
     have hn:=hrn hi
     (repeat' (first|refine ja ?_ ?_|intro _))<;>first|omega|exact jb|exact jc ‹False›|skip
     all_goals first|omega|exact hg|exact hn|contradiction|(have:=(b.getD i 0).toNat_lt;omega)|trace_state
   · have hg:=hend hi
     rw [← hg];have hon:=h3.on;simp only at hon
     (repeat' (first|refine ja ?_ ?_|intro _))<;>first|omega|exact jb|exact jc ‹False›|skip
     all_goals first|omega|rfl|contradiction|exact⟨by omega,by omega⟩|trace_state
 · have h0:=h1
   refine orcL ?_;go_invoke;refine orcS (by kernel_rfl) ?_
   simp only [zi,Nat.reduceAdd];subst hI;simp only [nrmA,nrmB,nrlB,reduceCtorEq,HO.abs.injEq,Gh.fm.injEq]
   by_cases hi:i<b.length
   · have hg:=hgo hi
     have hn:=hrn hi
     (repeat' (first|refine ja ?_ ?_|intro _))<;>first|omega|exact jb|exact jc ‹False›|skip
     all_goals first|omega|exact hg|exact hn|contradiction|(have:=(b.getD i 0).toNat_lt;omega)|trace_state
   · have hg:=hend hi
     rw [← hg];have hon:=h3.on;simp only at hon
     (repeat' (first|refine ja ?_ ?_|intro _))<;>first|omega|exact jb|exact jc ‹False›|skip
     all_goals first|omega|rfl|contradiction|exact⟨by omega,by omega⟩|trace_state
def VH (I:Alg):KU
 |[.v (.one (.ptr 0 0)),.v (.one (.p (.list .byte b)))],[.abs (.fm f)]=>(fun(b:Str)=>(some (.one ⟨I.hid (fmN0 f b),(.ret (.v (.one (.row 1)))),[.abs (.fm (I.hid (y9 f b))),.row .evt 138 (I.hid (yI (y9 f b).out))]⟩):Option CT)) b
 |_,_=>none
theorem zhf:zq Tryz.prog 209 (VH alg):=by
 intro args hp r h;unfold VH at h;split at h<;>cases h
 rename_i b f;simp only [CT.Good,zh];intro hneed;obtain⟨m,hd,bs,p,ln,fs,pa,sk,co,out⟩:=f
 cases ln with
 |none=>exact ztO m hd bs p fs pa sk co out b hneed
 |some ln=>exact ztN m hd bs p ln fs pa sk co out b hneed
def zbs:Know Tryz.prog:=⟨209,VH,zhf⟩
def zbr:Know Tryz.prog:=⟨209,fun I=>zu I (VH I),zf zhf⟩
theorem zqP (m:Str) (hd:Int) (bs:List Int) (p:Int) (fs:List Fld) (pa sk co:Int) (out:List Evt):Spc Tryz.prog 210 [.v (.one (.ptr 0 0))] [.abs (.fm ⟨m,hd,bs,p,none,fs,pa,sk,co,out⟩)] (.ret (.v (.one (.p (.int .i64 ((sW ⟨m,hd,bs,p,none,fs,pa,sk,co,out⟩))))))) [.abs (.fm ⟨m,hd,bs,p,none,fs,pa,sk,co,out⟩)]:=by
 generalize hr:sW ⟨m,hd,bs,p,none,fs,pa,sk,co,out⟩=r;unfold sW at hr;simp only at hr
 refine spH Tryz.func210 (by kernel_rfl) { cfgF with keep:=some [0,2,6]} [] (by kernel_rfl) ?_
 intro I X hI hX
 refine orcL ?_;go_invoke;refine orcS (by kernel_rfl) ?_
 simp only [zi,Nat.reduceAdd];subst hI;simp only [nrmA,nrmB,nrlB,reduceCtorEq,HO.abs.injEq,Gh.fm.injEq]
 (repeat' (first|refine ja ?_ ?_|intro _))<;>first|omega|exact jb|exact jc ‹False›|skip
 all_goals first|omega|rfl|(subst hr;simp [*];done)|trace_state
theorem zqO (m:Str) (hd:Int) (bs:List Int) (p:Int) (ln:Ln) (fs:List Fld) (pa sk co:Int) (out:List Evt):Spc Tryz.prog 210 [.v (.one (.ptr 0 0))] [.abs (.fm ⟨m,hd,bs,p,some ln,fs,pa,sk,co,out⟩)] (.ret (.v (.one (.p (.int .i64 ((sW ⟨m,hd,bs,p,some ln,fs,pa,sk,co,out⟩))))))) [.abs (.fm ⟨m,hd,bs,p,some ln,fs,pa,sk,co,out⟩)]:=by
 generalize hr:sW ⟨m,hd,bs,p,some ln,fs,pa,sk,co,out⟩=r;unfold sW at hr;simp only at hr
 refine spH Tryz.func210 (by kernel_rfl) { cfgF with keep:=some [0,2,6]} [] (by kernel_rfl) ?_
 intro I X hI hX
 refine orcL ?_;go_invoke;refine orcS (by kernel_rfl) ?_
 simp only [zi,Nat.reduceAdd];subst hI;simp only [nrmA,nrmB,nrlB,reduceCtorEq,HO.abs.injEq,Gh.fm.injEq]
 (repeat' (first|refine ja ?_ ?_|intro _))<;>first|omega|exact jb|exact jc ‹False›|skip
 all_goals first|omega|rfl|(subst hr;simp [*];done)|trace_state
def Y9 (I:Alg):KU
 |[.v (.one (.ptr 0 0))],[.abs (.fm f)]=>some (.one ⟨I.hid (True),(.ret (.v (.one (.p (.int .i64 (I.hid (sW f))))))),[.abs (.fm f)]⟩)
 |_,_=>none
theorem zcY:zq Tryz.prog 210 (Y9 alg):=by
 intro args hp r h;unfold Y9 at h;split at h<;>cases h
 rename_i f;simp only [CT.Good,zh];intro _;obtain⟨m,hd,bs,p,ln,fs,pa,sk,co,out⟩:=f
 cases ln with
 |none=>exact zqP m hd bs p fs pa sk co out
 |some ln=>exact zqO m hd bs p ln fs pa sk co out
def U0:Know Tryz.prog:=⟨210,Y9,zcY⟩
def UZ:Know Tryz.prog:=⟨210,fun I=>zu I (Y9 I),zf zcY⟩
def VF (I:Alg):KU
 |[.v (.one (.p (.str s)))],[]=>(fun(s:Str)=>(some (.one ⟨I.hid (s.length≤140737488355328∧Vf s=true),(.ret (.tup [.one (.ptr 0 0),.one (.p (.int .i64 0))])),[.abs (.fm (I.hid (fm0 s)))]⟩):Option CT)) s
 |_,_=>none
theorem zha:zq Tryz.prog 208 (VF alg):=by
 intro args hp r h;unfold VF at h;split at h<;>cases h
 rename_i s;simp only [CT.Good,zh];intro hneed;obtain⟨hs,hm⟩:=hneed
 have hl:s.length≤70:=by unfold Vf at hm;simp at hm;omega
 generalize hr:fm0 s=r;unfold fm0 fmSk at hr;simp only [jJ] at hr
 refine spH Tryz.func208 (by kernel_rfl) { cfgF with keep:=some [0,2,3,4]} [U5,U4,zuQ,zuP,zlJ,zlI] (by kernel_rfl) ?_
 intro I X hI hX
 refine orcL ?_;go_invoke;refine orcS (by kernel_rfl) ?_
 simp only [zi,Nat.reduceAdd];unfold zbq at hr;subst hI;simp only [nrmA,nrmB,nrlB,reduceCtorEq,HO.abs.injEq,Gh.fm.injEq]
 have hM:([13,10,45,45]++s).length=s.length+4:=by simp
 generalize([13,10,45,45]++s:Str)=M at *;have h1:=VJ M 0 13
 (repeat' (first|refine ja ?_ ?_|intro _))<;>first|omega|exact jb|exact jc ‹False›|skip
 all_goals first
  |omega
  |exact .inr (by omega)
  |exact h1
  |exact Int.natCast_nonneg _
  |exact absurd (hm.symm.trans ‹Vf s=false›) (by decide)
  |(subst hr;rfl)
  |(simp only [jh,ji];omega)
def zbp:Know Tryz.prog:=⟨208,VF,zha⟩
def zbo:Know Tryz.prog:=⟨208,fun I=>zu I (VF I),zf zha⟩
theorem zwK (s:Str) (hneed:s.length≤140737488355328∧Vf s=false):Spc Tryz.prog 208 [.v (.one (.p (.str s)))] [] (.ret (.tup [.one (.p (.val (.pointer none))),.one (.p (.int .i64 5))])) []:=by
 obtain⟨hs,hm⟩:=hneed
 refine spH Tryz.func208 (by kernel_rfl) { cfgF with keep:=some [0,2,3,4]} [U5,U4,zuQ,zuP,zlJ,zlI,zbp,zbo] (by kernel_rfl) ?_
 intro I X hI hX
 refine orcL ?_;go_invoke;refine orcS (by kernel_rfl) ?_
 simp only [zi,Nat.reduceAdd];subst hI;simp only [nrmA,nrmB,nrlB,reduceCtorEq]
 exact⟨hs,fun _=>trivial,by simp [hm]⟩
end Go.Proofs.YtnpmenpjagcheaaGreatDoor
