/- Texts of this proof, one behind the other: JrnG JrnP StoL StoA SplC SplS SplD StoB StoN Num TusL Pfx TusA TusB TusC TusD TusE TusF TusG TusH TusI TusJ TusK TusM StoP StoQ TusR TusT. -/
import Derived.Lib.ItoaNum
import Derived.Test.YtcclfkakcgnacaaGreatDoorMc
set_option linter.all false
namespace Go.Proofs.YtcclfkakcgnacaaGreatDoor
open Go Go.Sep Go.Ab
set_option maxRecDepth 100000
def cfgL:Cfg:= { sl:=[⟨104,0,.byte,some 5⟩]}
def WJ (b:Str) (n:Int):Bool:=decide (0≤n∧n≤100000 - (b.length:Int))
def wrC (b x:Str):Int:=if b.length+x.length≤100000 then 0 else 16
def wrB (b x:Str):Str:=if b.length+x.length≤100000 then b++x else b
def crB (b:Str) (s n:Int):Str:=b.take (s+min (max n 0) (b.length - s)).toNat
def cuB (b:Str) (n:Int):Str:=if 0≤n∧n<b.length then b.take n.toNat else b
def cuS (b:Str) (s n:Int):Int:=if 0≤n∧n<b.length then min s n else s
def TS (I:Alg):KU
 |[],[]=>some (.one ⟨I.hid (True),(.ret (.v (.one (.ptr 0 0)))),[.pack [.obj 104 [.row 1,.p (.int .i64 0)],.row .byte 5 (I.hid ([]))]]⟩)
 |_,_=>none
theorem zfK:zq Tryz.prog 26 (TS alg):=by
 intro args hp r h;unfold TS at h;split at h<;>cases h
 simp only [CT.Good,zk];intro _
 refine spH Tryz.func26 (by kernel_rfl) { cfgL with keep:=some [0]} [] (by kernel_rfl) ?_
 intro I X hI hX
 refine orcL ?_;go_invoke;refine orcS (by kernel_rfl) ?_
 simp only [zl,Nat.reduceAdd];trivial
def zje:Know Tryz.prog:=⟨26,TS,zfK⟩
def zjd:Know Tryz.prog:=⟨26,fun I=>zu I (TS I),zf zfK⟩
def X7 (I:Alg):KU
 |[.v (.one (.ptr 0 0))],[.pack [.obj 104 [.row 1,.p (.int .i64 s)],.row .byte 5 b]]=>(fun(b:Str)=>(some (.one ⟨I.hid (b.length≤100000000),(.ret (.v (.one (.row 1)))),[.pack [.obj 104 [.row 1,.p (.int .i64 s)],.row .byte 5 b],.row .byte 5 b]⟩):Option CT)) b
 |_,_=>none
theorem zdv:zq Tryz.prog 38 (X7 alg):=by
 intro args hp r h;unfold X7 at h;split at h<;>cases h
 rename_i s b;simp only [CT.Good,zk];intro hneed
 refine spH Tryz.func38 (by kernel_rfl) { cfgL with keep:=some [0,2]} [X4,X3] (by kernel_rfl) ?_
 intro I X hI hX
 refine orcL ?_;go_invoke;refine orcS (by kernel_rfl) ?_
 simp only [zl,Nat.reduceAdd];subst hI;simp only [nrmA,nrmB];exact hneed
def zdu:Know Tryz.prog:=⟨38,X7,zdv⟩
def zds:Know Tryz.prog:=⟨38,fun I=>zu I (X7 I),zf zdv⟩
def U0 (I:Alg):KU
 |[.v (.one (.ptr 0 0))],[.pack [.obj 104 [.row 1,.p (.int .i64 s)],.row .byte 5 b]]=>(fun(b:Str)=>(some (.one ⟨I.hid (True),(.ret (.tup [])),[.pack [.obj 104 [.row 1,.p (.int .i64 (I.hid (b.length:Int)))],.row .byte 5 b]]⟩):Option CT)) b
 |_,_=>none
theorem zeO:zq Tryz.prog 69 (U0 alg):=by
 intro args hp r h;unfold U0 at h;split at h<;>cases h
 rename_i s b;simp only [CT.Good,zk];intro _
 refine spH Tryz.func69 (by kernel_rfl) { cfgL with keep:=some [0]} [] (by kernel_rfl) ?_
 intro I X hI hX
 refine orcL ?_;go_invoke;refine orcS (by kernel_rfl) ?_
 simp only [zl,Nat.reduceAdd];subst hI;simp only [nrmA,nrmB,nrlB,reduceCtorEq,HO.pack.injEq,HO.obj.injEq]
def zeN:Know Tryz.prog:=⟨69,U0,zeO⟩
def zeM:Know Tryz.prog:=⟨69,fun I=>zu I (U0 I),zf zeO⟩
def Tj (I:Alg):KU
 |[.v (.one (.ptr 0 0)),.v (.one (.p (.int .i64 n)))],[.pack [.obj 104 [.row 1,.p (.int .i64 s)],.row .byte 5 b]]=>(fun(b:Str)=>(some (.one ⟨I.hid (b.length≤100000000),(.ret (.v (.one (.p (.bool (I.hid (WJ b n))))))),[.pack [.obj 104 [.row 1,.p (.int .i64 s)],.row .byte 5 b]]⟩):Option CT)) b
 |_,_=>none
theorem ze9:zq Tryz.prog 114 (Tj alg):=by
 intro args hp r h;unfold Tj at h;split at h<;>cases h
 rename_i n s b;simp only [CT.Good,zk];intro hneed
 refine spH Tryz.func114 (by kernel_rfl) { cfgL with keep:=some [0,1,4]} [] (by kernel_rfl) ?_
 intro I X hI hX
 refine orcL ?_;go_invoke;refine orcS (by kernel_rfl) ?_
 simp only [zl,Nat.reduceAdd];subst hI;simp only [nrmA,nrmB,nrlB,reduceCtorEq];unfold WJ
 exact⟨fun h=>⟨by omega,decide_eq_decide.2 (by omega)⟩,fun h=>(decide_eq_false (by omega)).symm⟩
def ze8:Know Tryz.prog:=⟨114,Tj,ze9⟩
def ze7:Know Tryz.prog:=⟨114,fun I=>zu I (Tj I),zf ze9⟩
def Xb (I:Alg):KU
 |[.v (.one (.ptr 0 0)),.v (.one (.p (.list .byte x)))],[.pack [.obj 104 [.row 1,.p (.int .i64 s)],.row .byte 5 b]]=>(fun(b x:Str)=>(some (.one ⟨I.hid (b.length≤100000∧x.length≤100000000),(.ret (.v (.one (.p (.int .i64 (I.hid (wrC b x))))))),[.pack [.obj 104 [.row 1,.p (.int .i64 s)],.row .byte 5 (I.hid (wrB b x))]]⟩):Option CT)) b x
 |_,_=>none
theorem zbG:zq Tryz.prog 117 (Xb alg):=by
 intro args hp r h;unfold Xb at h;split at h<;>cases h
 rename_i x s b;simp only [CT.Good,zk];intro hneed
 refine spH Tryz.func117 (by kernel_rfl) { cfgL with keep:=some [0,1,4]} [ze8,ze7] (by kernel_rfl) ?_
 intro I X hI hX
 refine orcL ?_;go_invoke;refine orcS (by kernel_rfl) ?_
 simp only [zl,Nat.reduceAdd];subst hI
 have hr:WJ b (x.length:Int)=decide (b.length+x.length≤100000):=by unfold WJ;exact decide_eq_decide.2 (by omega)
 simp only [nrmA,nrmB,nrlB,reduceCtorEq,HO.pack.injEq,HO.obj.injEq];rw [hr]
 by_cases hc:b.length+x.length≤100000
 · simp only [wrC,wrB,if_pos hc,decide_eq_true hc]
   simp only [nrmA,nrmB,nrlB,reduceCtorEq]
   exact⟨by omega,fun h=>h.elim,fun _=>by omega⟩
 · simp only [wrC,wrB,if_neg hc,decide_eq_false hc]
   simp only [nrmA,nrmB,nrlB,reduceCtorEq]
   exact⟨by omega,fun _=>trivial,fun h=>h.elim⟩
def zgU:Know Tryz.prog:=⟨117,Xb,zbG⟩
def zgT:Know Tryz.prog:=⟨117,fun I=>zu I (Xb I),zf zbG⟩
def X0 (I:Alg):KU
 |[.v (.one (.ptr 0 0)),.v (.one (.p (.int .i64 n)))],[.pack [.obj 104 [.row 1,.p (.int .i64 s)],.row .byte 5 b]]=>(fun(b:Str)=>(some (.one ⟨I.hid (b.length≤100000∧0≤s∧s≤b.length),(.ret (.tup [])),[.pack [.obj 104 [.row 1,.p (.int .i64 (I.hid ((crB b s n).length:Int)))],.row .byte 5 (I.hid (crB b s n))]]⟩):Option CT)) b
 |_,_=>none
theorem zdl:zq Tryz.prog 46 (X0 alg):=by
 intro args hp r h;unfold X0 at h;split at h<;>cases h
 rename_i n s b;simp only [CT.Good,zk];intro hneed
 refine spH Tryz.func46 (by kernel_rfl) { cfgL with cut:=[35],keep:=some [0,1,4]} [zeN,zeM] (by kernel_rfl) ?_
 intro I X hI hX
 refine orcL ?_;go_invoke;refine orcS (by kernel_rfl) ?_
 simp only [zl,Nat.reduceAdd];subst hI;simp only [nrmA,nrmB,nrlB,reduceCtorEq,HO.pack.injEq,HO.obj.injEq]
 obtain⟨K,hK,h0,hle⟩: ∃ K:Int,s+(if(if n≤0 then 0 else n)≤(b.length:Int) - s then(if n≤0 then 0 else n) else(b.length:Int) - s)=K∧s≤K∧K≤b.length:=⟨_,rfl,by omega,by omega⟩
 have hcr:crB b s n=b.take K.toNat:=by
  unfold crB;rw [← hK]
  congr 2
 rw [hK,hcr]
 exact⟨by omega,by omega,by omega,by omega,rfl,rfl⟩
def zdk:Know Tryz.prog:=⟨46,X0,zdl⟩
def zdj:Know Tryz.prog:=⟨46,fun I=>zu I (X0 I),zf zdl⟩
def SI (I:Alg):KU
 |[.v (.one (.ptr 0 0)),.v (.one (.p (.int .i64 n)))],[.pack [.obj 104 [.row 1,.p (.int .i64 s)],.row .byte 5 b]]=>(fun(b:Str)=>(some (.one ⟨I.hid (b.length≤100000∧0≤s∧s≤b.length),(.ret (.tup [])),[.pack [.obj 104 [.row 1,.p (.int .i64 (I.hid (cuS b s n)))],.row .byte 5 (I.hid (cuB b n))]]⟩):Option CT)) b
 |_,_=>none
theorem zgp:zq Tryz.prog 48 (SI alg):=by
 intro args hp r h;unfold SI at h;split at h<;>cases h
 rename_i n s b;simp only [CT.Good,zk];intro hneed
 refine spH Tryz.func48 (by kernel_rfl) { cfgL with cut:=[22],keep:=some [0,1]} [] (by kernel_rfl) ?_
 intro I X hI hX
 refine orcL ?_;go_invoke;refine orcS (by kernel_rfl) ?_
 simp only [zl,Nat.reduceAdd];subst hI;simp only [nrmA,nrmB,nrlB,reduceCtorEq,HO.pack.injEq,HO.obj.injEq]
 refine⟨fun h1=>⟨fun h2=>⟨by omega,?_,?_⟩,fun h2=> ?_⟩,fun h1=> ?_⟩
 · unfold cuS;rw [if_pos (show 0≤n∧n<(b.length:Int) from⟨h1,h2⟩)];omega
 · unfold cuB;rw [if_pos (show 0≤n∧n<(b.length:Int) from⟨h1,h2⟩)]
 · unfold cuS cuB;rw [if_neg (show ¬ (0≤n∧n<(b.length:Int)) from fun h=>by omega),if_neg (show ¬ (0≤n∧n<(b.length:Int)) from fun h=>by omega)];exact⟨rfl,rfl⟩
 · unfold cuS cuB;rw [if_neg (show ¬ (0≤n∧n<(b.length:Int)) from fun h=>by omega),if_neg (show ¬ (0≤n∧n<(b.length:Int)) from fun h=>by omega)];exact⟨rfl,rfl⟩
def zgo:Know Tryz.prog:=⟨48,SI,zgp⟩
def zgn:Know Tryz.prog:=⟨48,fun I=>zu I (SI I),zf zgp⟩
end Go.Proofs.YtcclfkakcgnacaaGreatDoor
namespace Go.Jrn
open Go Go.Ab
theorem pow5 {i:Nat} (h:i<5):128 ^ (5 - i)=128 * 128 ^ (5 - (i+1)):=by
 rw [show 5 - i=(5 - (i+1))+1 by omega,Nat.pow_succ,Nat.mul_comm]
theorem Qj: ∀ (s:Str) (i u:Nat) (v:Int) (r:Str),numF i u s=(v,r,true)→∃ x,v=((u+x * 128 ^ i:Nat):Int) - 1∧s=sev x++r∧(0<i→0<x)∧x<128 ^ (5 - i)
 |[],i,u,v,r,h=>by simp [numF] at h
 | c :: l,i,u,v,r,h=>by
   rw [numF] at h
   split at h
   · simp at h
   · rename_i h5
     have hp:=pow5 (i:=i) (by omega)
     have hpos:0<128 ^ (5 - (i+1)):=Nat.pow_pos (by omega)
     split at h
     · rename_i hc
       simp only [Prod.mk.injEq,decide_eq_true_eq] at h;obtain⟨rfl,rfl,h3⟩:=h
       refine⟨c.toNat,rfl,?_,by omega,by omega⟩
       rw [sD hc,UInt8.ofNat_toNat];rfl
     · rename_i hc
       obtain⟨y,h1,h2,h3,h4⟩:=Qj l (i+1) _ v r h
       have hy:=h3 (by omega)
       have hc2:c.toNat<256:=UInt8.toNat_lt c
       have h45:128 ^ (5 - (i+1))≤128 ^ 4:=Nat.pow_le_pow_right (by omega) (by omega)
       refine⟨c.toNat % 128+128 * y,?_,?_,by omega,?_⟩
       · rw [h1,Nat.pow_succ,Nat.add_mul]
         congr 2
         rw [Nat.add_assoc]
         congr 1
         rw [Nat.mul_comm (128 ^ i) 128,Nat.mul_comm 128 y,Nat.mul_assoc]
       · rw [U6 (by omega) (by omega),h2,show(c.toNat % 128+128 * y) % 128+128=c.toNat by omega,show(c.toNat % 128+128 * y) / 128=y by omega,UInt8.ofNat_toNat];rfl
       · rw [hp];omega
theorem XM {s r:Str} {v:Int} (h:num s=(v,r,true)): -1≤v∧v<34359738367∧s=sev (v+1).toNat++r:=by
 obtain⟨x,h1,h2,_,h4⟩:=Qj s 0 0 v r h;simp only [Nat.pow_zero,Nat.mul_one,Nat.zero_add,Nat.sub_zero] at h1 h4
 have:(v+1).toNat=x:=by omega
 rw [this]
 exact⟨by omega,by omega,h2⟩
theorem zdZ: ∀ (x i u:Nat) (r:Str),i<5→x<128 ^ (5 - i)→(0<i→0<x)→numF i u (sev x++r)=(((u+x * 128 ^ i:Nat):Int) - 1,r,true):=by
 intro x
 induction x using Nat.strongRecOn with
 | _ x ih=>
   intro i u r h5 hx hi;have hp:=pow5 h5
   have h55:128 ^ (5 - i)≤128 ^ 5:=Nat.pow_le_pow_right (by omega) (by omega)
   rcases Nat.lt_or_ge x 128 with hs|hb
   · have e:(UInt8.ofNat x).toNat=x:=by rw [UInt8.toNat_ofNat'];omega
     rw [sD hs,List.cons_append,numF,if_neg (by omega),e,if_pos hs]
     simp only [List.nil_append,Prod.mk.injEq,true_and,decide_eq_true_eq];omega
   · have e:(UInt8.ofNat (x % 128+128)).toNat=x % 128+128:=by rw [UInt8.toNat_ofNat'];omega
     have hi4:i+1<5:=by
      rcases Nat.lt_or_ge (i+1) 5 with h|h
      · exact h
      · have:i=4:=by omega
        subst this;simp at hx;omega
     rw [U6 hb (by omega),List.cons_append,numF,if_neg (by omega),e,if_neg (by omega),ih (x / 128) (by omega) (i+1) _ r hi4 (by rw [Nat.div_lt_iff_lt_mul (by omega),Nat.mul_comm];omega) (by omega)]
     simp only [Prod.mk.injEq,and_true]
     congr 2
     rw [show(x % 128+128) % 128=x % 128 by omega,Nat.pow_succ,Nat.add_assoc]
     congr 1
     rw [Nat.mul_comm (128 ^ i) 128,← Nat.mul_assoc,← Nat.add_mul]
     congr 1
     omega
theorem sN {v:Int} {r:Str} (h1: -1≤v) (h2:v<34359738367):num (sev (v+1).toNat++r)=(v,r,true):=by
 rw [num,zdZ (v+1).toNat 0 0 r (by omega) (by simp;omega) (by omega)]
 simp only [Nat.pow_zero,Nat.mul_one,Nat.zero_add,Prod.mk.injEq,and_true];omega
theorem zfx: ∀ (x i u:Nat) (p:Str),x<128 ^ 9→p.length<(sev x).length→p<+:sev x→(numF i u p).2.2=false:=by
 intro x
 induction x using Nat.strongRecOn with
 | _ x ih=>
   intro i u p hx hl hp
   cases p with
   |nil=>rfl
   | cons c p=>
     rcases Nat.lt_or_ge x 128 with hs|hb
     · rw [sD hs] at hl;simp at hl
     · rw [U6 hb hx] at hl hp
       obtain⟨rfl,hp2⟩:=List.cons_prefix_cons.1 hp
       have e:(UInt8.ofNat (x % 128+128)).toNat=x % 128+128:=by rw [UInt8.toNat_ofNat'];omega
       rw [numF]
       split
       · rfl
       · rw [e,if_neg (by omega)]
         exact ih (x / 128) (by omega) (i+1) _ p (Nat.lt_of_le_of_lt (Nat.div_le_self _ _) hx) (by simpa using hl) hp2
theorem zdG {s t:Str} {k i n:Int} (h:three s=some (k,i,n,t)):s=sev (k+1).toNat++sev (i+1).toNat++sev (n+1).toNat++t:=by
 unfold three at h
 split at h
 · rename_i k' r1 h1
   split at h
   · rename_i i' r2 h2
     split at h
     · rename_i n' r3 h3
       simp only [jv,Prod.mk.injEq] at h;obtain⟨rfl,rfl,rfl,rfl⟩:=h;obtain⟨_,_,e1⟩:=XM h1;obtain⟨_,_,e2⟩:=XM h2;obtain⟨_,_,e3⟩:=XM h3;rw [e1,e2,e3];simp only [jo]
     · cases h
   · cases h
 · cases h
theorem zaF {k i n:Int} {t:Str} (hk: -1≤k∧k<34359738367) (hi: -1≤i∧i<34359738367) (hn: -1≤n∧n<34359738367):three (sev (k+1).toNat++sev (i+1).toNat++sev (n+1).toNat++t)=some (k,i,n,t):=by
 unfold three;rw [jo,jo,sN hk.1 hk.2];simp only;rw [sN hi.1 hi.2];simp only;rw [sN hn.1 hn.2]
theorem zft {s r:Str} {e:Ent} (h:oneM s=some (e,r)):mayM e=true∧s=encB e++r:=by
 unfold oneM at h
 split at h
 · rename_i hx
   simp only [jv,Prod.mk.injEq] at h;obtain⟨rfl,rfl⟩:=h;unfold oneX at hx ⊢
   split at hx
   · rename_i n q hn
     split at hx
     · cases hx
     · rename_i hc
       rw [if_neg hc]
       split at hx
       · rename_i k i m t ht
         simp only [ht];refine⟨hx,?_⟩;obtain⟨_,_,e1⟩:=XM hn;have e2:=zdG ht
         have hl:(q.take n.toNat).length=n.toNat:=by rw [jr];omega
         have e3:enc3 ⟨k,i,m,t⟩=q.take n.toNat:=by rw [e2];rfl
         rw [encB,e3,hl,show n.toNat+1=(n+1).toNat by omega,jo,List.take_append_drop]
         exact e1
       · cases hx
   · cases hx
 · cases h
theorem Ql {e:Ent} (h:mayM e=true):(-1≤e.kind∧e.kind<34359738367)∧(-1≤e.id∧e.id<34359738367)∧(-1≤e.n∧e.n<34359738367)∧e.text.length<1048576:=by
 simp only [mayM,few,jJ,decide_eq_true_eq] at h;omega
theorem zdc {e:Ent} (h:mayM e=true):(enc3 e).length<1048606:=by
 have:=Ql h;have h1:=yY (e.kind+1).toNat;have h2:=yY (e.id+1).toNat;have h3:=yY (e.n+1).toNat;simp only [enc3,jk];omega
theorem zdY {e:Ent} (r:Str) (h:mayM e=true):oneM (encB e++r)=some (e,r):=by
 have hl:=zdc h;obtain⟨h1,h2,h3,_⟩:=Ql h
 have hn:num (encB e++r)=(((enc3 e).length:Int),enc3 e++r,true):=by
  have:=sN (v:=((enc3 e).length:Int)) (r:=enc3 e++r) (by omega) (by omega)
  rw [show(((enc3 e).length:Int)+1).toNat=(enc3 e).length+1 by omega] at this
  rw [encB,jo];exact this
 have hx:oneX (encB e++r)=(e,r,true):=by
  unfold oneX;rw [hn];simp only
  rw [if_neg (by rw [jk];omega),jI,List.take_left' rfl,List.drop_left' rfl]
  have ht:three (enc3 e)=some (e.kind,e.id,e.n,e.text):=zaF h1 h2 h3;rw [ht];simp only;have:mayM ⟨e.kind,e.id,e.n,e.text⟩=true:=h;rw [this]
 rw [oneM,hx];rfl
theorem zfr {e:Ent} {p:Str} (h:mayM e=true) (hp:p<+:encB e) (hl:p.length<(encB e).length):oneM p=none:=by
 have hlen:=zdc h;rw [encB] at hp hl;rw [jk] at hl
 rcases Nat.lt_or_ge p.length (sev ((enc3 e).length+1)).length with h1|h1
 · refine zfs ?_
   have hp2:p<+:sev ((enc3 e).length+1):=by
    obtain⟨t,ht⟩:=hp;have:=congrArg (List.take p.length) ht
    rw [List.take_left' rfl,List.take_append_of_le_length (by omega)] at this
    rw [this];exact List.take_prefix _ _
   exact zfx _ 0 0 p (by omega) h1 hp2
 · obtain⟨t,ht⟩:=hp
   have e1:p=sev ((enc3 e).length+1)++p.drop (sev ((enc3 e).length+1)).length:=by
    have:=congrArg (List.take (sev ((enc3 e).length+1)).length) ht;rw [List.take_left' rfl,List.take_append_of_le_length h1] at this;rw [← this];rw [jr,Nat.min_eq_left h1,List.take_append_drop]
   have hn:=sN (v:=((enc3 e).length:Int)) (r:=p.drop (sev ((enc3 e).length+1)).length) (by omega) (by omega)
   rw [show(((enc3 e).length:Int)+1).toNat=(enc3 e).length+1 by omega,← e1] at hn
   refine zhv (.inr ?_);rw [hn];simp only [jB];omega
def zD:List Ent→Str
 |[]=>[]
 |e::l=>encB e++zD l
theorem uU (a b:List Ent):zD (a++b)=zD a++zD b:=by
 induction a with
 |nil=>rfl
 |cons e l ih=>simp [zD,ih,jo]
theorem zdh: ∀ (f:Nat) (b:Str),b.length≤f→b=zD (dec b).1++(dec b).2∧∀ e ∈ (dec b).1,mayM e=true
 | f, b, hf=>by
   cases ho:oneM b with
   |none=>rw [SG ho];exact⟨rfl,fun e h=>by cases h⟩
   | some p=>
     obtain⟨e,r⟩:=p;obtain⟨h1,h2⟩:=zft ho;have hlt:=TM ho
     cases f with
     |zero=>omega
     | succ f=>
       obtain⟨h3,h4⟩:=zdh f r (by omega)
       rw [SE ho];refine⟨?_,fun x hx=> ?_⟩
       · simp only [zD]
         rw [jo,← h3];exact h2
       · cases hx with
         |head=>exact h1
         |tail _ h=>exact h4 x h
theorem torn: ∀ (l:List Ent) (k:Nat),(∀ e ∈ l,mayM e=true)→k≤(zD l).length→∃ W,W≤l.length∧(zD (l.take W)).length≤k∧(∀ j,j<l.length→((zD (l.take (j+1))).length≤k↔j<W))∧
  (dec ((zD l).take k)).1=l.take W∧(dec ((zD l).take k)).2.length+(zD (l.take W)).length=k
 | [],k,_,hk=>by
   have:k=0:=by simpa [zD] using hk
   subst this
   exact⟨0,jK _,jK _,fun j hj=>by simp at hj,rfl,rfl⟩
 | e :: l,k,hm,hk=>by
   have he:=hm e (List.mem_cons_self ..);simp only [zD,jk] at hk
   rcases Nat.lt_or_ge k (encB e).length with h1|h1
   · have ht:(zD (e::l)).take k=(encB e).take k:=by rw [zD,List.take_append_of_le_length (by omega)]
     have hl:((encB e).take k).length=k:=by rw [jr];omega
     have hn:=zfr he (List.take_prefix k (encB e)) (by omega)
     rw [ht,SG hn]
     refine⟨0,jL _,jL _,fun j _=>⟨fun h=> ?_,fun h=>by omega⟩,rfl,by simp [zD,hl]⟩
     rw [List.take_succ_cons,zD,jk] at h;omega
   · obtain⟨W,a1,a2,a3,a4,a5⟩:=torn l (k - (encB e).length) (fun x hx=>hm x (List.mem_cons_of_mem _ hx)) (by omega)
     have ht:(zD (e::l)).take k=encB e++(zD l).take (k - (encB e).length):=by
      rw [zD,List.take_append,jq h1]
     rw [ht,SE (zdY _ he)]
     refine⟨W+1,by simp;omega,?_,fun j hj=> ?_,by simp [a4],?_⟩
     · rw [List.take_succ_cons,zD,jk];omega
     · rw [List.take_succ_cons,zD,jk]
       cases j with
       |zero=>simp [zD];omega
       | succ j=>
         have:=a3 j (by simpa using hj)
         omega
     · rw [List.take_succ_cons,zD,jk];simp only;omega
theorem zhT {e:Ent} (h:mayM e=true):(encB e).length≤e.text.length+50:=by
 have h0:=yY ((enc3 e).length+1);have h1:=yY (e.kind+1).toNat;have h2:=yY (e.id+1).toNat;have h3:=yY (e.n+1).toNat;simp only [encB,enc3,jk] at h0 ⊢;omega
end Go.Jrn
namespace Go.Proofs.YtcclfkakcgnacaaGreatDoor
open Go Go.Sep Go.Ab Go.Jrn
def RY (l:List Upl) (n:Int) (e:Ent):Int:=
 if e.kind=1 then(if creC l e.n e.text=0∧¬ n+1=e.id then 20 else creC l e.n e.text)
 else if e.kind=2 then appC l e.id (getU l e.id).bytes.length e.text
 else if e.kind=3 then decC l e.id e.n
 else if e.kind=4 then droC l e.id
 else if e.kind=5 then begC l e.id
 else endC l e.id
def Y5 (l:List Upl) (n:Int) (e:Ent):List Upl:=
 if e.kind=1 then creL l n e.n e.text
 else if e.kind=2 then appL l e.id (getU l e.id).bytes.length e.text
 else if e.kind=3 then decL l e.id e.n
 else if e.kind=4 then droL l e.id
 else if e.kind=5 then begL l e.id
 else endL l e.id
def ZE (l:List Upl) (n:Int) (e:Ent):Int:=if e.kind=1 then creN l n e.n e.text else n
theorem zfe {l:List Upl} {n:Int} (h:zM l n) (e:Ent):zM (Y5 l n e) (ZE l n e):=by
 unfold Y5 ZE
 split
 · exact zkG h _ _
 split
 · exact zkR h _ _ _
 split
 · exact zkE h _ _
 split
 · exact zkB h _
 split
 · exact zkO h _
 · exact zkz h _
theorem zci (l:List Upl) (n:Int) (e:Ent):n≤ZE l n e∧ZE l n e≤n+1:=by
 unfold ZE creN
 split
 · split<;>omega
 · omega
def replay:List Upl × Int→List Ent→List Upl × Int
 |p,[]=>p
 |p,e::es=>replay (Y5 p.1 p.2 e,ZE p.1 p.2 e) es
theorem Yh: ∀ (a b:List Ent) (p:List Upl × Int),replay p (a++b)=replay (replay p a) b
 |[],_,_=>rfl
 |_::a,b,_=>Yh a b _
theorem WL: ∀ (es:List Ent) (p:List Upl × Int),zM p.1 p.2→zM (replay p es).1 (replay p es).2
 |[],_,h=>h
 |e::es,_,h=>WL es _ (zfe h e)
theorem Tm: ∀ (es:List Ent) (p:List Upl × Int),(replay p es).2≤p.2+es.length
 |[],_=>by simp [replay]
 | e::es,p=>by
   have:=Tm es (Y5 p.1 p.2 e,ZE p.1 p.2 e);have:=zci p.1 p.2 e;simp only [replay,jh] at *;omega
theorem zaT {es:List Ent} {i:Nat} (p:List Upl × Int) (h:i<es.length):replay p (es.take (i+1))=(Y5 (replay p (es.take i)).1 (replay p (es.take i)).2 es[i],ZE (replay p (es.take i)).1 (replay p (es.take i)).2 es[i]):=by
 rw [jA h,Yh];rfl
def wrtC (l:List Upl) (n:Int) (b:Str) (e:Ent):Int:=
 if ¬ RY l n e=0 then RY l n e else if ¬ encC e=0 then encC e else wrC b (encM e)
def wrtL (l:List Upl) (n:Int) (b:Str) (e:Ent):List Upl:=if wrtC l n b e=0 then Y5 l n e else l
def wrtN (l:List Upl) (n:Int) (b:Str) (e:Ent):Int:=if wrtC l n b e=0 then ZE l n e else n
def wrtB (l:List Upl) (n:Int) (b:Str) (e:Ent):Str:=if wrtC l n b e=0 then b++encB e else b
theorem zev {l:List Upl} {n:Int} (h:zM l n) (b:Str) (e:Ent):zM (wrtL l n b e) (wrtN l n b e):=by
 unfold wrtL wrtN
 split
 · exact zfe h e
 · exact h
theorem zew (l:List Upl) (n:Int) (b:Str) (e:Ent):n≤wrtN l n b e∧wrtN l n b e≤n+1:=by
 have:=zci l n e;unfold wrtN
 split<;>omega
theorem UO {l:List Upl} {n:Int} {b:Str} {e:Ent} (h:wrtC l n b e=0):RY l n e=0∧mayM e=true∧b.length+(encB e).length≤100000:=by
 unfold wrtC at h
 split at h
 · rename_i h1;exact absurd h h1
 rename_i h1
 split at h
 · rename_i h2;exact absurd h h2
 rename_i h2
 have hm:mayM e=true:=by
  unfold encC at h2
  cases hm:mayM e with
  |true=>rfl
  |false=>rw [hm] at h2;simp at h2
 unfold wrC at h
 split at h
 · rename_i h3
   refine⟨Decidable.not_not.1 h1,hm,?_⟩;unfold encM at h3;rw [if_pos hm] at h3;exact h3
 · cases h
theorem Xa {l:List Upl} {n:Int} {b:Str} (e:Ent) (h:b.length≤100000):(wrtB l n b e).length≤100000:=by
 unfold wrtB
 split
 · rename_i h1
   rw [jk];exact(UO h1).2.2
 · exact h
def crsB (b:Str) (s k:Int):Str:=cuB (crB b s k) (Wj (crB b s k))
def crsE (b:Str) (s k:Int):List Ent:=(Jrn.dec (crB b s k)).1
def crsP (b:Str) (s k:Int):List Upl × Int:=replay ([],0) (crsE b s k)
theorem zbJ (b:Str):0≤Wj b∧Wj b≤b.length:=by
 have:=Jrn.zgl b;unfold Wj;omega
theorem zhV (b:Str) (s k:Int):cuS (crB b s k) (crB b s k).length (Wj (crB b s k))=(crsB b s k).length:=by
 have:=zbJ (crB b s k);unfold crsB cuS cuB
 split
 · rw [jr];omega
 · rfl
theorem zbq (b:Str) (s k:Int):(crB b s k).length≤b.length:=by unfold crB;rw [jr];omega
theorem zhW (b:Str) (s k:Int):(crsB b s k).length≤b.length:=by
 have:=zbq b s k;unfold crsB cuB
 split
 · rw [jr];omega
 · exact this
theorem UI: ∀ {es:List Ent} {e:Ent},e ∈ es→(encB e).length≤(zD es).length
 | f::es,e,h=>by
   simp only [zD,jk]
   rcases List.mem_cons.1 h with rfl|h
   · omega
   · have:=UI h;omega
theorem zhP (e:Ent):e.text.length≤(encB e).length:=by unfold encB enc3;simp only [jk];omega
theorem zek {b:Str} {s k:Int} (h:b.length≤100000):(crsE b s k).length≤100000∧∀ e ∈ crsE b s k,e.text.length≤100000:=by
 have h1:=zbq b s k;have h2:=Jrn.zgl (crB b s k);have h3:=Jrn.zdh _ (crB b s k) (jK _);have h4:=congrArg List.length h3.1;rw [jk] at h4;unfold crsE
 refine⟨by omega,fun e he=> ?_⟩
 have:=UI he;have:=zhP e;omega
end Go.Proofs.YtcclfkakcgnacaaGreatDoor
namespace Go.Proofs.YtcclfkakcgnacaaGreatDoor
open Go Go.Sep Go.Ab Go.Jrn
set_option maxRecDepth 100000
def Vz:Cfg:= { sl:=[⟨90,0,.upl,some 67⟩,⟨104,0,.byte,some 5⟩]}
def Zn (I:Alg):KU
 |[],[]=>some (.one ⟨I.hid (True),(.ret (.v (.one (.ptr 0 0)))),[.pack [.obj 48 [.ptr 1 0,.ptr 2 0],.pack [.obj 90 [.row 1,.p (.int .i64 0)],.row .upl 67 (I.hid ([]))],.pack [.obj 104 [.row 1,.p (.int .i64 0)],.row .byte 5 (I.hid ([]))]]]⟩)
 |_,_=>none
theorem RF:zq Tryz.prog 8 (Zn alg):=by
 intro args hp r h;unfold Zn at h;split at h<;>cases h
 simp only [CT.Good,zk];intro _
 refine spH Tryz.func8 (by kernel_rfl) { Vz with keep:=some [0]} [zaM,zaL,zje,zjd] (by kernel_rfl) ?_
 intro I X hI hX
 refine orcL ?_;go_invoke;refine orcS (by kernel_rfl) ?_
 simp only [zl,Nat.reduceAdd];subst hI;exact⟨trivial,trivial,trivial,rfl⟩
def Zm:Know Tryz.prog:=⟨8,Zn,RF⟩
def Zl:Know Tryz.prog:=⟨8,fun I=>zu I (Zn I),zf RF⟩
def Xl (I:Alg):KU
 |[.v (.one (.ptr 0 0)),.v (.agg [.p (.int .i64 k),.p (.int .i64 i),.p (.int .i64 m),.p (.list .byte t)])],[.pack [.obj 90 [.row 1,.p (.int .i64 n)],.row .upl 67 l]]=>(fun(l:List Upl) (t:Str)=>(some (.one ⟨I.hid (zM l n∧n≤1000000∧t.length≤1000000),(.ret (.v (.one (.p (.int .i64 (I.hid (RY l n ⟨k,i,m,t⟩))))))),[.pack [.obj 90 [.row 1,.p (.int .i64 (I.hid (ZE l n ⟨k,i,m,t⟩)))],.row .upl 67 (I.hid (Y5 l n ⟨k,i,m,t⟩))]]⟩):Option CT)) l t
 |_,_=>none
set_option maxHeartbeats 4000000 in
theorem zbW:zq Tryz.prog 49 (Xl alg):=by
 intro args hp r h;unfold Xl at h;split at h<;>cases h
 rename_i k i m t n l
 revert l;intro(l:List Upl)
 simp only [CT.Good,zk];intro hneed;obtain⟨hs,hn,ht⟩:=hneed;generalize hc:RY l n ⟨k,i,m,t⟩=c;generalize hl:Y5 l n ⟨k,i,m,t⟩=l';generalize hN:ZE l n ⟨k,i,m,t⟩=n'
 refine spH Tryz.func49 (by kernel_rfl) { Vz with keep:=some [0,1,3,4,5,6,7,10]} [zdN,zdM,zdP,zdO,zaO,zaN,ze5,ze4,ziT,ziS,rO,rM,Yg,Yf,zhh,zhg] (by kernel_rfl) ?_
 intro I X hI hX
 refine orcL ?_;go_invoke;refine orcS (by kernel_rfl) ?_
 simp only [zl,Nat.reduceAdd];subst hI;simp only [nrmA,nrmB,nrlB,reduceCtorEq,HO.pack.injEq,HO.obj.injEq];unfold RY at hc;unfold Y5 at hl;unfold ZE at hN;simp only at hc hl hN
 have hci:creC l m t=0→creI l n m t=n+1:=fun h=>by unfold creI;rw [if_pos h]
 (repeat' (first|refine ja ?_ ?_|intro _))<;>first|omega|exact jb|exact jc ‹False›|skip
 all_goals first
  |exact hs
  |exact hn
  |exact ht
  |exact⟨hs,hn,ht⟩
  |exact⟨hs,ht⟩
  |(have:=hci (by assumption);((repeat(first|rewrite [if_pos (by first|omega|assumption|(simp only [*,or_self,or_true,true_or,or_false,false_or,jf,jg,jd,je,and_self,and_true,true_and];done)|(simp only [*];omega)|(simp [*];done)|(simp [*];omega))] at hc|rewrite [if_neg (by first|omega|assumption|(simp only [*,or_self,or_true,true_or,or_false,false_or,jf,jg,jd,je,and_self,and_true,true_and];done)|(simp only [*];omega)|(simp [*];done)|(simp [*];omega))] at hc)));subst hc;((repeat(first|rewrite [if_pos (by first|omega|assumption|(simp only [*,or_self,or_true,true_or,or_false,false_or,jf,jg,jd,je,and_self,and_true,true_and];done)|(simp only [*];omega)|(simp [*];done)|(simp [*];omega))] at hl|rewrite [if_neg (by first|omega|assumption|(simp only [*,or_self,or_true,true_or,or_false,false_or,jf,jg,jd,je,and_self,and_true,true_and];done)|(simp only [*];omega)|(simp [*];done)|(simp [*];omega))] at hl)));subst hl;((repeat(first|rewrite [if_pos (by first|omega|assumption|(simp only [*,or_self,or_true,true_or,or_false,false_or,jf,jg,jd,je,and_self,and_true,true_and];done)|(simp only [*];omega)|(simp [*];done)|(simp [*];omega))] at hN|rewrite [if_neg (by first|omega|assumption|(simp only [*,or_self,or_true,true_or,or_false,false_or,jf,jg,jd,je,and_self,and_true,true_and];done)|(simp only [*];omega)|(simp [*];done)|(simp [*];omega))] at hN)));subst hN;first|rfl|omega)
  |(((repeat(first|rewrite [if_pos (by first|omega|assumption|(simp only [*,or_self,or_true,true_or,or_false,false_or,jf,jg,jd,je,and_self,and_true,true_and];done)|(simp only [*];omega)|(simp [*];done)|(simp [*];omega))] at hc|rewrite [if_neg (by first|omega|assumption|(simp only [*,or_self,or_true,true_or,or_false,false_or,jf,jg,jd,je,and_self,and_true,true_and];done)|(simp only [*];omega)|(simp [*];done)|(simp [*];omega))] at hc)));subst hc;((repeat(first|rewrite [if_pos (by first|omega|assumption|(simp only [*,or_self,or_true,true_or,or_false,false_or,jf,jg,jd,je,and_self,and_true,true_and];done)|(simp only [*];omega)|(simp [*];done)|(simp [*];omega))] at hl|rewrite [if_neg (by first|omega|assumption|(simp only [*,or_self,or_true,true_or,or_false,false_or,jf,jg,jd,je,and_self,and_true,true_and];done)|(simp only [*];omega)|(simp [*];done)|(simp [*];omega))] at hl)));subst hl;((repeat(first|rewrite [if_pos (by first|omega|assumption|(simp only [*,or_self,or_true,true_or,or_false,false_or,jf,jg,jd,je,and_self,and_true,true_and];done)|(simp only [*];omega)|(simp [*];done)|(simp [*];omega))] at hN|rewrite [if_neg (by first|omega|assumption|(simp only [*,or_self,or_true,true_or,or_false,false_or,jf,jg,jd,je,and_self,and_true,true_and];done)|(simp only [*];omega)|(simp [*];done)|(simp [*];omega))] at hN)));subst hN;first|rfl|omega)
def U2:Know Tryz.prog:=⟨49,Xl,zbW⟩
def U1:Know Tryz.prog:=⟨49,fun I=>zu I (Xl I),zf zbW⟩
def uD (I:Alg):KU
 |[.v (.one (.ptr 0 0)),.v (.agg [.p (.int .i64 k),.p (.int .i64 i),.p (.int .i64 m),.p (.list .byte t)])],[.pack [.obj 48 [.ptr 1 0,.ptr 2 0],.pack [.obj 90 [.row 1,.p (.int .i64 n)],.row .upl 67 l],.pack [.obj 104 [.row 1,.p (.int .i64 s)],.row .byte 5 b]]]=>(fun(l:List Upl) (b t:Str)=>(some (.one ⟨I.hid (zM l n∧n≤200000∧t.length≤1000000∧b.length≤100000),(.ret (.v (.one (.p (.int .i64 (I.hid (wrtC l n b ⟨k,i,m,t⟩))))))),[.pack [.obj 48 [.ptr 1 0,.ptr 2 0],.pack [.obj 90 [.row 1,.p (.int .i64 (I.hid (wrtN l n b ⟨k,i,m,t⟩)))],.row .upl 67 (I.hid (wrtL l n b ⟨k,i,m,t⟩))],.pack [.obj 104 [.row 1,.p (.int .i64 s)],.row .byte 5 (I.hid (wrtB l n b ⟨k,i,m,t⟩))]]]⟩):Option CT)) l b t
 |_,_=>none
set_option maxHeartbeats 4000000 in
theorem Wx:zq Tryz.prog 89 (uD alg):=by
 intro args hp r h;unfold uD at h;split at h<;>cases h
 rename_i k i m t n l s b
 revert l;intro(l:List Upl)
 simp only [CT.Good,zk];intro hneed;obtain⟨hs,hn,ht,hb⟩:=hneed;generalize hc:wrtC l n b ⟨k,i,m,t⟩=c;generalize hl:wrtL l n b ⟨k,i,m,t⟩=l';generalize hN:wrtN l n b ⟨k,i,m,t⟩=n';generalize hB:wrtB l n b ⟨k,i,m,t⟩=b'
 refine spH Tryz.func89 (by kernel_rfl) { Vz with keep:=some [0,1,3,4,5,6,7,8]} [zhj,zhi,zgg,zgf,zgU,zgT,U2,U1] (by kernel_rfl) ?_
 intro I X hI hX
 refine orcL ?_;go_invoke;refine orcS (by kernel_rfl) ?_
 simp only [zl,Nat.reduceAdd];subst hI;simp only [nrmA,nrmB,nrlB,reduceCtorEq,HO.pack.injEq,HO.obj.injEq]
 have hel:(encM ⟨k,i,m,t⟩).length≤2000000:=by
  unfold encM
  split
  · rename_i h
    have:=zhT h;simp only at this;omega
  · simp
 generalize he:(⟨k,i,m,t⟩:Ent)=e at *
 have hem:encC e=0→encM e=encB e:=fun h=>by
  unfold encC at h;unfold encM
  split at h
  · rename_i h2;rw [if_pos h2]
  · cases h
 have hw0: ∀ x:Str,wrC b x=0→wrB b x=b++x:=fun x h=>by
  unfold wrC at h;unfold wrB
  split at h
  · rename_i h2;rw [if_pos h2]
  · cases h
 have hw1: ∀ x:Str,¬ wrC b x=0→wrB b x=b:=fun x h=>by
  unfold wrC at h;unfold wrB
  split at h
  · exact absurd rfl h
  · rename_i h2;rw [if_neg h2]
 unfold wrtL at hl;unfold wrtN at hN;unfold wrtB at hB;rw [hc] at hl hN hB;unfold wrtC at hc
 (repeat' (first|refine ja ?_ ?_|intro _))<;>first|omega|exact jb|exact jc ‹False›|skip
 all_goals first
  |exact hs
  |(((repeat(first|rewrite [if_pos (by first|omega|assumption|(simp only [*,or_self,or_true,true_or,or_false,false_or,jf,jg,jd,je,and_self,and_true,true_and];done)|(simp only [*];omega)|(simp [*];done)|(simp [*];omega))] at hc|rewrite [if_neg (by first|omega|assumption|(simp only [*,or_self,or_true,true_or,or_false,false_or,jf,jg,jd,je,and_self,and_true,true_and];done)|(simp only [*];omega)|(simp [*];done)|(simp [*];omega))] at hc)));subst hc;((repeat(first|rewrite [if_pos (by first|omega|assumption|(simp only [*,or_self,or_true,true_or,or_false,false_or,jf,jg,jd,je,and_self,and_true,true_and];done)|(simp only [*];omega)|(simp [*];done)|(simp [*];omega))] at hl|rewrite [if_neg (by first|omega|assumption|(simp only [*,or_self,or_true,true_or,or_false,false_or,jf,jg,jd,je,and_self,and_true,true_and];done)|(simp only [*];omega)|(simp [*];done)|(simp [*];omega))] at hl)));subst hl;((repeat(first|rewrite [if_pos (by first|omega|assumption|(simp only [*,or_self,or_true,true_or,or_false,false_or,jf,jg,jd,je,and_self,and_true,true_and];done)|(simp only [*];omega)|(simp [*];done)|(simp [*];omega))] at hN|rewrite [if_neg (by first|omega|assumption|(simp only [*,or_self,or_true,true_or,or_false,false_or,jf,jg,jd,je,and_self,and_true,true_and];done)|(simp only [*];omega)|(simp [*];done)|(simp [*];omega))] at hN)));subst hN;((repeat(first|rewrite [if_pos (by first|omega|assumption|(simp only [*,or_self,or_true,true_or,or_false,false_or,jf,jg,jd,je,and_self,and_true,true_and];done)|(simp only [*];omega)|(simp [*];done)|(simp [*];omega))] at hB|rewrite [if_neg (by first|omega|assumption|(simp only [*,or_self,or_true,true_or,or_false,false_or,jf,jg,jd,je,and_self,and_true,true_and];done)|(simp only [*];omega)|(simp [*];done)|(simp [*];omega))] at hB)));subst hB;first|rfl|omega|exact hw1 _ (by assumption)|(rw [hw0 _ (by assumption),hem (by assumption)]))
def uy:Know Tryz.prog:=⟨89,uD,Wx⟩
def uw:Know Tryz.prog:=⟨89,fun I=>zu I (uD I),zf Wx⟩
def wU (I:Alg):KU
 |[.v (.one (.ptr 0 0)),.v (.one (.p (.int .i64 size))),.v (.one (.p (.str t)))],[.pack [.obj 48 [.ptr 1 0,.ptr 2 0],.pack [.obj 90 [.row 1,.p (.int .i64 n)],.row .upl 67 l],.pack [.obj 104 [.row 1,.p (.int .i64 s)],.row .byte 5 b]]]=>(fun(l:List Upl) (b t:Str)=>(some (.one ⟨I.hid (zM l n∧n≤200000∧t.length≤1000000∧b.length≤100000),(.ret (.tup [(.one (.p (.int .i64 (I.hid (if wrtC l n b ⟨1,n+1,size,t⟩=0 then n+1 else 0))))),.one (.p (.int .i64 (I.hid (wrtC l n b ⟨1,n+1,size,t⟩))))])),[.pack [.obj 48 [.ptr 1 0,.ptr 2 0],.pack [.obj 90 [.row 1,.p (.int .i64 (I.hid (wrtN l n b ⟨1,n+1,size,t⟩)))],.row .upl 67 (I.hid (wrtL l n b ⟨1,n+1,size,t⟩))],.pack [.obj 104 [.row 1,.p (.int .i64 s)],.row .byte 5 (I.hid (wrtB l n b ⟨1,n+1,size,t⟩))]]]⟩):Option CT)) l b t
 |_,_=>none
theorem YB:zq Tryz.prog 81 (wU alg):=by
 intro args hp r h;unfold wU at h;split at h<;>cases h
 rename_i size t n l s b
 revert l;intro(l:List Upl)
 simp only [CT.Good,zk];intro hneed;have hn0:=hneed.1.n0
 refine spH Tryz.func81 (by kernel_rfl) { Vz with keep:=some [0,1,2,6,7,8,9]} [zhf,zhe,uy,uw] (by kernel_rfl) ?_
 intro I X hI hX
 refine orcL ?_;go_invoke;refine orcS (by kernel_rfl) ?_
 simp only [zl,Nat.reduceAdd];subst hI;simp only [nrmA,nrmB,nrlB,reduceCtorEq,HO.pack.injEq,HO.obj.injEq]
 exact⟨⟨hn0,by omega⟩,hneed,fun h=>(if_neg h).symm,fun h=>⟨(if_pos h).symm,h.symm⟩⟩
def RH:Know Tryz.prog:=⟨81,wU,YB⟩
def RG:Know Tryz.prog:=⟨81,fun I=>zu I (wU I),zf YB⟩
def apG (l:List Upl) (id off:Int):Bool:=getB l id&&(decide ((getU l id).sent=0)&& !decide (off=(getU l id).bytes.length))
def apE (id:Int) (x:Str):Ent:=⟨2,id,0,x⟩
def wV (I:Alg):KU
 |[.v (.one (.ptr 0 0)),.v (.one (.p (.int .i64 id))),.v (.one (.p (.int .i64 off))),.v (.one (.p (.list .byte x)))],[.pack [.obj 48 [.ptr 1 0,.ptr 2 0],.pack [.obj 90 [.row 1,.p (.int .i64 n)],.row .upl 67 l],.pack [.obj 104 [.row 1,.p (.int .i64 s)],.row .byte 5 b]]]=>(fun(l:List Upl) (b x:Str)=>(some (.one ⟨I.hid (zM l n∧n≤200000∧x.length≤1000000∧b.length≤100000),(.ret (.v (.one (.p (.int .i64 (I.hid (if apG l id off then 17 else wrtC l n b ⟨2,id,0,x⟩))))))),[.pack [.obj 48 [.ptr 1 0,.ptr 2 0],.pack [.obj 90 [.row 1,(.p (.int .i64 (I.hid (if apG l id off then n else wrtN l n b ⟨2,id,0,x⟩))))],.row .upl 67 (I.hid (if apG l id off then l else wrtL l n b ⟨2,id,0,x⟩))],.pack [.obj 104 [.row 1,.p (.int .i64 s)],.row .byte 5 (I.hid (if apG l id off then b else wrtB l n b ⟨2,id,0,x⟩))]]]⟩):Option CT)) l b x
 |_,_=>none
theorem YC:zq Tryz.prog 87 (wV alg):=by
 intro args hp r h;unfold wV at h;split at h<;>cases h
 rename_i id off x n l s b
 revert l;intro(l:List Upl)
 simp only [CT.Good,zk];intro hneed;generalize hg:apG l id off=g
 refine spH Tryz.func87 (by kernel_rfl) { Vz with keep:=some [0,1,2,3,8,9,10]} [rO,rM,Yg,Yf,uy,uw] (by kernel_rfl) ?_
 intro I X hI hX
 refine orcL ?_;go_invoke;refine orcS (by kernel_rfl) ?_
 simp only [zl,Nat.reduceAdd];subst hI;simp only [nrmA,nrmB,nrlB,reduceCtorEq,HO.pack.injEq,HO.obj.injEq]
 (repeat' (first|refine ja ?_ ?_|intro _))<;>first|omega|exact jb|exact jc ‹False›|skip
 all_goals first
  |exact hneed.1
  |exact hneed
  |exact hneed.2.1
  |exact hneed.2.2.1
  |exact hneed.2.2.2
  |(have h:g=true:=(by rw [← hg];unfold apG;simp [*]);subst h;rfl)
  |(have h:g=false:=(by rw [← hg];unfold apG;simp [*]);subst h;rfl)
def yK:Know Tryz.prog:=⟨87,wV,YC⟩
def yJ:Know Tryz.prog:=⟨87,fun I=>zu I (wV I),zf YC⟩
def wE (I:Alg):KU
 |[.v (.one (.ptr 0 0)),.v (.one (.p (.int .i64 id))),.v (.one (.p (.int .i64 size)))],[.pack [.obj 48 [.ptr 1 0,.ptr 2 0],.pack [.obj 90 [.row 1,.p (.int .i64 n)],.row .upl 67 l],.pack [.obj 104 [.row 1,.p (.int .i64 s)],.row .byte 5 b]]]=>(fun(l:List Upl) (b:Str)=>(some (.one ⟨I.hid (zM l n∧n≤200000∧b.length≤100000),(.ret (.v (.one (.p (.int .i64 (I.hid (wrtC l n b ⟨3,id,size,[]⟩))))))),[.pack [.obj 48 [.ptr 1 0,.ptr 2 0],.pack [.obj 90 [.row 1,.p (.int .i64 (I.hid (wrtN l n b ⟨3,id,size,[]⟩)))],.row .upl 67 (I.hid (wrtL l n b ⟨3,id,size,[]⟩))],.pack [.obj 104 [.row 1,.p (.int .i64 s)],.row .byte 5 (I.hid (wrtB l n b ⟨3,id,size,[]⟩))]]]⟩):Option CT)) l b
 |_,_=>none
theorem Zo:zq Tryz.prog 88 (wE alg):=by
 intro args hp r h;unfold wE at h;split at h<;>cases h
 rename_i id size n l s b
 revert l;intro(l:List Upl)
 simp only [CT.Good,zk];intro hneed
 refine spH Tryz.func88 (by kernel_rfl) { Vz with keep:=some [0,1,2,6]} [uy,uw] (by kernel_rfl) ?_
 intro I X hI hX
 refine orcL ?_;go_invoke;refine orcS (by kernel_rfl) ?_
 simp only [zl,Nat.reduceAdd];subst hI;simp only [nrmA,nrmB,nrlB,reduceCtorEq,HO.pack.injEq,HO.obj.injEq]
 exact⟨hneed.1,hneed.2.1,by decide,hneed.2.2⟩
def yB:Know Tryz.prog:=⟨88,wE,Zo⟩
def yA:Know Tryz.prog:=⟨88,fun I=>zu I (wE I),zf Zo⟩
def rH (I:Alg):KU
 |[.v (.one (.ptr 0 0)),.v (.one (.p (.int .i64 id)))],[.pack [.obj 48 [.ptr 1 0,.ptr 2 0],.pack [.obj 90 [.row 1,.p (.int .i64 n)],.row .upl 67 l],.pack [.obj 104 [.row 1,.p (.int .i64 s)],.row .byte 5 b]]]=>(fun(l:List Upl) (b:Str)=>(some (.one ⟨I.hid (zM l n∧n≤200000∧b.length≤100000),(.ret (.v (.one (.p (.int .i64 (I.hid (wrtC l n b ⟨4,id,0,[]⟩))))))),[.pack [.obj 48 [.ptr 1 0,.ptr 2 0],.pack [.obj 90 [.row 1,.p (.int .i64 (I.hid (wrtN l n b ⟨4,id,0,[]⟩)))],.row .upl 67 (I.hid (wrtL l n b ⟨4,id,0,[]⟩))],.pack [.obj 104 [.row 1,.p (.int .i64 s)],.row .byte 5 (I.hid (wrtB l n b ⟨4,id,0,[]⟩))]]]⟩):Option CT)) l b
 |_,_=>none
theorem V6:zq Tryz.prog 58 (rH alg):=by
 intro args hp r h;unfold rH at h;split at h<;>cases h
 rename_i id n l s b
 revert l;intro(l:List Upl)
 simp only [CT.Good,zk];intro hneed
 refine spH Tryz.func58 (by kernel_rfl) { Vz with keep:=some [0,1,4]} [uy,uw] (by kernel_rfl) ?_
 intro I X hI hX
 refine orcL ?_;go_invoke;refine orcS (by kernel_rfl) ?_
 simp only [zl,Nat.reduceAdd];subst hI;simp only [nrmA,nrmB,nrlB,reduceCtorEq,HO.pack.injEq,HO.obj.injEq]
 exact⟨hneed.1,hneed.2.1,by decide,hneed.2.2⟩
def vX:Know Tryz.prog:=⟨58,rH,V6⟩
def vW:Know Tryz.prog:=⟨58,fun I=>zu I (rH I),zf V6⟩
def rF (I:Alg):KU
 |[.v (.one (.ptr 0 0))],[.pack [.obj 48 [.ptr 1 0,.ptr 2 0],.pack [.obj 90 [.row 1,.p (.int .i64 n)],.row .upl 67 l],.pack [.obj 104 [.row 1,.p (.int .i64 s)],.row .byte 5 b]]]=>(fun(l:List Upl) (b:Str)=>(some (.one ⟨I.hid (True),(.ret (.tup [])),[.pack [.obj 48 [.ptr 1 0,.ptr 2 0],.pack [.obj 90 [.row 1,.p (.int .i64 n)],.row .upl 67 l],.pack [.obj 104 [.row 1,.p (.int .i64 (I.hid (b.length:Int)))],.row .byte 5 b]]]⟩):Option CT)) l b
 |_,_=>none
theorem V4:zq Tryz.prog 59 (rF alg):=by
 intro args hp r h;unfold rF at h;split at h<;>cases h
 rename_i n l s b
 revert l;intro(l:List Upl)
 simp only [CT.Good,zk];intro _
 refine spH Tryz.func59 (by kernel_rfl) { Vz with keep:=some [0]} [zeN,zeM] (by kernel_rfl) ?_
 intro I X hI hX
 refine orcL ?_;go_invoke;refine orcS (by kernel_rfl) ?_
 simp only [zl,Nat.reduceAdd];subst hI;simp only [nrmA,nrmB,nrlB,reduceCtorEq,HO.pack.injEq,HO.obj.injEq]
 try trivial
def zX:Know Tryz.prog:=⟨59,rF,V4⟩
def zW:Know Tryz.prog:=⟨59,fun I=>zu I (rF I),zf V4⟩
def uF (I:Alg):KU
 |[.v (.one (.ptr 0 0)),.v (.one (.p (.int .i64 keep)))],[.pack [.obj 48 [.ptr 1 0,.ptr 2 0],.pack [.obj 90 [.row 1,.p (.int .i64 n)],.row .upl 67 l],.pack [.obj 104 [.row 1,.p (.int .i64 s)],.row .byte 5 b]]]=>(fun(l:List Upl) (b:Str)=>(some (.one ⟨I.hid (b.length≤100000∧0≤s∧s≤b.length),(.ret (.tup [])),[.pack [.obj 48 [.ptr 1 0,.ptr 2 0],.pack [.obj 90 [.row 1,.p (.int .i64 (I.hid ((crsP b s keep).2)))],.row .upl 67 (I.hid ((crsP b s keep).1))],.pack [.obj 104 [.row 1,.p (.int .i64 (I.hid ((crsB b s keep).length:Int)))],.row .byte 5 (I.hid (crsB b s keep))]]]⟩):Option CT)) l b
 |_,_=>none
set_option maxHeartbeats 4000000 in
theorem Wy:zq Tryz.prog 22 (uF alg):=by
 intro args hp r h;unfold uF at h;split at h<;>cases h
 rename_i keep n l s b
 revert l;intro(l:List Upl)
 simp only [CT.Good,zk];intro hneed;obtain⟨hb,hs0,hs1⟩:=hneed;have h1:=zhV b s keep;have h2:=zbq b s keep;have h3:=zek (s:=s) (k:=keep) hb;have h4:=zbJ (crB b s keep);unfold crsP;generalize hP:replay ([],0) (crsE b s keep)=pq;generalize hB:((crsB b s keep).length:Int)=bl at *
 refine spH Tryz.func22 (by kernel_rfl) { Vz with fz:=[47],keep:=some [0,1,4,5,7,33,34,35]} [zaM,zaL,zac,zab,zdu,zds,zdk,zdj,zgo,zgn,U2,U1] (by kernel_rfl) ?_
 intro I X hI hX
 refine orcL ?_;go_invoke;refine orcS (by kernel_rfl) ?_
 simp only [zl,Nat.reduceAdd]
 have hh: ∀ {α:Type} (x:α),I.hid x=x:=by subst hI;intros;rfl
 simp only [hh];unfold crsB at *;unfold crsE at *;rw [h1];generalize hb1:crB b s keep=b1 at *;generalize hu:Wj b1=u at *;generalize hb2:cuB b1 u=b2 at *;generalize hes:(Jrn.dec b1).1=es at *
 refine⟨⟨hb,hs0,hs1⟩,by omega,by omega,⟨by omega,by omega,by omega⟩,trivial,?_⟩
 refine lpH hI [zaM,zaL,zac,zab,zdu,zds,zdk,zdj,zgo,zgn,U2,U1] hX [0,33,34,35] (fun(k:Nat)=>k≤es.length) (fun(k:Nat)=>⟨[(0,.v (.one (.ptr 0 0))),(33,.v (.one (.row 1))),(34,.v (.one (.p (.int .i64 ((I.len (α:=Ent) es)))))),(35,.v (.one (.p (.int .i64 k))))],[.pack [.obj 48 [.ptr 1 0,.ptr 2 0],.pack [.obj 90 [.row 1,.p (.int .i64 ((replay ([],0) (es.take k)).2))],.row .upl 67 ((replay ([],0) (es.take k)).1)],.pack [.obj 104 [.row 1,.p (.int .i64 bl)],.row .byte 5 b2]],.row .ent 101 es],46,none⟩) (fun(k:Nat)=>es.length - k) 0 (by kernel_rfl) (by kernel_rfl) ?_ ?_
 · exact jL _
 rintro k hk A hA;have ho:=WL (es.take k) ([],0) vF;have hn:=Tm (es.take k) ([],0);generalize hp:replay ([],0) (es.take k)=p at *
 refine orcL ?_;go_invoke;refine orcS (by kernel_rfl) ?_
 simp only [zl,Nat.reduceAdd];subst hI;simp only [nrmA,nrmB,nrlB,reduceCtorEq]
 have hnk:p.2≤200000:=by
  have:(es.take k).length≤es.length:=by rw [jr];omega
  have h30:=h3.1;simp only at hn;omega
 refine⟨fun c=>⟨⟨by omega,by omega⟩,⟨by omega,by omega⟩,⟨ho,by omega,?_⟩,⟨by omega,by omega⟩,?_⟩,fun c=> ?_⟩
 · rw [show es.getD k ⟨0,0,0,[]⟩=es[k]'(by omega) by simp [show k<es.length by omega]]
   have:=h3.2 _ (List.getElem_mem (l:=es) (n:=k) (by omega))
   omega
 · have hA:=hA (k+1) (by omega) (by omega)
   rw [zaT _ (by omega),hp] at hA
   have hx:es.getD k ⟨0,0,0,[]⟩=es[k]'(by omega):=by simp [show k<es.length by omega]
   rw [hx];exact hA
 · rw [jq (by omega)] at hp
   rw [← hp,hP]
def qK:Know Tryz.prog:=⟨22,uF,Wy⟩
def qJ:Know Tryz.prog:=⟨22,fun I=>zu I (uF I),zf Wy⟩
end Go.Proofs.YtcclfkakcgnacaaGreatDoor
namespace Go.Proofs.YtcclfkakcgnacaaGreatDoor
open Go Go.Sep Go.Ab
set_option maxRecDepth 100000
end Go.Proofs.YtcclfkakcgnacaaGreatDoor
namespace Go.Proofs.YtcclfkakcgnacaaGreatDoor
open Go Go.Sep Go.Ab
set_option maxRecDepth 100000
end Go.Proofs.YtcclfkakcgnacaaGreatDoor
namespace Go.Proofs.YtcclfkakcgnacaaGreatDoor
open Go Go.Sep Go.Ab
set_option maxRecDepth 100000
end Go.Proofs.YtcclfkakcgnacaaGreatDoor
namespace Go.Proofs.YtcclfkakcgnacaaGreatDoor
open Go Go.Sep Go.Ab Go.Jrn
set_option maxRecDepth 100000
structure Sto where
 l:List Upl
 n:Int
 b:Str
 s:Int
def zkX (n:Int) (x:Sst):Ent:=
 if x.op=0 then⟨1,n+1,x.n,x.text⟩ else if x.op=1 then⟨2,x.id,0,x.text⟩ else if x.op=2 then⟨3,x.id,x.n,[]⟩ else if x.op=3 then⟨4,x.id,0,[]⟩ else if x.op=4 then⟨5,x.id,0,[]⟩ else⟨6,x.id,0,[]⟩
structure zld (q:Sto):Prop where
 spl:zM q.l q.n
 n:q.n≤150000
 b:q.b.length≤100000
 s0:0≤q.s
 s1:q.s≤q.b.length
end Go.Proofs.YtcclfkakcgnacaaGreatDoor
namespace Go.Proofs.YtcclfkakcgnacaaGreatDoor
open Go Go.Sep Go.Ab Go.Jrn
set_option maxRecDepth 100000
def rG (I:Alg):KU
 |[.v (.one (.ptr 0 0)),.v (.one (.p (.int .i64 m)))],[.pack [.obj 48 [.ptr 1 0,.ptr 2 0],.pack [.obj 90 [.row 1,.p (.int .i64 n)],.row .upl 67 l],.pack [.obj 104 [.row 1,.p (.int .i64 s)],.row .byte 5 b]]]=>(fun(l:List Upl) (b:Str)=>(some (.one ⟨I.hid (b.length≤100000),(.ret (.v (.one (.p (.bool (I.hid (WJ b m))))))),[.pack [.obj 48 [.ptr 1 0,.ptr 2 0],.pack [.obj 90 [.row 1,.p (.int .i64 n)],.row .upl 67 l],.pack [.obj 104 [.row 1,.p (.int .i64 s)],.row .byte 5 b]]]⟩):Option CT)) l b
 |_,_=>none
theorem V5:zq Tryz.prog 86 (rG alg):=by
 intro args hp r h;unfold rG at h;split at h<;>cases h
 rename_i m n l s b
 revert l;intro(l:List Upl)
 simp only [CT.Good,zk];intro hneed
 refine spH Tryz.func86 (by kernel_rfl) { Vz with keep:=some [0,1,4]} [ze8,ze7] (by kernel_rfl) ?_
 intro I X hI hX
 refine orcL ?_;go_invoke;refine orcS (by kernel_rfl) ?_
 simp only [zl,Nat.reduceAdd];subst hI;simp only [nrmA,nrmB,nrlB,reduceCtorEq,HO.pack.injEq,HO.obj.injEq]
 (repeat' (first|refine ja ?_ ?_|intro _))<;>first|omega|exact jb|exact jc ‹False›|skip
def xk:Know Tryz.prog:=⟨86,rG,V5⟩
def xh:Know Tryz.prog:=⟨86,fun I=>zu I (rG I),zf V5⟩
end Go.Proofs.YtcclfkakcgnacaaGreatDoor
namespace Go.Proofs.YtcclfkakcgnacaaGreatDoor
open Go Go.Sep Go.Ab
set_option maxRecDepth 100000
def txtN (base:Nat):Nat→Nat→Str
 |0,_=>[]
 |f+1,n=>if n<base then [if n<10 then UInt8.ofNat (48+n) else UInt8.ofNat (87+n)] else txtN base f (n / base)++[if n % base<10 then UInt8.ofNat (48+n % base) else UInt8.ofNat (87+n % base)]
def dgN (d:Nat):UInt8:=if d<10 then UInt8.ofNat (48+d) else UInt8.ofNat (87+d)
theorem zkC {d:Nat} (h:d<10):(([48,49,50,51,52,53,54,55,56,57]:Str).drop d).take 1=[dgN d]:=(by decide+kernel: ∀ d:Fin 10,(([48,49,50,51,52,53,54,55,56,57]:Str).drop d.1).take 1=[dgN d.1]) ⟨d,h⟩
theorem Xd {base f n:Nat} (h:n<base):txtN base (f+1) n=[dgN n]:=by rw [txtN,if_pos h];rfl
theorem Ro {base f n:Nat} (h: ¬ n<base):txtN base (f+1) n=txtN base f (n / base)++[dgN (n % base)]:=by rw [txtN,if_neg h];rfl
theorem Xe (base:Nat): ∀ f n,(txtN base f n).length≤f
 |0,_=>jK _
 | f +1,n=>by
   rw [txtN]
   split
   · simp
   · have:=Xe base f (n / base)
     rw [jk];simp;omega
def Um (k:Nat) (I:Alg) (args:List D) (hp:List HO):Option CT:=match args,hp with
 |[.v (.one (.p (.int .i64 n)))],[]=>some (.one ⟨I.hid (0≤n∧n<10 ^ k∧k≠0),.ret (.v (.one (.p (.str (I.hid (txtN 10 k n.toNat)))))),[]⟩)
 |_,_=>none
def numK (k:Nat) (h:zq Tryz.prog 21 (Um k alg)):Know Tryz.prog:=⟨21,Um k,h⟩
theorem zkj (k:Nat) (hk:k<9) (ih:zq Tryz.prog 21 (Um k alg)) (n:Int) (hneed:0≤n∧n<10 ^ (k+1)):Spc Tryz.prog 21 [.v (.one (.p (.int .i64 n)))] [] (.ret (.v (.one (.p (.str (txtN 10 (k+1) n.toNat)))))) []:=by
 generalize hr:txtN 10 (k+1) n.toNat=r
 have h9:(10:Int) ^ (k+1)≤1000000000:=by
  obtain rfl|rfl|rfl|rfl|rfl|rfl|rfl|rfl|rfl:k=0∨k=1∨k=2∨k=3∨k=4∨k=5∨k=6∨k=7∨k=8:=by omega
  all_goals decide
 rw [Int.pow_succ] at hneed h9
 have hk0:k=0→(10:Int) ^ k=1:=fun h=>by rw [h];rfl
 have hk1:k≠0→(10:Int)≤10 ^ k:=fun h=>by
  obtain⟨q,rfl⟩: ∃ q,k=q+1:=⟨k - 1,by omega⟩
  have:(0:Int)<10 ^ q:=Int.pow_pos (by decide)
  rw [Int.pow_succ];omega
 refine spH Tryz.func21 (by kernel_rfl) { keep:=some [0,2]} [numK k ih] (by kernel_rfl) ?_
 intro I X hI hX
 refine orcL ?_;go_invoke;refine orcS (by kernel_rfl) ?_
 simp only [zl,Nat.reduceAdd];subst hI;simp only [nrmA,nrmB];generalize(10:Int) ^ k=p at *
 obtain⟨m,rfl⟩: ∃ m:Nat,n=m:=⟨n.toNat,by omega⟩
 rw [jI] at hr
 have e1:(m:Int).tdiv 10=((m / 10:Nat):Int):=by rw [Int.tdiv_eq_ediv_of_nonneg (by omega)];omega
 have e2:(m:Int).tmod 10=((m % 10:Nat):Int):=by rw [Int.tmod_eq_emod_of_nonneg (by omega)];omega
 have e3:m<10→(([48,49,50,51,52,53,54,55,56,57]:Str).drop m).take (((m:Int)+1).toNat - m)=r:=fun h=>by
  rw [show((m:Int)+1).toNat - m=1 by omega,zkC h,← hr,Xd h]
 have e4:(([48,49,50,51,52,53,54,55,56,57]:Str).drop (m % 10)).take ((((m % 10:Nat):Int)+1).toNat - m % 10)=[dgN (m % 10)]:=by
  rw [show(((m % 10:Nat):Int)+1).toNat - m % 10=1 by omega,zkC (Nat.mod_lt _ (by decide))]
 have e5: ¬ m<10→txtN 10 k (m / 10)++[dgN (m % 10)]=r:=fun h=>by rw [← hr,Ro h]
 have hl:=Xe 10 k (m / 10);have hl2:=Xe 10 k (m % 10)
 have e6:k≠0→txtN 10 k (m % 10)=[dgN (m % 10)]:=fun h=>by
  obtain⟨q,rfl⟩: ∃ q,k=q+1:=⟨k - 1,by omega⟩
  exact Xd (f:=q) (Nat.mod_lt _ (by decide))
 generalize hH:([48,49,50,51,52,53,54,55,56,57]:Str)=H at *
 have hHl:H.length=10:=by rw [← hH];rfl
 simp only [e1,e2,jI,e4,jh,ji]
 have hkn: ¬ m<10→k≠0:=fun h h0=>by have:=hk0 h0;omega
 (repeat' (first|refine ja ?_ ?_|intro _))<;>first|omega|exact jb|exact jc ‹False›|skip
 all_goals first
  |omega
  |exact e3 (by omega)
  |exact e5 (by omega)
  |exact hkn (by omega)
  |(have:=hk1 (hkn (by omega));omega)
  |(rw [e6 (hkn (by omega))];exact e5 (by omega))
theorem zik: ∀ k:Nat,k≤9→zq Tryz.prog 21 (Um k alg)
 | 0,_=>fun args hp r h=>by
   unfold Um at h
   split at h
   · cases h;exact fun hn=>absurd rfl hn.2.2
   · cases h
 | k+1,hk=>fun args hp r h=>by
   unfold Um at h
   split at h
   · cases h;exact fun hn=>zkj k (by omega) (zik k (by omega)) _ ⟨hn.1,hn.2.1⟩
   · cases h
theorem zcH: ∀ (k n:Nat),n<10 ^ (k+1)→Lib.decDigits n=txtN 10 (k+1) n
 | 0,n,h=>by
   rw [Lib.decDigits,dif_pos (by omega),Xd (by omega)]
   unfold dgN
   rw [if_pos (by omega)]
 | k +1,n,h=>by
   rw [Lib.decDigits]
   by_cases hn:n<10
   · rw [dif_pos hn,Xd hn]
     unfold dgN;rw [if_pos hn]
   · rw [dif_neg hn,Ro hn,zcH k (n / 10) (by rw [Nat.pow_succ] at h;omega)]
     unfold dgN
     rw [if_pos (Nat.mod_lt _ (by decide))]
def decS (n:Int):Str:=txtN 10 9 n.toNat
theorem zhB {n:Int} (h0:0≤n) (h1:n<1000000000):Lib.itoa n=decS n:=by
 unfold Lib.itoa decS
 rw [if_neg (by omega),zcH 8 n.toNat (by omega)]
theorem XZ (n:Int):(decS n).length≤9:=Xe 10 9 _
def TU (I:Alg):KU
 |[.v (.one (.p (.int .i64 n)))],[]=>some (.one ⟨I.hid (0≤n∧n<1000000000),(.ret (.v (.one (.p (.str (I.hid (decS n))))))),[]⟩)
 |_,_=>none
theorem zfN:zq Tryz.prog 77 (TU alg):=by
 intro args hp r h;unfold TU at h;split at h<;>cases h
 rename_i n;simp only [CT.Good,zk];intro hneed
 refine Spc.of_below ⟨_,Tryz.func77,by kernel_rfl,by kernel_rfl⟩ fun S bs w vs hW hM=> ?_
 obtain⟨v,r,rfl⟩: ∃ v r,vs=v::r:=by cases vs with|nil=>exact hM.elim|cons v r=>exact⟨v,r,rfl⟩
 obtain⟨h1,hM⟩:=hM
 obtain rfl:r=[]:=by cases r with|nil=>rfl|cons v r=>exact hM.elim
 cases h1 with
 | int _ _=>
   refine⟨.string (Sep.S (decS n)),.str _ (by have:=XZ n;unfold maxLen;omega),?_⟩
   rw [← zhB hneed.1 hneed.2]
   refine(Tryz.strconv_Itoa n (by omega) (by omega) w (by first|exact hW|exact hW.1)).mono fun e w' h=> ?_
   obtain⟨he,k,os,rfl⟩:=h;refine⟨he,?_⟩
   exact⟨rfl,rfl,rfl,(show w.heap.size≤(w.heap++os).size by rw [Array.size_append];omega),fun j hj=>show(w.heap++os)[j]? =w.heap[j]? from Array.getElem?_append_left hj⟩
def zjg:Know Tryz.prog:=⟨77,TU,zfN⟩
def zjf:Know Tryz.prog:=⟨77,fun I=>zu I (TU I),zf zfN⟩
theorem num_ (n:Int) (hneed:0≤n∧n<1000000000):Spc Tryz.prog 21 [.v (.one (.p (.int .i64 n)))] [] (.ret (.v (.one (.p (.str (decS n)))))) []:=zkj 8 (by decide) (zik 8 (by decide)) n hneed
def zct (I:Alg):KU
 |[.v (.one (.p (.int .i64 n)))],[]=>some (.one ⟨I.hid (0≤n∧n<1000000000),(.ret (.v (.one (.p (.str (I.hid (decS n))))))),[]⟩)
 |_,_=>none
theorem zij:zq Tryz.prog 21 (zct alg):=by
 intro args hp r h;unfold zct at h
 split at h
 · cases h;exact fun hn=>num_ _ hn
 · cases h
def zfw:Know Tryz.prog:=⟨21,zct,zij⟩
def zfv:Know Tryz.prog:=⟨21,fun I=>zu I (zct I),zf zij⟩
end Go.Proofs.YtcclfkakcgnacaaGreatDoor
namespace Go.Proofs.YtcclfkakcgnacaaGreatDoor
open Go Go.Sep Go.Ab
def uj:Str:=[47,102,105,108,101,115]
def xC:Str:=[47,102,105,108,101,115,47]
def verS:Str:=[49,46,48,46,48]
def zkg:Str:=[79,80,84,73,79,78,83]
def ziY:Str:=[80,79,83,84]
def zhF:Str:=[72,69,65,68]
def zck:Str:=[80,65,84,67,72]
def zhU:Str:=[68,69,76,69,84,69]
def zaD:Str:=[116,117,115,45,114,101,115,117,109,97,98,108,101]
def zQ:Str:=[117,112,108,111,97,100,45,108,101,110,103,116,104]
def Wl:Str:=[117,112,108,111,97,100,45,100,101,102,101,114,45,108,101,110,103,116,104]
def zaA:Str:=[117,112,108,111,97,100,45,109,101,116,97,100,97,116,97]
def yg:Str:=[117,112,108,111,97,100,45,111,102,102,115,101,116]
def zah:Str:=[99,111,110,116,101,110,116,45,116,121,112,101]
def octS:Str:=[97,112,112,108,105,99,97,116,105,111,110,47,111,102,102,115,101,116,43,111,99,116,101,116,45,115,116,114,101,97,109]
def zjL:Str:=[84,117,115,45,82,101,115,117,109,97,98,108,101]
def zeB:Str:=[84,117,115,45,86,101,114,115,105,111,110]
def zjM:Str:=[84,117,115,45,77,97,120,45,83,105,122,101]
def zjO:Str:=[84,117,115,45,69,120,116,101,110,115,105,111,110]
def zjN:Str:=[99,114,101,97,116,105,111,110,44,99,114,101,97,116,105,111,110,45,100,101,102,101,114,45,108,101,110,103,116,104,44,116,101,114,109,105,110,97,116,105,111,110]
def locN:Str:=[76,111,99,97,116,105,111,110]
def tY:Str:=[85,112,108,111,97,100,45,79,102,102,115,101,116]
def ziF:Str:=[85,112,108,111,97,100,45,76,101,110,103,116,104]
def ziG:Str:=[85,112,108,111,97,100,45,68,101,102,101,114,45,76,101,110,103,116,104]
def zgZ:Str:=[85,112,108,111,97,100,45,77,101,116,97,100,97,116,97]
def zhY:Str:=[67,97,99,104,101,45,67,111,110,116,114,111,108]
def zi7:Str:=[110,111,45,115,116,111,114,101]
def oneT (f:List Fld) (n:Str):Str × Int:=oneF (valsF f n)
def qA (f:List Fld) (n:Str):Bool:=decide ((oneT f n).2=10)||(decide ((oneT f n).2=0)&&(numA (oneT f n).1 10 9).2)
def zC (f:List Fld) (n:Str):Int:=if(oneT f n).2=10 then -1 else(numA (oneT f n).1 10 9).1
def ZM (f:List Fld):Bool:=decide ((oneT f Wl).2=10)||(decide ((oneT f Wl).2=0)&&decide ((oneT f Wl).1=[49]))
def Qu (f:List Fld):Bool:=decide ((oneT f Wl).2=0)
def Zp (c:Int):Int:=if c=10 then 404 else if c=17∨c=19 then 409 else if c=4 then 413 else if c=8∨c=16 then 507 else 400
def wsS (q:Sto) (e:Ent):Sto:=⟨wrtL q.l q.n q.b e,wrtN q.l q.n q.b e,wrtB q.l q.n q.b e,q.s⟩
def wsC (q:Sto) (e:Ent):Int:=wrtC q.l q.n q.b e
def syS (q:Sto):Sto:= { q with s:=(q.b.length:Int)}
def creE (q:Sto) (n:Int) (t:Str):Ent:=⟨1,q.n+1,n,t⟩
structure TA where
 st:Int
 fs:List Fld
 q:Sto
def yF (q:Sto) (f:List Fld):TA:=
 if qA f zQ=false then⟨400,[],q⟩
 else if ZM f=false then⟨400,[],q⟩
 else if decide (0≤zC f zQ)=Qu f then⟨400,[],q⟩
 else if(oneT f zaA).2=9 then⟨400,[],q⟩
 else if wsC q (creE q (zC f zQ) (oneT f zaA).1)≠0 then⟨Zp (wsC q (creE q (zC f zQ) (oneT f zaA).1)),[],q⟩
 else⟨201,[⟨locN,xC++decS (q.n+1)⟩],syS (wsS q (creE q (zC f zQ) (oneT f zaA).1))⟩
def idB (t:Str):Bool:=Lib.hasPrefix t xC&&((numA (t.drop 7) 10 9).2&&decide (decS (numA (t.drop 7) 10 9).1=t.drop 7))
def idV (t:Str):Int:=(numA (t.drop 7) 10 9).1
def uplB (q:Sto) (t:Str):Bool:=idB t&&getB q.l (idV t)
def lenF (u:Upl):Fld:=if u.size<0 then⟨ziG,[49]⟩ else⟨ziF,decS u.size⟩
def Y3 (u:Upl):List Fld:=[⟨tY,decS (u.bytes.length:Int)⟩,lenF u,⟨zhY,zi7⟩]++(if u.note=[] then [] else [⟨zgZ,u.note⟩])
def y7 (q:Sto) (u:Upl) (f:List Fld) (body:Str):TA:=
 if(oneT f zah).2=9 then⟨400,[],q⟩
 else if(YH (oneT f zah).1).2≠0∨(YH (oneT f zah).1).1.word≠octS then⟨415,[],q⟩
 else if qA f yg=false then⟨400,[],q⟩
 else if zC f yg<0 then⟨400,[],q⟩
 else if zC f yg≠(u.bytes.length:Int) then⟨409,[],q⟩
 else if qA f zQ=false then⟨400,[],q⟩
 else if 0≤zC f zQ∧0≤u.size∧zC f zQ≠u.size then⟨400,[],q⟩
 else if 0≤zC f zQ∧u.size<0∧(2000<zC f zQ∨zC f zQ<zC f yg+(body.length:Int)) then⟨413,[],q⟩
 else if WJ q.b ((body.length:Int)+60)=false then⟨507,[],q⟩
 else if(if apG q.l u.id (zC f yg) then 17 else wsC q (apE u.id body))≠0 then⟨Zp (if apG q.l u.id (zC f yg) then 17 else wsC q (apE u.id body)),[],q⟩
 else if 0≤zC f zQ∧u.size<0 then
  if wsC (wsS q (apE u.id body)) ⟨3,u.id,zC f zQ,[]⟩≠0 then⟨Zp (wsC (wsS q (apE u.id body)) ⟨3,u.id,zC f zQ,[]⟩),[],wsS q (apE u.id body)⟩
  else⟨204,[⟨tY,decS (zC f yg+(body.length:Int))⟩],syS (wsS (wsS q (apE u.id body)) ⟨3,u.id,zC f zQ,[]⟩)⟩
 else⟨204,[⟨tY,decS (zC f yg+(body.length:Int))⟩],syS (wsS q (apE u.id body))⟩
def qY (q:Sto) (u:Upl):TA:=
 if wsC q ⟨4,u.id,0,[]⟩≠0 then⟨Zp (wsC q ⟨4,u.id,0,[]⟩),[],q⟩ else⟨204,[],syS (wsS q ⟨4,u.id,0,[]⟩)⟩
def yu (q:Sto) (m t:Str) (f:List Fld) (body:Str):TA:=
 if t=uj∧m=zkg then⟨204,[⟨zeB,verS⟩,⟨zjM,decS 2000⟩,⟨zjO,zjN⟩],q⟩
 else if(oneT f zaD).2=9 then⟨400,[],q⟩
 else if(oneT f zaD).1≠verS then⟨412,[⟨zeB,verS⟩],q⟩
 else if t=uj then(if m≠ziY then⟨405,[],q⟩ else yF q f)
 else if uplB q t=false then⟨404,[],q⟩
 else if m=zhF then⟨200,Y3 (getU q.l (idV t)),q⟩
 else if m=zck then y7 q (getU q.l (idV t)) f body
 else if m=zhU then qY q (getU q.l (idV t))
 else⟨405,[],q⟩
def resT:Fld:=⟨zjL,verS⟩
end Go.Proofs.YtcclfkakcgnacaaGreatDoor
namespace Go.Proofs.YtcclfkakcgnacaaGreatDoor
open Go Go.Sep Go.Ab
set_option maxRecDepth 100000
def vw (I:Alg):KU
 |[.v (.one (.p (.str s))),.v (.one (.p (.str p)))],[]=>(fun(s p:Str)=>(some (.one ⟨I.hid (True),(.ret (.v (.one (.p (.bool (I.hid (Lib.hasPrefix s p))))))),[]⟩):Option CT)) s p
 |_,_=>none
theorem YQ:zq Tryz.prog 42 (vw alg):=by
 intro args hp r h;unfold vw at h;split at h<;>cases h
 rename_i s p;simp only [CT.Good,zk];intro _
 refine Spc.of_below ⟨_,Tryz.func42,by kernel_rfl,by kernel_rfl⟩ fun S bs w vs _ hM=> ?_
 obtain⟨v,r,rfl⟩: ∃ v r,vs=v::r:=by cases vs with|nil=>exact hM.elim|cons v r=>exact⟨v,r,rfl⟩
 obtain⟨h1,hM⟩:=hM
 obtain⟨v2,r2,rfl⟩: ∃ v r2,r=v::r2:=by cases r with|nil=>exact hM.elim|cons v r=>exact⟨v,r,rfl⟩
 obtain⟨h2,hM⟩:=hM
 obtain rfl:r2=[]:=by cases r2 with|nil=>rfl|cons v r=>exact hM.elim
 cases h1 with
 | str _ hl1=>
   cases h2 with
   | str _ hl2=>
     refine⟨.bool (Lib.hasPrefix s p),.bool _,(Tryz.strings_HasPrefix (Sep.S s) (Sep.S p) w).mono fun e w' h=> ?_⟩;obtain⟨he,rfl⟩:=h;exact⟨he,Go.RowKit.Below.refl _ _⟩
def QG:Know Tryz.prog:=⟨42,vw,YQ⟩
def QF:Know Tryz.prog:=⟨42,fun I=>zu I (vw I),zf YQ⟩
end Go.Proofs.YtcclfkakcgnacaaGreatDoor
namespace Go.Proofs.YtcclfkakcgnacaaGreatDoor
open Go Go.Sep Go.Ab
set_option maxRecDepth 100000
theorem VO (s p:Str):(Lib.trimPrefix s p).length≤s.length:=by
 unfold Lib.trimPrefix
 split
 · simp
 · exact jK _
def vz (I:Alg):KU
 |[.v (.one (.p (.str s))),.v (.one (.p (.str p)))],[]=>(fun(s p:Str)=>(some (.one ⟨I.hid (True),(.ret (.tup [.one (.p (.str (I.hid (Lib.trimPrefix s p)))),.one (.p (.bool (I.hid (Lib.hasPrefix s p))))])),[]⟩):Option CT)) s p
 |_,_=>none
theorem YZ:zq Tryz.prog 82 (vz alg):=by
 intro args hp r h;unfold vz at h;split at h<;>cases h
 rename_i s p;simp only [CT.Good,zk];intro _
 refine Spc.of_below ⟨_,Tryz.func82,by kernel_rfl,by kernel_rfl⟩ fun S bs w vs _ hM=> ?_
 obtain⟨v,r,rfl⟩: ∃ v r,vs=v::r:=by cases vs with|nil=>exact hM.elim|cons v r=>exact⟨v,r,rfl⟩
 obtain⟨h1,hM⟩:=hM
 obtain⟨v2,r2,rfl⟩: ∃ v r2,r=v::r2:=by cases r with|nil=>exact hM.elim|cons v r=>exact⟨v,r,rfl⟩
 obtain⟨h2,hM⟩:=hM
 obtain rfl:r2=[]:=by cases r2 with|nil=>rfl|cons v r=>exact hM.elim
 cases h1 with
 | str _ hl1=>
   cases h2 with
   | str _ hl2=>
     refine⟨.tuple #[.string (Sep.S (Lib.trimPrefix s p)),.bool (Lib.hasPrefix s p)],⟨[.string (Sep.S (Lib.trimPrefix s p)),.bool (Lib.hasPrefix s p)],⟨.str _ (Nat.le_trans (VO _ _) hl1),.bool _,trivial⟩,rfl⟩,(Tryz.strings_CutPrefix (Sep.S s) (Sep.S p) w).mono fun e w' h=> ?_⟩;obtain⟨he,rfl⟩:=h;exact⟨he,Go.RowKit.Below.refl _ _⟩
def YX:Know Tryz.prog:=⟨82,vz,YZ⟩
def YW:Know Tryz.prog:=⟨82,fun I=>zu I (vz I),zf YZ⟩
def FOk (f:List Fld):Prop:=f.length≤1000∧∀ x ∈ f,x.name.length≤1000000∧x.value.length≤1000000
def cfgT:Cfg:= { sl:=Vz.sl++[⟨78,1000003,.byte,none⟩],fz:=[50]}
def Xi (I:Alg):KU
 |[.v (.one (.p (.int .i64 st))),.v (.one (.p (.list .fld fs)))],[]=>(fun(fs:List Fld)=>(some (.one ⟨I.hid (True),(.pan (.ifc 73 true [.int .i64 st,.list .fld fs,.list .byte (I.hid ([]))])),[]⟩):Option CT)) fs
 |_,_=>none
theorem zbP:zq Tryz.prog 50 (Xi alg):=by
 intro args hp r h;unfold Xi at h;split at h<;>cases h
 rename_i st fs
 revert fs;intro(fs:List Fld)
 simp only [CT.Good,zk];intro _
 refine spH Tryz.func50 (by kernel_rfl) { keep:=some [0,1]} [] (by kernel_rfl) ?_
 intro I X hI hX
 refine orcL ?_;go_invoke;refine orcS (by kernel_rfl) ?_
 simp only [zl,Nat.reduceAdd]
 try trivial
def zK:Know Tryz.prog:=⟨50,Xi,zbP⟩
def zJ:Know Tryz.prog:=⟨50,fun I=>zu I (Xi I),zf zbP⟩
def Zk (I:Alg):KU
 |[.v (.one (.p (.str n))),.v (.one (.p (.str v)))],[]=>(fun(n v:Str)=>(some (.one ⟨I.hid (True),(.ret (.v (.agg [.p (.str n),.p (.str v)]))),[]⟩):Option CT)) n v
 |_,_=>none
theorem Rz:zq Tryz.prog 28 (Zk alg):=by
 intro args hp r h;unfold Zk at h;split at h<;>cases h
 rename_i n v;simp only [CT.Good,zk];intro _
 refine spH Tryz.func28 (by kernel_rfl) { keep:=some [0,1,4]} [] (by kernel_rfl) ?_
 intro I X hI hX
 refine orcL ?_;go_invoke;refine orcS (by kernel_rfl) ?_
 simp only [zl,Nat.reduceAdd]
 try trivial
def zU:Know Tryz.prog:=⟨28,Zk,Rz⟩
def zT:Know Tryz.prog:=⟨28,fun I=>zu I (Zk I),zf Rz⟩
def UY (I:Alg):KU
 |[.v (.one (.p (.int .i64 n)))],[]=>some (.one ⟨I.hid (0≤n∧n<1000000000),(.ret (.v (.one (.p (.str (I.hid (decS n))))))),[]⟩)
 |_,_=>none
theorem zeI:zq Tryz.prog 51 (UY alg):=by
 intro args hp r h;unfold UY at h;split at h<;>cases h
 rename_i n;simp only [CT.Good,zk];intro hneed
 refine spH Tryz.func51 (by kernel_rfl) { keep:=some [0,2]} [zjg,zjf] (by kernel_rfl) ?_
 intro I X hI hX
 refine orcL ?_;go_invoke;refine orcS (by kernel_rfl) ?_
 simp only [zl,Nat.reduceAdd];subst hI;simp only [nrmA,nrmB]
 first|exact hneed|exact⟨hneed,trivial⟩|trace_state
def yS:Know Tryz.prog:=⟨51,UY,zeI⟩
def yR:Know Tryz.prog:=⟨51,fun I=>zu I (UY I),zf zeI⟩
theorem zjU (m t:Str) (mi:Int) (f:List Fld) (le:Int) (l:List Upl) (n:Int) (b:Str) (s:Int) (nm:Str) (hneed:(FOk f∧nm.length≤1000000)∧¬ (oneT f nm).2=9):Spc Tryz.prog 52 [.v (.one (.ptr 0 0)),.v (.one (.p (.str nm)))] [.obj 78 [.ptr 1 0,.p (.str m),.p (.str t),.p (.int .i64 mi),.p (.list .fld f),.p (.int .i64 le)],.pack [.obj 48 [.ptr 1 0,.ptr 2 0],.pack [.obj 90 [.row 1,.p (.int .i64 n)],.row .upl 67 l],.pack [.obj 104 [.row 1,.p (.int .i64 s)],.row .byte 5 b]]] (.ret (.tup [.one (.p (.str ((oneT f nm).1))),.one (.p (.bool (decide ((oneT f nm).2=0))))])) [.obj 78 [.ptr 1 0,.p (.str m),.p (.str t),.p (.int .i64 mi),.p (.list .fld f),.p (.int .i64 le)],.pack [.obj 48 [.ptr 1 0,.ptr 2 0],.pack [.obj 90 [.row 1,.p (.int .i64 n)],.row .upl 67 l],.pack [.obj 104 [.row 1,.p (.int .i64 s)],.row .byte 5 b]]]:=by
 obtain⟨⟨hf,hn⟩,h9⟩:=hneed
 refine spH Tryz.func52 (by kernel_rfl) { cfgT with keep:=some [0,1,4,5,6,7]} [zf7,zf6,zK,zJ] (by kernel_rfl) ?_
 intro I X hI hX
 refine orcL ?_;go_invoke;refine orcS (by kernel_rfl) ?_
 simp only [zl,Nat.reduceAdd];subst hI;unfold oneT at *;simp only [nrmA,nrmB,nrlB,reduceCtorEq]
 (repeat' (first|refine ja ?_ ?_|intro _))<;>first|omega|exact jb|exact jc ‹False›|skip
 all_goals first|exact hf.1|exact hn|exact hf.2|(exact(hf.2 _ ‹_›).1)|(exact(hf.2 _ ‹_›).2)|rfl|(exact⟨hf.1,hn,hf.2⟩)|(exfalso;exact h9 ‹_›)|(simp_all;done)|trace_state
theorem zjT (m t:Str) (mi:Int) (f:List Fld) (le:Int) (l:List Upl) (n:Int) (b:Str) (s:Int) (nm:Str) (hneed:(FOk f∧nm.length≤1000000)∧(oneT f nm).2=9):Spc Tryz.prog 52 [.v (.one (.ptr 0 0)),.v (.one (.p (.str nm)))] [.obj 78 [.ptr 1 0,.p (.str m),.p (.str t),.p (.int .i64 mi),.p (.list .fld f),.p (.int .i64 le)],.pack [.obj 48 [.ptr 1 0,.ptr 2 0],.pack [.obj 90 [.row 1,.p (.int .i64 n)],.row .upl 67 l],.pack [.obj 104 [.row 1,.p (.int .i64 s)],.row .byte 5 b]]] (.pan (.ifc 73 true [.int .i64 400,.list .fld ([]),.list .byte ([])])) [.obj 78 [.ptr 1 0,.p (.str m),.p (.str t),.p (.int .i64 mi),.p (.list .fld f),.p (.int .i64 le)],.pack [.obj 48 [.ptr 1 0,.ptr 2 0],.pack [.obj 90 [.row 1,.p (.int .i64 n)],.row .upl 67 l],.pack [.obj 104 [.row 1,.p (.int .i64 s)],.row .byte 5 b]]]:=by
 obtain⟨⟨hf,hn⟩,h9⟩:=hneed
 refine spH Tryz.func52 (by kernel_rfl) { cfgT with keep:=some [0,1,4,5,6,7]} [zf7,zf6,zK,zJ] (by kernel_rfl) ?_
 intro I X hI hX
 refine orcL ?_;go_invoke;refine orcS (by kernel_rfl) ?_
 simp only [zl,Nat.reduceAdd];subst hI;unfold oneT at *;simp only [nrmA,nrmB,nrlB,reduceCtorEq]
 (repeat' (first|refine ja ?_ ?_|intro _))<;>first|omega|exact jb|exact jc ‹False›|skip
 all_goals first|exact hf.1|exact hn|exact hf.2|(exact(hf.2 _ ‹_›).1)|(exact(hf.2 _ ‹_›).2)|rfl|(exact⟨hf.1,hn,hf.2⟩)|(exfalso;contradiction)|(simp_all;done)|trace_state
def UX (I:Alg):KU
 |[.v (.one (.ptr 0 0)),.v (.one (.p (.str nm)))],[.obj 78 [.ptr 1 0,.p (.str m),.p (.str t),.p (.int .i64 mi),.p (.list .fld f),.p (.int .i64 le)],.pack [.obj 48 [.ptr 1 0,.ptr 2 0],.pack [.obj 90 [.row 1,.p (.int .i64 n)],.row .upl 67 l],.pack [.obj 104 [.row 1,.p (.int .i64 s)],.row .byte 5 b]]]=>(fun(m t:Str) (f:List Fld) (l:List Upl) (b nm:Str)=>(some (.br (I.hid (decide ((oneT f nm).2=9))) (.one ⟨I.hid ((FOk f∧nm.length≤1000000)∧(oneT f nm).2=9),(.pan (.ifc 73 true [.int .i64 400,.list .fld (I.hid ([])),.list .byte (I.hid ([]))])),[.obj 78 [.ptr 1 0,.p (.str m),.p (.str t),.p (.int .i64 mi),.p (.list .fld f),.p (.int .i64 le)],.pack [.obj 48 [.ptr 1 0,.ptr 2 0],.pack [.obj 90 [.row 1,.p (.int .i64 n)],.row .upl 67 l],.pack [.obj 104 [.row 1,.p (.int .i64 s)],.row .byte 5 b]]]⟩) (.one ⟨I.hid ((FOk f∧nm.length≤1000000)∧¬ (oneT f nm).2=9),(.ret (.tup [.one (.p (.str (I.hid ((oneT f nm).1)))),.one (.p (.bool (I.hid (decide ((oneT f nm).2=0)))))])),[.obj 78 [.ptr 1 0,.p (.str m),.p (.str t),.p (.int .i64 mi),.p (.list .fld f),.p (.int .i64 le)],.pack [.obj 48 [.ptr 1 0,.ptr 2 0],.pack [.obj 90 [.row 1,.p (.int .i64 n)],.row .upl 67 l],.pack [.obj 104 [.row 1,.p (.int .i64 s)],.row .byte 5 b]]]⟩)):Option CT)) m t f l b nm
 |_,_=>none
theorem zeH:zq Tryz.prog 52 (UX alg):=by
 intro args hp r h;unfold UX at h
 split at h
 · cases h;exact⟨fun _ hn=>zjT _ _ _ _ _ _ _ _ _ _ hn,fun _ hn=>zjU _ _ _ _ _ _ _ _ _ _ hn⟩
 · cases h
def yQ:Know Tryz.prog:=⟨52,UX,zeH⟩
def yP:Know Tryz.prog:=⟨52,fun I=>zu I (UX I),zf zeH⟩
end Go.Proofs.YtcclfkakcgnacaaGreatDoor
namespace Go.Proofs.YtcclfkakcgnacaaGreatDoor
open Go Go.Sep Go.Ab
set_option maxRecDepth 100000
theorem uf (f:List Fld) (n:Str):(oneT f n).2=0∨(oneT f n).2=9∨(oneT f n).2=10:=by
 unfold oneT oneF
 repeat' split
 all_goals simp
theorem ziM (m t:Str) (mi:Int) (f:List Fld) (le:Int) (l:List Upl) (n:Int) (b:Str) (s:Int) (nm:Str) (hneed:(FOk f∧nm.length≤1000000)∧qA f nm=true):Spc Tryz.prog 79 [.v (.one (.ptr 0 0)),.v (.one (.p (.str nm)))] [.obj 78 [.ptr 1 0,.p (.str m),.p (.str t),.p (.int .i64 mi),.p (.list .fld f),.p (.int .i64 le)],.pack [.obj 48 [.ptr 1 0,.ptr 2 0],.pack [.obj 90 [.row 1,.p (.int .i64 n)],.row .upl 67 l],.pack [.obj 104 [.row 1,.p (.int .i64 s)],.row .byte 5 b]]] (.ret (.v (.one (.p (.int .i64 ((zC f nm))))))) [.obj 78 [.ptr 1 0,.p (.str m),.p (.str t),.p (.int .i64 mi),.p (.list .fld f),.p (.int .i64 le)],.pack [.obj 48 [.ptr 1 0,.ptr 2 0],.pack [.obj 90 [.row 1,.p (.int .i64 n)],.row .upl 67 l],.pack [.obj 104 [.row 1,.p (.int .i64 s)],.row .byte 5 b]]]:=by
 obtain⟨⟨hf,hn⟩,h9⟩:=hneed;have hcd:=uf f nm
 refine spH Tryz.func79 (by kernel_rfl) { cfgT with keep:=some [0,1,4,5,6,7]} [qo,qm,zK,zJ,yQ,yP] (by kernel_rfl) ?_
 intro I X hI hX
 refine orcL ?_;go_invoke;refine orcS (by kernel_rfl) ?_
 simp only [zl,Nat.reduceAdd];subst hI;unfold qA at h9;unfold zC;simp only [nrmA,nrmB,nrlB,reduceCtorEq]
 (repeat' (first|refine ja ?_ ?_|intro _))<;>first|omega|exact jb|exact jc ‹False›|skip
 all_goals first|omega|assumption|(exact hf)|exact hf.1|(exact(hf.2 _ ‹_›).1)|(exact(hf.2 _ ‹_›).2)|(exact⟨hf,by decide⟩)|(exact⟨⟨hf,by decide⟩,‹_›⟩)|(exfalso;simp_all;done)|(simp_all;done)|(simp_all;omega)|(rcases hcd with h|h|h<;>simp_all;done)|trace_state
theorem ziL (m t:Str) (mi:Int) (f:List Fld) (le:Int) (l:List Upl) (n:Int) (b:Str) (s:Int) (nm:Str) (hneed:(FOk f∧nm.length≤1000000)∧qA f nm=false):Spc Tryz.prog 79 [.v (.one (.ptr 0 0)),.v (.one (.p (.str nm)))] [.obj 78 [.ptr 1 0,.p (.str m),.p (.str t),.p (.int .i64 mi),.p (.list .fld f),.p (.int .i64 le)],.pack [.obj 48 [.ptr 1 0,.ptr 2 0],.pack [.obj 90 [.row 1,.p (.int .i64 n)],.row .upl 67 l],.pack [.obj 104 [.row 1,.p (.int .i64 s)],.row .byte 5 b]]] (.pan (.ifc 73 true [.int .i64 400,.list .fld ([]),.list .byte ([])])) [.obj 78 [.ptr 1 0,.p (.str m),.p (.str t),.p (.int .i64 mi),.p (.list .fld f),.p (.int .i64 le)],.pack [.obj 48 [.ptr 1 0,.ptr 2 0],.pack [.obj 90 [.row 1,.p (.int .i64 n)],.row .upl 67 l],.pack [.obj 104 [.row 1,.p (.int .i64 s)],.row .byte 5 b]]]:=by
 obtain⟨⟨hf,hn⟩,h9⟩:=hneed;have hcd:=uf f nm
 refine spH Tryz.func79 (by kernel_rfl) { cfgT with keep:=some [0,1,4,5,6,7]} [qo,qm,zK,zJ,yQ,yP] (by kernel_rfl) ?_
 intro I X hI hX
 refine orcL ?_;go_invoke;refine orcS (by kernel_rfl) ?_
 simp only [zl,Nat.reduceAdd];subst hI;unfold qA at h9;simp only [nrmA,nrmB,nrlB,reduceCtorEq]
 (repeat' (first|refine ja ?_ ?_|intro _))<;>first|omega|exact jb|exact jc ‹False›|skip
 all_goals first|omega|assumption|(exact hf)|exact hf.1|(exact(hf.2 _ ‹_›).1)|(exact(hf.2 _ ‹_›).2)|(exact⟨hf,by decide⟩)|(exact⟨⟨hf,by decide⟩,‹_›⟩)|(exfalso;simp_all;done)|(simp_all;done)|(simp_all;omega)|(rcases hcd with h|h|h<;>simp_all;done)|trace_state
def Xk (I:Alg):KU
 |[.v (.one (.ptr 0 0)),.v (.one (.p (.str nm)))],[.obj 78 [.ptr 1 0,.p (.str m),.p (.str t),.p (.int .i64 mi),.p (.list .fld f),.p (.int .i64 le)],.pack [.obj 48 [.ptr 1 0,.ptr 2 0],.pack [.obj 90 [.row 1,.p (.int .i64 n)],.row .upl 67 l],.pack [.obj 104 [.row 1,.p (.int .i64 s)],.row .byte 5 b]]]=>(fun(m t:Str) (f:List Fld) (l:List Upl) (b nm:Str)=>(some (.br (I.hid (qA f nm)) (.one ⟨I.hid ((FOk f∧nm.length≤1000000)∧qA f nm=true),(.ret (.v (.one (.p (.int .i64 (I.hid (zC f nm))))))),[.obj 78 [.ptr 1 0,.p (.str m),.p (.str t),.p (.int .i64 mi),.p (.list .fld f),.p (.int .i64 le)],.pack [.obj 48 [.ptr 1 0,.ptr 2 0],.pack [.obj 90 [.row 1,.p (.int .i64 n)],.row .upl 67 l],.pack [.obj 104 [.row 1,.p (.int .i64 s)],.row .byte 5 b]]]⟩) (.one ⟨I.hid ((FOk f∧nm.length≤1000000)∧qA f nm=false),(.pan (.ifc 73 true [.int .i64 400,.list .fld (I.hid ([])),.list .byte (I.hid ([]))])),[.obj 78 [.ptr 1 0,.p (.str m),.p (.str t),.p (.int .i64 mi),.p (.list .fld f),.p (.int .i64 le)],.pack [.obj 48 [.ptr 1 0,.ptr 2 0],.pack [.obj 90 [.row 1,.p (.int .i64 n)],.row .upl 67 l],.pack [.obj 104 [.row 1,.p (.int .i64 s)],.row .byte 5 b]]]⟩)):Option CT)) m t f l b nm
 |_,_=>none
theorem zbR:zq Tryz.prog 79 (Xk alg):=by
 intro args hp r h;unfold Xk at h
 split at h
 · cases h;exact⟨fun _ hn=>ziM _ _ _ _ _ _ _ _ _ _ hn,fun _ hn=>ziL _ _ _ _ _ _ _ _ _ _ hn⟩
 · cases h
def wC:Know Tryz.prog:=⟨79,Xk,zbR⟩
def wB:Know Tryz.prog:=⟨79,fun I=>zu I (Xk I),zf zbR⟩
theorem zg5 (m t:Str) (mi:Int) (f:List Fld) (le:Int) (l:List Upl) (n:Int) (b:Str) (s:Int) (hneed:FOk f∧ZM f=true):Spc Tryz.prog 80 [.v (.one (.ptr 0 0))] [.obj 78 [.ptr 1 0,.p (.str m),.p (.str t),.p (.int .i64 mi),.p (.list .fld f),.p (.int .i64 le)],.pack [.obj 48 [.ptr 1 0,.ptr 2 0],.pack [.obj 90 [.row 1,.p (.int .i64 n)],.row .upl 67 l],.pack [.obj 104 [.row 1,.p (.int .i64 s)],.row .byte 5 b]]] (.ret (.v (.one (.p (.bool ((Qu f))))))) [.obj 78 [.ptr 1 0,.p (.str m),.p (.str t),.p (.int .i64 mi),.p (.list .fld f),.p (.int .i64 le)],.pack [.obj 48 [.ptr 1 0,.ptr 2 0],.pack [.obj 90 [.row 1,.p (.int .i64 n)],.row .upl 67 l],.pack [.obj 104 [.row 1,.p (.int .i64 s)],.row .byte 5 b]]]:=by
 obtain⟨hf,h9⟩:=hneed;have hcd:=uf f Wl;unfold Wl at hcd
 refine spH Tryz.func80 (by kernel_rfl) { cfgT with keep:=some [0,2,3,4]} [zK,zJ,yQ,yP] (by kernel_rfl) ?_
 intro I X hI hX
 refine orcL ?_;go_invoke;refine orcS (by kernel_rfl) ?_
 simp only [zl,Nat.reduceAdd];subst hI;unfold ZM Wl at h9;unfold Qu Wl;simp only [nrmA,nrmB,nrlB,reduceCtorEq]
 (repeat' (first|refine ja ?_ ?_|intro _))<;>first|omega|exact jb|exact jc ‹False›|skip
 all_goals first|omega|assumption|(exact hf)|exact hf.1|(exact(hf.2 _ ‹_›).1)|(exact(hf.2 _ ‹_›).2)|(exact⟨hf,by decide⟩)|(exact⟨⟨hf,by decide⟩,‹_›⟩)|(exfalso;simp_all;done)|(simp_all;done)|(simp_all;omega)|(rcases hcd with h|h|h<;>simp_all;done)|trace_state
theorem zg4 (m t:Str) (mi:Int) (f:List Fld) (le:Int) (l:List Upl) (n:Int) (b:Str) (s:Int) (hneed:FOk f∧ZM f=false):Spc Tryz.prog 80 [.v (.one (.ptr 0 0))] [.obj 78 [.ptr 1 0,.p (.str m),.p (.str t),.p (.int .i64 mi),.p (.list .fld f),.p (.int .i64 le)],.pack [.obj 48 [.ptr 1 0,.ptr 2 0],.pack [.obj 90 [.row 1,.p (.int .i64 n)],.row .upl 67 l],.pack [.obj 104 [.row 1,.p (.int .i64 s)],.row .byte 5 b]]] (.pan (.ifc 73 true [.int .i64 400,.list .fld ([]),.list .byte ([])])) [.obj 78 [.ptr 1 0,.p (.str m),.p (.str t),.p (.int .i64 mi),.p (.list .fld f),.p (.int .i64 le)],.pack [.obj 48 [.ptr 1 0,.ptr 2 0],.pack [.obj 90 [.row 1,.p (.int .i64 n)],.row .upl 67 l],.pack [.obj 104 [.row 1,.p (.int .i64 s)],.row .byte 5 b]]]:=by
 obtain⟨hf,h9⟩:=hneed;have hcd:=uf f Wl;unfold Wl at hcd
 refine spH Tryz.func80 (by kernel_rfl) { cfgT with keep:=some [0,2,3,4]} [zK,zJ,yQ,yP] (by kernel_rfl) ?_
 intro I X hI hX
 refine orcL ?_;go_invoke;refine orcS (by kernel_rfl) ?_
 simp only [zl,Nat.reduceAdd];subst hI;unfold ZM Wl at h9;simp only [nrmA,nrmB,nrlB,reduceCtorEq]
 (repeat' (first|refine ja ?_ ?_|intro _))<;>first|omega|exact jb|exact jc ‹False›|skip
 all_goals first|omega|assumption|(exact hf)|exact hf.1|(exact(hf.2 _ ‹_›).1)|(exact(hf.2 _ ‹_›).2)|(exact⟨hf,by decide⟩)|(exact⟨⟨hf,by decide⟩,‹_›⟩)|(exfalso;simp_all;done)|(simp_all;done)|(simp_all;omega)|(rcases hcd with h|h|h<;>simp_all;done)|trace_state
def Zj (I:Alg):KU
 |[.v (.one (.ptr 0 0))],[.obj 78 [.ptr 1 0,.p (.str m),.p (.str t),.p (.int .i64 mi),.p (.list .fld f),.p (.int .i64 le)],.pack [.obj 48 [.ptr 1 0,.ptr 2 0],.pack [.obj 90 [.row 1,.p (.int .i64 n)],.row .upl 67 l],.pack [.obj 104 [.row 1,.p (.int .i64 s)],.row .byte 5 b]]]=>(fun(m t:Str) (f:List Fld) (l:List Upl) (b:Str)=>(some (.br (I.hid (ZM f)) (.one ⟨I.hid (FOk f∧ZM f=true),(.ret (.v (.one (.p (.bool (I.hid (Qu f))))))),[.obj 78 [.ptr 1 0,.p (.str m),.p (.str t),.p (.int .i64 mi),.p (.list .fld f),.p (.int .i64 le)],.pack [.obj 48 [.ptr 1 0,.ptr 2 0],.pack [.obj 90 [.row 1,.p (.int .i64 n)],.row .upl 67 l],.pack [.obj 104 [.row 1,.p (.int .i64 s)],.row .byte 5 b]]]⟩) (.one ⟨I.hid (FOk f∧ZM f=false),(.pan (.ifc 73 true [.int .i64 400,.list .fld (I.hid ([])),.list .byte (I.hid ([]))])),[.obj 78 [.ptr 1 0,.p (.str m),.p (.str t),.p (.int .i64 mi),.p (.list .fld f),.p (.int .i64 le)],.pack [.obj 48 [.ptr 1 0,.ptr 2 0],.pack [.obj 90 [.row 1,.p (.int .i64 n)],.row .upl 67 l],.pack [.obj 104 [.row 1,.p (.int .i64 s)],.row .byte 5 b]]]⟩)):Option CT)) m t f l b
 |_,_=>none
theorem Ry:zq Tryz.prog 80 (Zj alg):=by
 intro args hp r h;unfold Zj at h
 split at h
 · cases h;exact⟨fun _ hn=>zg5 _ _ _ _ _ _ _ _ _ hn,fun _ hn=>zg4 _ _ _ _ _ _ _ _ _ hn⟩
 · cases h
def zeL:Know Tryz.prog:=⟨80,Zj,Ry⟩
def zeK:Know Tryz.prog:=⟨80,fun I=>zu I (Zj I),zf Ry⟩
theorem zjS (c:Int) (hneed:c=0):Spc Tryz.prog 57 [.v (.one (.p (.int .i64 c)))] [] (.ret (.tup [])) []:=by
 refine spH Tryz.func57 (by kernel_rfl) { keep:=some [0,2,9,16]} [zK,zJ] (by kernel_rfl) ?_
 intro I X hI hX
 refine orcL ?_;go_invoke;refine orcS (by kernel_rfl) ?_
 simp only [zl,Nat.reduceAdd];subst hI;simp only [nrmA,nrmB,nrlB,reduceCtorEq]
 (repeat' (first|refine ja ?_ ?_|intro _))<;>first|omega|exact jb|exact jc ‹False›|skip
 all_goals first|omega|(simp_all;done)|trace_state
theorem zjR (c:Int) (hneed: ¬ c=0):Spc Tryz.prog 57 [.v (.one (.p (.int .i64 c)))] [] (.pan (.ifc 73 true [.int .i64 ((Zp c)),.list .fld ([]),.list .byte ([])])) []:=by
 generalize hr:Zp c=r;unfold Zp at hr
 refine spH Tryz.func57 (by kernel_rfl) { keep:=some [0,2,9,16]} [zK,zJ] (by kernel_rfl) ?_
 intro I X hI hX
 refine orcL ?_;go_invoke;refine orcS (by kernel_rfl) ?_
 simp only [zl,Nat.reduceAdd];subst hI;simp only [nrmA,nrmB,nrlB,reduceCtorEq]
 (repeat' (first|refine ja ?_ ?_|intro _))<;>first|omega|exact jb|exact jc ‹False›|skip
 all_goals first|omega|(((repeat(first|rewrite [if_pos (by first|omega|assumption|(simp only [*,or_self,or_true,true_or,or_false,false_or,jf,jg,jd,je,and_self,and_true,true_and];done)|(simp only [*];omega)|(simp [*];done)|(simp [*];omega))] at hr|rewrite [if_neg (by first|omega|assumption|(simp only [*,or_self,or_true,true_or,or_false,false_or,jf,jg,jd,je,and_self,and_true,true_and];done)|(simp only [*];omega)|(simp [*];done)|(simp [*];omega))] at hr)));omega)|(simp_all;done)|trace_state
def UW (I:Alg):KU
 |[.v (.one (.p (.int .i64 c)))],[]=>some (.br (I.hid (decide (c=0))) (.one ⟨I.hid (c=0),(.ret (.tup [])),[]⟩) (.one ⟨I.hid (¬ c=0),(.pan (.ifc 73 true [.int .i64 (I.hid (Zp c)),.list .fld (I.hid ([])),.list .byte (I.hid ([]))])),[]⟩))
 |_,_=>none
theorem zeG:zq Tryz.prog 57 (UW alg):=by
 intro args hp r h;unfold UW at h
 split at h
 · cases h;exact⟨fun _ hn=>zjS _ hn,fun _ hn=>zjR _ hn⟩
 · cases h
def xA:Know Tryz.prog:=⟨57,UW,zeG⟩
def xw:Know Tryz.prog:=⟨57,fun I=>zu I (UW I),zf zeG⟩
def UZ (I:Alg):KU
 |[.v (.agg [.p (.int .i64 id),.p (.int .i64 sz),.p (.str no),.p (.list .byte bb),.p (.int .i64 se)])],[]=>(fun(no bb:Str)=>(some (.one ⟨I.hid (sz<1000000000),(.ret (.v (.agg [.p (.str (I.hid ((lenF ⟨id,sz,no,bb,se⟩).name))),.p (.str (I.hid ((lenF ⟨id,sz,no,bb,se⟩).value)))]))),[]⟩):Option CT)) no bb
 |_,_=>none
theorem zeJ:zq Tryz.prog 84 (UZ alg):=by
 intro args hp r h;unfold UZ at h;split at h<;>cases h
 rename_i id sz no bb se;simp only [CT.Good,zk];intro hneed;generalize hr:lenF ⟨id,sz,no,bb,se⟩=r;obtain⟨a,v⟩:=r;unfold lenF at hr
 refine spH Tryz.func84 (by kernel_rfl) { keep:=some [0,1,2]} [zU,zT,yS,yR] (by kernel_rfl) ?_
 intro I X hI hX
 refine orcL ?_;go_invoke;refine orcS (by kernel_rfl) ?_
 simp only [zl,Nat.reduceAdd];subst hI;simp only [nrmA,nrmB,nrlB,reduceCtorEq,V0.agg.injEq];simp only at hr
 (repeat' (first|refine ja ?_ ?_|intro _))<;>first|omega|exact jb|exact jc ‹False›|skip
 all_goals first|omega|(((repeat(first|rewrite [if_pos (by first|omega|assumption|(simp only [*,or_self,or_true,true_or,or_false,false_or,jf,jg,jd,je,and_self,and_true,true_and];done)|(simp only [*];omega)|(simp [*];done)|(simp [*];omega))] at hr|rewrite [if_neg (by first|omega|assumption|(simp only [*,or_self,or_true,true_or,or_false,false_or,jf,jg,jd,je,and_self,and_true,true_and];done)|(simp only [*];omega)|(simp [*];done)|(simp [*];omega))] at hr)));cases hr;rfl)|(((repeat(first|rewrite [if_pos (by first|omega|assumption|(simp only [*,or_self,or_true,true_or,or_false,false_or,jf,jg,jd,je,and_self,and_true,true_and];done)|(simp only [*];omega)|(simp [*];done)|(simp [*];omega))] at hr|rewrite [if_neg (by first|omega|assumption|(simp only [*,or_self,or_true,true_or,or_false,false_or,jf,jg,jd,je,and_self,and_true,true_and];done)|(simp only [*];omega)|(simp [*];done)|(simp [*];omega))] at hr)));cases hr;simp [ziF,ziG];done)|(simp_all;done)|trace_state
def ziO:Know Tryz.prog:=⟨84,UZ,zeJ⟩
def ziN:Know Tryz.prog:=⟨84,fun I=>zu I (UZ I),zf zeJ⟩
end Go.Proofs.YtcclfkakcgnacaaGreatDoor
namespace Go.Proofs.YtcclfkakcgnacaaGreatDoor
open Go Go.Sep Go.Ab
set_option maxRecDepth 100000
theorem zcr {f:List Fld} (hf:FOk f) (n:Str):(oneT f n).1.length≤1000000:=by
 unfold oneT oneF
 split
 · simp
 · split
   · rename_i h
     rw [jG]
     cases hq:(valsF f n)[0]? with
     |none=>simp
     | some y=>
       have:=List.mem_of_getElem? hq;unfold valsF at this;rw [List.mem_map] at this;obtain⟨x,hx,rfl⟩:=this;exact(hf.2 x (List.mem_filter.1 hx).1).2
   · simp
def rE (I:Alg):KU
 |[.v (.one (.ptr 0 0))],[.obj 78 [.ptr 1 0,.p (.str m),.p (.str t),.p (.int .i64 mi),.p (.list .fld f),.p (.int .i64 le)],.pack [.obj 48 [.ptr 1 0,.ptr 2 0],.pack [.obj 90 [.row 1,.p (.int .i64 n)],.row .upl 67 l],.pack [.obj 104 [.row 1,.p (.int .i64 s)],.row .byte 5 b]]]=>(fun(m t:Str) (f:List Fld) (l:List Upl) (b:Str)=>(some (.one ⟨I.hid (FOk f∧zM l n∧n≤200000∧b.length≤100000),(.pan (.ifc 73 true [.int .i64 (I.hid ((yF ⟨l,n,b,s⟩ f).st)),.list .fld (I.hid ((yF ⟨l,n,b,s⟩ f).fs)),.list .byte (I.hid ([]))])),[.obj 78 [.ptr 1 0,.p (.str m),.p (.str t),.p (.int .i64 mi),.p (.list .fld f),.p (.int .i64 le)],.pack [.obj 48 [.ptr 1 0,.ptr 2 0],.pack [.obj 90 [.row 1,.p (.int .i64 (I.hid ((yF ⟨l,n,b,s⟩ f).q.n)))],.row .upl 67 (I.hid ((yF ⟨l,n,b,s⟩ f).q.l))],.pack [.obj 104 [.row 1,.p (.int .i64 (I.hid ((yF ⟨l,n,b,s⟩ f).q.s)))],.row .byte 5 (I.hid ((yF ⟨l,n,b,s⟩ f).q.b))]]]⟩):Option CT)) m t f l b
 |_,_=>none
set_option maxHeartbeats 2000000 in
theorem V3:zq Tryz.prog 53 (rE alg):=by
 intro args hp r h;unfold rE at h;split at h<;>cases h
 rename_i m t mi f le n l s b
 revert f l;intro(f:List Fld) (l:List Upl)
 simp only [CT.Good,zk];intro hneed;obtain⟨hf,hs,hn,hb⟩:=hneed;have hn0:=hs.n0;have hdl:=XZ (n+1);have hcm:=uf f zaA;have hol:=zcr hf zaA;generalize hr:yF ⟨l,n,b,s⟩ f=r;obtain⟨st,fs,⟨l',n',b',s'⟩⟩:=r;unfold yF creE wsC wsS syS at hr
 refine spH Tryz.func53 (by kernel_rfl) { cfgT with keep:=some [0,2,3,4,6,7]} [RH,RG,zX,zW,zK,zJ,zU,zT,yS,yR,yQ,yP,wC,wB,zeL,zeK,xA,xw] (by kernel_rfl) ?_
 intro I X hI hX
 refine orcL ?_;go_invoke;refine orcS (by kernel_rfl) ?_
 simp only [zl,Nat.reduceAdd];subst hI;unfold zQ zaA at *;unfold locN xC at hr;simp only at hr;simp only [nrmA,nrmB,nrlB,reduceCtorEq,HO.pack.injEq,HO.obj.injEq]
 by_cases h1:qA f [117,112,108,111,97,100,45,108,101,110,103,116,104]=false
 · rw [if_pos h1] at hr
   cases hr
   (repeat' (first|refine ja ?_ ?_|intro _))<;>first|omega|exact jb|exact jc ‹False›|skip
   all_goals first
    |omega
    |assumption
    |exact hs
    |exact hf.1
    |(exact(hf.2 _ ‹_›).1)
    |(exact(hf.2 _ ‹_›).2)
    |(simp only [jh,ji];omega)
    |(simp_all;done)
    |(exfalso;simp_all;done)
    |(simp only [wrtL,wrtN,wrtB,if_neg h5];done)
 rw [if_neg h1] at hr;simp only [Bool.not_eq_false] at h1
 by_cases h2:ZM f=false
 · rw [if_pos h2] at hr
   cases hr
   (repeat' (first|refine ja ?_ ?_|intro _))<;>first|omega|exact jb|exact jc ‹False›|skip
   all_goals first
    |omega
    |assumption
    |exact hs
    |exact hf.1
    |(exact(hf.2 _ ‹_›).1)
    |(exact(hf.2 _ ‹_›).2)
    |(simp only [jh,ji];omega)
    |(simp_all;done)
    |(exfalso;simp_all;done)
    |(simp only [wrtL,wrtN,wrtB,if_neg h5];done)
 rw [if_neg h2] at hr;simp only [Bool.not_eq_false] at h2
 by_cases h3:decide (0≤zC f [117,112,108,111,97,100,45,108,101,110,103,116,104])=Qu f
 · rw [if_pos h3] at hr
   cases hr
   (repeat' (first|refine ja ?_ ?_|intro _))<;>first|omega|exact jb|exact jc ‹False›|skip
   all_goals first
    |omega
    |assumption
    |exact hs
    |exact hf.1
    |(exact(hf.2 _ ‹_›).1)
    |(exact(hf.2 _ ‹_›).2)
    |(simp only [jh,ji];omega)
    |(simp_all;done)
    |(exfalso;simp_all;done)
    |(simp only [wrtL,wrtN,wrtB,if_neg h5];done)
 rw [if_neg h3] at hr
 by_cases h4:(oneT f [117,112,108,111,97,100,45,109,101,116,97,100,97,116,97]).2=9
 · rw [if_pos h4] at hr
   cases hr
   (repeat' (first|refine ja ?_ ?_|intro _))<;>first|omega|exact jb|exact jc ‹False›|skip
   all_goals first
    |omega
    |assumption
    |exact hs
    |exact hf.1
    |(exact(hf.2 _ ‹_›).1)
    |(exact(hf.2 _ ‹_›).2)
    |(simp only [jh,ji];omega)
    |(simp_all;done)
    |(exfalso;simp_all;done)
    |(simp only [wrtL,wrtN,wrtB,if_neg h5];done)
 rw [if_neg h4] at hr;generalize(oneT f [117,112,108,111,97,100,45,109,101,116,97,100,97,116,97]).1=mt at *;generalize zC f [117,112,108,111,97,100,45,108,101,110,103,116,104]=nv at *
 by_cases h5:wrtC l n b ⟨1,n+1,nv,mt⟩=0
 · rw [if_neg (fun h=>h h5)] at hr
   cases hr;simp only [h5,if_true] at *
   (repeat' (first|refine ja ?_ ?_|intro _))<;>first|omega|exact jb|exact jc ‹False›|skip
   all_goals first
    |omega
    |assumption
    |exact hs
    |exact hf.1
    |(exact(hf.2 _ ‹_›).1)
    |(exact(hf.2 _ ‹_›).2)
    |(simp only [jh,ji];omega)
    |(simp_all;done)
    |(exfalso;simp_all;done)
    |(simp only [wrtL,wrtN,wrtB,if_neg h5];done)
 · rw [if_pos h5] at hr
   cases hr
   (repeat' (first|refine ja ?_ ?_|intro _))<;>first|omega|exact jb|exact jc ‹False›|skip
   all_goals first
    |omega
    |assumption
    |exact hs
    |exact hf.1
    |(exact(hf.2 _ ‹_›).1)
    |(exact(hf.2 _ ‹_›).2)
    |(simp only [jh,ji];omega)
    |(simp_all;done)
    |(exfalso;simp_all;done)
    |(simp only [wrtL,wrtN,wrtB,if_neg h5];done)
def vV:Know Tryz.prog:=⟨53,rE,V3⟩
def vU:Know Tryz.prog:=⟨53,fun I=>zu I (rE I),zf V3⟩
theorem zjQ (m t:Str) (mi:Int) (f:List Fld) (le:Int) (l:List Upl) (n:Int) (b:Str) (s:Int) (hneed:zM l n∧uplB ⟨l,n,b,s⟩ t=true):Spc Tryz.prog 54 [.v (.one (.ptr 0 0))] [.obj 78 [.ptr 1 0,.p (.str m),.p (.str t),.p (.int .i64 mi),.p (.list .fld f),.p (.int .i64 le)],.pack [.obj 48 [.ptr 1 0,.ptr 2 0],.pack [.obj 90 [.row 1,.p (.int .i64 n)],.row .upl 67 l],.pack [.obj 104 [.row 1,.p (.int .i64 s)],.row .byte 5 b]]] (.ret (.v (.agg [.p (.int .i64 ((getU l (idV t)).id)),.p (.int .i64 ((getU l (idV t)).size)),.p (.str ((getU l (idV t)).note)),.p (.list .byte ((getU l (idV t)).bytes)),.p (.int .i64 ((getU l (idV t)).sent))]))) [.obj 78 [.ptr 1 0,.p (.str m),.p (.str t),.p (.int .i64 mi),.p (.list .fld f),.p (.int .i64 le)],.pack [.obj 48 [.ptr 1 0,.ptr 2 0],.pack [.obj 90 [.row 1,.p (.int .i64 n)],.row .upl 67 l],.pack [.obj 104 [.row 1,.p (.int .i64 s)],.row .byte 5 b]]]:=by
 obtain⟨hs,hu⟩:=hneed;have hnn:=uO (t.drop 7);have hnx:=uO (Lib.trimPrefix t xC)
 have htp:Lib.hasPrefix t xC=true→Lib.trimPrefix t xC=t.drop 7:=fun h=>by unfold Lib.trimPrefix;rw [if_pos h];rfl
 unfold uplB idB idV at hu
 try unfold idV
 refine spH Tryz.func54 (by kernel_rfl) { cfgT with keep:=some [0,2,3,4,5,6,7]} [qo,qm,rO,rM,Yg,Yf,YX,YW,zK,zJ,yS,yR] (by kernel_rfl) ?_
 intro I X hI hX
 refine orcL ?_;go_invoke;refine orcS (by kernel_rfl) ?_
 simp only [zl,Nat.reduceAdd];subst hI;rw [show([47,102,105,108,101,115,47]:Str)=xC from rfl];simp only [nrmA,nrmB,nrlB,reduceCtorEq,HO.pack.injEq,HO.obj.injEq];generalize Lib.hasPrefix t xC=hb at *
 cases hb with
 | true=>
   rw [htp rfl] at *;generalize t.drop 7=tt at *;generalize numA tt 10 9=na at *;obtain⟨nv,ok⟩:=na;simp only [Bool.true_and] at *
   (repeat' (first|refine ja ?_ ?_|intro _))<;>first|omega|exact jb|exact jc ‹False›|skip
   all_goals first|omega|assumption|exact hs|(simp_all;done)|trace_state
 | false=>
   simp only [Bool.false_and] at *
   (repeat' (first|refine ja ?_ ?_|intro _))<;>first|omega|exact jb|exact jc ‹False›|skip
   all_goals first|omega|assumption|exact hs|(simp_all;done)|trace_state
theorem zjP (m t:Str) (mi:Int) (f:List Fld) (le:Int) (l:List Upl) (n:Int) (b:Str) (s:Int) (hneed:zM l n∧uplB ⟨l,n,b,s⟩ t=false):Spc Tryz.prog 54 [.v (.one (.ptr 0 0))] [.obj 78 [.ptr 1 0,.p (.str m),.p (.str t),.p (.int .i64 mi),.p (.list .fld f),.p (.int .i64 le)],.pack [.obj 48 [.ptr 1 0,.ptr 2 0],.pack [.obj 90 [.row 1,.p (.int .i64 n)],.row .upl 67 l],.pack [.obj 104 [.row 1,.p (.int .i64 s)],.row .byte 5 b]]] (.pan (.ifc 73 true [.int .i64 404,.list .fld ([]),.list .byte ([])])) [.obj 78 [.ptr 1 0,.p (.str m),.p (.str t),.p (.int .i64 mi),.p (.list .fld f),.p (.int .i64 le)],.pack [.obj 48 [.ptr 1 0,.ptr 2 0],.pack [.obj 90 [.row 1,.p (.int .i64 n)],.row .upl 67 l],.pack [.obj 104 [.row 1,.p (.int .i64 s)],.row .byte 5 b]]]:=by
 obtain⟨hs,hu⟩:=hneed;have hnn:=uO (t.drop 7);have hnx:=uO (Lib.trimPrefix t xC)
 have htp:Lib.hasPrefix t xC=true→Lib.trimPrefix t xC=t.drop 7:=fun h=>by unfold Lib.trimPrefix;rw [if_pos h];rfl
 unfold uplB idB idV at hu
 try unfold idV
 refine spH Tryz.func54 (by kernel_rfl) { cfgT with keep:=some [0,2,3,4,5,6,7]} [qo,qm,rO,rM,Yg,Yf,YX,YW,zK,zJ,yS,yR] (by kernel_rfl) ?_
 intro I X hI hX
 refine orcL ?_;go_invoke;refine orcS (by kernel_rfl) ?_
 simp only [zl,Nat.reduceAdd];subst hI;rw [show([47,102,105,108,101,115,47]:Str)=xC from rfl];simp only [nrmA,nrmB,nrlB,reduceCtorEq,HO.pack.injEq,HO.obj.injEq];generalize Lib.hasPrefix t xC=hb at *
 cases hb with
 | true=>
   rw [htp rfl] at *;generalize t.drop 7=tt at *;generalize numA tt 10 9=na at *;obtain⟨nv,ok⟩:=na;simp only [Bool.true_and] at *
   (repeat' (first|refine ja ?_ ?_|intro _))<;>first|omega|exact jb|exact jc ‹False›|skip
   all_goals first|omega|assumption|exact hs|(simp_all;done)|trace_state
 | false=>
   simp only [Bool.false_and] at *
   (repeat' (first|refine ja ?_ ?_|intro _))<;>first|omega|exact jb|exact jc ‹False›|skip
   all_goals first|omega|assumption|exact hs|(simp_all;done)|trace_state
def UU (I:Alg):KU
 |[.v (.one (.ptr 0 0))],[.obj 78 [.ptr 1 0,.p (.str m),.p (.str t),.p (.int .i64 mi),.p (.list .fld f),.p (.int .i64 le)],.pack [.obj 48 [.ptr 1 0,.ptr 2 0],.pack [.obj 90 [.row 1,.p (.int .i64 n)],.row .upl 67 l],.pack [.obj 104 [.row 1,.p (.int .i64 s)],.row .byte 5 b]]]=>(fun(m t:Str) (f:List Fld) (l:List Upl) (b:Str)=>(some (.br (I.hid (uplB ⟨l,n,b,s⟩ t)) (.one ⟨I.hid (zM l n∧uplB ⟨l,n,b,s⟩ t=true),(.ret (.v (.agg [.p (.int .i64 (I.hid ((getU l (idV t)).id))),.p (.int .i64 (I.hid ((getU l (idV t)).size))),.p (.str (I.hid ((getU l (idV t)).note))),.p (.list .byte (I.hid ((getU l (idV t)).bytes))),.p (.int .i64 (I.hid ((getU l (idV t)).sent)))]))),[.obj 78 [.ptr 1 0,.p (.str m),.p (.str t),.p (.int .i64 mi),.p (.list .fld f),.p (.int .i64 le)],.pack [.obj 48 [.ptr 1 0,.ptr 2 0],.pack [.obj 90 [.row 1,.p (.int .i64 n)],.row .upl 67 l],.pack [.obj 104 [.row 1,.p (.int .i64 s)],.row .byte 5 b]]]⟩) (.one ⟨I.hid (zM l n∧uplB ⟨l,n,b,s⟩ t=false),(.pan (.ifc 73 true [.int .i64 404,.list .fld (I.hid ([])),.list .byte (I.hid ([]))])),[.obj 78 [.ptr 1 0,.p (.str m),.p (.str t),.p (.int .i64 mi),.p (.list .fld f),.p (.int .i64 le)],.pack [.obj 48 [.ptr 1 0,.ptr 2 0],.pack [.obj 90 [.row 1,.p (.int .i64 n)],.row .upl 67 l],.pack [.obj 104 [.row 1,.p (.int .i64 s)],.row .byte 5 b]]]⟩)):Option CT)) m t f l b
 |_,_=>none
theorem zeD:zq Tryz.prog 54 (UU alg):=by
 intro args hp r h;unfold UU at h
 split at h
 · cases h;exact⟨fun _ hn=>zjQ _ _ _ _ _ _ _ _ _ hn,fun _ hn=>zjP _ _ _ _ _ _ _ _ _ hn⟩
 · cases h
def Wv:Know Tryz.prog:=⟨54,UU,zeD⟩
def Wu:Know Tryz.prog:=⟨54,fun I=>zu I (UU I),zf zeD⟩
def Xh (I:Alg):KU
 |[.v (.one (.ptr 0 0)),.v (.agg [.p (.int .i64 ui),.p (.int .i64 uz),.p (.str uo),.p (.list .byte ub),.p (.int .i64 us)])],[.obj 78 [.ptr 1 0,.p (.str m),.p (.str t),.p (.int .i64 mi),.p (.list .fld f),.p (.int .i64 le)],.pack [.obj 48 [.ptr 1 0,.ptr 2 0],.pack [.obj 90 [.row 1,.p (.int .i64 n)],.row .upl 67 l],.pack [.obj 104 [.row 1,.p (.int .i64 s)],.row .byte 5 b]]]=>(fun(m t:Str) (f:List Fld) (l:List Upl) (b uo ub:Str)=>(some (.one ⟨I.hid (uz<1000000000∧ub.length<1000000),(.pan (.ifc 73 true [.int .i64 200,.list .fld (I.hid (Y3 ⟨ui,uz,uo,ub,us⟩)),.list .byte (I.hid ([]))])),[.obj 78 [.ptr 1 0,.p (.str m),.p (.str t),.p (.int .i64 mi),.p (.list .fld f),.p (.int .i64 le)],.pack [.obj 48 [.ptr 1 0,.ptr 2 0],.pack [.obj 90 [.row 1,.p (.int .i64 n)],.row .upl 67 l],.pack [.obj 104 [.row 1,.p (.int .i64 s)],.row .byte 5 b]]]⟩):Option CT)) m t f l b uo ub
 |_,_=>none
theorem zbO:zq Tryz.prog 55 (Xh alg):=by
 intro args hp r h;unfold Xh at h;split at h<;>cases h
 rename_i ui uz uo ub us m t mi f le n l s b
 revert f l;intro(f:List Fld) (l:List Upl)
 simp only [CT.Good,zk];intro hneed;obtain⟨h1,h2⟩:=hneed;generalize hr:Y3 ⟨ui,uz,uo,ub,us⟩=r;unfold Y3 at hr;generalize hl:lenF ⟨ui,uz,uo,ub,us⟩=lf at hr;obtain⟨ln,lv⟩:=lf
 refine spH Tryz.func55 (by kernel_rfl) { cfgT with keep:=some [0,1,3,4]} [zK,zJ,zU,zT,yS,yR,ziO,ziN] (by kernel_rfl) ?_
 intro I X hI hX
 refine orcL ?_;go_invoke;refine orcS (by kernel_rfl) ?_
 simp only [zl,Nat.reduceAdd];subst hI;simp only at hr;simp only [nrmA,nrmB,nrlB,reduceCtorEq,HO.pack.injEq,HO.obj.injEq];rw [hl]
 (repeat' (first|refine ja ?_ ?_|intro _))<;>first|omega|exact jb|exact jc ‹False›|skip
 all_goals first|omega|with_reducible assumption|(subst hr;simp_all;done)|(subst hr;(simp_all [tY,zhY,zi7,zgZ]);done)|trace_state
def Zg:Know Tryz.prog:=⟨55,Xh,zbO⟩
def Zf:Know Tryz.prog:=⟨55,fun I=>zu I (Xh I),zf zbO⟩
end Go.Proofs.YtcclfkakcgnacaaGreatDoor
namespace Go.Proofs.YtcclfkakcgnacaaGreatDoor
open Go Go.Sep Go.Ab
set_option maxRecDepth 100000
theorem Rk {l:List Upl} {n:Int} {b:Str} {e:Ent} (h:e.kind≠1):wrtN l n b e=n:=by
 unfold wrtN ZE;rw [if_neg h]
 split<;>rfl
def Zi (I:Alg):KU
 |[.v (.one (.ptr 0 0)),.v (.agg [.p (.int .i64 ui),.p (.int .i64 uz),.p (.str uo),.p (.list .byte ub),.p (.int .i64 us)]),.v (.one (.p (.list .byte body)))],[.obj 78 [.ptr 1 0,.p (.str m),.p (.str t),.p (.int .i64 mi),.p (.list .fld f),.p (.int .i64 le)],.pack [.obj 48 [.ptr 1 0,.ptr 2 0],.pack [.obj 90 [.row 1,.p (.int .i64 n)],.row .upl 67 l],.pack [.obj 104 [.row 1,.p (.int .i64 s)],.row .byte 5 b]]]=>(fun(m t:Str) (f:List Fld) (l:List Upl) (b uo ub body:Str)=>(some (.one ⟨I.hid (FOk f∧zM l n∧n≤200000∧b.length≤100000∧body.length≤100000∧ub.length≤1000000∧uz≤1000000),(.pan (.ifc 73 true [.int .i64 (I.hid ((y7 ⟨l,n,b,s⟩ ⟨ui,uz,uo,ub,us⟩ f body).st)),.list .fld (I.hid ((y7 ⟨l,n,b,s⟩ ⟨ui,uz,uo,ub,us⟩ f body).fs)),.list .byte (I.hid ([]))])),[.obj 78 [.ptr 1 0,.p (.str m),.p (.str t),.p (.int .i64 mi),.p (.list .fld f),.p (.int .i64 le)],.pack [.obj 48 [.ptr 1 0,.ptr 2 0],.pack [.obj 90 [.row 1,.p (.int .i64 (I.hid ((y7 ⟨l,n,b,s⟩ ⟨ui,uz,uo,ub,us⟩ f body).q.n)))],.row .upl 67 (I.hid ((y7 ⟨l,n,b,s⟩ ⟨ui,uz,uo,ub,us⟩ f body).q.l))],.pack [.obj 104 [.row 1,.p (.int .i64 (I.hid ((y7 ⟨l,n,b,s⟩ ⟨ui,uz,uo,ub,us⟩ f body).q.s)))],.row .byte 5 (I.hid ((y7 ⟨l,n,b,s⟩ ⟨ui,uz,uo,ub,us⟩ f body).q.b))]]]⟩):Option CT)) m t f l b uo ub body
 |_,_=>none
set_option maxHeartbeats 8000000 in
theorem Rx:zq Tryz.prog 56 (Zi alg):=by
 intro args hp r h;unfold Zi at h;split at h<;>cases h
 rename_i ui uz uo ub us body m t mi f le n l s b
 revert f l;intro(f:List Fld) (l:List Upl)
 simp only [CT.Good,zk];intro hneed;obtain⟨hf,hs,hn,hb,hbl,hub,huz⟩:=hneed;have hn0:=hs.n0;have hcm:=uf f zah;have hol:=zcr hf zah;have hs2:=zev hs b (apE ui body)
 have hnn:wrtN l n b (apE ui body)=n:=Rk (by simp [apE])
 have hbb:=Xa (l:=l) (n:=n) (b:=b) (apE ui body) hb;generalize hr:y7 ⟨l,n,b,s⟩ ⟨ui,uz,uo,ub,us⟩ f body=r;obtain⟨st,fs,⟨l',n',b',s'⟩⟩:=r;unfold y7 wsC wsS syS at hr;simp only at hr
 refine spH Tryz.func56 (by kernel_rfl) { cfgT with seam:=[5,10,17],keep:=some [0,1,2,4,6,8,9,10,11]} [xP,xO,yK,yJ,yB,yA,zX,zW,xk,xh,zK,zJ,zU,zT,yS,yR,yQ,yP,wC,wB,xA,xw] (by kernel_rfl) ?_
 intro I X hI hX
 refine orcL ?_;go_invoke;refine orcS (by kernel_rfl) ?_
 simp only [zl,Nat.reduceAdd]
 have hh: ∀ {α:Type} (x:α),I.hid x=x:=by subst hI;intros;rfl
 have key17: ∀ (nv sz:Int),nv=(ub.length:Int)→(if(if apG l ui nv then 17 else wrtC l n b (apE ui body))≠0 then(⟨Zp (if apG l ui nv then 17 else wrtC l n b (apE ui body)),[],⟨l,n,b,s⟩⟩:TA)
  else if 0≤sz∧uz<0 then
   if wrtC (wrtL l n b (apE ui body)) (wrtN l n b (apE ui body)) (wrtB l n b (apE ui body)) ⟨3,ui,sz,[]⟩≠0 then(⟨Zp (wrtC (wrtL l n b (apE ui body)) (wrtN l n b (apE ui body)) (wrtB l n b (apE ui body)) ⟨3,ui,sz,[]⟩),[],⟨wrtL l n b (apE ui body),wrtN l n b (apE ui body),wrtB l n b (apE ui body),s⟩⟩:TA)
   else(⟨204,[⟨tY,decS (nv+(body.length:Int))⟩],⟨wrtL (wrtL l n b (apE ui body)) (wrtN l n b (apE ui body)) (wrtB l n b (apE ui body)) ⟨3,ui,sz,[]⟩,wrtN (wrtL l n b (apE ui body)) (wrtN l n b (apE ui body)) (wrtB l n b (apE ui body)) ⟨3,ui,sz,[]⟩,wrtB (wrtL l n b (apE ui body)) (wrtN l n b (apE ui body)) (wrtB l n b (apE ui body)) ⟨3,ui,sz,[]⟩,((wrtB (wrtL l n b (apE ui body)) (wrtN l n b (apE ui body)) (wrtB l n b (apE ui body)) ⟨3,ui,sz,[]⟩).length:Int)⟩⟩:TA)
  else(⟨204,[⟨tY,decS (nv+(body.length:Int))⟩],⟨wrtL l n b (apE ui body),wrtN l n b (apE ui body),wrtB l n b (apE ui body),((wrtB l n b (apE ui body)).length:Int)⟩⟩:TA))=⟨st,fs,⟨l',n',b',s'⟩⟩→Ok Tryz.prog X (fun o h=>o=AOut.pan (C.ifc 73 true [P.int IntKind.i64 st,P.list U.fld fs,P.list U.byte []])∧h=[HO.obj 78 [C.ptr 1 0,C.p (P.str m),C.p (P.str t),C.p (P.int IntKind.i64 mi),C.p (P.list U.fld f),C.p (P.int IntKind.i64 le)],HO.pack [HO.obj 48 [C.ptr 1 0,C.ptr 2 0],HO.pack [HO.obj 90 [C.row 1,C.p (P.int IntKind.i64 n')],HO.row U.upl 67 l'],HO.pack [HO.obj 104 [C.row 1,C.p (P.int IntKind.i64 s')],HO.row U.byte 5 b']]]) (go I tab { cfgT with seam:=[5,10,17],keep:=some [0,1,2,4,6,8,9,10,11]} [xP,xO,yK,yJ,yB,yA,zX,zW,xk,xh,zK,zJ,zU,zT,yS,yR,yQ,yP,wC,wB,xA,xw] [⟨xX Tryz.f56,finK I tab { cfgT with seam:=[5,10,17],keep:=some [0,1,2,4,6,8,9,10,11]} 2 Tryz.f56⟩] 0 [1,1,1,1,1,1,1,1,0] ⟨[(0,.v (.one (.ptr 0 0))),(1,.v (.agg [.p (.int .i64 ui),.p (.int .i64 uz),.p (.str uo),.p (.list .byte ub),.p (.int .i64 us)])),(2,.v (.one (.p (.list .byte body)))),(4,.v (.one (.ptr 2 0))),(10,.v (.one (.p (.int .i64 nv)))),(11,.v (.one (.p (.int .i64 sz))))],[.obj 78 [.ptr 1 0,.p (.str m),.p (.str t),.p (.int .i64 mi),.p (.list .fld f),.p (.int .i64 le)],.pack [.obj 48 [.ptr 1 0,.ptr 2 0],.pack [.obj 90 [.row 1,.p (.int .i64 n)],.row .upl 67 l],.pack [.obj 104 [.row 1,.p (.int .i64 s)],.row .byte 5 b]],.pack [.obj 67 [.p (.int .i64 ui),.p (.int .i64 uz),.p (.str uo),.p (.list .byte ub),.p (.int .i64 us)]]],131,none⟩):=by
  intro nv sz hnv hr
  refine orcL ?_;go_invoke;refine orcS (by kernel_rfl) ?_
  simp only [zl,Nat.reduceAdd];clear hX hcm hol;unfold tY at hr;unfold apE at *;subst hI;simp only [nrmA,nrmB,nrlB,reduceCtorEq,HO.pack.injEq,HO.obj.injEq]
  by_cases hg:apG l ui nv=true
  · simp only [hg,if_true] at hr ⊢
    rw [if_pos (by decide)] at hr
    clear hs2 hnn hbb;simp only [TA.mk.injEq,Sto.mk.injEq] at hr;obtain⟨q1,q2,q3,q4,q5,q6⟩:=hr;subst q1 q2 q3 q4 q5 q6;simp only [nrmA,nrmB,nrlB,reduceCtorEq,HO.pack.injEq,HO.obj.injEq,decide_true,decide_false,je,jd,forall_const,false_implies,true_implies,jf,jg]
    (repeat' (first|refine ja ?_ ?_|intro _))<;>first|omega|exact jb|exact jc ‹False›|skip
    all_goals first
     |with_reducible rfl
     |with_reducible assumption
     |omega
     |exact hs
     |exact hf.1
     |(exact(hf.2 _ ‹_›).1)
     |(exact(hf.2 _ ‹_›).2)
     |exact⟨hf,by decide⟩
     |exact⟨⟨hf,by decide⟩,by assumption⟩
     |(simp only [jh,ji];omega)
     |(exfalso;simp_all;done)
  simp only [hg,jd,if_false] at hr ⊢;clear hg
  by_cases h1:wrtC l n b ⟨2,ui,0,body⟩=0
  · rw [if_neg (fun h=>h h1)] at hr
    simp only [h1] at ⊢
    clear h1;generalize wrtL l n b ⟨2,ui,0,body⟩=l2 at *;generalize wrtN l n b ⟨2,ui,0,body⟩=n2 at *;generalize wrtB l n b ⟨2,ui,0,body⟩=b2 at *
    by_cases h2:0≤sz∧uz<0
    · rw [if_pos h2] at hr
      by_cases h3:wrtC l2 n2 b2 ⟨3,ui,sz,[]⟩=0
      · rw [if_neg (fun h=>h h3)] at hr
        simp only [TA.mk.injEq,Sto.mk.injEq] at hr;obtain⟨q1,q2,q3,q4,q5,q6⟩:=hr;subst q1 q2 q3 q4 q5 q6
        simp only [h3] at ⊢
        clear h3;simp only [nrmA,nrmB,nrlB,reduceCtorEq,HO.pack.injEq,HO.obj.injEq,decide_true,decide_false,je,jd,forall_const,false_implies,true_implies,jf,jg]
        (repeat' (first|refine ja ?_ ?_|intro _))<;>first|omega|exact jb|exact jc ‹False›|skip
        all_goals first
         |with_reducible rfl
         |with_reducible assumption
         |omega
         |exact hs
         |exact hf.1
         |(exact(hf.2 _ ‹_›).1)
         |(exact(hf.2 _ ‹_›).2)
         |exact⟨hf,by decide⟩
         |exact⟨⟨hf,by decide⟩,by assumption⟩
         |(simp only [jh,ji];omega)
         |(exfalso;simp_all;done)
      · rw [if_pos h3] at hr
        simp only [TA.mk.injEq,Sto.mk.injEq] at hr;obtain⟨q1,q2,q3,q4,q5,q6⟩:=hr;subst q1 q2 q3 q4 q5 q6
        have e1:wrtL l2 n2 b2 ⟨3,ui,sz,[]⟩=l2:=by simp only [wrtL,if_neg h3]
        have e2:wrtN l2 n2 b2 ⟨3,ui,sz,[]⟩=n2:=by simp only [wrtN,if_neg h3]
        have e3:wrtB l2 n2 b2 ⟨3,ui,sz,[]⟩=b2:=by simp only [wrtB,if_neg h3]
        rw [e1,e2,e3];clear e1 e2 e3;generalize wrtC l2 n2 b2 ⟨3,ui,sz,[]⟩=c3 at *;simp only [nrmA,nrmB,nrlB,reduceCtorEq,HO.pack.injEq,HO.obj.injEq,decide_true,decide_false,je,jd,forall_const,false_implies,true_implies,jf,jg,h3]
        (repeat' (first|refine ja ?_ ?_|intro _))<;>first|omega|exact jb|exact jc ‹False›|skip
        all_goals first
         |with_reducible rfl
         |with_reducible assumption
         |omega
         |exact hs
         |exact hf.1
         |(exact(hf.2 _ ‹_›).1)
         |(exact(hf.2 _ ‹_›).2)
         |exact⟨hf,by decide⟩
         |exact⟨⟨hf,by decide⟩,by assumption⟩
         |(simp only [jh,ji];omega)
         |(exfalso;simp_all;done)
    · rw [if_neg h2] at hr
      simp only [TA.mk.injEq,Sto.mk.injEq] at hr;obtain⟨q1,q2,q3,q4,q5,q6⟩:=hr;subst q1 q2 q3 q4 q5 q6;simp only [nrmA,nrmB,nrlB,reduceCtorEq,HO.pack.injEq,HO.obj.injEq,decide_true,decide_false,je,jd,forall_const,false_implies,true_implies,jf,jg]
      (repeat' (first|refine ja ?_ ?_|intro _))<;>first|omega|exact jb|exact jc ‹False›|skip
      all_goals first
       |with_reducible rfl
       |with_reducible assumption
       |omega
       |exact hs
       |exact hf.1
       |(exact(hf.2 _ ‹_›).1)
       |(exact(hf.2 _ ‹_›).2)
       |exact⟨hf,by decide⟩
       |exact⟨⟨hf,by decide⟩,by assumption⟩
       |(simp only [jh,ji];omega)
       |(exfalso;simp_all;done)
  · rw [if_pos h1] at hr
    simp only [TA.mk.injEq,Sto.mk.injEq] at hr;obtain⟨q1,q2,q3,q4,q5,q6⟩:=hr;subst q1 q2 q3 q4 q5 q6
    have e1:wrtL l n b ⟨2,ui,0,body⟩=l:=by simp only [wrtL,if_neg h1]
    have e2:wrtN l n b ⟨2,ui,0,body⟩=n:=by simp only [wrtN,if_neg h1]
    have e3:wrtB l n b ⟨2,ui,0,body⟩=b:=by simp only [wrtB,if_neg h1]
    rw [e1,e2,e3];clear e1 e2 e3 hs2 hnn hbb;generalize wrtC l n b ⟨2,ui,0,body⟩=c2 at *;simp only [nrmA,nrmB,nrlB,reduceCtorEq,HO.pack.injEq,HO.obj.injEq,decide_true,decide_false,je,jd,forall_const,false_implies,true_implies,jf,jg,h1]
    (repeat' (first|refine ja ?_ ?_|intro _))<;>first|omega|exact jb|exact jc ‹False›|skip
    all_goals first
     |with_reducible rfl
     |with_reducible assumption
     |omega
     |exact hs
     |exact hf.1
     |(exact(hf.2 _ ‹_›).1)
     |(exact(hf.2 _ ‹_›).2)
     |exact⟨hf,by decide⟩
     |exact⟨⟨hf,by decide⟩,by assumption⟩
     |(simp only [jh,ji];omega)
     |(exfalso;simp_all;done)
 have key10: ∀ (nv:Int),nv=(ub.length:Int)→(if qA f zQ=false then(⟨400,[],⟨l,n,b,s⟩⟩:TA)
  else if 0≤zC f zQ∧0≤uz∧zC f zQ≠uz then(⟨400,[],⟨l,n,b,s⟩⟩:TA)
  else if 0≤zC f zQ∧uz<0∧(2000<zC f zQ∨zC f zQ<nv+(body.length:Int)) then(⟨413,[],⟨l,n,b,s⟩⟩:TA)
  else if WJ b ((body.length:Int)+60)=false then(⟨507,[],⟨l,n,b,s⟩⟩:TA)
  else(if(if apG l ui nv then 17 else wrtC l n b (apE ui body))≠0 then(⟨Zp (if apG l ui nv then 17 else wrtC l n b (apE ui body)),[],⟨l,n,b,s⟩⟩:TA)
  else if 0≤(zC f zQ)∧uz<0 then
   if wrtC (wrtL l n b (apE ui body)) (wrtN l n b (apE ui body)) (wrtB l n b (apE ui body)) ⟨3,ui,(zC f zQ),[]⟩≠0 then(⟨Zp (wrtC (wrtL l n b (apE ui body)) (wrtN l n b (apE ui body)) (wrtB l n b (apE ui body)) ⟨3,ui,(zC f zQ),[]⟩),[],⟨wrtL l n b (apE ui body),wrtN l n b (apE ui body),wrtB l n b (apE ui body),s⟩⟩:TA)
   else(⟨204,[⟨tY,decS (nv+(body.length:Int))⟩],⟨wrtL (wrtL l n b (apE ui body)) (wrtN l n b (apE ui body)) (wrtB l n b (apE ui body)) ⟨3,ui,(zC f zQ),[]⟩,wrtN (wrtL l n b (apE ui body)) (wrtN l n b (apE ui body)) (wrtB l n b (apE ui body)) ⟨3,ui,(zC f zQ),[]⟩,wrtB (wrtL l n b (apE ui body)) (wrtN l n b (apE ui body)) (wrtB l n b (apE ui body)) ⟨3,ui,(zC f zQ),[]⟩,((wrtB (wrtL l n b (apE ui body)) (wrtN l n b (apE ui body)) (wrtB l n b (apE ui body)) ⟨3,ui,(zC f zQ),[]⟩).length:Int)⟩⟩:TA)
  else(⟨204,[⟨tY,decS (nv+(body.length:Int))⟩],⟨wrtL l n b (apE ui body),wrtN l n b (apE ui body),wrtB l n b (apE ui body),((wrtB l n b (apE ui body)).length:Int)⟩⟩:TA)))=⟨st,fs,⟨l',n',b',s'⟩⟩→Ok Tryz.prog X (fun o h=>o=AOut.pan (C.ifc 73 true [P.int IntKind.i64 st,P.list U.fld fs,P.list U.byte []])∧h=[HO.obj 78 [C.ptr 1 0,C.p (P.str m),C.p (P.str t),C.p (P.int IntKind.i64 mi),C.p (P.list U.fld f),C.p (P.int IntKind.i64 le)],HO.pack [HO.obj 48 [C.ptr 1 0,C.ptr 2 0],HO.pack [HO.obj 90 [C.row 1,C.p (P.int IntKind.i64 n')],HO.row U.upl 67 l'],HO.pack [HO.obj 104 [C.row 1,C.p (P.int IntKind.i64 s')],HO.row U.byte 5 b']]]) (go I tab { cfgT with seam:=[5,10,17],keep:=some [0,1,2,4,6,8,9,10,11]} [xP,xO,yK,yJ,yB,yA,zX,zW,xk,xh,zK,zJ,zU,zT,yS,yR,yQ,yP,wC,wB,xA,xw] [⟨xX Tryz.f56,finK I tab { cfgT with seam:=[5,10,17],keep:=some [0,1,2,4,6,8,9,10,11]} 2 Tryz.f56⟩] 0 [1,1,1,1,1,1,0] ⟨[(0,.v (.one (.ptr 0 0))),(1,.v (.agg [.p (.int .i64 ui),.p (.int .i64 uz),.p (.str uo),.p (.list .byte ub),.p (.int .i64 us)])),(2,.v (.one (.p (.list .byte body)))),(4,.v (.one (.ptr 2 0))),(10,.v (.one (.p (.int .i64 nv))))],[.obj 78 [.ptr 1 0,.p (.str m),.p (.str t),.p (.int .i64 mi),.p (.list .fld f),.p (.int .i64 le)],.pack [.obj 48 [.ptr 1 0,.ptr 2 0],.pack [.obj 90 [.row 1,.p (.int .i64 n)],.row .upl 67 l],.pack [.obj 104 [.row 1,.p (.int .i64 s)],.row .byte 5 b]],.pack [.obj 67 [.p (.int .i64 ui),.p (.int .i64 uz),.p (.str uo),.p (.list .byte ub),.p (.int .i64 us)]]],131,none⟩):=by
  intro nv hnv hr
  refine orcL ?_;go_invoke;refine orcS (by kernel_rfl) ?_
  simp only [zl,Nat.reduceAdd];clear hcm hol hs2 hnn hbb;subst hI;unfold zQ at *;simp only [nrmA,nrmB,nrlB,reduceCtorEq,HO.pack.injEq,HO.obj.injEq];generalize zC f [117,112,108,111,97,100,45,108,101,110,103,116,104]=sz at *
  by_cases hd1:qA f [117,112,108,111,97,100,45,108,101,110,103,116,104]=false
  · rw [if_pos hd1] at hr
    simp only [TA.mk.injEq,Sto.mk.injEq] at hr;obtain⟨q1,q2,q3,q4,q5,q6⟩:=hr;subst q1 q2 q3 q4 q5 q6;simp only [nrmA,nrmB,nrlB,reduceCtorEq,HO.pack.injEq,HO.obj.injEq,decide_true,decide_false,je,jd,forall_const,false_implies,true_implies,jf,jg,hd1]
    (repeat' (first|refine ja ?_ ?_|intro _))<;>first|omega|exact jb|exact jc ‹False›|skip
    all_goals first
     |with_reducible rfl
     |with_reducible assumption
     |omega
     |exact hs
     |exact hf.1
     |(exact(hf.2 _ ‹_›).1)
     |(exact(hf.2 _ ‹_›).2)
     |exact⟨hf,by decide⟩
     |exact⟨⟨hf,by decide⟩,by assumption⟩
     |(simp only [jh,ji];omega)
     |(exfalso;simp_all;done)
  rw [if_neg hd1] at hr
  try simp only [Bool.not_eq_false] at hd1
  simp only [nrmA,nrmB,nrlB,reduceCtorEq,HO.pack.injEq,HO.obj.injEq,decide_true,decide_false,je,jd,forall_const,false_implies,true_implies,jf,jg,hd1]
  by_cases hd2:0≤sz∧0≤uz∧sz≠uz
  · rw [if_pos hd2] at hr
    simp only [TA.mk.injEq,Sto.mk.injEq] at hr;obtain⟨q1,q2,q3,q4,q5,q6⟩:=hr;subst q1 q2 q3 q4 q5 q6
    (repeat' (first|refine ja ?_ ?_|intro _))<;>first|omega|exact jb|exact jc ‹False›|skip
    all_goals first
     |with_reducible rfl
     |with_reducible assumption
     |omega
     |exact hs
     |exact hf.1
     |(exact(hf.2 _ ‹_›).1)
     |(exact(hf.2 _ ‹_›).2)
     |exact⟨hf,by decide⟩
     |exact⟨⟨hf,by decide⟩,by assumption⟩
     |(simp only [jh,ji];omega)
     |(exfalso;simp_all;done)
  rw [if_neg hd2] at hr
  by_cases hd3:0≤sz∧uz<0∧(2000<sz∨sz<nv+(body.length:Int))
  · rw [if_pos hd3] at hr
    simp only [TA.mk.injEq,Sto.mk.injEq] at hr;obtain⟨q1,q2,q3,q4,q5,q6⟩:=hr;subst q1 q2 q3 q4 q5 q6
    (repeat' (first|refine ja ?_ ?_|intro _))<;>first|omega|exact jb|exact jc ‹False›|skip
    all_goals first
     |with_reducible rfl
     |with_reducible assumption
     |omega
     |exact hs
     |exact hf.1
     |(exact(hf.2 _ ‹_›).1)
     |(exact(hf.2 _ ‹_›).2)
     |exact⟨hf,by decide⟩
     |exact⟨⟨hf,by decide⟩,by assumption⟩
     |(simp only [jh,ji];omega)
     |(exfalso;simp_all;done)
  rw [if_neg hd3] at hr
  by_cases hd4:WJ b ((body.length:Int)+60)=false
  · rw [if_pos hd4] at hr
    simp only [TA.mk.injEq,Sto.mk.injEq] at hr;obtain⟨q1,q2,q3,q4,q5,q6⟩:=hr;subst q1 q2 q3 q4 q5 q6;simp only [nrmA,nrmB,nrlB,reduceCtorEq,HO.pack.injEq,HO.obj.injEq,decide_true,decide_false,je,jd,forall_const,false_implies,true_implies,jf,jg,hd4]
    (repeat' (first|refine ja ?_ ?_|intro _))<;>first|omega|exact jb|exact jc ‹False›|skip
    all_goals first
     |with_reducible rfl
     |with_reducible assumption
     |omega
     |exact hs
     |exact hf.1
     |(exact(hf.2 _ ‹_›).1)
     |(exact(hf.2 _ ‹_›).2)
     |exact⟨hf,by decide⟩
     |exact⟨⟨hf,by decide⟩,by assumption⟩
     |(simp only [jh,ji];omega)
     |(exfalso;simp_all;done)
  rw [if_neg hd4] at hr
  try simp only [Bool.not_eq_false] at hd4
  simp only [nrmA,nrmB,nrlB,reduceCtorEq,HO.pack.injEq,HO.obj.injEq,decide_true,decide_false,je,jd,forall_const,false_implies,true_implies,jf,jg,hd4]
  (repeat' (first|refine ja ?_ ?_|intro _))<;>first|omega|exact jb|exact jc ‹False›|skip
  all_goals first
   |(with_reducible show Ok _ _ _ _;(try(exfalso;omega));exact seam rfl wI mixed [xP,xO,yK,yJ,yB,yA,zX,zW,xk,xh,zK,zJ,zU,zT,yS,yR,yQ,yP,wC,wB,xA,xw] hX [0,1,2,4,10,11] ⟨[(0,.v (.one (.ptr 0 0))),(1,.v (.agg [.p (.int .i64 ui),.p (.int .i64 uz),.p (.str uo),.p (.list .byte ub),.p (.int .i64 us)])),(2,.v (.one (.p (.list .byte body)))),(4,.v (.one (.ptr 2 0))),(10,.v (.one (.p (.int .i64 nv)))),(11,.v (.one (.p (.int .i64 sz))))],[.obj 78 [.ptr 1 0,.p (.str m),.p (.str t),.p (.int .i64 mi),.p (.list .fld f),.p (.int .i64 le)],.pack [.obj 48 [.ptr 1 0,.ptr 2 0],.pack [.obj 90 [.row 1,.p (.int .i64 n)],.row .upl 67 l],.pack [.obj 104 [.row 1,.p (.int .i64 s)],.row .byte 5 b]],.pack [.obj 67 [.p (.int .i64 ui),.p (.int .i64 uz),.p (.str uo),.p (.list .byte ub),.p (.int .i64 us)]]],131,none⟩ (by kernel_rfl) (key17 nv sz hnv hr))
   |with_reducible rfl
   |with_reducible assumption
   |omega
   |exact hs
   |exact hf.1
   |(exact(hf.2 _ ‹_›).1)
   |(exact(hf.2 _ ‹_›).2)
   |exact⟨hf,by decide⟩
   |exact⟨⟨hf,by decide⟩,by assumption⟩
   |(simp only [jh,ji];omega)
   |(exfalso;simp_all;done)
 have key5: ∀ (_u:Unit),(if qA f yg=false then(⟨400,[],⟨l,n,b,s⟩⟩:TA)
  else if zC f yg<0 then(⟨400,[],⟨l,n,b,s⟩⟩:TA)
  else if zC f yg≠(ub.length:Int) then(⟨409,[],⟨l,n,b,s⟩⟩:TA)
  else(if qA f zQ=false then(⟨400,[],⟨l,n,b,s⟩⟩:TA)
  else if 0≤zC f zQ∧0≤uz∧zC f zQ≠uz then(⟨400,[],⟨l,n,b,s⟩⟩:TA)
  else if 0≤zC f zQ∧uz<0∧(2000<zC f zQ∨zC f zQ<(zC f yg)+(body.length:Int)) then(⟨413,[],⟨l,n,b,s⟩⟩:TA)
  else if WJ b ((body.length:Int)+60)=false then(⟨507,[],⟨l,n,b,s⟩⟩:TA)
  else(if(if apG l ui (zC f yg) then 17 else wrtC l n b (apE ui body))≠0 then(⟨Zp (if apG l ui (zC f yg) then 17 else wrtC l n b (apE ui body)),[],⟨l,n,b,s⟩⟩:TA)
  else if 0≤(zC f zQ)∧uz<0 then
   if wrtC (wrtL l n b (apE ui body)) (wrtN l n b (apE ui body)) (wrtB l n b (apE ui body)) ⟨3,ui,(zC f zQ),[]⟩≠0 then(⟨Zp (wrtC (wrtL l n b (apE ui body)) (wrtN l n b (apE ui body)) (wrtB l n b (apE ui body)) ⟨3,ui,(zC f zQ),[]⟩),[],⟨wrtL l n b (apE ui body),wrtN l n b (apE ui body),wrtB l n b (apE ui body),s⟩⟩:TA)
   else(⟨204,[⟨tY,decS ((zC f yg)+(body.length:Int))⟩],⟨wrtL (wrtL l n b (apE ui body)) (wrtN l n b (apE ui body)) (wrtB l n b (apE ui body)) ⟨3,ui,(zC f zQ),[]⟩,wrtN (wrtL l n b (apE ui body)) (wrtN l n b (apE ui body)) (wrtB l n b (apE ui body)) ⟨3,ui,(zC f zQ),[]⟩,wrtB (wrtL l n b (apE ui body)) (wrtN l n b (apE ui body)) (wrtB l n b (apE ui body)) ⟨3,ui,(zC f zQ),[]⟩,((wrtB (wrtL l n b (apE ui body)) (wrtN l n b (apE ui body)) (wrtB l n b (apE ui body)) ⟨3,ui,(zC f zQ),[]⟩).length:Int)⟩⟩:TA)
  else(⟨204,[⟨tY,decS ((zC f yg)+(body.length:Int))⟩],⟨wrtL l n b (apE ui body),wrtN l n b (apE ui body),wrtB l n b (apE ui body),((wrtB l n b (apE ui body)).length:Int)⟩⟩:TA))))=⟨st,fs,⟨l',n',b',s'⟩⟩→Ok Tryz.prog X (fun o h=>o=AOut.pan (C.ifc 73 true [P.int IntKind.i64 st,P.list U.fld fs,P.list U.byte []])∧h=[HO.obj 78 [C.ptr 1 0,C.p (P.str m),C.p (P.str t),C.p (P.int IntKind.i64 mi),C.p (P.list U.fld f),C.p (P.int IntKind.i64 le)],HO.pack [HO.obj 48 [C.ptr 1 0,C.ptr 2 0],HO.pack [HO.obj 90 [C.row 1,C.p (P.int IntKind.i64 n')],HO.row U.upl 67 l'],HO.pack [HO.obj 104 [C.row 1,C.p (P.int IntKind.i64 s')],HO.row U.byte 5 b']]]) (go I tab { cfgT with seam:=[5,10,17],keep:=some [0,1,2,4,6,8,9,10,11]} [xP,xO,yK,yJ,yB,yA,zX,zW,xk,xh,zK,zJ,zU,zT,yS,yR,yQ,yP,wC,wB,xA,xw] [⟨xX Tryz.f56,finK I tab { cfgT with seam:=[5,10,17],keep:=some [0,1,2,4,6,8,9,10,11]} 2 Tryz.f56⟩] 0 [1,1,1,1,0] ⟨[(0,.v (.one (.ptr 0 0))),(1,.v (.agg [.p (.int .i64 ui),.p (.int .i64 uz),.p (.str uo),.p (.list .byte ub),.p (.int .i64 us)])),(2,.v (.one (.p (.list .byte body)))),(4,.v (.one (.ptr 2 0)))],[.obj 78 [.ptr 1 0,.p (.str m),.p (.str t),.p (.int .i64 mi),.p (.list .fld f),.p (.int .i64 le)],.pack [.obj 48 [.ptr 1 0,.ptr 2 0],.pack [.obj 90 [.row 1,.p (.int .i64 n)],.row .upl 67 l],.pack [.obj 104 [.row 1,.p (.int .i64 s)],.row .byte 5 b]],.pack [.obj 67 [.p (.int .i64 ui),.p (.int .i64 uz),.p (.str uo),.p (.list .byte ub),.p (.int .i64 us)]]],131,none⟩):=by
  intro _ hr
  refine orcL ?_;go_invoke;refine orcS (by kernel_rfl) ?_
  simp only [zl,Nat.reduceAdd];clear hcm hol hs2 hnn hbb key17;subst hI;unfold yg at *;simp only [nrmA,nrmB,nrlB,reduceCtorEq,HO.pack.injEq,HO.obj.injEq];generalize zC f [117,112,108,111,97,100,45,111,102,102,115,101,116]=nv at *
  by_cases hd5:qA f [117,112,108,111,97,100,45,111,102,102,115,101,116]=false
  · rw [if_pos hd5] at hr
    simp only [TA.mk.injEq,Sto.mk.injEq] at hr;obtain⟨q1,q2,q3,q4,q5,q6⟩:=hr;subst q1 q2 q3 q4 q5 q6;simp only [nrmA,nrmB,nrlB,reduceCtorEq,HO.pack.injEq,HO.obj.injEq,decide_true,decide_false,je,jd,forall_const,false_implies,true_implies,jf,jg,hd5]
    (repeat' (first|refine ja ?_ ?_|intro _))<;>first|omega|exact jb|exact jc ‹False›|skip
    all_goals first
     |with_reducible rfl
     |with_reducible assumption
     |omega
     |exact hs
     |exact hf.1
     |(exact(hf.2 _ ‹_›).1)
     |(exact(hf.2 _ ‹_›).2)
     |exact⟨hf,by decide⟩
     |exact⟨⟨hf,by decide⟩,by assumption⟩
     |(simp only [jh,ji];omega)
     |(exfalso;simp_all;done)
  rw [if_neg hd5] at hr
  try simp only [Bool.not_eq_false] at hd5
  simp only [nrmA,nrmB,nrlB,reduceCtorEq,HO.pack.injEq,HO.obj.injEq,decide_true,decide_false,je,jd,forall_const,false_implies,true_implies,jf,jg,hd5]
  by_cases hd6:nv<0
  · rw [if_pos hd6] at hr
    simp only [TA.mk.injEq,Sto.mk.injEq] at hr;obtain⟨q1,q2,q3,q4,q5,q6⟩:=hr;subst q1 q2 q3 q4 q5 q6
    (repeat' (first|refine ja ?_ ?_|intro _))<;>first|omega|exact jb|exact jc ‹False›|skip
    all_goals first
     |with_reducible rfl
     |with_reducible assumption
     |omega
     |exact hs
     |exact hf.1
     |(exact(hf.2 _ ‹_›).1)
     |(exact(hf.2 _ ‹_›).2)
     |exact⟨hf,by decide⟩
     |exact⟨⟨hf,by decide⟩,by assumption⟩
     |(simp only [jh,ji];omega)
     |(exfalso;simp_all;done)
  rw [if_neg hd6] at hr
  by_cases hd7:nv≠(ub.length:Int)
  · rw [if_pos hd7] at hr
    simp only [TA.mk.injEq,Sto.mk.injEq] at hr;obtain⟨q1,q2,q3,q4,q5,q6⟩:=hr;subst q1 q2 q3 q4 q5 q6
    (repeat' (first|refine ja ?_ ?_|intro _))<;>first|omega|exact jb|exact jc ‹False›|skip
    all_goals first
     |with_reducible rfl
     |with_reducible assumption
     |omega
     |exact hs
     |exact hf.1
     |(exact(hf.2 _ ‹_›).1)
     |(exact(hf.2 _ ‹_›).2)
     |exact⟨hf,by decide⟩
     |exact⟨⟨hf,by decide⟩,by assumption⟩
     |(simp only [jh,ji];omega)
     |(exfalso;simp_all;done)
  rw [if_neg hd7] at hr
  (repeat' (first|refine ja ?_ ?_|intro _))<;>first|omega|exact jb|exact jc ‹False›|skip
  all_goals first
   |(with_reducible show Ok _ _ _ _;(try(exfalso;omega));exact seam rfl wI mixed [xP,xO,yK,yJ,yB,yA,zX,zW,xk,xh,zK,zJ,zU,zT,yS,yR,yQ,yP,wC,wB,xA,xw] hX [0,1,2,4,10] ⟨[(0,.v (.one (.ptr 0 0))),(1,.v (.agg [.p (.int .i64 ui),.p (.int .i64 uz),.p (.str uo),.p (.list .byte ub),.p (.int .i64 us)])),(2,.v (.one (.p (.list .byte body)))),(4,.v (.one (.ptr 2 0))),(10,.v (.one (.p (.int .i64 nv))))],[.obj 78 [.ptr 1 0,.p (.str m),.p (.str t),.p (.int .i64 mi),.p (.list .fld f),.p (.int .i64 le)],.pack [.obj 48 [.ptr 1 0,.ptr 2 0],.pack [.obj 90 [.row 1,.p (.int .i64 n)],.row .upl 67 l],.pack [.obj 104 [.row 1,.p (.int .i64 s)],.row .byte 5 b]],.pack [.obj 67 [.p (.int .i64 ui),.p (.int .i64 uz),.p (.str uo),.p (.list .byte ub),.p (.int .i64 us)]]],131,none⟩ (by kernel_rfl) (key10 nv (by omega) hr))
   |with_reducible rfl
   |with_reducible assumption
   |omega
   |exact hs
   |exact hf.1
   |(exact(hf.2 _ ‹_›).1)
   |(exact(hf.2 _ ‹_›).2)
   |exact⟨hf,by decide⟩
   |exact⟨⟨hf,by decide⟩,by assumption⟩
   |(simp only [jh,ji];omega)
   |(exfalso;simp_all;done)
 clear hs2 hnn hbb key17 key10;subst hI;rw [show([99,111,110,116,101,110,116,45,116,121,112,101]:Str)=zah from rfl];rw [show([97,112,112,108,105,99,97,116,105,111,110,47,111,102,102,115,101,116,43,111,99,116,101,116,45,115,116,114,101,97,109]:Str)=octS from rfl];simp only [nrmA,nrmB,nrlB,reduceCtorEq,HO.pack.injEq,HO.obj.injEq]
 have hcl:zah.length≤1000000:=by decide
 generalize oneT f zah=oc at *;obtain⟨ov,oc⟩:=oc
 try simp only at *
 generalize YH ov=pm at *;obtain⟨⟨pw,pp⟩,pc⟩:=pm
 try simp only at *
 by_cases hd8:oc=9
 · rw [if_pos hd8] at hr
   simp only [TA.mk.injEq,Sto.mk.injEq] at hr;obtain⟨q1,q2,q3,q4,q5,q6⟩:=hr;subst q1 q2 q3 q4 q5 q6;simp only [nrmA,nrmB,nrlB,reduceCtorEq,HO.pack.injEq,HO.obj.injEq,decide_true,decide_false,je,jd,forall_const,false_implies,true_implies,jf,jg,hd8]
   (repeat' (first|refine ja ?_ ?_|intro _))<;>first|omega|exact jb|exact jc ‹False›|skip
   all_goals first
    |with_reducible rfl
    |with_reducible assumption
    |omega
    |exact hs
    |exact hf.1
    |(exact(hf.2 _ ‹_›).1)
    |(exact(hf.2 _ ‹_›).2)
    |exact⟨hf,by decide⟩
    |exact⟨⟨hf,by decide⟩,by assumption⟩
    |(simp only [jh,ji];omega)
    |(exfalso;simp_all;done)
 rw [if_neg hd8] at hr
 try simp only [Bool.not_eq_false] at hd8
 simp only [nrmA,nrmB,nrlB,reduceCtorEq,HO.pack.injEq,HO.obj.injEq,decide_true,decide_false,je,jd,forall_const,false_implies,true_implies,jf,jg,hd8]
 by_cases hd9:pc≠0∨pw≠octS
 · rw [if_pos hd9] at hr
   simp only [TA.mk.injEq,Sto.mk.injEq] at hr;obtain⟨q1,q2,q3,q4,q5,q6⟩:=hr;subst q1 q2 q3 q4 q5 q6
   (repeat' (first|refine ja ?_ ?_|intro _))<;>first|omega|exact jb|exact jc ‹False›|skip
   all_goals first
    |with_reducible rfl
    |with_reducible assumption
    |omega
    |exact hs
    |exact hf.1
    |(exact(hf.2 _ ‹_›).1)
    |(exact(hf.2 _ ‹_›).2)
    |exact⟨hf,by decide⟩
    |exact⟨⟨hf,by decide⟩,by assumption⟩
    |(simp only [jh,ji];omega)
    |(exfalso;simp_all;done)
 rw [if_neg hd9] at hr;simp only [not_or,ne_eq,Decidable.not_not] at hd9;obtain⟨g1,g2⟩:=hd9;clear hcm;subst g1 g2;simp only [nrmA,nrmB,nrlB,reduceCtorEq,HO.pack.injEq,HO.obj.injEq,jf,false_implies,true_and,and_true]
 (repeat' (first|refine ja ?_ ?_|intro _))<;>first|omega|exact jb|exact jc ‹False›|skip
 all_goals first
  |(with_reducible show Ok _ _ _ _;(try(exfalso;omega));exact seam rfl wI mixed [xP,xO,yK,yJ,yB,yA,zX,zW,xk,xh,zK,zJ,zU,zT,yS,yR,yQ,yP,wC,wB,xA,xw] hX [0,1,2,4] ⟨[(0,.v (.one (.ptr 0 0))),(1,.v (.agg [.p (.int .i64 ui),.p (.int .i64 uz),.p (.str uo),.p (.list .byte ub),.p (.int .i64 us)])),(2,.v (.one (.p (.list .byte body)))),(4,.v (.one (.ptr 2 0)))],[.obj 78 [.ptr 1 0,.p (.str m),.p (.str t),.p (.int .i64 mi),.p (.list .fld f),.p (.int .i64 le)],.pack [.obj 48 [.ptr 1 0,.ptr 2 0],.pack [.obj 90 [.row 1,.p (.int .i64 n)],.row .upl 67 l],.pack [.obj 104 [.row 1,.p (.int .i64 s)],.row .byte 5 b]],.pack [.obj 67 [.p (.int .i64 ui),.p (.int .i64 uz),.p (.str uo),.p (.list .byte ub),.p (.int .i64 us)]]],131,none⟩ (by kernel_rfl) (key5 () hr))
  |with_reducible rfl
  |with_reducible assumption
  |omega
  |exact hs
  |exact hf.1
  |(exact(hf.2 _ ‹_›).1)
  |(exact(hf.2 _ ‹_›).2)
  |exact⟨hf,by decide⟩
  |exact⟨⟨hf,by decide⟩,by assumption⟩
  |(simp only [jh,ji];omega)
  |(exfalso;simp_all;done)
  |skip
 exact seam rfl wI mixed [xP,xO,yK,yJ,yB,yA,zX,zW,xk,xh,zK,zJ,zU,zT,yS,yR,yQ,yP,wC,wB,xA,xw] hX [0,1,2,4] ⟨[(0,.v (.one (.ptr 0 0))),(1,.v (.agg [.p (.int .i64 ui),.p (.int .i64 uz),.p (.str uo),.p (.list .byte ub),.p (.int .i64 us)])),(2,.v (.one (.p (.list .byte body)))),(4,.v (.one (.ptr 2 0)))],[.obj 78 [.ptr 1 0,.p (.str m),.p (.str t),.p (.int .i64 mi),.p (.list .fld f),.p (.int .i64 le)],.pack [.obj 48 [.ptr 1 0,.ptr 2 0],.pack [.obj 90 [.row 1,.p (.int .i64 n)],.row .upl 67 l],.pack [.obj 104 [.row 1,.p (.int .i64 s)],.row .byte 5 b]],.pack [.obj 67 [.p (.int .i64 ui),.p (.int .i64 uz),.p (.str uo),.p (.list .byte ub),.p (.int .i64 us)]]],131,none⟩ (by kernel_rfl) (key5 () hr)
def su:Know Tryz.prog:=⟨56,Zi,Rx⟩
def tZ:Know Tryz.prog:=⟨56,fun I=>zu I (Zi I),zf Rx⟩
end Go.Proofs.YtcclfkakcgnacaaGreatDoor
namespace Go.Proofs.YtcclfkakcgnacaaGreatDoor
open Go Go.Sep Go.Ab
set_option maxRecDepth 100000
theorem zec {l:List Upl} {n:Int} (h:zM l n) (id:Int):(getU l id).bytes.length≤2000∧(getU l id).size≤2000:=by
 unfold getU
 split
 · rename_i hi
   rw [y5 hi];have:=h.each _ (List.getElem_mem hi);exact⟨this.bl,this.s2⟩
 · decide
def Zh (I:Alg):KU
 |[.v (.one (.ptr 0 0)),.v (.one (.p (.list .byte body)))],[.obj 78 [.ptr 1 0,.p (.str m),.p (.str t),.p (.int .i64 mi),.p (.list .fld f),.p (.int .i64 le)],.pack [.obj 48 [.ptr 1 0,.ptr 2 0],.pack [.obj 90 [.row 1,.p (.int .i64 n)],.row .upl 67 l],.pack [.obj 104 [.row 1,.p (.int .i64 s)],.row .byte 5 b]]]=>(fun(m t:Str) (f:List Fld) (l:List Upl) (b body:Str)=>(some (.one ⟨I.hid (FOk f∧zM l n∧n≤200000∧b.length≤100000∧body.length≤100000),(.pan (.ifc 73 true [.int .i64 (I.hid ((yu ⟨l,n,b,s⟩ m t f body).st)),.list .fld (I.hid ((yu ⟨l,n,b,s⟩ m t f body).fs)),.list .byte (I.hid ([]))])),[.obj 78 [.ptr 1 0,.p (.str m),.p (.str t),.p (.int .i64 mi),.p (.list .fld f),.p (.int .i64 le)],.pack [.obj 48 [.ptr 1 0,.ptr 2 0],.pack [.obj 90 [.row 1,.p (.int .i64 (I.hid ((yu ⟨l,n,b,s⟩ m t f body).q.n)))],.row .upl 67 (I.hid ((yu ⟨l,n,b,s⟩ m t f body).q.l))],.pack [.obj 104 [.row 1,.p (.int .i64 (I.hid ((yu ⟨l,n,b,s⟩ m t f body).q.s)))],.row .byte 5 (I.hid ((yu ⟨l,n,b,s⟩ m t f body).q.b))]]]⟩):Option CT)) m t f l b body
 |_,_=>none
set_option maxHeartbeats 8000000 in
theorem Rw:zq Tryz.prog 29 (Zh alg):=by
 intro args hp r h;unfold Zh at h;split at h<;>cases h
 rename_i body m t mi f le n l s b
 revert f l;intro(f:List Fld) (l:List Upl)
 simp only [CT.Good,zk];intro hneed;obtain⟨hf,hs,hn,hb,hbl⟩:=hneed;have hn0:=hs.n0;have hus:=zec hs (idV t);generalize hr:yu ⟨l,n,b,s⟩ m t f body=r;obtain⟨st,fs,⟨l',n',b',s'⟩⟩:=r;unfold yu at hr
 try simp only at hr
 refine spH Tryz.func29 (by kernel_rfl) { cfgT with seam:=[3,10],keep:=some [0,1,4,5,7,55]} [vX,vW,zX,zW,zK,zJ,zU,zT,yS,yR,yQ,yP,xA,xw,vV,vU,Wv,Wu,Zg,Zf,su,tZ] (by kernel_rfl) ?_
 intro I X hI hX
 refine orcL ?_;go_invoke;refine orcS (by kernel_rfl) ?_
 simp only [zl,Nat.reduceAdd]
 have key10: ∀ (_u:Unit),(if uplB ⟨l,n,b,s⟩ t=false then(⟨404,[],⟨l,n,b,s⟩⟩:TA)
  else if m=zhF then(⟨200,Y3 (getU l (idV t)),⟨l,n,b,s⟩⟩:TA)
  else if m=zck then y7 ⟨l,n,b,s⟩ (getU l (idV t)) f body
  else if m=zhU then qY ⟨l,n,b,s⟩ (getU l (idV t))
  else(⟨405,[],⟨l,n,b,s⟩⟩:TA))=⟨st,fs,⟨l',n',b',s'⟩⟩→Ok Tryz.prog X (fun o h=>o=AOut.pan (C.ifc 73 true [P.int IntKind.i64 st,P.list U.fld fs,P.list U.byte []])∧h=[HO.obj 78 [C.ptr 1 0,C.p (P.str m),C.p (P.str t),C.p (P.int IntKind.i64 mi),C.p (P.list U.fld f),C.p (P.int IntKind.i64 le)],HO.pack [HO.obj 48 [C.ptr 1 0,C.ptr 2 0],HO.pack [HO.obj 90 [C.row 1,C.p (P.int IntKind.i64 n')],HO.row U.upl 67 l'],HO.pack [HO.obj 104 [C.row 1,C.p (P.int IntKind.i64 s')],HO.row U.byte 5 b']]]) (go I tab { cfgT with seam:=[3,10],keep:=some [0,1,4,5,7,55]} [vX,vW,zX,zW,zK,zJ,zU,zT,yS,yR,yQ,yP,xA,xw,vV,vU,Wv,Wu,Zg,Zf,su,tZ] [⟨xX Tryz.f29,finK I tab { cfgT with seam:=[3,10],keep:=some [0,1,4,5,7,55]} 2 Tryz.f29⟩] 0 [1,1,1,1,0] ⟨[(0,.v (.one (.ptr 0 0))),(1,.v (.one (.p (.list .byte body))))],[.obj 78 [.ptr 1 0,.p (.str m),.p (.str t),.p (.int .i64 mi),.p (.list .fld f),.p (.int .i64 le)],.pack [.obj 48 [.ptr 1 0,.ptr 2 0],.pack [.obj 90 [.row 1,.p (.int .i64 n)],.row .upl 67 l],.pack [.obj 104 [.row 1,.p (.int .i64 s)],.row .byte 5 b]]],84,none⟩):=by
  intro _ hr
  refine orcL ?_;go_invoke;refine orcS (by kernel_rfl) ?_
  simp only [zl,Nat.reduceAdd];subst hI;unfold zhF zck zhU at hr;unfold qY wsC wsS syS at hr
  try simp only at hr
  simp only [nrmA,nrmB,nrlB,reduceCtorEq,HO.pack.injEq,HO.obj.injEq];generalize getU l (idV t)=u at *;obtain⟨ui,uz,uo,ub,us⟩:=u
  try simp only at *
  by_cases hd1:uplB ⟨l,n,b,s⟩ t=false
  · rw [if_pos hd1] at hr
    simp only [TA.mk.injEq,Sto.mk.injEq] at hr;obtain⟨q1,q2,q3,q4,q5,q6⟩:=hr;subst q1 q2 q3 q4 q5 q6
    try simp only [nrmA,nrmB,nrlB,reduceCtorEq,HO.pack.injEq,HO.obj.injEq,decide_true,decide_false,je,jd,forall_const,false_implies,true_implies,jf,jg,hd1]
    (repeat' (first|refine ja ?_ ?_|intro _))<;>first|omega|exact jb|exact jc ‹False›|skip
    all_goals first
     |with_reducible rfl
     |with_reducible assumption
     |omega
     |exact hs
     |exact hf.1
     |(exact(hf.2 _ ‹_›).1)
     |(exact(hf.2 _ ‹_›).2)
     |exact⟨hf,by decide⟩
     |exact⟨⟨hf,by decide⟩,by assumption⟩
     |(simp only [jh,ji];omega)
     |(exfalso;simp_all;done)
  rw [if_neg hd1] at hr
  try simp only [Bool.not_eq_false,ne_eq,Decidable.not_not] at hd1
  try simp only [nrmA,nrmB,nrlB,reduceCtorEq,HO.pack.injEq,HO.obj.injEq,decide_true,decide_false,je,jd,forall_const,false_implies,true_implies,jf,jg,hd1]
  by_cases hd2:m=[72,69,65,68]
  · rw [if_pos hd2] at hr
    simp only [TA.mk.injEq,Sto.mk.injEq] at hr;obtain⟨q1,q2,q3,q4,q5,q6⟩:=hr;subst q1 q2 q3 q4 q5 q6
    try simp only [nrmA,nrmB,nrlB,reduceCtorEq,HO.pack.injEq,HO.obj.injEq,decide_true,decide_false,je,jd,forall_const,false_implies,true_implies,jf,jg,hd2]
    (repeat' (first|refine ja ?_ ?_|intro _))<;>first|omega|exact jb|exact jc ‹False›|skip
    all_goals first
     |with_reducible rfl
     |with_reducible assumption
     |omega
     |exact hs
     |exact hf.1
     |(exact(hf.2 _ ‹_›).1)
     |(exact(hf.2 _ ‹_›).2)
     |exact⟨hf,by decide⟩
     |exact⟨⟨hf,by decide⟩,by assumption⟩
     |(simp only [jh,ji];omega)
     |(exfalso;simp_all;done)
  rw [if_neg hd2] at hr
  try simp only [Bool.not_eq_false,ne_eq,Decidable.not_not] at hd2
  try simp only [nrmA,nrmB,nrlB,reduceCtorEq,HO.pack.injEq,HO.obj.injEq,decide_true,decide_false,je,jd,forall_const,false_implies,true_implies,jf,jg,hd2]
  by_cases hd3:m=[80,65,84,67,72]
  · rw [if_pos hd3] at hr
    simp only [nrmA,nrmB,nrlB,reduceCtorEq,HO.pack.injEq,HO.obj.injEq,decide_true,decide_false,je,jd,forall_const,false_implies,true_implies,jf,jg,hd3,hr]
    (repeat' (first|refine ja ?_ ?_|intro _))<;>first|omega|exact jb|exact jc ‹False›|skip
    all_goals first
     |with_reducible rfl
     |with_reducible assumption
     |omega
     |exact hs
     |exact hf.1
     |(exact(hf.2 _ ‹_›).1)
     |(exact(hf.2 _ ‹_›).2)
     |exact⟨hf,by decide⟩
     |exact⟨⟨hf,by decide⟩,by assumption⟩
     |(simp only [jh,ji];omega)
     |(exfalso;simp_all;done)
  rw [if_neg hd3] at hr
  try simp only [Bool.not_eq_false,ne_eq,Decidable.not_not] at hd3
  try simp only [nrmA,nrmB,nrlB,reduceCtorEq,HO.pack.injEq,HO.obj.injEq,decide_true,decide_false,je,jd,forall_const,false_implies,true_implies,jf,jg,hd3]
  by_cases hd:m=[68,69,76,69,84,69]
  · rw [if_pos hd] at hr
    by_cases h1:wrtC l n b ⟨4,ui,0,[]⟩=0
    · rw [if_neg (fun h=>h h1)] at hr
      simp only [TA.mk.injEq,Sto.mk.injEq] at hr;obtain⟨q1,q2,q3,q4,q5,q6⟩:=hr;subst q1 q2 q3 q4 q5 q6;simp only [nrmA,nrmB,nrlB,reduceCtorEq,HO.pack.injEq,HO.obj.injEq,decide_true,decide_false,je,jd,forall_const,false_implies,true_implies,jf,jg,hd,h1]
      (repeat' (first|refine ja ?_ ?_|intro _))<;>first|omega|exact jb|exact jc ‹False›|skip
      all_goals first
       |with_reducible rfl
       |with_reducible assumption
       |omega
       |exact hs
       |exact hf.1
       |(exact(hf.2 _ ‹_›).1)
       |(exact(hf.2 _ ‹_›).2)
       |exact⟨hf,by decide⟩
       |exact⟨⟨hf,by decide⟩,by assumption⟩
       |(simp only [jh,ji];omega)
       |(exfalso;simp_all;done)
    · rw [if_pos h1] at hr
      simp only [TA.mk.injEq,Sto.mk.injEq] at hr;obtain⟨q1,q2,q3,q4,q5,q6⟩:=hr;subst q1 q2 q3 q4 q5 q6
      have e1:wrtL l n b ⟨4,ui,0,[]⟩=l:=by simp only [wrtL,if_neg h1]
      have e2:wrtN l n b ⟨4,ui,0,[]⟩=n:=by simp only [wrtN,if_neg h1]
      have e3:wrtB l n b ⟨4,ui,0,[]⟩=b:=by simp only [wrtB,if_neg h1]
      try rw [e1,e2,e3]
      simp only [nrmA,nrmB,nrlB,reduceCtorEq,HO.pack.injEq,HO.obj.injEq,decide_true,decide_false,je,jd,forall_const,false_implies,true_implies,jf,jg,hd,h1]
      (repeat' (first|refine ja ?_ ?_|intro _))<;>first|omega|exact jb|exact jc ‹False›|skip
      all_goals first
       |with_reducible rfl
       |with_reducible assumption
       |omega
       |exact hs
       |exact hf.1
       |(exact(hf.2 _ ‹_›).1)
       |(exact(hf.2 _ ‹_›).2)
       |exact⟨hf,by decide⟩
       |exact⟨⟨hf,by decide⟩,by assumption⟩
       |(simp only [jh,ji];omega)
       |(exfalso;simp_all;done)
  · rw [if_neg hd] at hr
    simp only [TA.mk.injEq,Sto.mk.injEq] at hr;obtain⟨q1,q2,q3,q4,q5,q6⟩:=hr;subst q1 q2 q3 q4 q5 q6;simp only [nrmA,nrmB,nrlB,reduceCtorEq,HO.pack.injEq,HO.obj.injEq,decide_true,decide_false,je,jd,forall_const,false_implies,true_implies,jf,jg,hd]
    (repeat' (first|refine ja ?_ ?_|intro _))<;>first|omega|exact jb|exact jc ‹False›|skip
    all_goals first
     |with_reducible rfl
     |with_reducible assumption
     |omega
     |exact hs
     |exact hf.1
     |(exact(hf.2 _ ‹_›).1)
     |(exact(hf.2 _ ‹_›).2)
     |exact⟨hf,by decide⟩
     |exact⟨⟨hf,by decide⟩,by assumption⟩
     |(simp only [jh,ji];omega)
     |(exfalso;simp_all;done)
 have key3: ∀ (q:Bool),q=decide (t=uj)→(if(oneT f zaD).2=9 then(⟨400,[],⟨l,n,b,s⟩⟩:TA)
  else if(oneT f zaD).1≠verS then(⟨412,[⟨zeB,verS⟩],⟨l,n,b,s⟩⟩:TA)
  else if t=uj then(if m≠ziY then(⟨405,[],⟨l,n,b,s⟩⟩:TA) else yF ⟨l,n,b,s⟩ f)
  else(if uplB ⟨l,n,b,s⟩ t=false then(⟨404,[],⟨l,n,b,s⟩⟩:TA)
  else if m=zhF then(⟨200,Y3 (getU l (idV t)),⟨l,n,b,s⟩⟩:TA)
  else if m=zck then y7 ⟨l,n,b,s⟩ (getU l (idV t)) f body
  else if m=zhU then qY ⟨l,n,b,s⟩ (getU l (idV t))
  else(⟨405,[],⟨l,n,b,s⟩⟩:TA)))=⟨st,fs,⟨l',n',b',s'⟩⟩→Ok Tryz.prog X (fun o h=>o=AOut.pan (C.ifc 73 true [P.int IntKind.i64 st,P.list U.fld fs,P.list U.byte []])∧h=[HO.obj 78 [C.ptr 1 0,C.p (P.str m),C.p (P.str t),C.p (P.int IntKind.i64 mi),C.p (P.list U.fld f),C.p (P.int IntKind.i64 le)],HO.pack [HO.obj 48 [C.ptr 1 0,C.ptr 2 0],HO.pack [HO.obj 90 [C.row 1,C.p (P.int IntKind.i64 n')],HO.row U.upl 67 l'],HO.pack [HO.obj 104 [C.row 1,C.p (P.int IntKind.i64 s')],HO.row U.byte 5 b']]]) (go I tab { cfgT with seam:=[3,10],keep:=some [0,1,4,5,7,55]} [vX,vW,zX,zW,zK,zJ,zU,zT,yS,yR,yQ,yP,xA,xw,vV,vU,Wv,Wu,Zg,Zf,su,tZ] [⟨xX Tryz.f29,finK I tab { cfgT with seam:=[3,10],keep:=some [0,1,4,5,7,55]} 2 Tryz.f29⟩] 0 [1,1,0,0] ⟨[(0,.v (.one (.ptr 0 0))),(1,.v (.one (.p (.list .byte body)))),(4,.v (.one (.p (.bool q))))],[.obj 78 [.ptr 1 0,.p (.str m),.p (.str t),.p (.int .i64 mi),.p (.list .fld f),.p (.int .i64 le)],.pack [.obj 48 [.ptr 1 0,.ptr 2 0],.pack [.obj 90 [.row 1,.p (.int .i64 n)],.row .upl 67 l],.pack [.obj 104 [.row 1,.p (.int .i64 s)],.row .byte 5 b]]],84,none⟩):=by
  intro q hq hr
  refine orcL ?_;go_invoke;refine orcS (by kernel_rfl) ?_
  simp only [zl,Nat.reduceAdd];subst hI;rw [show([116,117,115,45,114,101,115,117,109,97,98,108,101]:Str)=zaD from rfl];unfold verS ziY at hr;unfold zeB at hr
  have htl:zaD.length≤1000000:=by decide
  simp only [nrmA,nrmB,nrlB,reduceCtorEq,HO.pack.injEq,HO.obj.injEq];generalize oneT f zaD=oc at *;obtain⟨ov,oc⟩:=oc
  try simp only at *
  by_cases hd4:oc=9
  · rw [if_pos hd4] at hr
    simp only [TA.mk.injEq,Sto.mk.injEq] at hr;obtain⟨q1,q2,q3,q4,q5,q6⟩:=hr;subst q1 q2 q3 q4 q5 q6
    try simp only [nrmA,nrmB,nrlB,reduceCtorEq,HO.pack.injEq,HO.obj.injEq,decide_true,decide_false,je,jd,forall_const,false_implies,true_implies,jf,jg,hd4]
    (repeat' (first|refine ja ?_ ?_|intro _))<;>first|omega|exact jb|exact jc ‹False›|skip
    all_goals first
     |with_reducible rfl
     |with_reducible assumption
     |omega
     |exact hs
     |exact hf.1
     |(exact(hf.2 _ ‹_›).1)
     |(exact(hf.2 _ ‹_›).2)
     |exact⟨hf,by decide⟩
     |exact⟨⟨hf,by decide⟩,by assumption⟩
     |(simp only [jh,ji];omega)
     |(exfalso;simp_all;done)
  rw [if_neg hd4] at hr
  try simp only [Bool.not_eq_false,ne_eq,Decidable.not_not] at hd4
  try simp only [nrmA,nrmB,nrlB,reduceCtorEq,HO.pack.injEq,HO.obj.injEq,decide_true,decide_false,je,jd,forall_const,false_implies,true_implies,jf,jg,hd4]
  by_cases hd5:ov≠[49,46,48,46,48]
  · rw [if_pos hd5] at hr
    simp only [TA.mk.injEq,Sto.mk.injEq] at hr;obtain⟨q1,q2,q3,q4,q5,q6⟩:=hr;subst q1 q2 q3 q4 q5 q6
    try simp only [nrmA,nrmB,nrlB,reduceCtorEq,HO.pack.injEq,HO.obj.injEq,decide_true,decide_false,je,jd,forall_const,false_implies,true_implies,jf,jg,hd5]
    (repeat' (first|refine ja ?_ ?_|intro _))<;>first|omega|exact jb|exact jc ‹False›|skip
    all_goals first
     |with_reducible rfl
     |with_reducible assumption
     |omega
     |exact hs
     |exact hf.1
     |(exact(hf.2 _ ‹_›).1)
     |(exact(hf.2 _ ‹_›).2)
     |exact⟨hf,by decide⟩
     |exact⟨⟨hf,by decide⟩,by assumption⟩
     |(simp only [jh,ji];omega)
     |(exfalso;simp_all;done)
  rw [if_neg hd5] at hr
  try simp only [Bool.not_eq_false,ne_eq,Decidable.not_not] at hd5
  try simp only [nrmA,nrmB,nrlB,reduceCtorEq,HO.pack.injEq,HO.obj.injEq,decide_true,decide_false,je,jd,forall_const,false_implies,true_implies,jf,jg,hd5]
  by_cases hff:t=uj
  · rw [if_pos hff] at hr
    rw [decide_eq_true hff] at hq;subst hq;simp only [nrmA,nrmB,nrlB,reduceCtorEq,HO.pack.injEq,HO.obj.injEq,decide_true,decide_false,je,jd,forall_const,false_implies,true_implies,jf,jg]
    by_cases hd6:m≠[80,79,83,84]
    · rw [if_pos hd6] at hr
      simp only [TA.mk.injEq,Sto.mk.injEq] at hr;obtain⟨q1,q2,q3,q4,q5,q6⟩:=hr;subst q1 q2 q3 q4 q5 q6
      try simp only [nrmA,nrmB,nrlB,reduceCtorEq,HO.pack.injEq,HO.obj.injEq,decide_true,decide_false,je,jd,forall_const,false_implies,true_implies,jf,jg,hd6]
      (repeat' (first|refine ja ?_ ?_|intro _))<;>first|omega|exact jb|exact jc ‹False›|skip
      all_goals first
       |with_reducible rfl
       |with_reducible assumption
       |omega
       |exact hs
       |exact hf.1
       |(exact(hf.2 _ ‹_›).1)
       |(exact(hf.2 _ ‹_›).2)
       |exact⟨hf,by decide⟩
       |exact⟨⟨hf,by decide⟩,by assumption⟩
       |(simp only [jh,ji];omega)
       |(exfalso;simp_all;done)
    rw [if_neg hd6] at hr
    try simp only [Bool.not_eq_false,ne_eq,Decidable.not_not] at hd6
    try simp only [nrmA,nrmB,nrlB,reduceCtorEq,HO.pack.injEq,HO.obj.injEq,decide_true,decide_false,je,jd,forall_const,false_implies,true_implies,jf,jg,hd6]
    simp only [nrmA,nrmB,nrlB,reduceCtorEq,HO.pack.injEq,HO.obj.injEq,decide_true,decide_false,je,jd,forall_const,false_implies,true_implies,jf,jg,hr]
    (repeat' (first|refine ja ?_ ?_|intro _))<;>first|omega|exact jb|exact jc ‹False›|skip
    all_goals first
     |with_reducible rfl
     |with_reducible assumption
     |omega
     |exact hs
     |exact hf.1
     |(exact(hf.2 _ ‹_›).1)
     |(exact(hf.2 _ ‹_›).2)
     |exact⟨hf,by decide⟩
     |exact⟨⟨hf,by decide⟩,by assumption⟩
     |(simp only [jh,ji];omega)
     |(exfalso;simp_all;done)
  · rw [if_neg hff] at hr
    rw [decide_eq_false hff] at hq;subst hq;simp only [nrmA,nrmB,nrlB,reduceCtorEq,HO.pack.injEq,HO.obj.injEq,decide_true,decide_false,je,jd,forall_const,false_implies,true_implies,jf,jg]
    (repeat' (first|refine ja ?_ ?_|intro _))<;>first|omega|exact jb|exact jc ‹False›|skip
    all_goals first
     |((with_reducible show Ok _ _ _ _);(try(exfalso;omega));exact seam rfl wI mixed [vX,vW,zX,zW,zK,zJ,zU,zT,yS,yR,yQ,yP,xA,xw,vV,vU,Wv,Wu,Zg,Zf,su,tZ] hX [0,1] ⟨[(0,.v (.one (.ptr 0 0))),(1,.v (.one (.p (.list .byte body))))],[.obj 78 [.ptr 1 0,.p (.str m),.p (.str t),.p (.int .i64 mi),.p (.list .fld f),.p (.int .i64 le)],.pack [.obj 48 [.ptr 1 0,.ptr 2 0],.pack [.obj 90 [.row 1,.p (.int .i64 n)],.row .upl 67 l],.pack [.obj 104 [.row 1,.p (.int .i64 s)],.row .byte 5 b]]],84,none⟩ (by kernel_rfl) (key10 () hr))
     |with_reducible rfl
     |with_reducible assumption
     |omega
     |exact hs
     |exact hf.1
     |(exact(hf.2 _ ‹_›).1)
     |(exact(hf.2 _ ‹_›).2)
     |exact⟨hf,by decide⟩
     |exact⟨⟨hf,by decide⟩,by assumption⟩
     |(simp only [jh,ji];omega)
     |(exfalso;simp_all;done)
 clear key10;subst hI;unfold zkg zeB verS zjM zjO zjN at hr;rw [show([47,102,105,108,101,115]:Str)=uj from rfl];simp only [nrmA,nrmB,nrlB,reduceCtorEq,HO.pack.injEq,HO.obj.injEq]
 by_cases hd7:t=uj∧m=[79,80,84,73,79,78,83]
 · rw [if_pos hd7] at hr
   simp only [TA.mk.injEq,Sto.mk.injEq] at hr;obtain⟨q1,q2,q3,q4,q5,q6⟩:=hr;subst q1 q2 q3 q4 q5 q6
   try simp only [nrmA,nrmB,nrlB,reduceCtorEq,HO.pack.injEq,HO.obj.injEq,decide_true,decide_false,je,jd,forall_const,false_implies,true_implies,jf,jg,hd7]
   (repeat' (first|refine ja ?_ ?_|intro _))<;>first|omega|exact jb|exact jc ‹False›|skip
   all_goals first
    |with_reducible rfl
    |with_reducible assumption
    |omega
    |exact hs
    |exact hf.1
    |(exact(hf.2 _ ‹_›).1)
    |(exact(hf.2 _ ‹_›).2)
    |exact⟨hf,by decide⟩
    |exact⟨⟨hf,by decide⟩,by assumption⟩
    |(simp only [jh,ji];omega)
    |(exfalso;simp_all;done)
 rw [if_neg hd7] at hr
 try simp only [Bool.not_eq_false,ne_eq,Decidable.not_not] at hd7
 try simp only [nrmA,nrmB,nrlB,reduceCtorEq,HO.pack.injEq,HO.obj.injEq,decide_true,decide_false,je,jd,forall_const,false_implies,true_implies,jf,jg,hd7]
 have hbeq:(t == uj)=decide (t=uj):=by rw [Bool.eq_iff_iff];simp
 (repeat' (first|refine ja ?_ ?_|intro _))<;>first|omega|exact jb|exact jc ‹False›|skip
 all_goals first
  |((with_reducible show Ok _ _ _ _);(try(exfalso;omega));exact seam rfl wI mixed [vX,vW,zX,zW,zK,zJ,zU,zT,yS,yR,yQ,yP,xA,xw,vV,vU,Wv,Wu,Zg,Zf,su,tZ] hX [0,1,4] ⟨[(0,.v (.one (.ptr 0 0))),(1,.v (.one (.p (.list .byte body)))),(4,.v (.one (.p (.bool ((t == uj))))))],[.obj 78 [.ptr 1 0,.p (.str m),.p (.str t),.p (.int .i64 mi),.p (.list .fld f),.p (.int .i64 le)],.pack [.obj 48 [.ptr 1 0,.ptr 2 0],.pack [.obj 90 [.row 1,.p (.int .i64 n)],.row .upl 67 l],.pack [.obj 104 [.row 1,.p (.int .i64 s)],.row .byte 5 b]]],84,none⟩ (by kernel_rfl) (key3 _ hbeq hr))
  |with_reducible rfl
  |with_reducible assumption
  |omega
  |exact hs
  |exact hf.1
  |(exact(hf.2 _ ‹_›).1)
  |(exact(hf.2 _ ‹_›).2)
  |exact⟨hf,by decide⟩
  |exact⟨⟨hf,by decide⟩,by assumption⟩
  |(simp only [jh,ji];omega)
  |(exfalso;simp_all;done)
def zeF:Know Tryz.prog:=⟨29,Zh,Rw⟩
def zeE:Know Tryz.prog:=⟨29,fun I=>zu I (Zh I),zf Rw⟩
end Go.Proofs.YtcclfkakcgnacaaGreatDoor
namespace Go.Proofs.YtcclfkakcgnacaaGreatDoor
open Go Go.Sep Go.Ab
set_option maxRecDepth 100000
theorem te {c:Prop} [Decidable c] {a b:TA} (ha:a.fs.length≤4) (hb:b.fs.length≤4):(if c then a else b).fs.length≤4:=by split<;>assumption
theorem V8 (q:Sto) (m t:Str) (f:List Fld) (body:Str):(yu q m t f body).fs.length≤4:=by
 have h1:(yF q f).fs.length≤4:=by
  unfold yF
  repeat' split
  all_goals simp
 have h2: ∀ u,(y7 q u f body).fs.length≤4:=fun u=>by
  unfold y7
  repeat' refine te ?_ ?_
  all_goals simp
 have h3: ∀ u,(qY q u).fs.length≤4:=fun u=>by unfold qY;split<;>simp
 have h4: ∀ u,(Y3 u).length≤4:=fun u=>by unfold Y3;split<;>simp
 unfold yu
 repeat' split
 all_goals first|exact h1|exact h2 _|exact h3 _|exact h4 _|simp
theorem zjV (m t:Str) (mi:Int) (f:List Fld) (le:Int) (l:List Upl) (n:Int) (b:Str) (s st:Int) (fs:List Fld) (hfs:fs.length≤1000):SpcD Tryz.prog 27 [.ptr 2 0] (.pan (.ifc 73 true [.int .i64 st,.list .fld fs,.list .byte []])) [.pack [.obj 48 [.ptr 1 0,.ptr 2 0],.pack [.obj 90 [.row 1,.p (.int .i64 n)],.row .upl 67 l],.pack [.obj 104 [.row 1,.p (.int .i64 s)],.row .byte 5 b]],.obj 35 [.p (.str m),.p (.str t),.p (.int .i64 mi),.p (.list .fld f),.p (.int .i64 le)],.obj 32 [.p (.int .i64 0),.nilS,.nilS],.obj 78 [.ptr 0 0,.p (.str m),.p (.str t),.p (.int .i64 mi),.p (.list .fld f),.p (.int .i64 le)]] .ret [.pack [.obj 48 [.ptr 1 0,.ptr 2 0],.pack [.obj 90 [.row 1,.p (.int .i64 n)],.row .upl 67 l],.pack [.obj 104 [.row 1,.p (.int .i64 s)],.row .byte 5 b]],.pack [.obj 35 [.p (.str m),.p (.str t),.p (.int .i64 mi),.p (.list .fld f),.p (.int .i64 le)]],.pack [.obj 32 [.p (.int .i64 st),.row 1,.p (.list .byte [])],.row .fld 58 (resT::fs)],.obj 78 [.ptr 0 0,.p (.str m),.p (.str t),.p (.int .i64 mi),.p (.list .fld f),.p (.int .i64 le)]]:=by
 refine Ya wI mixed Tryz.func27 (by kernel_rfl) cfgT [zU,zT] (rest:=_) rfl (by kernel_rfl) ?_
 intro I X hI hX
 refine orcL ?_;go_invoke;refine orcS (by kernel_rfl) ?_
 simp only [zl,Nat.reduceAdd];subst hI;simp only [nrmA,nrmB,nrlB,reduceCtorEq,HO.pack.injEq,HO.obj.injEq,jh,ji,List.cons_append,List.nil_append];unfold resT zjL verS
 (repeat' (first|refine ja ?_ ?_|intro _))<;>first|omega|exact jb|exact jc ‹False›|skip
 all_goals first|omega|trivial|rfl|trace_state
def zkW:Door Tryz.prog where
 g:=27
 c :=fun _ m caps hp=>match m,caps,hp with
   |.pan (.ifc 73 true [.int .i64 st,.list .fld fs,.list .byte bb]),[.ptr 2 0],[.pack [.obj 48 [.ptr 1 0,.ptr 2 0],.pack [.obj 90 [.row 1,.p (.int .i64 n)],.row .upl 67 l],.pack [.obj 104 [.row 1,.p (.int .i64 s)],.row .byte 5 b]],.obj 35 [.p (.str m),.p (.str t),.p (.int .i64 mi),.p (.list .fld f),.p (.int .i64 le)],.obj 32 [.p (.int .i64 z0),.nilS,.nilS],.obj 78 [.ptr 0 0,.p (.str m1),.p (.str t1),.p (.int .i64 mi1),.p (.list .fld f1),.p (.int .i64 le1)]]=>some (fs.length≤1000∧bb=[]∧z0=0∧m1=m∧t1=t∧mi1=mi∧f1=f∧le1=le,.ret,[.pack [.obj 48 [.ptr 1 0,.ptr 2 0],.pack [.obj 90 [.row 1,.p (.int .i64 n)],.row .upl 67 l],.pack [.obj 104 [.row 1,.p (.int .i64 s)],.row .byte 5 b]],.pack [.obj 35 [.p (.str m),.p (.str t),.p (.int .i64 mi),.p (.list .fld f),.p (.int .i64 le)]],.pack [.obj 32 [.p (.int .i64 st),.row 1,.p (.list .byte [])],.row .fld 58 (resT::fs)],.obj 78 [.ptr 0 0,.p (.str m),.p (.str t),.p (.int .i64 mi),.p (.list .fld f),.p (.int .i64 le)]])
   |_,_,_=>none
 ok:=by
  intro m caps hp p m' hp' h hp1
  split at h
  · cases h
    obtain⟨h1,rfl,rfl,rfl,rfl,rfl,rfl,rfl⟩:=hp1;exact zjV _ _ _ _ _ _ _ _ _ _ _ h1
  · cases h
def zbU (I:Alg):KU
 |[.v (.one (.ptr 0 0)),.v (.agg [.p (.str m),.p (.str t),.p (.int .i64 mi),.p (.list .fld f),.p (.int .i64 le)]),.v (.one (.p (.list .byte body)))],[.pack [.obj 48 [.ptr 1 0,.ptr 2 0],.pack [.obj 90 [.row 1,.p (.int .i64 n)],.row .upl 67 l],.pack [.obj 104 [.row 1,.p (.int .i64 s)],.row .byte 5 b]]]=>(fun(m t:Str) (f:List Fld) (l:List Upl) (b body:Str)=>(some (.one ⟨I.hid (FOk f∧zM l n∧n≤200000∧b.length≤100000∧body.length≤100000),(.ret (.v (.agg [.p (.int .i64 (I.hid ((yu ⟨l,n,b,s⟩ m t f body).st))),.p (.list .fld (I.hid (resT::(yu ⟨l,n,b,s⟩ m t f body).fs))),.p (.list .byte (I.hid ([])))]))),[.pack [.obj 48 [.ptr 1 0,.ptr 2 0],.pack [.obj 90 [.row 1,.p (.int .i64 (I.hid ((yu ⟨l,n,b,s⟩ m t f body).q.n)))],.row .upl 67 (I.hid ((yu ⟨l,n,b,s⟩ m t f body).q.l))],.pack [.obj 104 [.row 1,.p (.int .i64 (I.hid ((yu ⟨l,n,b,s⟩ m t f body).q.s)))],.row .byte 5 (I.hid ((yu ⟨l,n,b,s⟩ m t f body).q.b))]]]⟩):Option CT)) m t f l b body
 |_,_=>none
theorem zh6:zq Tryz.prog 10 (zbU alg):=by
 intro args hp r h;unfold zbU at h;split at h<;>cases h
 rename_i m t mi f le body n l s b
 revert f l;intro(f:List Fld) (l:List Upl)
 simp only [CT.Good,zk];intro hneed;have hfew:=V8 ⟨l,n,b,s⟩ m t f body;generalize hr:yu ⟨l,n,b,s⟩ m t f body=r at hfew;obtain⟨st,fs,⟨l',n',b',s'⟩⟩:=r
 refine zjW wI mixed Tryz.func10 (by kernel_rfl) { cfgT with keep:=some [0,1,2,4,6,7]} [zeF,zeE] zkW (by kernel_rfl) ?_
 intro I X hI hX
 refine orcL ?_;go_invoke;refine orcS (by kernel_rfl) ?_
 simp only [zl,Nat.reduceAdd];subst hI;simp only at hfew;simp only [nrmA,nrmB,nrlB,reduceCtorEq,V0.agg.injEq,HO.pack.injEq,HO.obj.injEq];simp only [hr]
 (repeat' (first|refine ja ?_ ?_|intro _))<;>first|omega|exact jb|exact jc ‹False›|skip
 all_goals first|omega|rfl|assumption|exact hneed.2.1|exact hneed.1.1|(exact(hneed.1.2 _ ‹_›).1)|(exact(hneed.1.2 _ ‹_›).2)|trace_state
def zbT:Know Tryz.prog:=⟨10,zbU,zh6⟩
def zbS:Know Tryz.prog:=⟨10,fun I=>zu I (zbU I),zf zh6⟩
def zi3 (t:Str):Bool:=decide (t=uj)||Lib.hasPrefix t xC
def Xj (I:Alg):KU
 |[.v (.one (.p (.str t)))],[]=>(fun(t:Str)=>(some (.one ⟨I.hid (t.length≤1000000),(.ret (.v (.one (.p (.bool (I.hid (zi3 t))))))),[]⟩):Option CT)) t
 |_,_=>none
theorem zbQ:zq Tryz.prog 17 (Xj alg):=by
 intro args hp r h;unfold Xj at h;split at h<;>cases h
 rename_i t;simp only [CT.Good,zk];intro hneed;generalize hr:zi3 t=r;unfold zi3 at hr
 refine spH Tryz.func17 (by kernel_rfl) { cfgT with keep:=some [0,2]} [QG,QF] (by kernel_rfl) ?_
 intro I X hI hX
 refine orcL ?_;go_invoke;refine orcS (by kernel_rfl) ?_
 simp only [zl,Nat.reduceAdd];subst hI;rw [show([47,102,105,108,101,115]:Str)=uj from rfl]
 try rw [show([47,102,105,108,101,115,47]:Str)=xC from rfl]
 simp only [nrmA,nrmB,nrlB,reduceCtorEq,V0.agg.injEq]
 by_cases h1:t=uj
 · rw [decide_eq_true h1,Bool.true_or] at hr
   subst hr;simp only [nrmA,nrmB,nrlB,reduceCtorEq,h1]
   (repeat' (first|refine ja ?_ ?_|intro _))<;>first|omega|exact jb|exact jc ‹False›|skip
   all_goals first|omega|rfl|assumption|(simp_all;done)|trace_state
 · rw [decide_eq_false h1,Bool.false_or] at hr
   simp only [nrmA,nrmB,nrlB,reduceCtorEq,h1]
   (repeat' (first|refine ja ?_ ?_|intro _))<;>first|omega|exact jb|exact jc ‹False›|skip
   all_goals first|omega|rfl|assumption|(simp_all;done)|trace_state
def zg3:Know Tryz.prog:=⟨17,Xj,zbQ⟩
def zg2:Know Tryz.prog:=⟨17,fun I=>zu I (Xj I),zf zbQ⟩
end Go.Proofs.YtcclfkakcgnacaaGreatDoor
namespace Go.Proofs.YtcclfkakcgnacaaGreatDoor
open Go Go.Sep Go.Ab
set_option maxRecDepth 100000
def askN (x:Ab.Ask):Int:=x.body.length+x.h.target.length+x.h.method.length
def askG:Nat→Int→List Ab.Ask→Bool × Int
 |0,n,_=>(false,n)
 |_+1,n,[]=>(false,n)
 |k+1,n,x::r=>if sV x.h.fields=true then(true,n) else askG k (n+askN x) r
def Vk (l:List Ab.Ask):Bool:=(askG 200 0 l).1||(decide (100<l.length)||decide (20000<(askG 200 0 l).2))
def AskW (x:Ab.Ask):Prop:=x.body.length≤140737488355328∧x.h.target.length≤140737488355328∧x.h.method.length≤140737488355328∧∀ f ∈ x.h.fields,f.name.length≤140737488355328∧f.value.length≤140737488355328
def ZO (I:Alg):KU
 |[.v (.one (.p (.list .ask l)))],[]=>(fun(l:List Ab.Ask)=>(some (.one ⟨I.hid (l.length≤140737488355328∧∀ x ∈ l,AskW x),(.ret (.v (.one (.p (.bool (I.hid (Vk l))))))),[]⟩):Option CT)) l
 |_,_=>none
theorem QH:zq Tryz.prog 7 (ZO alg):=by
 intro args hp r h;unfold ZO at h;split at h<;>cases h
 rename_i l
 revert l;intro(l:List Ab.Ask)
 simp only [CT.Good,zk];intro hneed;obtain⟨hlen,hw⟩:=hneed;generalize hr:Vk l=r
 refine spH Tryz.func7 (by kernel_rfl) { keep:=some [0,2,3,4]} [zcX,zcW] (by kernel_rfl) ?_
 intro I X hI hX
 refine orcL ?_;go_invoke;refine orcS (by kernel_rfl) ?_
 simp only [zl,Nat.reduceAdd]
 refine lpH hI [zcX,zcW] hX [0,3,4] (fun(g:Nat × Int)=>match g with|(i,n)=>i≤l.length∧i≤200∧0≤n∧n≤(i:Int) * 422212465065984∧askG (200 - i) n (l.drop i)=askG 200 0 l) (fun(g:Nat × Int)=>match g with|(i,n)=>⟨[(0,.v (.one (.p (.list .ask l)))),(3,.v (.one (.p (.int .i64 n)))),(4,.v (.one (.p (.int .i64 i))))],[],53,none⟩) (fun(g:Nat × Int)=>match g with|(i,n)=>l.length - i) (0,0) (by kernel_rfl) (by kernel_rfl) ?_ ?_
 · exact⟨jL _,by omega,by omega,by omega,rfl⟩
 rintro⟨i,n⟩ ⟨h1,h2,h3,h4,h5⟩ A hA;simp only at hA h3 h4
 refine orcL ?_;go_invoke;refine orcS (by kernel_rfl) ?_
 simp only [zl,Nat.reduceAdd];subst hI;simp only [nrmA,nrmB]
 have hx:i<l.length→AskW (l.getD i ⟨⟨[],[],0,[],0⟩,[]⟩):=fun h=>hw _ (by
  rw [show l.getD i ⟨⟨[],[],0,[],0⟩,[]⟩=l[i] by simp [h]]
  exact List.getElem_mem h)
 have hx0:i<l.length→AskW (l.getD i (dflt U.ask)):=hx
 have hd:i<l.length→i<200→askG (200 - i) n (l.drop i)=if sV (l.getD i ⟨⟨[],[],0,[],0⟩,[]⟩).h.fields=true then(true,n) else askG (200 - (i+1)) (n+askN (l.getD i ⟨⟨[],[],0,[],0⟩,[]⟩)) (l.drop (i+1)):=fun h h'=>by
  rw [jD h,show 200 - i=(200 - (i+1))+1 by omega,askG];simp [h]
 have hend: ¬ i<l.length→(false,n)=askG 200 0 l:=fun h=>by
  rw [← h5,jE (by omega)]
  cases 200 - i<;>rfl
 have hend2: ¬ i<200→(false,n)=askG 200 0 l:=fun h=>by
  rw [← h5,show 200 - i=0 by omega];rfl
 generalize l.getD i ⟨⟨[],[],0,[],0⟩,[]⟩=x at *;unfold askN at hd;unfold Vk at hr
 (repeat' (first|refine ja ?_ ?_|intro _))<;>first|omega|exact jb|exact jc ‹False›|skip
 all_goals first
  |(have:=hx (by omega);unfold AskW at this;omega)
  |(rename_i hm;exact((hx (by omega)).2.2.2 _ hm).1)
  |(rename_i hm;exact((hx (by omega)).2.2.2 _ hm).2)
  |(rename_i hm;exact((hx0 (by omega)).2.2.2 _ hm).1)
  |(rename_i hm;exact((hx0 (by omega)).2.2.2 _ hm).2)
  |(rw [← hr,← h5,hd (by omega) (by omega),if_pos (by assumption)];rfl)
  | (have hq:=hx (by omega)
     unfold AskW at hq
     rw [hd (by omega) (by omega),if_neg (by rw [‹sV x.h.fields=false›];exact Bool.false_ne_true)] at h5
     exact hA (i+1,n+((x.body.length:Int)+x.h.target.length+x.h.method.length)) ⟨by simp only;omega,by simp only;omega,by simp only;omega,by simp only;omega,h5⟩ (by simp only;omega))
  |(rw [← hr,← hend (by omega)];simp only [Bool.false_or];rw [decide_eq_true (by omega),Bool.true_or];done)
  |(rw [← hr,← hend (by omega)];simp only [Bool.false_or];rw [decide_eq_false (p:=100<l.length) (by omega),Bool.false_or];done)
  |(rw [← hr,← hend2 (by omega)];simp only [Bool.false_or];rw [decide_eq_true (by omega),Bool.true_or];done)
  |(rw [← hr,← hend2 (by omega)];simp only [Bool.false_or];rw [decide_eq_false (p:=100<l.length) (by omega),Bool.false_or];done)
def Vj:Know Tryz.prog:=⟨7,ZO,QH⟩
def Vh:Know Tryz.prog:=⟨7,fun I=>zu I (ZO I),zf QH⟩
end Go.Proofs.YtcclfkakcgnacaaGreatDoor
namespace Go.Proofs.YtcclfkakcgnacaaGreatDoor
open Go Go.Sep Go.Ab
set_option maxRecDepth 100000
def prs:List Str→List Fld
 |a::b::r=>⟨a,b⟩::prs r
 |_=>[]
def cfgH:Cfg:= { sl:=[⟨35,3,.fld,some 58⟩]}
def Si (I:Alg):KU
 |[.v (.one (.p (.str m))),.v (.one (.p (.str t))),.v (.one (.p (.list .str v)))],[]=>(fun(m t:Str) (v:List Str)=>(some (.one ⟨I.hid (v.length≤1000),(.ret (.v (.agg [.p (.str m),.p (.str t),.p (.int .i64 1),.p (.list .fld (I.hid (resT::prs v))),.p (.int .i64 0)]))),[]⟩):Option CT)) m t v
 |_,_=>none
theorem zfU:zq Tryz.prog 23 (Si alg):=by
 intro args hp r h;unfold Si at h;split at h<;>cases h
 rename_i m t v
 revert v;intro(v:List Str)
 simp only [CT.Good,zk];intro hneed
 refine spH Tryz.func23 (by kernel_rfl) { cfgH with keep:=some [0,1,2,6,7,8]} [] (by kernel_rfl) ?_
 intro I X hI hX
 refine orcL ?_;go_invoke;refine orcS (by kernel_rfl) ?_
 simp only [zl,Nat.reduceAdd]
 refine lpH hI [] hX [0,1,2,6,7,8] (fun(g:Nat × List Fld)=>match g with|(j,l)=>2 * j≤v.length∧l.length=j∧prs v=l++prs (v.drop (2 * j))) (fun(g:Nat × List Fld)=>match g with|(j,l)=>⟨[(0,.v (.one (.p (.str m)))),(1,.v (.one (.p (.str t)))),(2,.v (.one (.p (.list .str v)))),(6,.v (.one (.ptr 0 0))),(7,.v (.one (.ptr 1 0))),(8,.v (.one (.p (.int .i64 ((2 * (j:Int)))))))],[.pack [.obj 35 [.p (.str ([])),.p (.str ([])),.p (.int .i64 0),.row 1,.p (.int .i64 0)],.row .fld 58 ([])],.pack [.obj 35 [.p (.str m),.p (.str t),.p (.int .i64 1),.row 1,.p (.int .i64 0)],.row .fld 58 ((resT::l))]],37,none⟩) (fun(g:Nat × List Fld)=>match g with|(j,l)=>v.length - 2 * j) (0,[]) (by kernel_rfl) (by kernel_rfl) ?_ ?_
 · exact⟨by omega,rfl,rfl⟩
 rintro⟨j,l⟩ ⟨h1,h2,h3⟩ A hA;simp only at hA
 refine orcL ?_;go_invoke;refine orcS (by kernel_rfl) ?_
 simp only [zl,Nat.reduceAdd];subst hI;simp only [nrmA,nrmB,nrlB,reduceCtorEq,V0.agg.injEq,HO.pack.injEq,HO.obj.injEq]
 have e1:(2 * (j:Int)).toNat=2 * j:=by omega
 have e2:(2 * (j:Int)+1).toNat=2 * j+1:=by omega
 rw [e1,e2]
 have hstep:2 * j+1<v.length→prs (v.drop (2 * j))=⟨v.getD (2 * j) [],v.getD (2 * j+1) []⟩::prs (v.drop (2 * (j+1))):=fun h=>by
  rw [jD (by omega:2 * j<v.length),jD h,prs]
  simp [show 2 * j<v.length by omega,h,Nat.mul_add]
 have hstop: ¬ 2 * j+1<v.length→l=prs v:=fun h=>by
  rw [h3]
  have:(v.drop (2 * j)).length≤1:=by rw [jB];omega
  match hq:v.drop (2 * j),this with
  |[],_=>simp [prs]
  |[_],_=>simp [prs]
 generalize v.getD (2 * j) []=x at *;generalize v.getD (2 * j+1) []=y at *
 have hgo:2 * j+1<v.length→_:=fun h=>hA (j+1,l++[⟨x,y⟩]) ⟨by simp only;omega,by simp only [jk,jh,ji];omega,by rw [h3,hstep h];simp⟩ (by simp only;omega)
 simp only at hgo
 (repeat' (first|refine ja ?_ ?_|intro _))<;>first|omega|exact jb|exact jc ‹False›|skip
 all_goals first
  |(simp only [jh,ji];omega)
  |exact hstop (by omega)
  |exact hgo (by omega)
def zjm:Know Tryz.prog:=⟨23,Si,zfU⟩
def zjl:Know Tryz.prog:=⟨23,fun I=>zu I (Si I),zf zfU⟩
end Go.Proofs.YtcclfkakcgnacaaGreatDoor
namespace Go.Proofs.YtcclfkakcgnacaaGreatDoor
open Go Go.Sep Go.Ab
set_option maxRecDepth 100000
def QOk (n0:Int) (q:Sto):Prop:=zM q.l q.n∧q.b.length≤100000∧n0≤q.n∧q.n≤n0+1
theorem te2 {n0:Int} {c:Prop} [Decidable c] {a b:TA} (ha:QOk n0 a.q) (hb:QOk n0 b.q):QOk n0 (if c then a else b).q:=by split<;>assumption
theorem zfc {n0:Int} {q:Sto} {e:Ent} (h:QOk n0 q) (he:e.kind≠1):QOk n0 (wsS q e):=by
 have:=Rk (l:=q.l) (n:=q.n) (b:=q.b) he;refine⟨zev h.1 _ _,Xa _ h.2.1,?_,?_⟩
 · show n0≤wrtN q.l q.n q.b e;rw [this];exact h.2.2.1
 · show wrtN q.l q.n q.b e≤n0+1;rw [this];exact h.2.2.2
theorem wF {q:Sto} (h:zM q.l q.n) (hb:q.b.length≤100000) (m t:Str) (f:List Fld) (body:Str):QOk q.n (yu q m t f body).q:=by
 have h0:QOk q.n q:=⟨h,hb,by omega,by omega⟩
 have hc:QOk q.n (yF q f).q:=by
  unfold yF;have hw: ∀ e,QOk q.n (wsS q e):=fun e=>⟨zev h _ _,Xa _ hb,(zew _ _ _ _).1,(zew _ _ _ _).2⟩
  repeat' with_reducible refine te2 ?_ ?_
  all_goals first|exact h0|exact hw _
 have hd: ∀ u,QOk q.n (qY q u).q:=fun u=>by
  unfold qY;refine te2 h0 ?_
  exact zfc h0 (by simp)
 have hp: ∀ u,QOk q.n (y7 q u f body).q:=fun u=>by
  unfold y7
  have h1:QOk q.n (wsS q (apE u.id body)):=zfc h0 (by simp [apE])
  have h2: ∀ z,QOk q.n (wsS (wsS q (apE u.id body)) ⟨3,u.id,z,[]⟩):=fun z=>zfc h1 (by simp)
  repeat' with_reducible refine te2 ?_ ?_
  all_goals first|exact h0|exact h1|exact h2 _
 unfold yu
 repeat' with_reducible refine te2 ?_ ?_
 all_goals first|exact h0|exact hc|exact hd _|exact hp _
def um (I:Alg):KU
 |[],[]=>some (.one ⟨I.hid (True),(.ret (.v (.one (.p (.bool true))))),[]⟩)
 |_,_=>none
set_option maxHeartbeats 4000000 in
theorem Wp:zq Tryz.prog 6 (um alg):=by
 intro args hp r h;unfold um at h;split at h<;>cases h
 simp only [CT.Good,zk];intro _
 refine spH Tryz.func6 (by kernel_rfl) { cfgT with fz:=[23,10],keep:=some [0,1,2,3,4]} [Zm,Zl,zbT,zbS,zg3,zg2,zjm,zjl] (by kernel_rfl) ?_
 intro I X hI hX
 refine orcL ?_;go_invoke;refine orcS (by kernel_rfl) ?_
 simp only [zl,Nat.reduceAdd];subst hI;simp only [nrmA,nrmB,nrlB,reduceCtorEq]
 (repeat' (first|refine ja ?_ ?_|(intro h;first|exact absurd h (by decide+kernel)|clear h)))
 all_goals first
  |exact vF
  |exact(wF vF (by decide) _ _ _ _).1
  |exact(wF (wF vF (by decide) _ _ _ _).1 (wF vF (by decide) _ _ _ _).2.1 _ _ _ _).1
  |exact(wF vF (by decide) _ _ _ _).2.1
  |exact(wF (wF vF (by decide) _ _ _ _).1 (wF vF (by decide) _ _ _ _).2.1 _ _ _ _).2.1
  |decide+kernel
def qI:Know Tryz.prog:=⟨6,um,Wp⟩
def qH:Know Tryz.prog:=⟨6,fun I=>zu I (um I),zf Wp⟩
end Go.Proofs.YtcclfkakcgnacaaGreatDoor
namespace Go.Proofs.YtcclfkakcgnacaaGreatDoor
open Go Go.Sep Go.Ab Go.Jrn
theorem zjF {l:List Upl} {id:Int} {u:Upl} (h:atU l id<l.length) (hu:u.id=id):atU (l.set (atU l id) u) id=atU l id:=by
 have hlen:(l.set (atU l id) u).length=l.length:=List.length_set ..
 have h2: ∀ (l:List Upl) (i:Nat),i<l.length→(l.getD i upl0).id=u.id→(l.set i u).findIdx (fun x=>x.id == id)=l.findIdx (fun x=>x.id == id):=by
  intro l
  induction l with
  |nil=>intro i hi;simp at hi
  | cons a r ih=>
    intro i hi hid
    cases i with
    | zero=>
      simp only [List.getD_cons_zero] at hid
      simp [List.set,List.findIdx_cons,hid]
    | succ i=>
      simp only [jh] at hi;simp only [List.getD_cons_succ] at hid;simp only [List.set,List.findIdx_cons]
      rw [ih i (by omega) hid]
 have h3:=rC h;unfold zS at h3
 exact h2 l (atU l id) h (by rw [hu];exact h3)
theorem Q9 (e:Ent) (hk:1≤e.kind∧e.kind≤6):(encM e).length≤31+e.text.length∧(e.n=0→(encM e).length≤22+e.text.length):=by
 unfold encM
 split
 · have h1:=yY ((enc3 e).length+1)
   have h2:=yY (e.id+1).toNat;have h3:=yY (e.n+1).toNat
   have h4:(sev (e.kind+1).toNat).length=1:=by rw [sD (by omega)];rfl
   unfold encB enc3;unfold enc3 at h1
   have h5:e.n=0→(sev (e.n+1).toNat).length=1:=fun h=>by rw [h];rfl
   simp only [jk] at *
   refine⟨by omega,fun h=> ?_⟩
   have:=h5 h;omega
 · exact⟨by simp,fun _=>by simp⟩
theorem zae {q:Sto} {u:Upl} {body:Str} {nv sz:Int} (hb:getB q.l u.id=true) (hu:getU q.l u.id=u) (hnv:nv=(u.bytes.length:Int)) (hid:1≤u.id∧u.id≤200000)
  (h1:wsC q (apE u.id body)=0) (hz:0≤sz) (hz2:sz≤2000) (hz3:nv+(body.length:Int)≤sz) (hus:u.size<0) (hr:WJ q.b ((body.length:Int)+60)=true):wsC (wsS q (apE u.id body)) ⟨3,u.id,sz,[]⟩=0:=by
 have hat:atU q.l u.id<q.l.length:=by unfold getB at hb;simpa using hb
 have hup:zS q.l u.id=u:=by unfold getU at hu;rwa [if_pos hat] at hu
 unfold WJ at hr
 have hroom:0≤(body.length:Int)+60∧(body.length:Int)+60≤100000 - (q.b.length:Int):=by simpa using hr
 unfold wsC at h1 ⊢
 have hl:(wsS q (apE u.id body)).l=q.l.set (atU q.l u.id) { zS q.l u.id with bytes:=(zS q.l u.id).bytes++body}:=by
  show wrtL _ _ _ _=_
  unfold wrtL;rw [if_pos h1]
  have hap:appC q.l u.id (getU q.l u.id).bytes.length body=0:=by
   unfold wrtC at h1
   split at h1
   · contradiction
   · rename_i hc
     simp only [Decidable.not_not] at hc;exact hc
  show Y5 _ _ _=_
  unfold Y5
  rw [if_neg (by simp [apE]),if_pos (by simp [apE])]
  show appL q.l u.id (getU q.l u.id).bytes.length body=_
  unfold appL;rw [if_pos hap]
 have hB:(wsS q (apE u.id body)).b=q.b++encB (apE u.id body):=by
  show wrtB _ _ _ _=_
  unfold wrtB;rw [if_pos h1]
 have hat2:atU (wsS q (apE u.id body)).l u.id=atU q.l u.id:=by rw [hl];exact zjF hat (by rw [hup])
 have hlen:(wsS q (apE u.id body)).l.length=q.l.length:=by rw [hl,List.length_set]
 have hup2:zS (wsS q (apE u.id body)).l u.id= { u with bytes:=u.bytes++body}:=by
  unfold zS;rw [hat2,hl]
  simp [jG,hat,hup]
 unfold wrtC
 have hp:RY (wsS q (apE u.id body)).l (wsS q (apE u.id body)).n ⟨3,u.id,sz,[]⟩=0:=by
  show decC (wsS q (apE u.id body)).l u.id sz=0
  unfold decC
  rw [hat2,hlen,hup2,if_neg (by omega),if_neg (by simp only;omega),if_neg (by omega),if_neg (by simp only [jk];omega)]
 have hm:mayM (apE u.id body)=true:=by
  unfold wrtC at h1
  rw [if_neg (by intro hc;rw [if_pos hc] at h1;exact hc h1)] at h1
  unfold encC at h1
  cases hq:mayM (apE u.id body) with
  |true=>rfl
  |false=>rw [hq] at h1;simp at h1
 have he:encC ⟨3,u.id,sz,[]⟩=0:=by
  unfold encC
  rw [if_pos (by unfold mayM few;simp only [jJ,decide_eq_true_eq,ji];omega)]
 rw [hp,he,if_neg (by simp),if_neg (by simp)]
 have e1:=(Q9 (apE u.id body) (by simp [apE])).2 rfl
 have e2:=(Q9 ⟨3,u.id,sz,[]⟩ (by simp)).1
 unfold wrC;rw [hB];rw [if_pos];unfold encM at e1;rw [if_pos hm] at e1;simp only [jk,ji] at *;simp only [apE] at *;omega
end Go.Proofs.YtcclfkakcgnacaaGreatDoor
namespace Go.Proofs.YtcclfkakcgnacaaGreatDoor
open Go Go.Sep Go.Ab Go.Jrn
def Ri (q:Sto) (r:TA):Prop:=(400≤r.st→r.q=q)∧(r.st<400→r.q=q∨r.q.s=(r.q.b.length:Int))
theorem te3 {q:Sto} {c:Prop} [Decidable c] {a b:TA} (ha:c→Ri q a) (hb: ¬ c→Ri q b):Ri q (if c then a else b):=by split<;>simp_all
theorem yc {q:Sto} {st:Int} {fs:List Fld}:Ri q ⟨st,fs,q⟩:=⟨fun _=>rfl,fun _=>.inl rfl⟩
theorem Xm {q q':Sto} {st:Int} {fs:List Fld} (h:st<400):Ri q ⟨st,fs,syS q'⟩:=⟨fun h2=>by simp only at h2;omega,fun _=>.inr rfl⟩
theorem zai (q:Sto) (f:List Fld):Ri q (yF q f):=by
 unfold yF
 repeat' with_reducible refine te3 (fun _=> ?_) (fun _=> ?_)
 all_goals first|exact yc|exact Xm (by decide)
theorem zeh (q:Sto) (u:Upl):Ri q (qY q u):=by
 unfold qY
 exact te3 (fun _=>yc) (fun _=>Xm (by decide))
theorem zaW {q:Sto} {u:Upl} (f:List Fld) (body:Str) (hb:getB q.l u.id=true) (hu:getU q.l u.id=u) (hid:1≤u.id∧u.id≤200000):Ri q (y7 q u f body):=by
 unfold y7
 refine te3 (fun _=>yc) (fun _=>te3 (fun _=>yc) (fun _=>te3 (fun _=>yc) (fun _=>te3 (fun _=>yc) (fun h1=>te3 (fun _=>yc) (fun h2=>te3 (fun _=>yc) (fun _=>te3 (fun _=>yc) (fun h3=>te3 (fun _=>yc) (fun h4=>te3 (fun _=>yc) (fun h5=>te3 (fun _=>yc) (fun h6=>te3 (fun h7=>te3 (fun h8=> ?_) (fun _=>Xm (by decide))) (fun _=>Xm (by decide))))))))))))
 refine absurd (zae (nv:=zC f yg) (sz:=zC f zQ) hb hu (by simpa using h2) hid ?_ h7.1 ?_ ?_ h7.2 (by simpa using h5)) h8
 · by_cases hg:apG q.l u.id (zC f yg)=true
   · rw [if_pos hg] at h6;exact absurd (by decide) h6
   · rw [if_neg hg] at h6;simpa using h6
 · have h9: ¬ (2000<zC f zQ∨zC f zQ<zC f yg+(body.length:Int)):=fun h=>h4 ⟨h7.1,h7.2,h⟩
   omega
 · have h9: ¬ (2000<zC f zQ∨zC f zQ<zC f yg+(body.length:Int)):=fun h=>h4 ⟨h7.1,h7.2,h⟩
   omega
theorem zfX {l:List Upl} {id:Int} (h:getB l id=true):(getU l id).id=id∧getU l id ∈ l:=by
 have hat:atU l id<l.length:=by unfold getB at h;simpa using h
 unfold getU;rw [if_pos hat];exact⟨rC hat,yV hat⟩
theorem zaK {q:Sto} (hs:zM q.l q.n) (hn:q.n≤200000) (m t:Str) (f:List Fld) (body:Str):Ri q (yu q m t f body):=by
 unfold yu;refine te3 (fun _=>yc) (fun _=>te3 (fun _=>yc) (fun _=>te3 (fun _=>yc) (fun _=>te3 (fun _=>te3 (fun _=>yc) (fun _=>zai _ _)) (fun _=>te3 (fun _=>yc) (fun h1=>te3 (fun _=>yc) (fun _=>te3 (fun _=> ?_) (fun _=>te3 (fun _=>zeh _ _) (fun _=>yc))))))))
 have h2:getB q.l (idV t)=true:=by
  unfold uplB at h1;simp only [Bool.not_eq_false,jJ] at h1;exact h1.2
 have h3:=zfX h2;have h4:=hs.ids _ h3.2
 exact zaW f body (by rw [h3.1];exact h2) (by rw [h3.1]) (by omega)
end Go.Proofs.YtcclfkakcgnacaaGreatDoor
namespace Go.Proofs.YtcclfkakcgnacaaGreatDoor
open Go Go.Sep Go.Ab
set_option maxRecDepth 100000
theorem zdy: ∀ (k:Nat) (n:Int) (a:List Ab.Ask),0≤n→(askG k n a).1=false→a.length≤k→n≤(askG k n a).2∧∀ x ∈ a,sV x.h.fields=false∧n+x.body.length+x.h.target.length+x.h.method.length≤(askG k n a).2
 | 0,n,a,_,_,h=>by
   have:a=[]:=List.length_eq_zero_iff.1 (by omega)
   subst this
   exact⟨Int.le_refl _,fun x hx=>by simp at hx⟩
 |k+1,n,[],_,_,_=>⟨Int.le_refl _,fun x hx=>by simp at hx⟩
 | k + 1,n,x::r,h0,h1,h2=>by
   unfold askG at h1 ⊢
   by_cases hg:sV x.h.fields=true
   · rw [if_pos hg] at h1;simp at h1
   · rw [if_neg hg] at h1 ⊢
     simp only [jh] at h2
     have ih:=zdy k (n+askN x) r (by unfold askN;omega) h1 (by omega)
     have hx0:0≤askN x:=by unfold askN;omega
     refine⟨by omega,fun y hy=> ?_⟩
     rcases List.mem_cons.1 hy with rfl|hy
     · exact⟨by simpa using hg,by have:=ih.1;unfold askN at this ⊢;omega⟩
     · have:=ih.2 y hy
       exact⟨this.1,by omega⟩
theorem zfW {f:List Fld} (h:sV f=false):f.length≤100∧∀ x ∈ f,x.name.length≤1000∧x.value.length≤1000:=by
 unfold sV at h;simp only [Bool.or_eq_false_iff,decide_eq_false_iff_not,List.any_eq_false,decide_eq_true_eq] at h
 exact⟨by omega,fun x hx=>by have:=h.2 x hx;omega⟩
theorem zeb {a:List Ab.Ask} (h:Vk a=false):a.length≤100∧∀ x ∈ a,FOk x.h.fields∧x.body.length≤20000∧x.h.target.length≤20000∧x.h.method.length≤20000:=by
 unfold Vk at h;simp only [Bool.or_eq_false_iff,decide_eq_false_iff_not] at h
 have hl:a.length≤100:=by omega
 have:=zdy 200 0 a (by omega) h.1 (by omega)
 refine⟨hl,fun x hx=> ?_⟩;have h2:=this.2 x hx;have h3:=zfW h2.1
 exact⟨⟨by omega,fun y hy=>by have:=h3.2 y hy;omega⟩,by omega,by omega,by omega⟩
end Go.Proofs.YtcclfkakcgnacaaGreatDoor
namespace Go.Proofs.YtcclfkakcgnacaaGreatDoor
open Go Go.Sep Go.Ab Go.Jrn
def CanE (e:Ent):Prop:=∃ n x,(0≤x.op∧x.op≤5)∧e=zkX n x
def st (W:List Ent):List Upl × Int:=replay ([],0) W
structure Hist (q:Sto) (W:List Ent) (k:Nat):Prop where
 may: ∀ e ∈ W,mayM e=true
 bytes:q.b=zD W
 rep:st W=(q.l,q.n)
 acc: ∀ j (h:j<W.length),RY (st (W.take j)).1 (st (W.take j)).2 W[j]=0∧CanE W[j]
 kle:k≤W.length
 sure:q.s=(zD (W.take k)).length
 b:q.b.length≤100000
theorem zhS (e:Ent):1≤(encB e).length:=by
 have:=yY ((enc3 e).length+1);unfold encB;rw [jk];omega
theorem UJ: ∀ W:List Ent,W.length≤(zD W).length
 |[]=>jK _
 | e::W=>by
   have:=UJ W;have:=zhS e;simp only [zD,jk,jh];omega
theorem zbo (W:List Ent) (k:Nat):(zD (W.take k)).length≤(zD W).length:=by
 have:=congrArg (fun l=>(zD l).length) (List.take_append_drop k W);simp only [uU,jk] at this;omega
theorem zfT {q:Sto} {W:List Ent} {k:Nat} (h:Hist q W k):zld q:=by
 have h1:=WL W ([],0) vF;have h2:=Tm W ([],0);have h3:=h.rep;unfold st at h3;rw [h3] at h1 h2;have h4:=UJ W;have h5:=h.b;rw [h.bytes] at h5;have h6:=zbo W k;refine⟨h1,?_,h.b,?_,?_⟩
 · simp only at h2;omega
 · rw [h.sure];omega
 · rw [h.sure,h.bytes];omega
theorem zhD:Hist ⟨[],0,[],0⟩ [] 0:=⟨fun _ h=>(by cases h),rfl,rfl,fun j h=>absurd h (Nat.not_lt_zero _),jK _,rfl,by decide⟩
theorem zfS {q:Sto} {W:List Ent} {k:Nat} (h:Hist q W k):Hist ⟨q.l,q.n,q.b,(q.b.length:Int)⟩ W W.length:=
 ⟨h.may,h.bytes,h.rep,h.acc,jK _,by rw [List.take_length];show(q.b.length:Int)=_;rw [h.bytes],h.b⟩
theorem zd9 {q:Sto} {W:List Ent} {k:Nat} (h:Hist q W k) {e:Ent} (hc:CanE e) (h0:wrtC q.l q.n q.b e=0):
  Hist ⟨wrtL q.l q.n q.b e,wrtN q.l q.n q.b e,wrtB q.l q.n q.b e,q.s⟩ (W++[e]) k:=by
 obtain⟨h1,h2,h3⟩:=UO h0;have hrep:=h.rep;refine⟨fun x hx=> ?_,?_,?_,fun j hj=> ?_,?_,?_,?_⟩
 · rcases List.mem_append.1 hx with hx|hx
   · exact h.may x hx
   · rw [List.mem_singleton.1 hx];exact h2
 · show wrtB q.l q.n q.b e=_
   unfold wrtB;rw [if_pos h0,h.bytes,uU]
   simp [zD]
 · show st (W++[e])=(wrtL q.l q.n q.b e,wrtN q.l q.n q.b e)
   unfold st at *;rw [Yh,hrep];unfold wrtL wrtN;rw [if_pos h0,if_pos h0];rfl
 · rw [jk] at hj
   rcases Nat.lt_or_ge j W.length with hl|hl
   · rw [List.take_append_of_le_length (by omega),List.getElem_append_left hl]
     exact h.acc j hl
   · have:j=W.length:=by simp at hj;omega
     subst this
     have e1:(W++[e]).take W.length=W:=by simp
     have e2:(W++[e])[W.length]'(by simp)=e:=by simp
     rw [e1,e2,hrep];exact⟨h1,hc⟩
 · rw [jk];have:=h.kle;omega
 · show q.s=_
   rw [List.take_append_of_le_length h.kle];exact h.sure
 · show(wrtB q.l q.n q.b e).length≤100000
   exact Xa e h.b
def Y6 (q:Sto) (keep:Int):Nat:=(q.s+min (max keep 0) (q.b.length - q.s)).toNat
theorem zea {q:Sto} {W:List Ent} {k:Nat} (h:Hist q W k) (keep:Int): ∃ j,k≤j∧j≤W.length∧(∀ i,i<W.length→((zD (W.take (i+1))).length≤Y6 q keep↔i<j))∧
  crsP q.b q.s keep=st (W.take j)∧crsB q.b q.s keep=zD (W.take j)∧
  Hist ⟨(crsP q.b q.s keep).1,(crsP q.b q.s keep).2,crsB q.b q.s keep,((crsB q.b q.s keep).length:Int)⟩ (W.take j) j:=by
 have hs:=zfT h;have hs0:=hs.s0;have hs1:=hs.s1;have hb:=h.bytes
 have hK:Y6 q keep≤(zD W).length:=by unfold Y6;rw [hb] at *;omega
 have hK2:(zD (W.take k)).length≤Y6 q keep:=by have:=h.sure;unfold Y6;omega
 obtain⟨j,h1,h2,h3,h4,h5⟩:=torn W (Y6 q keep) h.may hK
 have hcr:crB q.b q.s keep=(zD W).take (Y6 q keep):=by unfold crB Y6;rw [hb]
 have hkj:k≤j:=by
  rcases Nat.lt_or_ge j k with hlt|hge
  · exfalso
    have:=(h3 (k - 1) (by have:=h.kle;omega)).1 (by rw [show k - 1+1=k by omega];exact hK2)
    omega
  · exact hge
 have hP:crsP q.b q.s keep=st (W.take j):=by unfold crsP crsE;rw [hcr,h4];rfl
 have hlen:((zD W).take (Y6 q keep)).length=Y6 q keep:=by rw [jr];omega
 have hu:Wj ((zD W).take (Y6 q keep))=((zD (W.take j)).length:Int):=by unfold Wj;rw [hlen];omega
 have hpre:(zD W).take (zD (W.take j)).length=zD (W.take j):=by
  have:zD W=zD (W.take j)++zD (W.drop j):=by rw [← uU,List.take_append_drop]
  rw [this];simp
 have hB:crsB q.b q.s keep=zD (W.take j):=by
  unfold crsB cuB;rw [hcr,hu,hlen]
  split
  · rw [jI,List.take_take,Nat.min_eq_left h2,hpre]
  · rw [show Y6 q keep=(zD (W.take j)).length by omega,hpre]
 refine⟨j,hkj,h1,h3,hP,hB,?_⟩
 have hjl:(W.take j).length=j:=by rw [jr];omega
 refine⟨fun e he=>h.may e ((List.take_sublist j W).subset he),hB,hP.symm,fun i hi=> ?_,by rw [hjl];exact jK _,?_,?_⟩
 · rw [List.take_take,List.getElem_take,Nat.min_eq_left (by omega)]
   exact h.acc i (by omega)
 · show((crsB q.b q.s keep).length:Int)=_
   rw [hB,List.take_take,Nat.min_self]
 · show(crsB q.b q.s keep).length≤100000
   have:=zhW q.b q.s keep;have:=h.b;omega
end Go.Proofs.YtcclfkakcgnacaaGreatDoor
namespace Go.Proofs.YtcclfkakcgnacaaGreatDoor
open Go Go.Sep Go.Ab Go.Jrn
theorem Uu {q:Sto} {W:List Ent} (h:Hist q W W.length) (keep:Int):(crsP q.b q.s keep)=(q.l,q.n)∧crsB q.b q.s keep=q.b∧q.s=(q.b.length:Int):=by
 obtain⟨j,h1,h2,h3,h4,h5,h6⟩:=zea h keep
 have hj:j=W.length:=by omega
 subst hj;rw [List.take_length] at h4 h5
 refine⟨by rw [h4,h.rep],by rw [h5,h.bytes],?_⟩
 have:=h.sure;rw [List.take_length] at this;rw [this,h.bytes]
end Go.Proofs.YtcclfkakcgnacaaGreatDoor
namespace Go.Proofs.YtcclfkakcgnacaaGreatDoor
open Go Go.Sep Go.Ab Go.Jrn
def HsT (q:Sto):Prop:=∃ W k,Hist q W k
def zgR (q:Sto):Prop:=∃ W,Hist q W W.length
theorem zcM {q:Sto} (h:HsT q) {e:Ent} (hc:CanE e):HsT (wsS q e):=by
 by_cases h0:wsC q e=0
 · obtain⟨W,k,h⟩:=h
   exact⟨_,k,zd9 h hc h0⟩
 · have:wsS q e=q:=by
    unfold wsC at h0;unfold wsS wrtL wrtN wrtB;rw [if_neg h0,if_neg h0,if_neg h0]
   rw [this];exact h
theorem zcO {q:Sto} (h:HsT q):HsT (syS q):=by
 obtain⟨W,k,h⟩:=h;exact⟨W,_,zfS h⟩
theorem zcN {c:Prop} [Decidable c] {a b:TA} (ha:HsT a.q) (hb:HsT b.q):HsT (if c then a else b).q:=by split<;>assumption
theorem zfR {q:Sto} (h0:HsT q) (m t:Str) (f:List Fld) (body:Str):HsT (yu q m t f body).q:=by
 have hc:HsT (yF q f).q:=by
  unfold yF
  repeat' with_reducible refine zcN ?_ ?_
  all_goals first|exact h0|exact zcO (zcM h0 ⟨q.n,⟨0,0,_,_⟩,by simp,rfl⟩)
 have hd: ∀ u,HsT (qY q u).q:=fun u=>by
  unfold qY
  exact zcN h0 (zcO (zcM h0 ⟨0,⟨3,u.id,0,[]⟩,by simp,rfl⟩))
 have hp: ∀ u,HsT (y7 q u f body).q:=fun u=>by
  unfold y7
  have h1:HsT (wsS q (apE u.id body)):=zcM h0 ⟨0,⟨1,u.id,0,body⟩,by simp,rfl⟩
  have h2: ∀ z,HsT (wsS (wsS q (apE u.id body)) ⟨3,u.id,z,[]⟩):=fun z=>zcM h1 ⟨0,⟨2,u.id,z,[]⟩,by simp,rfl⟩
  repeat' with_reducible refine zcN ?_ ?_
  all_goals first|exact h0|exact h1|exact zcO h1|exact zcO (h2 _)|exact h2 _
 unfold yu
 repeat' with_reducible refine zcN ?_ ?_
 all_goals first|exact h0|exact hc|exact hd _|exact hp _
theorem zbj {q:Sto} (hs:zM q.l q.n) (hn:q.n≤200000) (h:zgR q) (m t:Str) (f:List Fld) (body:Str):zgR (yu q m t f body).q:=by
 have h1:=zaK hs hn m t f body;have h3:HsT (yu q m t f body).q:=zfR (h.elim fun W h=>⟨W,_,h⟩) m t f body
 by_cases h2:400≤(yu q m t f body).st
 · rw [h1.1 h2];exact h
 · rcases h1.2 (by omega) with e|e
   · rw [e];exact h
   · obtain⟨W,k,h⟩:=h3
     exact⟨W,h.may,h.bytes,h.rep,h.acc,jK _,by rw [List.take_length,e,h.bytes],h.b⟩
theorem zc0 {q:Sto} (h:zgR q) (keep:Int):(crsP q.b q.s keep).1=q.l∧0≤q.s∧q.s≤q.b.length∧q.b.length≤100000:=by
 obtain⟨W,h⟩:=h;have h1:=zfT h
 exact⟨by rw [(Uu h keep).1],h1.s0,h1.s1,h.b⟩
theorem zjr:zgR ⟨[],0,[],0⟩:=⟨[],zhD⟩
structure CmOk (l:List Upl) (n:Int) (c:List Str):Prop where
 eq: ∀ u ∈ l,c.getD u.id.toNat []=u.bytes
 new: ∀ k:Nat,n<k→c.getD k []=[]
theorem cm_0 (k:Nat):CmOk [] 0 (List.replicate k []):=⟨fun u h=>by simp at h,fun j _=>by
 rw [jG,List.getElem?_replicate];split<;>rfl⟩
theorem zkM {l:List Upl} {n:Int} {c:List Str} (h:CmOk l n c) (hn:0≤n) (z:Int) (t:Str):CmOk (creL l n z t) (creN l n z t) c:=by
 unfold creL creN
 by_cases h0:creC l z t=0
 · rw [if_pos h0,if_pos h0]
   refine⟨fun u hu=> ?_,fun k hk=>h.new k (by omega)⟩
   rcases List.mem_append.1 hu with hu|hu
   · exact h.eq u hu
   · rw [List.mem_singleton.1 hu]
     exact h.new _ (by simp only;omega)
 · rw [if_neg h0,if_neg h0];exact h
theorem zkK {l:List Upl} {n:Int} {c:List Str} (h:CmOk l n c) (id:Int):CmOk (droL l id) n c:=
 ⟨fun u hu=>h.eq u ((List.eraseIdx_sublist l _).subset hu),h.new⟩
theorem zkL {l:List Upl} {n:Int} {c:List Str} (h:CmOk l n c) (id z:Int):CmOk (decL l id z) n c:=by
 unfold decL
 split
 · rename_i h0
   have hat:atU l id<l.length:=by
    unfold decC at h0
    split at h0
    · omega
    · omega
   refine⟨fun u hu=> ?_,h.new⟩
   rcases List.mem_or_eq_of_mem_set hu with hu|rfl
   · exact h.eq u hu
   · have:=h.eq _ (yV hat)
     exact this
 · exact h
theorem zk9 {l:List Upl} {n:Int} {c:List Str} (hs:zM l n) (h:CmOk l n c) (hl:n<c.length) {id:Int} (hat:atU l id<l.length) (x:Str):
  CmOk (l.set (atU l id) { zS l id with bytes:=(zS l id).bytes++x}) n (c.set id.toNat (c.getD id.toNat []++x)):=by
 have hid:=rC hat;have hin:=hs.ids _ (yV hat);rw [hid] at hin
 have hgs: ∀ k:Nat,(c.set id.toNat (c.getD id.toNat []++x)).getD k []=if k=id.toNat then c.getD id.toNat []++x else c.getD k []:=fun k=>by
  rw [jG,List.getElem?_set]
  by_cases hk:id.toNat=k
  · rw [if_pos hk,if_pos (by omega),if_pos hk.symm];rfl
  · rw [if_neg hk,if_neg (fun e=>hk e.symm)];rw [jG]
 refine⟨fun u hu=> ?_,fun k hk=> ?_⟩
 · obtain⟨j,hj⟩:=List.getElem?_of_mem hu
   rw [List.getElem?_set] at hj
   by_cases e:atU l id=j
   · rw [if_pos e,if_pos hat] at hj
     cases hj
     rw [hgs,if_pos (by rw [hid])]
     have:=h.eq _ (yV hat);rw [hid] at this;rw [this]
   · rw [if_neg e] at hj
     have hjl:=(jl.1 hj).1;have hju:l[j]=u:=(jl.1 hj).2
     have hne:u.id≠id:=fun e2=>e (by rw [← e2,← hju];exact zkP hs.srt hjl)
     have hi2:=hs.ids u (List.mem_of_getElem? hj)
     rw [hgs,if_neg (by omega)]
     exact h.eq u (List.mem_of_getElem? hj)
 · rw [hgs,if_neg (by omega)]
   exact h.new k hk
theorem zjx {q:Sto} {c:List Str} (h:CmOk q.l q.n c) (e:Ent) (hk:CmOk (Y5 q.l q.n e) (ZE q.l q.n e) c):CmOk (wsS q e).l (wsS q e).n c:=by
 show CmOk (wrtL _ _ _ _) (wrtN _ _ _ _) c
 unfold wrtL wrtN
 split
 · exact hk
 · exact h
theorem zjH {q:Sto} {id:Int} {x:Str} (h:wsC q (apE id x)=0):atU q.l id<q.l.length∧(wsS q (apE id x)).l=q.l.set (atU q.l id) { zS q.l id with bytes:=(zS q.l id).bytes++x}∧(wsS q (apE id x)).n=q.n:=by
 have h0:=h;unfold wsC at h0;have hap:appC q.l id (getU q.l id).bytes.length x=0:=(UO h0).1
 have hat:atU q.l id<q.l.length:=by
  unfold appC at hap
  split at hap
  · omega
  · omega
 refine⟨hat,?_,?_⟩
 · show wrtL _ _ _ _=_
   unfold wrtL;rw [if_pos h0]
   show appL q.l id (getU q.l id).bytes.length x=_
   unfold appL;rw [if_pos hap]
 · show wrtN _ _ _ _=_
   unfold wrtN;rw [if_pos h0];rfl
theorem vT (f:Fld) (l:List Fld) (n:Str):valsF (f::l) n=if lowS f.name=lowS n then f.value::valsF l n else valsF l n:=by
 unfold valsF
 by_cases h:lowS f.name=lowS n
 · rw [if_pos h,List.filter_cons_of_pos (by simpa using h),List.map_cons]
 · rw [if_neg h,List.filter_cons_of_neg (by simpa using h)]
theorem zhw {l:List Fld} (h: ∀ f ∈ l,¬ lowS f.name=lowS yg):oneF (valsF (resT::l) yg)=([],10):=by
 have:valsF (resT::l) yg=[]:=by
  rw [vT,if_neg (by decide)]
  induction l with
  |nil=>rfl
  |cons f l ih=>rw [vT,if_neg (h f (by simp))];exact ih fun g hg=>h g (by simp [hg])
 rw [this];rfl
theorem zfu {x:Str} {l:List Fld} (h: ∀ f ∈ l,¬ lowS f.name=lowS yg):oneF (valsF (resT::⟨tY,x⟩::l) yg)=(x,0):=by
 have:valsF (resT::⟨tY,x⟩::l) yg=[x]:=by
  have h0:valsF l yg=[]:=by
   induction l with
   |nil=>rfl
   |cons f l ih=>rw [vT,if_neg (h f (by simp))];exact ih fun g hg=>h g (by simp [hg])
  rw [vT,if_neg (by decide),vT,if_pos (by show lowS tY=lowS yg;decide),h0]
 rw [this];rfl
def zgO (l:List Upl) (n:Int) (c:List Str) (t body:Str) (r:TA) (o:Str × Int):Prop:=
 (¬ (r.st=204∧o.2=0)→CmOk r.q.l r.q.n c)∧
 (o.2=0→7<t.length∧t.take 1=[47]∧(numA (t.drop 7) 10 9).2=true∧(numA (t.drop 7) 10 9).1≤n∧0≤(numA (t.drop 7) 10 9).1∧r.st<400∧
  (r.st=204→CmOk r.q.l r.q.n (c.set (numA (t.drop 7) 10 9).1.toNat (c.getD (numA (t.drop 7) 10 9).1.toNat []++body))∧o.1=decS ((c.getD (numA (t.drop 7) 10 9).1.toNat []++body).length:Int))∧
  (r.st≠204→o.1=decS ((c.getD (numA (t.drop 7) 10 9).1.toNat []).length:Int)))
def Y2 (l:List Upl) (n:Int) (c:List Str) (t body:Str) (r:TA):Prop:=zgO l n c t body r (oneF (valsF (resT::r.fs) yg))
theorem Zd {l:List Upl} {n:Int} {c:List Str} {t body:Str} {st:Int} {fs:List Fld} {q:Sto} (h:CmOk q.l q.n c) (hf: ∀ f ∈ fs,¬ lowS f.name=lowS yg):Y2 l n c t body ⟨st,fs,q⟩:=by
 show zgO l n c t body ⟨st,fs,q⟩ (oneF (valsF (resT::fs) yg))
 rw [zhw hf]
 exact⟨fun _=>h,fun e=>absurd e (by decide)⟩
theorem zF {l:List Upl} {n:Int} {c:List Str} {t body:Str} {p:Prop} [Decidable p] {a b:TA} (ha:p→Y2 l n c t body a) (hb: ¬ p→Y2 l n c t body b):Y2 l n c t body (if p then a else b):=by split<;>simp_all
theorem zk7 {t:Str} (h:idB t=true):7<t.length∧t.take 1=[47]∧(numA (t.drop 7) 10 9).2=true:=by
 unfold idB at h;simp only [jJ,decide_eq_true_eq] at h;obtain⟨h1,h2,h3⟩:=h
 have h4:xC<+:t:=by
  have:=h1;unfold Lib.hasPrefix at this
  simpa using this
 obtain⟨r,rfl⟩:=h4;refine⟨?_,rfl,h2⟩;rw [jk];have h5:(xC++r).drop 7=r:=rfl;rw [h5] at h3
 have h6:0<(decS (numA r 10 9).1).length:=by
  unfold decS
  have: ∀ k n,0<(txtN 10 (k+1) n).length:=fun k n=>by
   unfold txtN
   split<;>simp
  exact this 8 _
 rw [h3] at h6
 show 7<7+r.length
 omega
theorem zaJ {q:Sto} {c:List Str} (hs:zM q.l q.n) (hn:q.n≤200000) (h:CmOk q.l q.n c) (hl:q.n<c.length) (m t:Str) (f:List Fld) (body:Str):Y2 q.l q.n c t body (yu q m t f body):=by
 have hno: ∀ {st:Int},Y2 q.l q.n c t body ⟨st,[],q⟩:=Zd h (fun f hf=>by simp at hf)
 unfold yu
 refine zF (fun _=>Zd h (by decide)) (fun _=>zF (fun _=>hno) (fun _=>zF (fun _=>Zd h (by decide)) (fun _=>zF (fun _=>zF (fun _=>hno) (fun _=> ?_)) (fun _=>zF (fun _=>hno) (fun h1=> ?_)))))
 · unfold yF
   refine zF (fun _=>hno) (fun _=>zF (fun _=>hno) (fun _=>zF (fun _=>hno) (fun _=>zF (fun _=>hno) (fun _=>zF (fun _=>hno) (fun _=>Zd ?_ (fun f hf=> ?_))))))
   · exact zjx h _ (zkM h hs.n0 _ _)
   · rw [List.mem_singleton.1 hf];show ¬ lowS locN=lowS yg;decide
 · have h2 :idB t=true∧getB q.l (idV t)=true:=by
    unfold uplB at h1
    simpa using h1
   have h2':=h2.2;have hu:=zfX h2.2;have hid:=hs.ids _ hu.2;rw [hu.1] at hid;have hce:=h.eq _ hu.2;rw [hu.1] at hce;have ht:=zk7 h2.1;have hk:(numA (t.drop 7) 10 9).1=idV t:=rfl;refine zF (fun _=> ?_) (fun _=>zF (fun _=> ?_) (fun _=>zF (fun _=> ?_) (fun _=>hno)))
   ·
    show zgO _ _ _ _ _ _ (oneF (valsF (resT::Y3 (getU q.l (idV t))) yg))
    have e:Y3 (getU q.l (idV t))=⟨tY,decS ((getU q.l (idV t)).bytes.length:Int)⟩::([lenF (getU q.l (idV t)),⟨zhY,zi7⟩]++(if(getU q.l (idV t)).note=[] then [] else [⟨zgZ,(getU q.l (idV t)).note⟩])):=rfl
    rw [e,zfu (fun f hf=>by
     rcases List.mem_append.1 hf with hf|hf
     · rcases List.mem_cons.1 hf with rfl|hf
       · unfold lenF;split
         · show ¬ lowS ziG=lowS yg;decide
         · show ¬ lowS ziF=lowS yg;decide
       · rw [List.mem_singleton.1 hf];show ¬ lowS zhY=lowS yg;decide
     · split at hf
       · simp at hf
       · rw [List.mem_singleton.1 hf];show ¬ lowS zgZ=lowS yg;decide)]
    refine⟨fun _=>h,fun _=>⟨ht.1,ht.2.1,ht.2.2,by rw [hk];exact hid.2,by rw [hk];omega,by simp,fun e=>absurd e (by simp),fun _=> ?_⟩⟩
    rw [hk,hce]
   ·
    unfold y7
    have hp: ∀ {q':Sto},wsC q (apE (getU q.l (idV t)).id body)=0→(zC f yg=((getU q.l (idV t)).bytes.length:Int))→q'.n=q.n→(CmOk (wsS q (apE (getU q.l (idV t)).id body)).l q.n (c.set (idV t).toNat (c.getD (idV t).toNat []++body))→CmOk q'.l q.n (c.set (idV t).toNat (c.getD (idV t).toNat []++body)))→
      Y2 q.l q.n c t body ⟨204,[⟨tY,decS (zC f yg+(body.length:Int))⟩],q'⟩:=by
     intro q' h3 h4 h5 h6
     show zgO _ _ _ _ _ _ (oneF (valsF (resT::[⟨tY,decS (zC f yg+(body.length:Int))⟩]) yg))
     rw [zfu (l:=[]) (fun f hf=>by simp at hf)]
     refine⟨fun hc=>absurd ⟨rfl,rfl⟩ hc,fun _=>⟨ht.1,ht.2.1,ht.2.2,by rw [hk];exact hid.2,by rw [hk];omega,by simp,fun _=>⟨?_,?_⟩,fun e=>absurd rfl e⟩⟩
     · rw [hk]
       rw [hu.1] at h3 h6;obtain⟨a1,a2,a3⟩:=zjH h3
       show CmOk q'.l q'.n _
       rw [h5];refine h6 ?_;rw [a2];exact zk9 hs h hl a1 body
     · rw [hk,hce,h4,jk];congr 1
    refine zF (fun _=>hno) (fun _=>zF (fun _=>hno) (fun _=>zF (fun _=>hno) (fun _=>zF (fun _=>hno) (fun _=>zF (fun _=>hno) (fun h2=>zF (fun _=>hno) (fun _=>zF (fun _=>hno) (fun _=>zF (fun _=>hno) (fun h4=>zF (fun _=>hno) (fun h5=>zF (fun _=>hno) (fun h6=> ?_))))))))))
    have h7:wsC q (apE (getU q.l (idV t)).id body)=0:=by
     split at h6
     · exact absurd (by decide) h6
     · simpa using h6
    have h8:zC f yg=((getU q.l (idV t)).bytes.length:Int):=by simpa using h2
    have hn1:(wsS q (apE (getU q.l (idV t)).id body)).n=q.n:=(zjH h7).2.2;refine zF (fun ha=>zF (fun h9=> ?_) (fun _=>hp h7 h8 ?_ fun hc=> ?_)) (fun _=>hp h7 h8 hn1 fun hc=>hc)
    ·
     have hz: ¬ (2000<zC f zQ∨zC f zQ<zC f yg+(body.length:Int)):=fun h=>h4 ⟨ha.1,ha.2,h⟩
     exact absurd (zae (nv:=zC f yg) (sz:=zC f zQ) (by rw [hu.1];exact h2') (by rw [hu.1]) h8 (by rw [hu.1];have:=hs.n0;omega) h7 ha.1 (by omega) (by omega) ha.2 (by simpa using h5)) h9
    · show wrtN _ _ _ _=_
      unfold wrtN
      split
      · exact hn1
      · exact hn1
    · have:=zjx (q:=wsS q (apE (getU q.l (idV t)).id body)) (by rw [hn1];exact hc) ⟨3,(getU q.l (idV t)).id,zC f zQ,[]⟩ (by
       rw [hn1]
       exact zkL hc _ _)
      rw [show(syS (wsS (wsS q (apE (getU q.l (idV t)).id body)) ⟨3,(getU q.l (idV t)).id,zC f zQ,[]⟩)).l=(wsS (wsS q (apE (getU q.l (idV t)).id body)) ⟨3,(getU q.l (idV t)).id,zC f zQ,[]⟩).l from rfl];refine⟨this.eq,hc.new⟩
   ·
    unfold qY
    refine zF (fun _=>hno) (fun _=>Zd ?_ (fun f hf=>by simp at hf))
    exact zjx h _ (zkK h _)
theorem U7 (c:List Str) (i:Nat):c.set i (c.getD i [])=c:=by
 apply List.ext_getElem?;intro j;rw [List.getElem?_set]
 split
 · rename_i h
   subst h
   split
   · rename_i h2;simp [jG,h2]
   · rename_i h2;rw [List.getElem?_eq_none (by omega)]
 · rfl
theorem zhG {c:List Str} {i:Nat} (h:i<c.length) (y:Str):(c.set i y).getD i []=y:=by
 simp [jG,h]
def FsOk (l:List Fld):Prop:=∀ f ∈ l,f.name.length≤1000∧f.value.length≤1000
theorem zhH {p:Prop} [Decidable p] {a b:TA} (ha:FsOk a.fs) (hb:FsOk b.fs):FsOk (if p then a else b).fs:=by split<;>assumption
theorem uh:FsOk []:=fun f hf=>by simp at hf
theorem yE {n v:Str} {l:List Fld} (h1:n.length≤1000) (h2:v.length≤1000) (h:FsOk l):FsOk (⟨n,v⟩::l):=fun f hf=>by
 rcases List.mem_cons.1 hf with rfl|hf
 · exact⟨h1,h2⟩
 · exact h f hf
theorem YS (n:Int):(decS n).length≤1000:=Nat.le_trans (XZ n) (by decide)
theorem zha {q:Sto} (hs:zM q.l q.n) (m t:Str) (f:List Fld) (body:Str):FsOk (resT::(yu q m t f body).fs):=by
 refine yE (by decide) (by decide) ?_
 have hc:FsOk (yF q f).fs:=by
  unfold yF
  repeat' with_reducible refine zhH ?_ ?_
  all_goals first|exact uh|exact yE (by decide) (by rw [jk];have:=XZ (q.n+1);have:xC.length=7:=rfl;omega) uh
 have hd: ∀ u,FsOk (qY q u).fs:=fun u=>by unfold qY;exact zhH uh uh
 have hp: ∀ u,FsOk (y7 q u f body).fs:=fun u=>by
  unfold y7
  repeat' with_reducible refine zhH ?_ ?_
  all_goals first|exact uh|exact yE (by decide) (YS _) uh
 have ht: ∀ u,u.note.length≤100→FsOk (Y3 u):=fun u hu=>by
  unfold Y3 lenF
  split
  · split
    · exact yE (by decide) (YS _) (yE (by decide) (by decide) (yE (by decide) (by decide) uh))
    · exact yE (by decide) (YS _) (yE (by decide) (by decide) (yE (by decide) (by decide) (yE (by decide) (by omega) uh)))
  · split
    · exact yE (by decide) (YS _) (yE (by decide) (YS _) (yE (by decide) (by decide) uh))
    · exact yE (by decide) (YS _) (yE (by decide) (YS _) (yE (by decide) (by decide) (yE (by decide) (by omega) uh)))
 have hn:(getU q.l (idV t)).note.length≤100:=by
  unfold getU
  split
  · rename_i h;exact(hs.each _ (yV h)).nl
  · decide
 unfold yu
 repeat' with_reducible refine zhH ?_ ?_
 all_goals first|exact uh|exact hc|exact hd _|exact hp _|exact ht _ hn|exact yE (by decide) (by decide) uh|exact yE (by decide) (by decide) (yE (by decide) (YS _) (yE (by decide) (by decide) uh))
theorem zkJ {c:List Str} {k x:Nat} (h: ∀ j:Nat,(c.getD j []).length≤k) {b:Str} (hb:b.length≤x) (i:Nat): ∀ j:Nat,((c.set i (c.getD i []++b)).getD j []).length≤k+x:=fun j=>by
 rw [jG,List.getElem?_set]
 split
 · split
   · have:=h i
     show(c.getD i []++b).length≤_
     rw [jk];omega
   · show 0≤_;omega
 · have:=h j
   rw [jG] at this;omega
end Go.Proofs.YtcclfkakcgnacaaGreatDoor
namespace Go.Proofs.YtcclfkakcgnacaaGreatDoor
open Go Go.Sep Go.Ab
set_option maxRecDepth 100000
set_option maxHeartbeats 4000000 in
theorem tusTells_ (a:List Ab.Ask) (keep:Int) (hneed:a.length≤140737488355328∧∀ x ∈ a,AskW x):Spc Tryz.prog 5 [.v (.one (.p (.list .ask a))),.v (.one (.p (.int .i64 keep)))] [] (.ret (.v (.one (.p (.bool true))))) []:=by
 obtain⟨hlen,hw⟩:=hneed
 refine spH Tryz.func5 (by kernel_rfl) { cfgT with fz:=[10],rw_:=[59],keep:=some [0,1,4,5,6,7,8,9,10,11,12,13,14,15]} [TL,TK,qP,qO,sG,sF,Zv,Zu,XC,XB,Zm,Zl,qK,qJ,zfw,zfv,zbT,zbS,Vj,Vh,qI,qH] (by kernel_rfl) ?_
 intro I X hI hX
 refine orcL ?_;go_invoke;refine orcS (by kernel_rfl) ?_
 simp only [zl,Nat.reduceAdd]
 have hg0:I.hid (Vk a)=Vk a:=by subst hI;rfl
 refine⟨?_,?_,?_⟩
 · subst hI;trivial
 · subst hI;simp only [nrmA,nrmB]
 refine fun _=>⟨?_,?_,?_⟩
 · subst hI;exact⟨hlen,hw⟩
 · intro _;trivial
 intro hg;rw [hg0] at hg;have hfew:=zeb hg
 refine⟨by subst hI;trivial,?_⟩
 refine⟨by subst hI;simp only [nrmA,nrmB];omega,by subst hI;rfl,by subst hI;simp only [nrmA,nrmB];omega,by subst hI;simp only [nrmA,nrmB];omega,?_⟩
 have hh: ∀ {α:Type} (x:α),I.hid x=x:=by subst hI;intros;rfl
 have hrep:I.rep (I.add (I.len a) 1) ([]:Str)=List.replicate (a.length+1) []:=by subst hI;rfl
 simp only [hh,hrep]
 refine lpH hI [TL,TK,qP,qO,sG,sF,Zv,Zu,XC,XB,Zm,Zl,qK,qJ,zfw,zfv,zbT,zbS,Vj,Vh,qI,qH] hX [0,1,5,6,7] (fun(g:Nat × List Upl × Int × Str × Int × List Str)=>match g with|(i,l,n,b,s,cm)=>i≤a.length∧zM l n∧n≤i∧zgR ⟨l,n,b,s⟩∧cm.length=a.length+1∧CmOk l n cm∧∀ j:Nat,(cm.getD j []).length≤i * 20000) (fun(g:Nat × List Upl × Int × Str × Int × List Str)=>match g with|(i,l,n,b,s,cm)=>⟨[(0,.v (.one (.p (.list .ask a)))),(1,.v (.one (.p (.int .i64 keep)))),(5,.v (.one (.ptr 0 0))),(6,.v (.one (.row 1))),(7,.v (.one (.p (.int .i64 i))))],[.pack [.obj 48 [.ptr 1 0,.ptr 2 0],.pack [.obj 90 [.row 1,.p (.int .i64 n)],.row .upl 67 l],.pack [.obj 104 [.row 1,.p (.int .i64 s)],.row .byte 5 b]],.rws .bytes 30 5 cm none],163,none⟩) (fun(g:Nat × List Upl × Int × Str × Int × List Str)=>match g with|(i,l,n,b,s,cm)=>a.length - i) (0,[],0,[],0,List.replicate (a.length+1) []) (by kernel_rfl) (by kernel_rfl) ?_ ?_
 · exact⟨jL _,vF,by simp,zjr,by simp,cm_0 _,fun j=>by rw [jG,List.getElem?_replicate];split<;>simp⟩
 rintro⟨i,l,n,b,s,cm⟩ ⟨h1,h2,h3,h4,h5,h6,h7⟩ A hA;simp only at hA h3 h4 h5
 refine orcL ?_;go_invoke;refine orcS (by kernel_rfl) ?_
 simp only [zl,Nat.reduceAdd];refine⟨fun hi=> ?_,fun hi=> ?_⟩
 · skip
   subst hI;simp only [nrmA,nrmB]
   have hx0: ∀ d,i<a.length→a.getD i d ∈ a:=fun d h=>by
    rw [show a.getD i d=a[i] by simp [h]]
    exact List.getElem_mem h
   have hx:=hx0 ⟨⟨[],[],0,[],0⟩,[]⟩;clear hx0;generalize a.getD i ⟨⟨[],[],0,[],0⟩,[]⟩=x at *;obtain⟨⟨xm,xt,xi,xf,xl⟩,xb⟩:=x;simp only at *;have hb:=(zc0 h4 keep).2.2.2;have hq1:=wF (q:=⟨l,n,b,s⟩) h2 hb xm xt xf xb
   have hq2:=zbj (q:=⟨l,n,b,s⟩) h2 (by simp only;omega) h4 xm xt xf xb
   have hq3:=zaJ (q:=⟨l,n,b,s⟩) h2 (by simp only;omega) h6 (by simp only;omega) xm xt xf xb
   unfold Y2 at hq3;have hq4:=zha (q:=⟨l,n,b,s⟩) h2 xm xt xf xb;have hq5:=V8 ⟨l,n,b,s⟩ xm xt xf xb;generalize yu ⟨l,n,b,s⟩ xm xt xf xb=r at *;obtain⟨st,fs,⟨l2,n2,b2,s2⟩⟩:=r;simp only at *;obtain⟨g1,g2,g3,g4⟩:=hq1;simp only at g1 g2 g3 g4;rw [show([117,112,108,111,97,100,45,111,102,102,115,101,116]:Str)=yg from rfl]
   have e7:List.take (List.length xt - Int.toNat 7) (List.drop (Int.toNat 7) xt)=xt.drop 7:=jq (by simp)
   simp only [e7,ownB,VN];rw [show Int.toNat 1=1 from rfl];unfold zgO at hq3;generalize oneF (valsF (resT::fs) yg)=o at *;generalize numA (xt.drop 7) 10 9=p at *;obtain⟨o1,o2⟩:=o;obtain⟨p1,p2⟩:=p;simp only at *;obtain⟨k1,k2⟩:=hq3
   have hgo1:CmOk l2 n2 cm→i<a.length→_:=fun h hi=>hA (i+1,l2,n2,b2,s2,cm) ⟨by simp only;omega,g1,by simp only;omega,hq2,h5,h,fun j=>by have:=h7 j;simp only;omega⟩ (by simp only;omega)
   have hgo2:i<a.length→CmOk l2 n2 (cm.set p1.toNat (cm.getD p1.toNat []++xb))→_:=fun hi h=>hA (i+1,l2,n2,b2,s2,cm.set p1.toNat (cm.getD p1.toNat []++xb)) ⟨by simp only;omega,g1,by simp only;omega,hq2,by simp only [List.length_set];omega,h,fun j=>by have:=zkJ h7 (hfew.2 _ (hx hi)).2.1 p1.toNat j;simp only at this ⊢;omega⟩ (by simp only;omega)
   simp only at hgo1 hgo2
   have hi:(i:Int)<a.length:=by simpa only [VK,zI,decide_eq_true_eq] using hi
   have hi':i<a.length:=by omega
   have hx1:=hfew.2 _ (hx hi');simp only at hx1;obtain⟨hx1,hx2,-,-⟩:=hx1;obtain⟨hy1,hy2⟩:=hx1;have hal:=hfew.1
   have hul:List.length yg≤1000000:=by decide
   have hgo1:=fun h=>hgo1 h hi';have hgo2:=hgo2 hi';rw [show((i+1:Nat):Int)=(i:Int)+1 from rfl] at hgo1 hgo2;have hpl:=h7 p1.toNat
   have hfs: ∀ f ∈ resT::fs,List.length f.name≤1000000∧List.length f.value≤1000000:=fun f hf=>by have:=hq4 f hf;omega
   have hfl:(resT::fs).length≤1000:=by simp only [jh];omega
   by_cases hz:o2=0
   · obtain⟨m1,m2,rfl,m4,m5,m6,m7,m8⟩:=k2 hz
     have hp:p1.toNat<cm.length:=by omega
     simp only [zhG hp,List.set_set,U7,List.length_set]
     by_cases h204:st=204
     · obtain⟨m9,m10⟩:=m7 h204
       have m11:=hgo2 m9
       have m12:(List.length (cm.getD p1.toNat []++xb):Int)<1000000000:=by rw [jk];omega
       clear k1 k2 hA hgo1 hgo2 m7 m8 hfew hw hx h7
       (repeat' (first|refine ja ?_ ?_|intro _))<;>first|omega|exact jb|exact jc ‹False›|skip
       all_goals first
        |omega
        |with_reducible assumption
        |with_reducible exact absurd ‹true=false› Bool.noConfusion
        |with_reducible exact absurd m2 ‹_›
        |with_reducible exact absurd m10 ‹_›
        |with_reducible exact absurd m9 ‹_›
        |with_reducible exact hy1
        |with_reducible exact(hy2 _ ‹_›).1
        |with_reducible exact(hy2 _ ‹_›).2
        |with_reducible exact(hfs _ ‹_›).1
        |with_reducible exact(hfs _ ‹_›).2
        |with_reducible exact hul
     · have m9:=m8 h204
       have m11:=hgo1 (k1 (by omega))
       clear k1 k2 hA hgo1 hgo2 m7 m8 hfew hw hx h7
       (repeat' (first|refine ja ?_ ?_|intro _))<;>first|omega|exact jb|exact jc ‹False›|skip
       all_goals first
        |omega
        |with_reducible assumption
        |with_reducible exact absurd ‹true=false› Bool.noConfusion
        |with_reducible exact absurd m2 ‹_›
        |with_reducible exact absurd m10 ‹_›
        |with_reducible exact absurd m9 ‹_›
        |with_reducible exact hy1
        |with_reducible exact(hy2 _ ‹_›).1
        |with_reducible exact(hy2 _ ‹_›).2
        |with_reducible exact(hfs _ ‹_›).1
        |with_reducible exact(hfs _ ‹_›).2
        |with_reducible exact hul
   · have m11:=hgo1 (k1 (by omega))
     clear k1 k2 hA hgo1 hgo2 hfew hw hx h7;simp only [hz,U7]
     (repeat' (first|refine ja ?_ ?_|intro _))<;>first|omega|exact jb|exact jc ‹False›|skip
     all_goals first
      |omega
      |with_reducible assumption
      |with_reducible exact absurd ‹true=false› Bool.noConfusion
      |with_reducible exact absurd m2 ‹_›
      |with_reducible exact absurd m10 ‹_›
      |with_reducible exact absurd m9 ‹_›
      |with_reducible exact hy1
      |with_reducible exact(hy2 _ ‹_›).1
      |with_reducible exact(hy2 _ ‹_›).2
      |with_reducible exact(hfs _ ‹_›).1
      |with_reducible exact(hfs _ ‹_›).2
      |with_reducible exact hul
 · obtain⟨f1,f2,f3,f4⟩:=zc0 h4 keep
   simp only at f1 f2 f3 f4
   have hp:zM (crsP b s keep).1 (crsP b s keep).2:=by
    obtain⟨W,h⟩:=h4;have:=Uu h keep;rw [this.1];exact h2
   simp only [hh];refine⟨⟨f4,f2,f3⟩,hp,?_⟩;rw [f1];generalize(crsP b s keep).2=nn;generalize crsB b s keep=bb;generalize hbl:I.len bb=sl;clear hA hw hfew hg0 hrep
   refine lpH hI [TL,TK,qP,qO,sG,sF,Zv,Zu,XC,XB,Zm,Zl,qK,qJ,zfw,zfv,zbT,zbS,Vj,Vh,qI,qH] hX [6,14,15] (fun(j:Nat)=>j≤l.length) (fun(j:Nat)=>⟨[(6,.v (.one (.row 0))),(14,.v (.one (.row 1))),(15,.v (.one (.p (.int .i64 j))))],[.rws .bytes 30 5 cm none,.row .upl 67 l],163,none⟩) (fun(j:Nat)=>l.length - j) 0 (by kernel_rfl) (by kernel_rfl) ?_ ?_
   · exact jL _
   rintro j h8 A hA
   try simp only at hA
   refine orcL ?_;go_invoke;refine orcS (by kernel_rfl) ?_
   simp only [zl,Nat.reduceAdd];subst hI;simp only [nrmA,nrmB];simp only [ownB,VN,U7]
   have hu0: ∀ d,j<l.length→l.getD j d ∈ l:=fun d h=>by
    rw [show l.getD j d=l[j] by simp [h]]
    exact List.getElem_mem h
   have hu:=hu0 ⟨0,0,[],[],0⟩;clear hu0;generalize l.getD j ⟨0,0,[],[],0⟩=u at *;have hid:=fun h=>h2.ids u (hu h);have heq:=fun h=>h6.eq u (hu h)
   have hgo:=fun h=>hA (j+1) (by show j+1≤l.length;omega) (by show l.length - (j+1)<l.length - j;omega)
   clear hA hp h4;have hcnt:=h2.cnt
   have hj:((j:Int)<l.length→j<l.length):=fun h=>by omega
   (repeat' (first|refine ja ?_ ?_|intro _))<;>first|omega|exact jb|exact jc ‹False›|skip
   all_goals first
    |omega
    |(have:=hid (by omega);omega)
    |(have:=heq (by omega);simp_all;done)
    |exact hgo (by omega)
end Go.Proofs.YtcclfkakcgnacaaGreatDoor
